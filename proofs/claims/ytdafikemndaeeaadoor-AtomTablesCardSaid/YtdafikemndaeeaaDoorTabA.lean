/- Package atom: tables. -/
import Derived.Test.YtdafikemndaeeaaDoorMapS
import Derived.Test.YtdafikemndaeeaaDoorAtomM
open Go Go.RowKit
namespace Go.Proofs.YtdafikemndaeeaaDoor

/-- the number of a text among texts -/
def idxM (l : List ByteArray) (k : List UInt8) : Option Int := (l.findIdx? (fun a => a.data.toList == k)).map fun i : Nat => (i : Int)
def putS (limit : Int) (l : List ByteArray) (s : ByteArray) : Int × List Lk × List ByteArray :=
  if (quoteS s).2 ≠ [] then (0, (quoteS s).2, l) else
  match idxM l s.data.toList with
  | some i => (i, [], l)
  | none => if (l.length : Int) < limit then (l.length, [], l ++ [s]) else (0, [⟨atomL, 0, 5⟩], l)
def textS (l : List ByteArray) (n : Int) : ByteArray × List Lk := if n < 0 ∨ (l.length : Int) ≤ n then (⟨#[]⟩, [⟨atomL, 0, 2⟩]) else (l.getD n.toNat ⟨#[]⟩, [])

theorem idxM_bd {l : List ByteArray} {k : List UInt8} {i : Int} (h : idxM l k = some i) : 0 ≤ i ∧ i < l.length := by
  unfold idxM at h
  obtain ⟨j, hj, rfl⟩ := Option.map_eq_some_iff.1 h
  have := (List.findIdx?_eq_some_iff_getElem.1 hj).1
  exact ⟨by omega, by omega⟩
theorem idxM_snoc (l : List ByteArray) (s : ByteArray) (h : idxM l s.data.toList = none) : idxM (l ++ [s]) = mapSet (idxM l) s.data.toList l.length := by
  funext k
  unfold mapSet
  by_cases e : k = s.data.toList
  · subst e
    rw [if_pos rfl]
    unfold idxM at h ⊢
    rw [Option.map_eq_none_iff] at h
    rw [List.findIdx?_append, h]
    simp
  · rw [if_neg e]
    unfold idxM
    rw [List.findIdx?_append]
    have : ([s].findIdx? fun a => a.data.toList == k) = none := by simp [Ne.symm e]
    rw [this]
    cases List.findIdx? (fun a => a.data.toList == k) l <;> simp

/-- block g is a table that New made -/
structure TabIs (limit : Int) (g : Nat) (l : List ByteArray) (F : Nat → Prop) (w : World) : Prop where
  ex : ∃ sv mb, Cells w g 61 [.bool true, .int .i64 limit, sv, .map (some mb)] ∧ StrsIs sv l w ∧ MapS mb l.length (idxM l) w ∧ F g ∧ F mb ∧ ∀ b, sv.ownBlock = some b → F b
  lo : 0 ≤ limit ∧ limit ≤ 1048576 ∧ (l.length : Int) ≤ limit
  nf : ∀ b, F b → b < w.heap.size ∧ NF w b
theorem TabIs.keep {limit : Int} {g : Nat} {l : List ByteArray} {F S : Nat → Prop} {w w' : World} (h : TabIs limit g l F w) (k : Keep S w w') (hS : ∀ b, S b → ¬ F b) : TabIs limit g l F w' := by
  obtain ⟨⟨sv, mb, h1, h2, h3, h4, h5, h6⟩, hlo, hnf⟩ := h
  refine ⟨⟨sv, mb, h1.keep k (fun e => hS _ e h4), h2.keep k (fun b hb e => hS _ e (h6 b hb)), h3.keep k (fun e => hS _ e h5), h4, h5, h6⟩, hlo, fun b hb => ⟨?_, ?_⟩⟩
  · have := k.size; have := (hnf b hb).1; omega
  · intro cs f e
    rw [k.block b (hnf b hb).1 (fun e => hS _ e hb)] at e
    exact (hnf b hb).2 cs f e
structure RTabIs (limit : Int) (g : Nat) (l : List ByteArray) (F : Nat → Prop) (w : World) : Prop where
  ex : ∃ sv, Cells w g 78 [.int .i64 limit, sv] ∧ StrsIs sv l w ∧ F g ∧ ∀ b, sv.ownBlock = some b → F b
  lo : 0 ≤ limit ∧ limit ≤ 1048576 ∧ (l.length : Int) ≤ limit
  nf : ∀ b, F b → b < w.heap.size ∧ NF w b
theorem RTabIs.keep {limit : Int} {g : Nat} {l : List ByteArray} {F S : Nat → Prop} {w w' : World} (h : RTabIs limit g l F w) (k : Keep S w w') (hS : ∀ b, S b → ¬ F b) : RTabIs limit g l F w' := by
  obtain ⟨⟨sv, h1, h2, h4, h6⟩, hlo, hnf⟩ := h
  refine ⟨⟨sv, h1.keep k (fun e => hS _ e h4), h2.keep k (fun b hb e => hS _ e (h6 b hb)), h4, h6⟩, hlo, fun b hb => ⟨?_, ?_⟩⟩
  · have := k.size; have := (hnf b hb).1; omega
  · intro cs f e
    rw [k.block b (hnf b hb).1 (fun e => hS _ e hb)] at e
    exact (hnf b hb).2 cs f e
theorem NF.cells {w : World} {g : Nat} {t : TypeId} {cs : List Value} (h : Cells w g t cs) (ht : t ≠ 109) : NF w g := by
  intro cs' f e
  unfold Cells at h
  rw [h] at e
  injection e with e
  injection e with _ e
  exact ht e
theorem NF.strs {w : World} {v : Value} {l : List ByteArray} (h : StrsIs v l w) {b : Nat} (hb : v.ownBlock = some b) : NF w b := by
  obtain ⟨_, cur, hc⟩ := h.lt hb
  intro cs' f e
  rw [hc] at e
  injection e with e
  injection e with _ e
  exact absurd e (by decide)
theorem NF.map {w : World} {b n : Nat} {m : List UInt8 → Option Int} (h : MapS b n m w) : NF w b := fun _ _ e => h.ne_cells e rfl

theorem ok_live (g : Nat) (w : World) (cs : List Value) (h : Cells w g 61 (.bool true :: cs)) :
    Calls Tryd.prog 67 #[.pointer (some ⟨g, 0, none⟩)] w fun e w' => e = .returned (.bool true) ∧ w = w' := by
  have c0 := h.cell 0
  simp only [List.getElem?_cons_zero] at c0
  go_enter Tryd.func67, Tryd.ntmps67
  go_wp2
  go_ret
  exact ⟨rfl, rfl⟩

theorem new_bad (limit : Int) (w : World) (h : limit < 0 ∨ 1048576 < limit) :
    Calls Tryd.prog 39 #[.int .i64 limit] w fun e w' => ∃ ev, e = .returned (.tuple #[.pointer none, ev]) ∧ ErrIs w' ev [⟨atomL, 0, 1⟩] ∧ Below w.heap.size w w' := by
  rcases h with h | h
  · go_enter Tryd.func39, Tryd.ntmps39
    go_wp2_with (go_at_call 48; refine (refused_any _ _ _).mono ?_; rintro e w' ⟨rfl, rfl⟩)
    go_ret2
    exact ⟨_, rfl, ErrIs.one, (Below.refl _ _).alloc (Nat.le_refl _) _⟩
  · have h' : ¬ limit < 0 := by omega
    go_enter Tryd.func39, Tryd.ntmps39
    go_wp2_with (go_at_call 48; refine (refused_any _ _ _).mono ?_; rintro e w' ⟨rfl, rfl⟩)
    go_ret2
    exact ⟨_, rfl, ErrIs.one, (Below.refl _ _).alloc (Nat.le_refl _) _⟩
theorem newR_bad (limit : Int) (w : World) (h : limit < 0 ∨ 1048576 < limit) :
    Calls Tryd.prog 40 #[.int .i64 limit] w fun e w' => ∃ lv, e = .returned (.tuple #[.pointer none, lv]) ∧ LinksIs w.heap.size lv [⟨atomL, 0, 1⟩] w' ∧ Below w.heap.size w w' := by
  rcases h with h | h
  · go_enter Tryd.func40, Tryd.ntmps40
    go_wp2_with (go_at_call 64; refine (no01_any _ _ _).mono ?_; rintro e w4 ⟨lv, rfl, hlk, hb⟩)
    go_ret2
    exact ⟨_, rfl, hlk, hb⟩
  · have h' : ¬ limit < 0 := by omega
    go_enter Tryd.func40, Tryd.ntmps40
    go_wp2_with (go_at_call 64; refine (no01_any _ _ _).mono ?_; rintro e w4 ⟨lv, rfl, hlk, hb⟩)
    go_ret2
    exact ⟨_, rfl, hlk, hb⟩

theorem new_good (limit : Int) (w : World) (h0 : 0 ≤ limit) (h1 : limit ≤ 1048576) :
    Calls Tryd.prog 39 #[.int .i64 limit] w fun e w' => ∃ g, e = .returned (.tuple #[.pointer (some ⟨g, 0, none⟩), .nilIface]) ∧ TabIs limit g [] (fun b => w.heap.size ≤ b ∧ b < w'.heap.size) w' ∧ Below w.heap.size w w' := by
  have hmm := @run_makeMap Tryd.prog
  have n0 : ¬ limit < 0 := by omega
  have n1 : ¬ 1048576 < limit := by omega
  go_enter Tryd.func39, Tryd.ntmps39
  go_wp2
  go_ret2
  have hc : Cells ((w.alloc (Obj.map #[] 0)).alloc (Obj.cells #[.bool true, .int .i64 limit, .slice none 0 0, .map (some w.heap.size)] 61)) (w.heap.size + 1) 61 [.bool true, .int .i64 limit, .slice none 0 0, .map (some w.heap.size)] := by
    have := Cells.new (w.alloc (Obj.map #[] 0)) 61 [.bool true, .int .i64 limit, .slice none 0 0, .map (some w.heap.size)]
    simpa using this
  have hm := (MapS.made w).alloc (Obj.cells #[.bool true, .int .i64 limit, .slice none 0 0, .map (some w.heap.size)] 61)
  refine ⟨w.heap.size + 1, rfl, ⟨⟨_, _, hc, StrsIs.nil _, ?_, ?_, ?_, ?_⟩, ⟨h0, h1, by simpa using h0⟩, ?_⟩, ((Below.refl _ w).alloc (Nat.le_refl _) _).alloc (by simp) _⟩
  · exact hm
  · simp
  · simp; omega
  · intro b hb; cases hb
  · intro b hb
    simp at hb
    refine ⟨by simp; omega, ?_⟩
    rcases Nat.lt_or_ge b (w.heap.size + 1) with h | h
    · obtain rfl : b = w.heap.size := by omega
      exact NF.map hm
    · obtain rfl : b = w.heap.size + 1 := by omega
      exact NF.cells hc (by decide)
theorem newR_good (limit : Int) (w : World) (h0 : 0 ≤ limit) (h1 : limit ≤ 1048576) :
    Calls Tryd.prog 40 #[.int .i64 limit] w fun e w' => ∃ g, e = .returned (.tuple #[.pointer (some ⟨g, 0, none⟩), .slice none 0 0]) ∧ RTabIs limit g [] (fun b => w.heap.size ≤ b ∧ b < w'.heap.size) w' ∧ Below w.heap.size w w' := by
  have n0 : ¬ limit < 0 := by omega
  have n1 : ¬ 1048576 < limit := by omega
  go_enter Tryd.func40, Tryd.ntmps40
  go_wp2
  go_ret2
  have hc : Cells (w.alloc (Obj.cells #[.int .i64 limit, .slice none 0 0] 78)) w.heap.size 78 [.int .i64 limit, .slice none 0 0] := Cells.new _ _ _
  refine ⟨w.heap.size, rfl, ⟨⟨_, hc, StrsIs.nil _, ?_, ?_⟩, ⟨h0, h1, by simpa using h0⟩, ?_⟩, (Below.refl _ w).alloc (Nat.le_refl _) _⟩
  · simp
  · intro b hb; cases hb
  · intro b hb
    simp at hb
    obtain rfl : b = w.heap.size := by omega
    exact ⟨by simp, NF.cells hc (by decide)⟩

section
variable {limit : Int} {g : Nat} {l : List ByteArray} {F : Nat → Prop} {w : World}
theorem len_live (h : TabIs limit g l F w) : Calls Tryd.prog 37 #[.pointer (some ⟨g, 0, none⟩)] w fun e w' => e = .returned (.int .i64 l.length) ∧ w = w' := by
  obtain ⟨⟨sv, mb, h1, h2, h3, h4, h5, h6⟩, hlo, hnf⟩ := h
  have HO := Lib.hid (ok_live g w _ h1)
  have c2 := h1.cell 2
  have hl := run_strs_len h2
  simp only [List.getElem?_cons_zero, List.getElem?_cons_succ] at c2
  clear h1 h2 h3 hnf
  go_enter Tryd.func37, Tryd.ntmps37
  go_wp2_with (go_at_call 67; refine HO.out.mono ?_; rintro e w' ⟨rfl, rfl⟩)
  go_ret
  exact ⟨rfl, rfl⟩
theorem free_live (h : TabIs limit g l F w) : Calls Tryd.prog 38 #[.pointer (some ⟨g, 0, none⟩)] w fun e w' => e = .returned (.int .i64 (limit - l.length)) ∧ ∃ n, w' = w.drewN n := by
  obtain ⟨⟨sv, mb, h1, h2, h3, h4, h5, h6⟩, hlo, hnf⟩ := h
  have HO := Lib.hid (ok_live g w _ h1)
  have c1 := h1.cell 1
  have c2 := h1.cell 2
  have hl := run_strs_len h2
  simp only [List.getElem?_cons_zero, List.getElem?_cons_succ] at c1 c2
  obtain ⟨a1, a2, a3⟩ := hlo
  have hwr : IntKind.i64.wrap (limit - l.length) = limit - l.length := IntWalk.i64_in _ (by omega)
  clear h1 h2 h3 hnf
  go_enter Tryd.func38, Tryd.ntmps38
  go_wp2_with (go_at_call 67; refine HO.out.mono ?_; rintro e w' ⟨rfl, rfl⟩)
  go_quiet (fail)
  go_wp2
  go_ret
  exact ⟨rfl, _, rfl⟩
theorem find_live (h : TabIs limit g l F w) (s : ByteArray) (hs : s.size ≤ maxLen) :
    Calls Tryd.prog 35 #[.pointer (some ⟨g, 0, none⟩), .string s] w fun e w' => e = .returned (.tuple #[.int .i64 ((idxM l s.data.toList).getD 0), .bool (idxM l s.data.toList).isSome]) ∧ w = w' := by
  obtain ⟨⟨sv, mb, h1, h2, h3, h4, h5, h6⟩, hlo, hnf⟩ := h
  have HO := Lib.hid (ok_live g w _ h1)
  have c3 := h1.cell 3
  have hl := h3.look s hs
  simp only [List.getElem?_cons_zero, List.getElem?_cons_succ] at c3
  clear h1 h2 h3 hnf
  go_enter Tryd.func35, Tryd.ntmps35
  go_wp2_with (go_at_call 67; refine HO.out.mono ?_; rintro e w' ⟨rfl, rfl⟩)
  go_ret2
  exact ⟨rfl, rfl⟩
theorem text_live (h : TabIs limit g l F w) (n : Int) :
    Calls Tryd.prog 34 #[.pointer (some ⟨g, 0, none⟩), .int .i64 n] w fun e w' => ∃ ev, e = .returned (.tuple #[.string (textS l n).1, ev]) ∧ ErrIs w' ev (textS l n).2 ∧ Below w.heap.size w w' := by
  obtain ⟨⟨sv, mb, h1, h2, h3, h4, h5, h6⟩, hlo, hnf⟩ := h
  have HO := Lib.hid (ok_live g w _ h1)
  have c2 := h1.cell 2
  have hl := run_strs_len h2
  simp only [List.getElem?_cons_zero, List.getElem?_cons_succ] at c2
  by_cases n0 : n < 0
  · have HT := Lib.hid (show textS l n = (⟨#[]⟩, [⟨atomL, 0, 2⟩]) by unfold textS; rw [if_pos (.inl n0)])
    clear h1 h2 h3 hnf
    go_enter Tryd.func34, Tryd.ntmps34
    go_wp2_with (first | (go_at_call 67; refine HO.out.mono ?_; rintro e w' ⟨rfl, rfl⟩) | (go_at_call 48; refine (refused_any _ _ _).mono ?_; rintro e w' ⟨rfl, rfl⟩))
    go_ret2
    rw [HT.out]
    exact ⟨_, rfl, ErrIs.one, (Below.refl _ _).alloc (Nat.le_refl _) _⟩
  · by_cases n1 : (l.length : Int) ≤ n
    · have HT := Lib.hid (show textS l n = (⟨#[]⟩, [⟨atomL, 0, 2⟩]) by unfold textS; rw [if_pos (.inr n1)])
      clear h1 h2 h3 hnf
      go_enter Tryd.func34, Tryd.ntmps34
      go_wp2_with (first | (go_at_call 67; refine HO.out.mono ?_; rintro e w' ⟨rfl, rfl⟩) | (go_at_call 48; refine (refused_any _ _ _).mono ?_; rintro e w' ⟨rfl, rfl⟩))
      go_ret2
      rw [HT.out]
      exact ⟨_, rfl, ErrIs.one, (Below.refl _ _).alloc (Nat.le_refl _) _⟩
    · obtain ⟨k, rfl⟩ : ∃ k : Nat, n = k := ⟨n.toNat, by omega⟩
      have hk : k < l.length := by omega
      have hk2 : (k : Int) < (l.length : Int) := by omega
      obtain ⟨_, rfl⟩ | ⟨b, c, rfl, hb, hc1, hc2⟩ := h2.shape
      · simp at hk
      have hcell := h2.cell k hk
      have HT := Lib.hid (show textS l k = (l[k], []) by unfold textS; rw [if_neg (by omega)]; simp [hk])
      clear h1 h2 h3 hnf
      go_enter Tryd.func34, Tryd.ntmps34
      go_wp2_with (first | (go_at_call 67; refine HO.out.mono ?_; rintro e w' ⟨rfl, rfl⟩))
      go_ret2
      rw [HT.out]
      exact ⟨_, rfl, rfl, Below.refl _ _⟩
end
end Go.Proofs.YtdafikemndaeeaaDoor
