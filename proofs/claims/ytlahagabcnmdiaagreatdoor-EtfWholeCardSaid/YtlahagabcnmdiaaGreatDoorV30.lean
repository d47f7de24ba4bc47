/- Texts laid together: TabA, TabB, TabC. -/
import Derived.Test.YtlahagabcnmdiaaGreatDoorV29
import Derived.Test.YtlahagabcnmdiaaGreatDoorV25
section
/- Package atom: tables. -/
open Go Go.RowKit
namespace Go.Proofs.YtlahagabcnmdiaaGreatDoor

/-- the number of a text among texts -/
def idxM (l : List ByteArray) (k : List UInt8) : Option Int := (l.findIdx? (fun a => a.data.toList == k)).map fun i : Nat => (i : Int)
def putS (limit : Int) (l : List ByteArray) (s : ByteArray) : Int × List Lk × List ByteArray :=
  if (quoteS s).2 ≠ [] then (0, (quoteS s).2, l) else
  match idxM l s.data.toList with
  | some i => (i, [], l)
  | none => if (l.length : Int) < limit then (l.length, [], l ++ [s]) else (0, [⟨atomL, 0, 5⟩], l)
def tblS (l : List ByteArray) (n : Int) : ByteArray × List Lk := if n < 0 ∨ (l.length : Int) ≤ n then (⟨#[]⟩, [⟨atomL, 0, 2⟩]) else (l.getD n.toNat ⟨#[]⟩, [])

theorem idxM_snoc (l : List ByteArray) (s : ByteArray) (h : idxM l s.data.toList = none) : idxM (l ++ [s]) = mapSet (idxM l) s.data.toList l.length := by
  funext k
  unfold mapSet
  by_cases e : k = s.data.toList
  · subst e
    rw [if_pos rfl]
    unfold idxM at h ⊢
    rw [Option.map_eq_none_iff] at h
    rw [List.findIdx?_append, h]
    simp
  · rw [if_neg e]
    unfold idxM
    rw [List.findIdx?_append]
    have : ([s].findIdx? fun a => a.data.toList == k) = none := by simp [Ne.symm e]
    rw [this]
    cases List.findIdx? (fun a => a.data.toList == k) l <;> simp

/-- block g is a table that New made -/
structure TabIs (limit : Int) (g : Nat) (l : List ByteArray) (F : Nat → Prop) (w : World) : Prop where
  ex : ∃ sv mb, Cells w g 184 [.bool true, .int .i64 limit, sv, .map (some mb)] ∧ StrsIs sv l w ∧ MapS mb l.length (idxM l) w ∧ F g ∧ F mb ∧ ∀ b, sv.ownBlock = some b → F b
  lo : 0 ≤ limit ∧ limit ≤ 1048576 ∧ (l.length : Int) ≤ limit
  nf : ∀ b, F b → b < w.heap.size ∧ NF w b
theorem TabIs.keep {limit : Int} {g : Nat} {l : List ByteArray} {F S : Nat → Prop} {w w' : World} (h : TabIs limit g l F w) (k : Keep S w w') (hS : ∀ b, S b → ¬ F b) : TabIs limit g l F w' := by
  obtain ⟨⟨sv, mb, h1, h2, h3, h4, h5, h6⟩, hlo, hnf⟩ := h
  refine ⟨⟨sv, mb, h1.keep k (fun e => hS _ e h4), h2.keep k (fun b hb e => hS _ e (h6 b hb)), h3.keep k (fun e => hS _ e h5), h4, h5, h6⟩, hlo, fun b hb => ⟨?_, ?_⟩⟩
  · have := k.size; have := (hnf b hb).1; omega
  · intro cs f e
    rw [k.block b (hnf b hb).1 (fun e => hS _ e hb)] at e
    exact (hnf b hb).2 cs f e
structure RTabIs (limit : Int) (g : Nat) (l : List ByteArray) (F : Nat → Prop) (w : World) : Prop where
  ex : ∃ sv, Cells w g 132 [.int .i64 limit, sv] ∧ StrsIs sv l w ∧ F g ∧ ∀ b, sv.ownBlock = some b → F b
  lo : 0 ≤ limit ∧ limit ≤ 1048576 ∧ (l.length : Int) ≤ limit
  nf : ∀ b, F b → b < w.heap.size ∧ NF w b
theorem RTabIs.keep {limit : Int} {g : Nat} {l : List ByteArray} {F S : Nat → Prop} {w w' : World} (h : RTabIs limit g l F w) (k : Keep S w w') (hS : ∀ b, S b → ¬ F b) : RTabIs limit g l F w' := by
  obtain ⟨⟨sv, h1, h2, h4, h6⟩, hlo, hnf⟩ := h
  refine ⟨⟨sv, h1.keep k (fun e => hS _ e h4), h2.keep k (fun b hb e => hS _ e (h6 b hb)), h4, h6⟩, hlo, fun b hb => ⟨?_, ?_⟩⟩
  · have := k.size; have := (hnf b hb).1; omega
  · intro cs f e
    rw [k.block b (hnf b hb).1 (fun e => hS _ e hb)] at e
    exact (hnf b hb).2 cs f e
theorem NF.map {w : World} {b n : Nat} {m : List UInt8 → Option Int} (h : MapS b n m w) : NF w b := fun _ _ e => h.ne_cells e rfl

theorem ok_live (g : Nat) (w : World) (cs : List Value) (h : Cells w g 184 (.bool true :: cs)) :
    Calls Tryz.prog 104 #[.pointer (some ⟨g, 0, none⟩)] w fun e w' => e = .returned (.bool true) ∧ w = w' := by
  have c0 := h.cell 0
  simp only [List.getElem?_cons_zero] at c0
  go_enter Tryz.func104, Tryz.ntmps104
  go_wp2
  go_ret
  exact ⟨rfl, rfl⟩

theorem new_bad (limit : Int) (w : World) (h : limit < 0 ∨ 1048576 < limit) :
    Calls Tryz.prog 61 #[.int .i64 limit] w fun e w' => ∃ ev, e = .returned (.tuple #[.pointer none, ev]) ∧ ErrIs w' ev [⟨atomL, 0, 1⟩] ∧ Below w.heap.size w w' := by
  rcases h with h | h
  · go_enter Tryz.func61, Tryz.ntmps61
    go_wp2_with (go_at_call 103; refine (refused_any _ _ _).mono ?_; rintro e w' ⟨rfl, rfl⟩)
    go_ret2
    exact ⟨_, rfl, ErrIs.one, (Below.refl _ _).alloc (Nat.le_refl _) _⟩
  · have h' : ¬ limit < 0 := by omega
    go_enter Tryz.func61, Tryz.ntmps61
    go_wp2_with (go_at_call 103; refine (refused_any _ _ _).mono ?_; rintro e w' ⟨rfl, rfl⟩)
    go_ret2
    exact ⟨_, rfl, ErrIs.one, (Below.refl _ _).alloc (Nat.le_refl _) _⟩
theorem newR_bad (limit : Int) (w : World) (h : limit < 0 ∨ 1048576 < limit) :
    Calls Tryz.prog 60 #[.int .i64 limit] w fun e w' => ∃ lv, e = .returned (.tuple #[.pointer none, lv]) ∧ LinksIs w.heap.size lv [⟨atomL, 0, 1⟩] w' ∧ Below w.heap.size w w' := by
  rcases h with h | h
  · go_enter Tryz.func60, Tryz.ntmps60
    go_wp2_with (go_at_call 102; refine (no01_any _ _ _).mono ?_; rintro e w4 ⟨lv, rfl, hlk, hb⟩)
    go_ret2
    exact ⟨_, rfl, hlk, hb⟩
  · have h' : ¬ limit < 0 := by omega
    go_enter Tryz.func60, Tryz.ntmps60
    go_wp2_with (go_at_call 102; refine (no01_any _ _ _).mono ?_; rintro e w4 ⟨lv, rfl, hlk, hb⟩)
    go_ret2
    exact ⟨_, rfl, hlk, hb⟩

theorem new_good (limit : Int) (w : World) (h0 : 0 ≤ limit) (h1 : limit ≤ 1048576) :
    Calls Tryz.prog 61 #[.int .i64 limit] w fun e w' => ∃ g, e = .returned (.tuple #[.pointer (some ⟨g, 0, none⟩), .nilIface]) ∧ TabIs limit g [] (fun b => w.heap.size ≤ b ∧ b < w'.heap.size) w' ∧ Below w.heap.size w w' := by
  have hmm := @run_makeMap Tryz.prog
  have n0 : ¬ limit < 0 := by omega
  have n1 : ¬ 1048576 < limit := by omega
  go_enter Tryz.func61, Tryz.ntmps61
  go_wp2
  go_ret2
  have hc : Cells ((w.alloc (Obj.map #[] 0)).alloc (Obj.cells #[.bool true, .int .i64 limit, .slice none 0 0, .map (some w.heap.size)] 184)) (w.heap.size + 1) 184 [.bool true, .int .i64 limit, .slice none 0 0, .map (some w.heap.size)] := by
    have := Cells.new (w.alloc (Obj.map #[] 0)) 184 [.bool true, .int .i64 limit, .slice none 0 0, .map (some w.heap.size)]
    simpa using this
  have hm := (MapS.made w).alloc (Obj.cells #[.bool true, .int .i64 limit, .slice none 0 0, .map (some w.heap.size)] 184)
  refine ⟨w.heap.size + 1, rfl, ⟨⟨_, _, hc, StrsIs.nil _, ?_, ?_, ?_, ?_⟩, ⟨h0, h1, by simpa using h0⟩, ?_⟩, ((Below.refl _ w).alloc (Nat.le_refl _) _).alloc (by simp) _⟩
  · exact hm
  · simp
  · simp; omega
  · intro b hb; cases hb
  · intro b hb
    simp at hb
    refine ⟨by simp; omega, ?_⟩
    rcases Nat.lt_or_ge b (w.heap.size + 1) with h | h
    · obtain rfl : b = w.heap.size := by omega
      exact NF.map hm
    · obtain rfl : b = w.heap.size + 1 := by omega
      exact NF.cells hc (by decide)
theorem newR_good (limit : Int) (w : World) (h0 : 0 ≤ limit) (h1 : limit ≤ 1048576) :
    Calls Tryz.prog 60 #[.int .i64 limit] w fun e w' => ∃ g, e = .returned (.tuple #[.pointer (some ⟨g, 0, none⟩), .slice none 0 0]) ∧ RTabIs limit g [] (fun b => w.heap.size ≤ b ∧ b < w'.heap.size) w' ∧ Below w.heap.size w w' := by
  have n0 : ¬ limit < 0 := by omega
  have n1 : ¬ 1048576 < limit := by omega
  go_enter Tryz.func60, Tryz.ntmps60
  go_wp2
  go_ret2
  have hc : Cells (w.alloc (Obj.cells #[.int .i64 limit, .slice none 0 0] 132)) w.heap.size 132 [.int .i64 limit, .slice none 0 0] := Cells.new _ _ _
  refine ⟨w.heap.size, rfl, ⟨⟨_, hc, StrsIs.nil _, ?_, ?_⟩, ⟨h0, h1, by simpa using h0⟩, ?_⟩, (Below.refl _ w).alloc (Nat.le_refl _) _⟩
  · simp
  · intro b hb; cases hb
  · intro b hb
    simp at hb
    obtain rfl : b = w.heap.size := by omega
    exact ⟨by simp, NF.cells hc (by decide)⟩

section
variable {limit : Int} {g : Nat} {l : List ByteArray} {F : Nat → Prop} {w : World}
theorem len_live (h : TabIs limit g l F w) : Calls Tryz.prog 63 #[.pointer (some ⟨g, 0, none⟩)] w fun e w' => e = .returned (.int .i64 l.length) ∧ w = w' := by
  obtain ⟨⟨sv, mb, h1, h2, h3, h4, h5, h6⟩, hlo, hnf⟩ := h
  have HO := Lib.hid (ok_live g w _ h1)
  have c2 := h1.cell 2
  have hl := run_strs_len h2
  simp only [List.getElem?_cons_zero, List.getElem?_cons_succ] at c2
  clear h1 h2 h3 hnf
  go_enter Tryz.func63, Tryz.ntmps63
  go_wp2_with (go_at_call 104; refine HO.out.mono ?_; rintro e w' ⟨rfl, rfl⟩)
  go_ret
  exact ⟨rfl, rfl⟩
theorem free_live (h : TabIs limit g l F w) : Calls Tryz.prog 106 #[.pointer (some ⟨g, 0, none⟩)] w fun e w' => e = .returned (.int .i64 (limit - l.length)) ∧ ∃ n, w' = w.drewN n := by
  obtain ⟨⟨sv, mb, h1, h2, h3, h4, h5, h6⟩, hlo, hnf⟩ := h
  have HO := Lib.hid (ok_live g w _ h1)
  have c1 := h1.cell 1
  have c2 := h1.cell 2
  have hl := run_strs_len h2
  simp only [List.getElem?_cons_zero, List.getElem?_cons_succ] at c1 c2
  obtain ⟨a1, a2, a3⟩ := hlo
  have hwr : IntKind.i64.wrap (limit - l.length) = limit - l.length := IntWalk.i64_in _ (by omega)
  clear h1 h2 h3 hnf
  go_enter Tryz.func106, Tryz.ntmps106
  go_wp2_with (go_at_call 104; refine HO.out.mono ?_; rintro e w' ⟨rfl, rfl⟩)
  go_quiet (fail)
  go_wp2
  go_ret
  exact ⟨rfl, _, rfl⟩
theorem find_live (h : TabIs limit g l F w) (s : ByteArray) (hs : s.size ≤ maxLen) :
    Calls Tryz.prog 107 #[.pointer (some ⟨g, 0, none⟩), .string s] w fun e w' => e = .returned (.tuple #[.int .i64 ((idxM l s.data.toList).getD 0), .bool (idxM l s.data.toList).isSome]) ∧ w = w' := by
  obtain ⟨⟨sv, mb, h1, h2, h3, h4, h5, h6⟩, hlo, hnf⟩ := h
  have HO := Lib.hid (ok_live g w _ h1)
  have c3 := h1.cell 3
  have hl := h3.look s hs
  simp only [List.getElem?_cons_zero, List.getElem?_cons_succ] at c3
  clear h1 h2 h3 hnf
  go_enter Tryz.func107, Tryz.ntmps107
  go_wp2_with (go_at_call 104; refine HO.out.mono ?_; rintro e w' ⟨rfl, rfl⟩)
  go_ret2
  exact ⟨rfl, rfl⟩
theorem text_live (h : TabIs limit g l F w) (n : Int) :
    Calls Tryz.prog 64 #[.pointer (some ⟨g, 0, none⟩), .int .i64 n] w fun e w' => ∃ ev, e = .returned (.tuple #[.string (tblS l n).1, ev]) ∧ ErrIs w' ev (tblS l n).2 ∧ Below w.heap.size w w' := by
  obtain ⟨⟨sv, mb, h1, h2, h3, h4, h5, h6⟩, hlo, hnf⟩ := h
  have HO := Lib.hid (ok_live g w _ h1)
  have c2 := h1.cell 2
  have hl := run_strs_len h2
  simp only [List.getElem?_cons_zero, List.getElem?_cons_succ] at c2
  by_cases n0 : n < 0
  · have HT := Lib.hid (show tblS l n = (⟨#[]⟩, [⟨atomL, 0, 2⟩]) by unfold tblS; rw [if_pos (.inl n0)])
    clear h1 h2 h3 hnf
    go_enter Tryz.func64, Tryz.ntmps64
    go_wp2_with (first | (go_at_call 104; refine HO.out.mono ?_; rintro e w' ⟨rfl, rfl⟩) | (go_at_call 103; refine (refused_any _ _ _).mono ?_; rintro e w' ⟨rfl, rfl⟩))
    go_ret2
    rw [HT.out]
    exact ⟨_, rfl, ErrIs.one, (Below.refl _ _).alloc (Nat.le_refl _) _⟩
  · by_cases n1 : (l.length : Int) ≤ n
    · have HT := Lib.hid (show tblS l n = (⟨#[]⟩, [⟨atomL, 0, 2⟩]) by unfold tblS; rw [if_pos (.inr n1)])
      clear h1 h2 h3 hnf
      go_enter Tryz.func64, Tryz.ntmps64
      go_wp2_with (first | (go_at_call 104; refine HO.out.mono ?_; rintro e w' ⟨rfl, rfl⟩) | (go_at_call 103; refine (refused_any _ _ _).mono ?_; rintro e w' ⟨rfl, rfl⟩))
      go_ret2
      rw [HT.out]
      exact ⟨_, rfl, ErrIs.one, (Below.refl _ _).alloc (Nat.le_refl _) _⟩
    · obtain ⟨k, rfl⟩ : ∃ k : Nat, n = k := ⟨n.toNat, by omega⟩
      have hk : k < l.length := by omega
      have hk2 : (k : Int) < (l.length : Int) := by omega
      obtain ⟨_, rfl⟩ | ⟨b, c, rfl, hb, hc1, hc2⟩ := h2.shape
      · simp at hk
      have hcell := h2.cell k hk
      have HT := Lib.hid (show tblS l k = (l[k], []) by unfold tblS; rw [if_neg (by omega)]; simp [hk])
      clear h1 h2 h3 hnf
      go_enter Tryz.func64, Tryz.ntmps64
      go_wp2_with (first | (go_at_call 104; refine HO.out.mono ?_; rintro e w' ⟨rfl, rfl⟩))
      go_ret2
      rw [HT.out]
      exact ⟨_, rfl, rfl, Below.refl _ _⟩
end
end Go.Proofs.YtlahagabcnmdiaaGreatDoor
end
section
/- Package atom: Put of a table; the reference's table. -/
open Go Go.RowKit
namespace Go.Proofs.YtlahagabcnmdiaaGreatDoor

theorem quoteS_err (s : ByteArray) : (quoteS s).2 = [] ∨ ∃ a c, (quoteS s).2 = [⟨atomL, a, c⟩] := by
  unfold quoteS; (repeat' split) <;> first | exact .inl rfl | exact .inr ⟨_, _, rfl⟩

def RetPut (limit : Int) (g : Nat) (F : Nat → Prop) (w : World) (r : Int × List Lk × List ByteArray) (e : Ending) (w' : World) : Prop :=
  ∃ ev F', e = .returned (.tuple #[.int .i64 r.1, ev]) ∧ ErrIs w' ev r.2.1 ∧ TabIs limit g r.2.2 F' w' ∧ Keep F w w' ∧ ∀ b, F' b → F b ∨ w.heap.size ≤ b
section
variable {limit : Int} {g : Nat} {l : List ByteArray} {F : Nat → Prop} {w : World}

set_option maxHeartbeats 4000000 in
set_option maxRecDepth 100000 in
theorem put_bad (h : TabIs limit g l F w) (s : ByteArray) (hs : s.size ≤ 140737488351232) (hT : Lib.Utf8Tabs 1 2 w) (hE : ErrT w) (hq : (quoteS s).2 ≠ []) :
    Calls Tryz.prog 62 #[.pointer (some ⟨g, 0, none⟩), .string s] w (RetPut limit g F w (putS limit l s)) := by
  have HP := Lib.hid (show putS limit l s = (0, (quoteS s).2, l) by unfold putS; rw [if_pos hq])
  have HH := Lib.hid h
  obtain ⟨⟨sv, mb, h1, h2, h3, h4, h5, h6⟩, hlo, hnf⟩ := h
  have HO := Lib.hid (ok_live g w _ h1)
  have hb0 : Below w.heap.size w (w.alloc (.cells #[.pointer none] 96 (0, 0))) := (Below.refl _ _).alloc (Nat.le_refl _) _
  have HQ := Lib.hid (quote_any s (w.alloc (.cells #[.pointer none] 96 (0, 0))) (by unfold maxLen; omega) (Utf8Tabs_below hT hb0))
  have HE := Lib.hid hE
  obtain ⟨a, c, hqe⟩ : ∃ a c, (quoteS s).2 = [⟨atomL, a, c⟩] := (quoteS_err s).resolve_left hq
  have HQE := Lib.hid hqe
  clear h1 h2 h3 hnf hE hq hqe hT hb0
  go_enter Tryz.func62, Tryz.ntmps62
  go_wp2_with (first | (go_at_call 104; refine HO.out.mono ?_; rintro e w' ⟨rfl, rfl⟩))
  refine HQ.out.mono ?_
  rintro e w1 ⟨ev, rfl, her, hb1⟩
  rw [HQE.out] at her
  obtain ⟨b, u, rfl, hc, hu⟩ := her
  have hf1 := (hb1.block w.heap.size (by simp)).trans (alloc_get w (.cells #[.pointer none] 96 (0, 0)))
  have hE1 := HE.out.below (((Below.refl _ w).alloc (Nat.le_refl _) (.cells #[.pointer none] 96 (0, 0))).trans (hb1.mono (by simp)))
  have HA := Lib.hid (as_hit2 b w.heap.size w1 hE1 hf1)
  have K1 := Lib.hid ((((Keep.refl Nob w).alloc (.cells #[.pointer none] 96 (0, 0))).below hb1))
  have hwz := hb1.size
  simp at hwz
  have HC := Lib.hid hc
  have HF1 := Lib.hid hf1
  clear hc hf1 hu hb1 hE1
  go_wp2_with fail
  refine HA.out.mono ?_
  rintro e w2 ⟨rfl, hg, hf⟩
  have hne : b ≠ w.heap.size := by
    rintro rfl
    have h1 := HC.out
    rw [HF1.out] at h1
    injection h1 with h1
    injection h1 with _ h1
    exact absurd h1 (by decide)
  have hblt : b < w1.heap.size := (Array.getElem?_eq_some_iff.1 HC.out).1
  have hc2 := (hg.block b hblt (by simp; exact hne)).trans HC.out
  have K2 := Lib.hid (K1.out.grown hg (fun k hk hlt => by simp at hk; omega))
  have c0 := cell_of_block hf 0
  have d1 := cell_of_block hc2 1
  have d2 := cell_of_block hc2 2
  simp only [List.getElem?_toArray, List.getElem?_cons_zero, List.getElem?_cons_succ] at c0 d1 d2
  have hwf : w.heap.size < w2.heap.size := (Array.getElem?_eq_some_iff.1 hf).1
  have hwb : b < w2.heap.size := (Array.getElem?_eq_some_iff.1 hc2).1
  clear hg hf hc2 hblt
  go_wp2
  go_region_held3 (fun w' => w'.cell? ⟨w.heap.size, 0, none⟩ = some (.pointer (some ⟨b, 0, none⟩)) ∧ w'.cell? ⟨b, 1, none⟩ = some (.int .i64 a) ∧ w'.cell? ⟨b, 2, none⟩ = some (.int .i64 c))
    (go_keep)
    ((go_at_call 103; refine (refused_any _ _ _).mono ?_; rintro e w3 ⟨rfl, rfl⟩))
  go_wp2
  go_ret2
  rw [HP.out, HQE.out]
  have K3 := (K2.out.drewN 1).alloc (.cells #[.string atomL, .int .i64 a, .int .i64 c, .nilIface] 101 (0, 0))
  exact ⟨_, F, rfl, ErrIs.one, HH.out.keep K3 (fun _ h => h.elim), K3.more (fun _ _ h => h.elim), fun b hb => .inl hb⟩

set_option maxHeartbeats 4000000 in
set_option maxRecDepth 100000 in
theorem put_there (h : TabIs limit g l F w) (s : ByteArray) (hs : s.size ≤ 140737488351232) (hT : Lib.Utf8Tabs 1 2 w) (hq : (quoteS s).2 = []) (i : Int) (hi : idxM l s.data.toList = some i) :
    Calls Tryz.prog 62 #[.pointer (some ⟨g, 0, none⟩), .string s] w (RetPut limit g F w (putS limit l s)) := by
  have HP := Lib.hid (show putS limit l s = (i, [], l) by unfold putS; rw [if_neg (by simp [hq]), hi])
  have HH := Lib.hid h
  obtain ⟨⟨sv, mb, h1, h2, h3, h4, h5, h6⟩, hlo, hnf⟩ := h
  have HO := Lib.hid (ok_live g w _ h1)
  have hb0 : Below w.heap.size w (w.alloc (.cells #[.pointer none] 96 (0, 0))) := (Below.refl _ _).alloc (Nat.le_refl _) _
  have HQ := Lib.hid (quote_any s (w.alloc (.cells #[.pointer none] 96 (0, 0))) (by unfold maxLen; omega) (Utf8Tabs_below hT hb0))
  have H1 := Lib.hid h1
  have H3 := Lib.hid h3
  have HQE := Lib.hid hq
  have HI := Lib.hid hi
  clear h1 h2 h3 hnf hq hT hb0 hi
  go_enter Tryz.func62, Tryz.ntmps62
  go_wp2_with (first | (go_at_call 104; refine HO.out.mono ?_; rintro e w' ⟨rfl, rfl⟩))
  refine HQ.out.mono ?_
  rintro e w1 ⟨ev, rfl, her, hb1⟩
  rw [HQE.out] at her
  obtain rfl : ev = .nilIface := her
  have K1 := Lib.hid ((((Keep.refl Nob w).alloc (.cells #[.pointer none] 96 (0, 0))).below hb1))
  have hwz := hb1.size
  simp at hwz
  have c3 := (H1.out.keep K1.out (fun e => e.elim)).cell 3
  simp only [List.getElem?_cons_zero, List.getElem?_cons_succ] at c3
  have hl := (H3.out.keep K1.out (fun e => e.elim)).look s (by unfold maxLen; omega)
  rw [HI.out] at hl
  clear hb1
  go_wp2_with fail
  refine (as_nil _ _).mono ?_
  rintro e w2 ⟨rfl, rfl⟩
  go_wp2
  go_ret2
  rw [HP.out]
  exact ⟨_, F, rfl, rfl, HH.out.keep K1.out (fun _ h => h.elim), K1.out.more (fun _ _ h => h.elim), fun b hb => .inl hb⟩

set_option maxHeartbeats 4000000 in
set_option maxRecDepth 100000 in
theorem put_full (h : TabIs limit g l F w) (s : ByteArray) (hs : s.size ≤ 140737488351232) (hT : Lib.Utf8Tabs 1 2 w) (hq : (quoteS s).2 = []) (hi : idxM l s.data.toList = none) (hf : (l.length : Int) = limit) :
    Calls Tryz.prog 62 #[.pointer (some ⟨g, 0, none⟩), .string s] w (RetPut limit g F w (putS limit l s)) := by
  have HP := Lib.hid (show putS limit l s = (0, [⟨atomL, 0, 5⟩], l) by unfold putS; rw [if_neg (by simp [hq]), hi]; simp only; rw [if_neg (by omega)])
  have HH := Lib.hid h
  obtain ⟨⟨sv, mb, h1, h2, h3, h4, h5, h6⟩, hlo, hnf⟩ := h
  have HO := Lib.hid (ok_live g w _ h1)
  have hb0 : Below w.heap.size w (w.alloc (.cells #[.pointer none] 96 (0, 0))) := (Below.refl _ _).alloc (Nat.le_refl _) _
  have HQ := Lib.hid (quote_any s (w.alloc (.cells #[.pointer none] 96 (0, 0))) (by unfold maxLen; omega) (Utf8Tabs_below hT hb0))
  have H1 := Lib.hid h1
  have H3 := Lib.hid h3
  have HQE := Lib.hid hq
  have HI := Lib.hid hi
  have hz : ((limit - l.length) == 0) = true := by simp; omega
  clear h1 h2 h3 hnf hq hT hb0 hi hf
  go_enter Tryz.func62, Tryz.ntmps62
  go_wp2_with (first | (go_at_call 104; refine HO.out.mono ?_; rintro e w' ⟨rfl, rfl⟩))
  refine HQ.out.mono ?_
  rintro e w1 ⟨ev, rfl, her, hb1⟩
  rw [HQE.out] at her
  obtain rfl : ev = .nilIface := her
  have K1 := Lib.hid ((((Keep.refl Nob w).alloc (.cells #[.pointer none] 96 (0, 0))).below hb1))
  have HFr := Lib.hid (free_live (HH.out.keep K1.out (fun _ h => h.elim)))
  have hwz := hb1.size
  simp at hwz
  have c3 := (H1.out.keep K1.out (fun e => e.elim)).cell 3
  simp only [List.getElem?_cons_zero, List.getElem?_cons_succ] at c3
  have hl := (H3.out.keep K1.out (fun e => e.elim)).look s (by unfold maxLen; omega)
  rw [HI.out] at hl
  clear hb1
  go_wp2_with fail
  refine (as_nil _ _).mono ?_
  rintro e w2 ⟨rfl, h2⟩
  subst h2
  go_wp2_with fail
  refine HFr.out.mono ?_
  rintro e w3 ⟨rfl, n, rfl⟩
  go_wp2_with (go_at_call 103; refine (refused_any _ _ _).mono ?_; rintro e w' ⟨rfl, rfl⟩)
  go_ret2
  rw [HP.out]
  have K3 := (K1.out.drewN n).alloc (.cells #[.string atomL, .int .i64 0, .int .i64 5, .nilIface] 101 (0, 0))
  exact ⟨_, F, rfl, ErrIs.one, HH.out.keep K3 (fun _ h => h.elim), K3.more (fun _ _ h => h.elim), fun b hb => .inl hb⟩

set_option maxHeartbeats 4000000 in
set_option maxRecDepth 100000 in
theorem put_new (h : TabIs limit g l F w) (s : ByteArray) (hs : s.size ≤ 140737488351232) (hT : Lib.Utf8Tabs 1 2 w) (hq : (quoteS s).2 = []) (hi : idxM l s.data.toList = none) (hf : (l.length : Int) < limit) :
    Calls Tryz.prog 62 #[.pointer (some ⟨g, 0, none⟩), .string s] w (RetPut limit g F w (putS limit l s)) := by
  have HP := Lib.hid (show putS limit l s = ((l.length : Int), [], l ++ [s]) by unfold putS; rw [if_neg (by simp [hq]), hi]; simp only; rw [if_pos hf])
  have HH := Lib.hid h
  obtain ⟨⟨sv, mb, h1, h2, h3, h4, h5, h6⟩, hlo, hnf⟩ := h
  have HO := Lib.hid (ok_live g w _ h1)
  have hb0 : Below w.heap.size w (w.alloc (.cells #[.pointer none] 96 (0, 0))) := (Below.refl _ _).alloc (Nat.le_refl _) _
  have HQ := Lib.hid (quote_any s (w.alloc (.cells #[.pointer none] 96 (0, 0))) (by unfold maxLen; omega) (Utf8Tabs_below hT hb0))
  have H1 := Lib.hid h1
  have H2 := Lib.hid h2
  have H3 := Lib.hid h3
  have HQE := Lib.hid hq
  have HI := Lib.hid hi
  have hz : ((limit - l.length) == 0) = false := by simp; omega
  have hll : l.length ≤ 1048576 := by omega
  have HNF := Lib.hid hnf
  have HLO := Lib.hid hlo
  have H6 := Lib.hid h6
  clear h1 h2 h3 hnf hq hT hb0 hi hlo h6
  go_enter Tryz.func62, Tryz.ntmps62
  go_wp2_with (first | (go_at_call 104; refine HO.out.mono ?_; rintro e w' ⟨rfl, rfl⟩))
  refine HQ.out.mono ?_
  rintro e w1 ⟨ev, rfl, her, hb1⟩
  rw [HQE.out] at her
  obtain rfl : ev = .nilIface := her
  have K1 := Lib.hid ((((Keep.refl Nob w).alloc (.cells #[.pointer none] 96 (0, 0))).below hb1))
  have HFr := Lib.hid (free_live (HH.out.keep K1.out (fun _ h => h.elim)))
  have hwz := hb1.size
  simp at hwz
  have C1 := Lib.hid (H1.out.keep K1.out (fun e => e.elim))
  have c3 := C1.out.cell 3
  simp only [List.getElem?_cons_zero, List.getElem?_cons_succ] at c3
  have hl := (H3.out.keep K1.out (fun e => e.elim)).look s (by unfold maxLen; omega)
  rw [HI.out] at hl
  clear hb1
  go_wp2_with fail
  refine (as_nil _ _).mono ?_
  rintro e w2 ⟨rfl, h2⟩
  subst h2
  go_wp2_with fail
  refine HFr.out.mono ?_
  rintro e w3 ⟨rfl, n, rfl⟩
  clear c3 hl
  have c2 := C1.out.cell 2
  have c3 := C1.out.cell 3
  simp only [List.getElem?_cons_zero, List.getElem?_cons_succ] at c2 c3
  have S1 := Lib.hid (H2.out.keep K1.out (fun _ _ e => e.elim))
  have M1 := Lib.hid (H3.out.keep K1.out (fun e => e.elim))
  have hsl := run_strs_len S1.out
  have hwf := Lib.hid (show (Lit.int .i64 (l.length : Int)).wf = true from WalkArith.wf_i64 (by omega))
  obtain ⟨w5, hrun5, hm5, hg5⟩ := (M1.out.drewN (n + 1)).set_ s (by unfold maxLen; omega) l.length hwf.out (by unfold maxLen; omega)
  have nmb : mb ≠ g := fun e => (M1.out.ne_cells C1.out) e.symm
  have nsv : sv.ownBlock ≠ some g := S1.out.ne_cells C1.out (by decide)
  have nsm : sv.ownBlock ≠ some mb := fun e => by
    obtain ⟨_, cur, hcur⟩ := S1.out.lt e
    exact M1.out.ne_cells hcur rfl
  have C5 := Lib.hid ((C1.out.frame (w' := w5) (hg5.block g (by simpa using C1.out.lt) (by simp; exact fun e => nmb e.symm))))
  have e2 := C5.out.cell 2
  have e3 := C5.out.cell 3
  simp only [List.getElem?_cons_zero, List.getElem?_cons_succ] at e2 e3
  have HG5 := Lib.hid hg5
  have HM5 := Lib.hid hm5
  clear hg5 hm5
  go_wp2
  go_region_held3 (fun w' => w'.cell? ⟨g, 3, none⟩ = some (.map (some mb)) ∧ w'.cell? ⟨g, 2, none⟩ = some sv) (go_keep) (fail)
  have hg5 := HG5.out
  have hm5 := HM5.out
  clear e2 e3
  have S5 := Lib.hid (S1.out.frame (w' := w5) (fun b hb => hg5.block b (by simpa using (S1.out.lt hb).1) (by rw [← hb]; exact nsm)))
  have K5 := Lib.hid ((K1.out.more (S' := F) (fun _ _ h => h.elim)).trans ((((Keep.refl F _).drewN (n + 1))).grown hg5 (fun k hk _ => by cases hk; exact h5)) (fun _ _ h => h))
  have M5 := Lib.hid hm5
  obtain ⟨v', w6, hrun, hs6, hg6, hat⟩ := S5.out.app s (by omega)
  have S6 := Lib.hid hs6
  have hw5 := K5.out.size
  have K6 := Lib.hid ((K5.out.alloc (.cells #[.string s] 9 (0, 0))).grown hg6 (fun k hk _ => H6.out k hk))
  have C6 := Lib.hid ((C5.out.alloc (.cells #[.string s] 9 (0, 0))).grown hg6 nsv)
  have M6 := Lib.hid ((M5.out.alloc (.cells #[.string s] 9 (0, 0))).frame (w' := w6) (hg6.block mb (by have := M5.out.lt; simp; omega) (Ne.symm nsm)))
  have HAT := Lib.hid hat
  have c2' := C5.out.cell 2
  have d2 := C6.out.cell 2
  have f2 := C6.out.frozen 2
  have hl5 := run_strs_len S6.out
  simp only [List.getElem?_cons_zero, List.getElem?_cons_succ] at c2' d2
  simp only [List.length_append, List.length_singleton] at hl5
  clear hs6 hg6 hat hm5 hg5 c2 c3
  go_wp2_with (at_builtin; refine stop ?_)
  refine Stopped.of ?_
  refine wp_app_eq rfl (.tmp 61) (.tmp 63) _ _ rfl _ _ v' w6 rfl rfl hrun ?_
  clear hrun hl5
  obtain ⟨_, hno⟩ | ⟨sb, sc, hv', hsb, _, _⟩ := S6.out.shape
  · simp at hno
  obtain rfl := hv'
  have hl5 : ((l ++ [s]).length : Int) - 1 = l.length := by simp
  go_wp2
  go_ret2
  rw [HP.out]
  have S6' := S6.out
  have HAT' := HAT.out
  have hlen : (l ++ [s]).length = l.length + 1 := by simp
  rw [hlen] at S6' HAT'
  generalize hv' : (Value.slice (some ⟨sb, 0, none⟩) (l.length + 1) sc) = v' at *
  have CF := C6.out.set_ 2 v'
  have KF := K6.out.setCell (p := ⟨g, 2, none⟩) (fun _ => h4) v'
  have SF : StrsIs v' (l ++ [s]) (w6.setCell ⟨g, 2, none⟩ v') := S6'.frame fun b hb => Below.heap_setCell _ _ _ _ (by rintro rfl; exact S6'.ne_cells C6.out (by decide) hb)
  have MF := M6.out.frame (w' := w6.setCell ⟨g, 2, none⟩ v') (Below.heap_setCell _ _ _ _ nmb)
  rw [← idxM_snoc l s HI.out] at MF
  refine ⟨_, fun b => b = g ∨ b = mb ∨ v'.ownBlock = some b, rfl, rfl, ⟨⟨v', mb, by simpa using CF, SF, by simpa using MF, .inl rfl, .inr (.inl rfl), fun b hb => .inr (.inr hb)⟩, ?_, ?_⟩, KF, ?_⟩
  · have := HLO.out
    refine ⟨this.1, this.2.1, ?_⟩
    simp only [hlen]; omega
  · rintro b (rfl | rfl | hb)
    · exact ⟨CF.lt, NF.cells CF (by decide)⟩
    · exact ⟨MF.lt, NF.map MF⟩
    · exact ⟨(SF.lt hb).1, NF.strs SF hb⟩
  · rintro b (rfl | rfl | hb)
    · exact .inl h4
    · exact .inl h5
    · rcases HAT' with e | e
      · exact .inl (H6.out b (by rw [← e]; exact hb))
      · right
        rw [e] at hb
        have := Option.some.inj hb
        omega
end
end Go.Proofs.YtlahagabcnmdiaaGreatDoor
end
section
/- The reference's table. -/
open Go Go.RowKit
namespace Go.Proofs.YtlahagabcnmdiaaGreatDoor

section
variable {limit : Int} {g : Nat} {l : List ByteArray} {F : Nat → Prop} {w : World}
theorem put_live (h : TabIs limit g l F w) (s : ByteArray) (hs : s.size ≤ 140737488351232) (hT : Lib.Utf8Tabs 1 2 w) (hE : ErrT w) :
    Calls Tryz.prog 62 #[.pointer (some ⟨g, 0, none⟩), .string s] w (RetPut limit g F w (putS limit l s)) := by
  by_cases hq : (quoteS s).2 = []
  · cases hi : idxM l s.data.toList with
    | some i => exact put_there h s hs hT hq i hi
    | none =>
      by_cases hf : (l.length : Int) = limit
      · exact put_full h s hs hT hq hi hf
      · exact put_new h s hs hT hq hi (by have := h.lo.2.2; omega)
  · exact put_bad h s hs hT hE hq

theorem idx_step (l : List ByteArray) (s : List UInt8) (k : Nat) (hk : k < l.length) (h : (l.take k).findIdx? (fun a => a.data.toList == s) = none) :
    (l[k].data.toList = s → idxM l s = some k) ∧ (l[k].data.toList ≠ s → (l.take (k + 1)).findIdx? (fun a => a.data.toList == s) = none) := by
  constructor
  · intro e
    unfold idxM
    have : l.findIdx? (fun a => a.data.toList == s) = some k := by
      rw [List.findIdx?_eq_some_iff_getElem]
      refine ⟨hk, by simp [e], fun j hj => ?_⟩
      rw [List.findIdx?_eq_none_iff] at h
      have := h l[j] (by rw [List.mem_take_iff_getElem]; exact ⟨j, by omega, rfl⟩)
      simpa using this
    rw [this]; rfl
  · intro e
    rw [List.take_succ_eq_append_getElem hk, List.findIdx?_append, h]
    simp [e]

set_option maxHeartbeats 4000000 in
set_option maxRecDepth 100000 in
theorem findR_live (h : RTabIs limit g l F w) (s : ByteArray) :
    Calls Tryz.prog 101 #[.pointer (some ⟨g, 0, none⟩), .string s] w fun e w' => e = .returned (.tuple #[.int .i64 ((idxM l s.data.toList).getD 0), .bool (idxM l s.data.toList).isSome]) ∧ w = w' := by
  obtain ⟨⟨sv, h1, h2, h4, h6⟩, hlo, hnf⟩ := h
  have c1 := h1.cell 1
  simp only [List.getElem?_cons_zero, List.getElem?_cons_succ] at c1
  have hl := run_strs_len h2
  have H2 := Lib.hid h2
  have hll : l.length ≤ 1048576 := by omega
  clear h1 h2 hnf hlo
  go_enter Tryz.func101, Tryz.ntmps101
  go_wp2
  go_loop [6] (fun i => ∃ k : Nat, k ≤ l.length ∧ i = .int .i64 k ∧ (l.take k).findIdx? (fun a => a.data.toList == s.data.toList) = none) (fun i => l.length - (intOf i).toNat)
  case atStart => exact ⟨0, Nat.zero_le _, rfl, rfl⟩
  case round =>
    obtain ⟨k, hk, rfl, hno⟩ := hrel
    by_cases hlt : k < l.length
    · have hkI : (k : Int) < (l.length : Int) := by omega
      have HS := Lib.hid (idx_step l s.data.toList k hlt hno)
      obtain ⟨_, hn⟩ | ⟨b, c, hsv, hb, hc1, hc2⟩ := H2.out.shape
      · rw [hn] at hlt; simp at hlt
      have H2' := H2.out
      rw [hsv] at H2' c1
      have hcell := H2'.cell k hlt
      have HSV := Lib.hid hsv
      clear H2 hno H2' hl hsv
      by_cases he : l[k].data.toList = s.data.toList
      · have hb : (l[k].toList == s.toList) = true := by rw [toList_data, toList_data, he]; simp
        have P := Lib.hid (HS.out.1 he)
        clear he
        go_wp2
        go_ret2
        rw [P.out]
        exact ⟨rfl, rfl⟩
      · have hb : (l[k].toList == s.toList) = false := by rw [toList_data, toList_data]; simpa using he
        have P := Lib.hid (HS.out.2 he)
        clear he
        go_wp2
        go_round
        case rel => exact ⟨k + 1, by omega, by go_num, P.out⟩
        case measure => simp [intOf]; omega
    · have hkI : ¬ (k : Int) < (l.length : Int) := by omega
      have P := Lib.hid (show idxM l s.data.toList = none by
        unfold idxM
        rw [List.take_of_length_le (by omega)] at hno
        rw [hno]; rfl)
      clear hno H2
      go_wp2
      go_ret2
      rw [P.out]
      exact ⟨rfl, rfl⟩

def RetPutR (limit : Int) (g : Nat) (F : Nat → Prop) (w : World) (r : Int × List Lk × List ByteArray) (e : Ending) (w' : World) : Prop :=
  ∃ lv F', e = .returned (.tuple #[.int .i64 r.1, lv]) ∧ LinksIs w.heap.size lv r.2.1 w' ∧ RTabIs limit g r.2.2 F' w' ∧ Keep F w w' ∧ ∀ b, F' b → F b ∨ w.heap.size ≤ b

set_option maxHeartbeats 4000000 in
set_option maxRecDepth 100000 in
theorem putR_bad (h : RTabIs limit g l F w) (s : ByteArray) (hs : s.size ≤ 140737488351232) (hq : (quoteS s).2 ≠ []) :
    Calls Tryz.prog 59 #[.pointer (some ⟨g, 0, none⟩), .string s] w (RetPutR limit g F w (putS limit l s)) := by
  have HP := Lib.hid (show putS limit l s = (0, (quoteS s).2, l) by unfold putS; rw [if_pos hq])
  have HH := Lib.hid h
  have HQ := Lib.hid (quoteR_any s w hs)
  obtain ⟨a, c, hqe⟩ : ∃ a c, (quoteS s).2 = [⟨atomL, a, c⟩] := (quoteS_err s).resolve_left hq
  have HQE := Lib.hid hqe
  clear h hq hqe
  go_enter Tryz.func59, Tryz.ntmps59
  go_wp2_with fail
  refine HQ.out.mono ?_
  rintro e w1 ⟨lv, rfl, hlk, hb1⟩
  obtain ⟨_, hn⟩ | ⟨lb, lc, hlv, hlb1, hlb2, hlb3, hlb4⟩ := hlk.shape
  · rw [HQE.out] at hn; cases hn
  rw [hlv] at hlk
  obtain rfl := hlv
  have hl1 : (quoteS s).2.length = 1 := by rw [HQE.out]; rfl
  have HLK := Lib.hid hlk
  have HB := Lib.hid hb1
  clear hlk hb1
  go_wp2
  go_ret2
  rw [HP.out]
  have K1 := Keep.of_below HB.out (Nat.le_refl _) Nob
  have hlk := HLK.out
  rw [hl1] at hlk
  exact ⟨_, F, rfl, hlk, HH.out.keep K1 (fun _ h => h.elim), K1.more (fun _ _ h => h.elim), fun b hb => .inl hb⟩

set_option maxHeartbeats 4000000 in
set_option maxRecDepth 100000 in
theorem putR_there (h : RTabIs limit g l F w) (s : ByteArray) (hs : s.size ≤ 140737488351232) (hq : (quoteS s).2 = []) (i : Int) (hi : idxM l s.data.toList = some i) :
    Calls Tryz.prog 59 #[.pointer (some ⟨g, 0, none⟩), .string s] w (RetPutR limit g F w (putS limit l s)) := by
  have HP := Lib.hid (show putS limit l s = (i, [], l) by unfold putS; rw [if_neg (by simp [hq]), hi])
  have HH := Lib.hid h
  have HQ := Lib.hid (quoteR_any s w hs)
  have HQE := Lib.hid hq
  have HI := Lib.hid hi
  clear h hq hi
  go_enter Tryz.func59, Tryz.ntmps59
  go_wp2_with fail
  refine HQ.out.mono ?_
  rintro e w1 ⟨lv, rfl, hlk, hb1⟩
  rw [HQE.out] at hlk
  obtain ⟨hlv, _⟩ | ⟨lb, lc, hlv, hlb1, hlb2, hlb3, hlb4⟩ := hlk.shape
  all_goals
    obtain rfl := hlv
    have K1 := Lib.hid (Keep.of_below hb1 (Nat.le_refl _) Nob)
    have HF := findR_live (HH.out.keep K1.out (fun _ h => h.elim)) s
    rw [HI.out] at HF
    have HFF := Lib.hid HF
    clear hlk hb1 HF
    go_wp2_with (go_at_call 101; refine HFF.out.mono ?_; rintro e w' ⟨rfl, rfl⟩)
    go_ret2
    rw [HP.out]
    exact ⟨_, F, rfl, LinksIs.nil _ _, HH.out.keep K1.out (fun _ h => h.elim), K1.out.more (fun _ _ h => h.elim), fun b hb => .inl hb⟩

set_option maxHeartbeats 4000000 in
set_option maxRecDepth 100000 in
theorem putR_full (h : RTabIs limit g l F w) (s : ByteArray) (hs : s.size ≤ 140737488351232) (hq : (quoteS s).2 = []) (hi : idxM l s.data.toList = none) (hf : (l.length : Int) = limit) :
    Calls Tryz.prog 59 #[.pointer (some ⟨g, 0, none⟩), .string s] w (RetPutR limit g F w (putS limit l s)) := by
  have HP := Lib.hid (show putS limit l s = (0, [⟨atomL, 0, 5⟩], l) by unfold putS; rw [if_neg (by simp [hq]), hi]; simp only; rw [if_neg (by omega)])
  have HH := Lib.hid h
  have HQ := Lib.hid (quoteR_any s w hs)
  have HQE := Lib.hid hq
  have HI := Lib.hid hi
  have hge : limit ≤ (l.length : Int) := by omega
  clear h hq hi hf
  go_enter Tryz.func59, Tryz.ntmps59
  go_wp2_with fail
  refine HQ.out.mono ?_
  rintro e w1 ⟨lv, rfl, hlk, hb1⟩
  rw [HQE.out] at hlk
  obtain ⟨hlv, _⟩ | ⟨lb, lc, hlv, hlb1, hlb2, hlb3, hlb4⟩ := hlk.shape
  all_goals
    obtain rfl := hlv
    have K1 := Lib.hid (Keep.of_below hb1 (Nat.le_refl _) Nob)
    have HF := findR_live (HH.out.keep K1.out (fun _ h => h.elim)) s
    rw [HI.out] at HF
    have HFF := Lib.hid HF
    obtain ⟨⟨sv, h1, h2, h4, h6⟩, hlo, hnf⟩ := HH.out.keep K1.out (fun _ h => h.elim)
    have c0 := h1.cell 0
    have c1 := h1.cell 1
    simp only [List.getElem?_cons_zero, List.getElem?_cons_succ] at c0 c1
    have hl := run_strs_len h2
    clear hlk hb1 HF h1 h2 hnf
    go_wp2_with (go_at_call 101; refine HFF.out.mono ?_; rintro e w' ⟨rfl, rfl⟩)
    go_quiet (fail)
    go_wp2_with (go_at_call 102; refine (no01_any _ _ _).mono ?_; rintro e w4 ⟨lv2, rfl, hlk2, hb2⟩)
    go_ret2
    rw [HP.out]
    have hwz := K1.out.size
    have K3 := (K1.out.drewN _).below hb2
    exact ⟨_, F, rfl, hlk2.base (by simpa using hwz), HH.out.keep K3 (fun _ h => h.elim), K3.more (fun _ _ h => h.elim), fun b hb => .inl hb⟩

set_option maxHeartbeats 4000000 in
set_option maxRecDepth 100000 in
theorem putR_new (h : RTabIs limit g l F w) (s : ByteArray) (hs : s.size ≤ 140737488351232) (hq : (quoteS s).2 = []) (hi : idxM l s.data.toList = none) (hf : (l.length : Int) < limit) :
    Calls Tryz.prog 59 #[.pointer (some ⟨g, 0, none⟩), .string s] w (RetPutR limit g F w (putS limit l s)) := by
  have HP := Lib.hid (show putS limit l s = ((l.length : Int), [], l ++ [s]) by unfold putS; rw [if_neg (by simp [hq]), hi]; simp only; rw [if_pos hf])
  have HH := Lib.hid h
  have HQ := Lib.hid (quoteR_any s w hs)
  have HQE := Lib.hid hq
  have HI := Lib.hid hi
  have hlt : ¬ limit ≤ (l.length : Int) := by omega
  clear h hq hi
  go_enter Tryz.func59, Tryz.ntmps59
  go_wp2_with fail
  refine HQ.out.mono ?_
  rintro e w1 ⟨lv, rfl, hlk, hb1⟩
  rw [HQE.out] at hlk
  obtain ⟨hlv, _⟩ | ⟨lb, lc, hlv, hlb1, hlb2, hlb3, hlb4⟩ := hlk.shape
  all_goals
    obtain rfl := hlv
    have K1 := Lib.hid (Keep.of_below hb1 (Nat.le_refl _) Nob)
    have HF := findR_live (HH.out.keep K1.out (fun _ h => h.elim)) s
    rw [HI.out] at HF
    have HFF := Lib.hid HF
    obtain ⟨⟨sv, h1, h2, h4, h6⟩, hlo, hnf⟩ := HH.out.keep K1.out (fun _ h => h.elim)
    have c0 := h1.cell 0
    have c1 := h1.cell 1
    simp only [List.getElem?_cons_zero, List.getElem?_cons_succ] at c0 c1
    have hl := run_strs_len h2
    have C1 := Lib.hid h1
    have S1 := Lib.hid h2
    have H6 := Lib.hid h6
    have HLO := Lib.hid hlo
    have hll : l.length ≤ 1048576 := by omega
    clear hlk hb1 HF h1 h2 hnf hlo h6
    go_wp2_with (go_at_call 101; refine HFF.out.mono ?_; rintro e w' ⟨rfl, rfl⟩)
    go_quiet (fail)
    generalize hW : World.drewN _ _ = W5 at *
    have C5 := Lib.hid (show Cells W5 g _ _ by rw [← hW]; exact C1.out.drewN _)
    have S5 := Lib.hid (show StrsIs sv l W5 by rw [← hW]; exact S1.out.drewN _)
    have K5 := Lib.hid (show Keep F w W5 by rw [← hW]; exact (K1.out.more (S' := F) (fun _ _ h => h.elim)).drewN _)
    clear hW hl
    obtain ⟨v', w6, hrun, hs6, hg6, hat⟩ := S5.out.app s (by omega)
    have nsv : sv.ownBlock ≠ some g := S5.out.ne_cells C5.out (by decide)
    have S6 := Lib.hid hs6
    have hw5 := K5.out.size
    have K6 := Lib.hid ((K5.out.alloc (.cells #[.string s] 9 (0, 0))).grown hg6 (fun k hk _ => H6.out k hk))
    have C6 := Lib.hid ((C5.out.alloc (.cells #[.string s] 9 (0, 0))).grown hg6 nsv)
    have HAT := Lib.hid hat
    have c1' := C5.out.cell 1
    have d1 := C6.out.cell 1
    have f1 := C6.out.frozen 1
    simp only [List.getElem?_cons_zero, List.getElem?_cons_succ] at c1' d1
    clear hs6 hg6 hat c0 c1
    go_wp2_with (at_builtin; refine stop ?_)
    refine Stopped.of ?_
    refine wp_app_eq rfl (.tmp 42) (.tmp 44) _ _ rfl _ _ v' w6 rfl rfl hrun ?_
    clear hrun
    obtain ⟨_, hno⟩ | ⟨sb, sc, hv', hsb, _, _⟩ := S6.out.shape
    · simp at hno
    obtain rfl := hv'
    have hl5 : ((l ++ [s]).length : Int) - 1 = l.length := by simp
    go_wp2
    go_ret2
    rw [HP.out]
    have S6' := S6.out
    have HAT' := HAT.out
    have hlen : (l ++ [s]).length = l.length + 1 := by simp
    rw [hlen] at S6' HAT'
    generalize hv' : (Value.slice (some ⟨sb, 0, none⟩) (l.length + 1) sc) = v' at *
    have CF := C6.out.set_ 1 v'
    have KF := K6.out.setCell (p := ⟨g, 1, none⟩) (fun _ => h4) v'
    have SF : StrsIs v' (l ++ [s]) (w6.setCell ⟨g, 1, none⟩ v') := S6'.frame fun b hb => Below.heap_setCell _ _ _ _ (by rintro rfl; exact S6'.ne_cells C6.out (by decide) hb)
    refine ⟨_, fun b => b = g ∨ v'.ownBlock = some b, rfl, LinksIs.nil _ _, ⟨⟨v', by simpa using CF, SF, .inl rfl, fun b hb => .inr hb⟩, ?_, ?_⟩, KF, ?_⟩
    · have := HLO.out
      refine ⟨this.1, this.2.1, ?_⟩
      simp only [hlen]; omega
    · rintro b (rfl | hb)
      · exact ⟨CF.lt, NF.cells CF (by decide)⟩
      · exact ⟨(SF.lt hb).1, NF.strs SF hb⟩
    · rintro b (rfl | hb)
      · exact .inl h4
      · rcases HAT' with e | e
        · exact .inl (H6.out b (by rw [← e]; exact hb))
        · right
          rw [e] at hb
          have := Option.some.inj hb
          omega
theorem putR_live (h : RTabIs limit g l F w) (s : ByteArray) (hs : s.size ≤ 140737488351232) :
    Calls Tryz.prog 59 #[.pointer (some ⟨g, 0, none⟩), .string s] w (RetPutR limit g F w (putS limit l s)) := by
  by_cases hq : (quoteS s).2 = []
  · cases hi : idxM l s.data.toList with
    | some i => exact putR_there h s hs hq i hi
    | none =>
      by_cases hf : (l.length : Int) = limit
      · exact putR_full h s hs hq hi hf
      · exact putR_new h s hs hq hi (by have := h.lo.2.2; omega)
  · exact putR_bad h s hs hq
end
end Go.Proofs.YtlahagabcnmdiaaGreatDoor
end
