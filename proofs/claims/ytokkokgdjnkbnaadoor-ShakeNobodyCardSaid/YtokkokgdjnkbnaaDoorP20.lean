/- Texts laid together: BBs. -/
import Derived.Test.YtokkokgdjnkbnaaDoorP19
import Derived.Test.YtokkokgdjnkbnaaDoorP13
import Derived.WideShapes
section
/- Lists of lists of bytes. No function of the program is looked at here. -/
open Go Go.RowKit
namespace Go.Proofs.YtokkokgdjnkbnaaDoor

/-- the value v is a list of lists of bytes that the call owns: nil, or in a block from base on -/
def BBs (base : Nat) (v : Value) (l : List (List UInt8)) (w : World) : Prop :=
  ∃ vs : List Value, vs.length = l.length ∧ w.ownsRow base 25 1 v l.length vs ∧ ∀ i (hv : i < vs.length) (hl : i < l.length), BufIs 0 vs[i] l[i] w
theorem BBs.nil (base : Nat) (w : World) : BBs base (.slice none 0 0) [] w := ⟨[], rfl, ⟨rfl, .inl ⟨rfl, rfl⟩⟩, fun _ h => absurd h (Nat.not_lt_zero _)⟩
theorem own_one {base : Nat} {v : Value} {l : List UInt8} {w : World} (h : BufIs base v l w) : v.oneCell' = true := by
  rcases h.shape with ⟨rfl, _⟩ | ⟨g, c, rfl, _⟩ <;> rfl
theorem BBs.one {l : List (List UInt8)} {w : World} (vs : List Value) (hn : vs.length = l.length) (he : ∀ i (hv : i < vs.length) (hl : i < l.length), BufIs 0 vs[i] l[i] w) : ∀ u ∈ vs, u.oneCell' = true := by
  intro u hu
  obtain ⟨i, hi, rfl⟩ := List.getElem_of_mem hu
  exact own_one (he i hi (by omega))
theorem BufIs.etype {base : Nat} {v : Value} {l : List UInt8} {w : World} (h : BufIs base v l w) {g : Nat} (hg : v.ownBlock = some g) : ∃ cur, w.heap[g]? = some (.cells cur 5 (0, 0)) := by
  obtain ⟨_, ⟨hv, _⟩ | ⟨g', cap, cur, hv, hbg, hcell, _⟩⟩ := h
  · rw [hv] at hg; cases hg
  · rw [hv] at hg
    cases hg
    exact ⟨cur, hcell⟩
theorem BufIs.ne_cells {base : Nat} {v : Value} {l : List UInt8} {w : World} (h : BufIs base v l w) {g : Nat} {t : TypeId} {cs : Array Value} {f : Nat × Nat} (hc : w.heap[g]? = some (.cells cs t f)) (ht : t ≠ 5) : v.ownBlock ≠ some g := by
  intro e
  obtain ⟨cur, hcur⟩ := h.etype e
  rw [hc] at hcur
  injection hcur with hcur
  injection hcur with _ h2
  exact ht h2
theorem BufIs.keep {S : Nat → Prop} {base : Nat} {v : Value} {l : List UInt8} {w w' : World} (h : BufIs base v l w) (k : Keep S w w') (hS : ∀ g, v.ownBlock = some g → ¬ S g) : BufIs base v l w' :=
  h.frame fun g hg => k.block g (h.block hg).2 (hS g hg)
theorem BufIs.keepC {base : Nat} {v : Value} {l : List UInt8} {w w' : World} (h : BufIs base v l w) {g : Nat} (k : Keep (Blk1 g) w w') {t : TypeId} {cs : List Value} (hc : Cells w g t cs) (ht : t ≠ 5) : BufIs base v l w' :=
  h.keep k fun j hj e => h.ne_cells hc ht (by rw [hj]; exact congrArg some e)
theorem BBs.block {base : Nat} {v : Value} {l : List (List UInt8)} {w : World} (h : BBs base v l w) {g : Nat} (hg : v.ownBlock = some g) : base ≤ g ∧ g < w.heap.size ∧ ∃ cur, w.heap[g]? = some (.cells cur 25 (0, 0)) := by
  obtain ⟨vs, _, ⟨_, ⟨hv, _⟩ | ⟨g', cap, cur, hv, hbg, hcell, _⟩⟩, _⟩ := h
  · rw [hv] at hg; cases hg
  · rw [hv] at hg
    cases hg
    exact ⟨hbg, (Array.getElem?_eq_some_iff.1 hcell).1, cur, hcell⟩
theorem BBs.frame {base : Nat} {v : Value} {l : List (List UInt8)} {w w' : World} (h : BBs base v l w) (hb : ∀ g, v.ownBlock = some g → w'.heap[g]? = w.heap[g]?) (he : ∀ u b, BufIs 0 u b w → BufIs 0 u b w') : BBs base v l w' := by
  obtain ⟨vs, hn, ⟨h1, h2⟩, h3⟩ := h
  refine ⟨vs, hn, ⟨h1, h2.imp_right ?_⟩, fun i hv hl => he _ _ (h3 i hv hl)⟩
  rintro ⟨g, cap, cur, hv, hbg, hg, rest⟩
  exact ⟨g, cap, cur, hv, hbg, (hb g (by rw [hv]; rfl)).trans hg, rest⟩
theorem BBs.below {base B : Nat} {v : Value} {l : List (List UInt8)} {w w' : World} (h : BBs base v l w) (hb : Below B w w') (hB : w.heap.size ≤ B) : BBs base v l w' :=
  h.frame (fun _ hg => hb.block _ (Nat.lt_of_lt_of_le (h.block hg).2.1 hB)) (fun _ _ hu => hu.below hb hB)
theorem BBs.alloc {base : Nat} {v : Value} {l : List (List UInt8)} {w : World} (h : BBs base v l w) (o : Obj) : BBs base v l (w.alloc o) := h.below ((Below.refl _ _).alloc (Nat.le_refl _) o) (Nat.le_refl _)
theorem BBs.drewN {base : Nat} {v : Value} {l : List (List UInt8)} {w : World} (h : BBs base v l w) (n : Nat) : BBs base v l (w.drewN n) := h.frame (fun _ _ => rfl) (fun _ _ hu => hu.drewN n)
theorem BBs.base {base base' : Nat} {v : Value} {l : List (List UInt8)} {w : World} (h : BBs base v l w) (hb : base' ≤ base) : BBs base' v l w := by
  obtain ⟨vs, hn, ⟨h1, h2⟩, h3⟩ := h
  refine ⟨vs, hn, ⟨h1, h2.imp_right ?_⟩, h3⟩
  rintro ⟨g, cap, cur, hv, hbg, rest⟩
  exact ⟨g, cap, cur, hv, by omega, rest⟩
theorem BBs.keepC {base : Nat} {v : Value} {l : List (List UInt8)} {w w' : World} (h : BBs base v l w) {g : Nat} (k : Keep (Blk1 g) w w') {t : TypeId} {cs : List Value} (hc : Cells w g t cs) (ht : t ≠ 5) (ht2 : t ≠ 25) : BBs base v l w' :=
  h.frame (fun j hj => k.block j (h.block hj).2.1 (fun e => by
    obtain ⟨_, _, cur, hcur⟩ := h.block hj
    cases e
    unfold Cells at hc
    rw [hc] at hcur
    injection hcur with hcur
    injection hcur with _ h2
    exact ht2 h2)) (fun _ _ hu => hu.keepC k hc ht)
theorem BBs.shape {base : Nat} {v : Value} {l : List (List UInt8)} {w : World} (h : BBs base v l w) : (v = .slice none 0 0 ∧ l = []) ∨ ∃ g c, v = .slice (some ⟨g, 0, none⟩) l.length c ∧ base ≤ g ∧ g < w.heap.size ∧ l.length ≤ c ∧ c ≤ maxLen := by
  obtain ⟨vs, hn, ⟨h1, ⟨hv, hn0⟩ | ⟨g, cap, cur, hv, hbg, hcell, hnn, hc, _⟩⟩, _⟩ := h
  · exact .inl ⟨hv, List.eq_nil_of_length_eq_zero hn0⟩
  · exact .inr ⟨g, cap, hv, hbg, (Array.getElem?_eq_some_iff.1 hcell).1, hnn, hc⟩
/-- a list's i-th, as the walk reads it -/
theorem BBs.at_ {base : Nat} {l : List (List UInt8)} {w : World} {g n c : Nat} (h : BBs base (.slice (some ⟨g, 0, none⟩) n c) l w) (i : Nat) (hi : i < l.length) : ∃ u, w.cell? ⟨g, i, none⟩ = some u ∧ BufIs 0 u l[i] w := by
  obtain ⟨vs, hn, ⟨h1, ⟨h2, _⟩ | ⟨g', cap, cur, hv, hbg, hcell, hnn, hc, hcs, htake⟩⟩, h3⟩ := h
  · cases h2
  · cases hv
    refine ⟨vs[i]'(by omega), ?_, h3 i (by omega) hi⟩
    have h2 : cur.toList[i]? = some (vs[i]'(by omega)) := by
      rw [← List.getElem?_eq_getElem (by omega), ← htake, List.getElem?_take_of_lt (by omega)]
    have h3 : cur[i]? = some (vs[i]'(by omega)) := by rw [← h2]; simp
    simp only [World.cell?, hcell]
    simpa using h3
theorem BBs.lit {base : Nat} {w : World} {u : Value} {b : List UInt8} (hu : BufIs 0 u b w) (hb : base ≤ w.heap.size) :
    BBs base (.slice (some ⟨w.heap.size, 0, none⟩) 1 1) [b] (w.alloc (.cells #[u] 25 (0, 0))) := by
  refine ⟨[u], rfl, ⟨rfl, .inr ⟨w.heap.size, 1, _, rfl, hb, alloc_get _ _, Nat.le_refl _, by decide, rfl, rfl⟩⟩, ?_⟩
  intro i hv hl
  match i, hv, hl with
  | 0, _, _ => exact hu.alloc _
  | i + 1, hv, _ => simp at hv
theorem run_bbs_len {base : Nat} {v : Value} {l : List (List UInt8)} {w : World} (h : BBs base v l w) (w2 : World) : (Builtin.len_ #[49] 3 #[v]).run Tryd.prog w2 = .ok (.int .i64 l.length) w2 := by
  have hu := Tryd.underlying49
  rcases h.shape with ⟨rfl, rfl⟩ | ⟨g, c, rfl, _⟩
  · go_simp
  · go_simp
theorem Tryd.infoBytes : (Tryd.prog.info? 25).map (fun i => (i.zero, i.size, i.bytes)) = some (some (.slice none 0 0), 1, 24) := by kernel_rfl

theorem BBs.app {base base' : Nat} {v lv : Value} {l d : List (List UInt8)} {w : World} (h : BBs base v l w) (hs : BBs base' lv d w) (hl : l.length + d.length ≤ 1000) (hB : base ≤ w.heap.size) :
    ∃ v' w', (Builtin.append_ #[49, 49] 49 #[v, lv]).run Tryd.prog w = .ok v' w' ∧ BBs base v' (l ++ d) w' ∧ w.grownBy w' v.ownBlock := by
  obtain ⟨i0, hi, hz0, hz1, hz2⟩ := info_parts Tryd.infoBytes
  rcases hs.shape with ⟨rfl, rfl⟩ | ⟨g, c, rfl, hbg, hgw, hgc, hgm⟩
  · refine ⟨v, w, ?_, by simpa using h, ⟨rfl, rfl, rfl, Nat.le_refl _, fun _ _ _ => rfl⟩⟩
    have ht := Tryd.underlying49
    rcases h.shape with ⟨rfl, rfl⟩ | ⟨g, cap, rfl, _, _, hnc, _⟩
    · simp [Builtin.append_, run_underlying ht, sizeOf, typeInfo, hi, Builtin.lenOf, Builtin.firstCells]
    · simp [Builtin.append_, run_underlying ht, sizeOf, typeInfo, hi, Builtin.lenOf, Builtin.firstCells, hnc, storeCells]
  · obtain ⟨ds, hdn, hdo, hde⟩ := hs
    have hblk : ∀ {g : Nat}, v.ownBlock = some g → base ≤ g ∧ g < w.heap.size ∧ ∃ cur, w.heap[g]? = some (.cells cur 25 (0, 0)) := fun hg => h.block hg
    obtain ⟨vs, hvn, hvo, hve⟩ := h
    have hcells : ∀ j u, ds[j]? = some u → w.cell? ((⟨g, 0, none⟩ : Addr).add j) = some u := by
      obtain ⟨h1, ⟨h2, _⟩ | ⟨g', cap, cur, hv, hbg, hcell, hn, hc, hcs, htake⟩⟩ := hdo
      · cases h2
      · cases hv
        intro j u hu
        have hlt : j < ds.length := by
          rcases Nat.lt_or_ge j ds.length with h | h
          · exact h
          · rw [List.getElem?_eq_none h] at hu; cases hu
        rw [WideShapes.add_plain, Nat.zero_add]
        have e : (cur.toList.take (d.length * 1))[j]? = some u := by rw [htake]; exact hu
        rw [List.getElem?_take_of_lt (by omega)] at e
        simp only [World.cell?, hcell]
        simpa using e
    obtain ⟨v', w', hr, h2, h3, _⟩ := run_append_own_at (P := Tryd.prog) w base 49 49 25 i0 _ 1 24 Tryd.underlying49 hi hz0 hz1 hz2 rfl (by decide) v l.length vs hvo ⟨g, 0, none⟩ d.length c ds (by omega) hcells (BBs.one ds hdn hde) (by unfold maxLen; omega) (by omega) hB
    have hkeep : ∀ u b, BufIs 0 u b w → BufIs 0 u b w' := fun u b hu => hu.frame fun j hj => h3.block j (hu.block hj).2 (fun e => by
      obtain ⟨_, _, cur, hcur⟩ := hblk e.symm
      exact hu.ne_cells hcur (by decide) hj)
    refine ⟨v', w', hr, ⟨vs ++ ds, by simp [hvn, hdn], ?_, ?_⟩, h3⟩
    · rw [List.length_append]; exact h2
    · intro i hv hl
      by_cases hi2 : i < vs.length
      · rw [List.getElem_append_left hi2, List.getElem_append_left (by omega)]
        exact hkeep _ _ (hve i hi2 (by omega))
      · rw [List.getElem_append_right (by omega), List.getElem_append_right (by omega)]
        simp only [hvn]
        exact hkeep _ _ (hde _ _ _)
end Go.Proofs.YtokkokgdjnkbnaaDoor
end
