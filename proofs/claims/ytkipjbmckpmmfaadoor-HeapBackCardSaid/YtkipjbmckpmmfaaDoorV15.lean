/- Texts laid together: TmOpen, TmX. -/
import Derived.Test.YtkipjbmckpmmfaaDoorV13
import Derived.Test.YtkipjbmckpmmfaaDoorV14
import Derived.Deep.Slices
import Derived.Deep.Fields
import Derived.ChangeSame
import Derived.Lib.SmallJoins
section
/- Terms handed in: what they give a walk. -/
open Go Go.RowKit Go.ChangeShapes Go.WideShapes Go.ChangeAt Go.Joins Go.Deep
namespace Go.Proofs.YtkipjbmckpmmfaaDoor

theorem list_choose {α : Type} {Q : Nat → α → Prop} : ∀ (n : Nat), (∀ i, i < n → ∃ t, Q i t) → ∃ l : List α, l.length = n ∧ ∀ i, (hi : i < l.length) → Q i l[i]
  | 0, _ => ⟨[], rfl, fun i hi => absurd hi (Nat.not_lt_zero _)⟩
  | n + 1, h => by
    obtain ⟨l, hl, hq⟩ := list_choose n (fun i hi => h i (Nat.lt_succ_of_lt hi))
    obtain ⟨t, ht⟩ := h n (Nat.lt_succ_self n)
    refine ⟨l ++ [t], by simp [hl], fun i hi => ?_⟩
    by_cases e : i < l.length
    · rw [List.getElem_append_left e]; exact hq i e
    · have : i = l.length := by simp at hi; omega
      subst this
      rw [List.getElem_append_right (Nat.le_refl _)]
      simpa [hl] using ht

set_option maxRecDepth 100000 in
theorem nums_field {H : Type} {enc : TypeId × Value → H} {W : World} {v : Value} {n : Nat} {y : DataW H × List MemPlace} (hf : DataW.trod enc Tryd.prog W 0 (fun _ => true) true n 24 [v] = some y) (hsz : ∀ q ∈ y.1.weights Tryd.prog 24, q ≤ reachBytes) :
    ∃ l, NumsAt (fun _ => True) v l W ∧ (∀ x ∈ y.2, x.block < W.heap.size) := by
  have c5 : Tryd.prog.cellsOf 23 = 1 := by kernel_rfl
  rcases open_ints Tryd.underlying24 Tryd.underlying23 c5 hf with ⟨hcs, hx⟩ | ⟨a, len, cap, zs, hcs, _, hl, hm, hz, hx, hcell, hwz⟩
  · obtain rfl : v = .slice none 0 0 := by simpa using hcs
    subst hx
    exact ⟨[], ⟨none, 0, rfl, ⟨Nat.le_refl _, by decide⟩, Nat.zero_le _, fun i h => absurd h (Nat.not_lt_zero _)⟩, fun x hx => by cases hx⟩
  obtain rfl : v = .slice (some a) len cap := by simpa using hcs
  subst hx
  simp only [if_true] at hz
  obtain ⟨b, off, spot⟩ := a
  have hlz : len ≤ zs.length := by omega
  have hll : (zs.take len).length = len := by rw [List.length_take]; omega
  have hby : Tryd.prog.bytesOf 23 = 4 := by kernel_rfl
  have h4 : len * 4 ≤ 140737488351232 := by
    have := hsz _ (by
      rw [DataW.weights, Tryd.underlying24]
      simp only [hby]
      exact List.mem_cons_self)
    simp [reachBytes, lits] at this
    omega
  refine ⟨zs.take len, ⟨some ⟨b, off, spot⟩, cap, by rw [hll], by rw [hll]; exact ⟨hl, h4⟩, hm, fun j hj => ?_⟩, ?_⟩
  · rw [hll] at hj
    have hspot : spot = none := by simpa [Addr.add] using World.cell?_spot (hcell 0 (by omega))
    subst hspot
    have hc := hcell j (by omega)
    rw [Lib.add_plain] at hc
    have hzj : zs.getD j 0 = zs[j]'(by omega) := by simp [List.getD, show j < zs.length by omega]
    have hw := hwz _ (List.getElem_mem (show j < zs.length by omega))
    simp [Lit.wf, IntKind.min, IntKind.max, IntKind.signed, IntKind.bits] at hw
    rw [hzj] at hc
    have hg : (zs.take len)[j]'(by rw [hll]; exact hj) = zs[j]'(by omega) := by simp
    rw [hg]
    exact ⟨by omega, by omega, b, off, rfl, trivial, hc⟩
  · intro x hx
    obtain ⟨j, hj, rfl⟩ := MemPlace.mem_row.1 hx
    have hspot : spot = none := by simpa [Addr.add] using World.cell?_spot (hcell 0 (by omega))
    subst hspot
    have hc := hcell j (by omega)
    rw [Lib.add_plain] at hc
    exact World.block_lt_of_cell? W ⟨b, off + j, none⟩ hc

set_option maxHeartbeats 1000000 in
set_option maxRecDepth 100000 in
theorem term_cells {H : Type} {enc : TypeId × Value → H} {W : World} (fuel : Nat) : ∀ (n : Nat) (cs : List Value) (x : DataW H × List MemPlace), n ≤ fuel → DataW.trod enc Tryd.prog W 0 (fun _ => true) true n 27 cs = some x →
    (∀ m ∈ x.1.weights Tryd.prog 27, m ≤ reachBytes) → ∃ t, TmAt (fun _ => True) t cs W ∧ ∀ p ∈ x.2, p.block < W.heap.size := by
  have c6 : Tryd.prog.cellsOf 27 = 6 := by kernel_rfl
  have e1 : Tryd.prog.cellsOf 22 = 1 := by kernel_rfl
  have e2 : Tryd.prog.cellsOf 2 = 1 := by kernel_rfl
  have e3 : Tryd.prog.cellsOf 9 = 1 := by kernel_rfl
  have e4 : Tryd.prog.cellsOf 23 = 1 := by kernel_rfl
  have e5 : Tryd.prog.cellsOf 24 = 1 := by kernel_rfl
  have e6 : Tryd.prog.cellsOf 25 = 1 := by kernel_rfl
  have hby : Tryd.prog.bytesOf 27 = 88 := by kernel_rfl
  induction fuel with
  | zero =>
    intro n cs x hn h
    obtain rfl : n = 0 := by omega
    simp [DataW.trod] at h
  | succ fuel ih =>
    intro n cs x hn h hsz
    obtain ⟨xs, m, rfl, hx, hlen, hxl, hg⟩ := DataW.trod_struct Tryd.underlying27 h
    rw [c6] at hlen
    match cs, hlen, xs, hxl with
    | [a0, a1, a2, a3, a4, a5], _, [y0, y1, y2, y3, y4, y5], _ =>
      have g0 : DataW.trod enc Tryd.prog W 0 (fun _ => true) true m 22 (([a0, a1, a2, a3, a4, a5].drop 0).take (Tryd.prog.cellsOf 22)) = [y0, y1, y2, y3, y4, y5][0]? := hg 0 _ rfl
      have g1 : DataW.trod enc Tryd.prog W 0 (fun _ => true) true m 2 (([a0, a1, a2, a3, a4, a5].drop 1).take (Tryd.prog.cellsOf 2)) = [y0, y1, y2, y3, y4, y5][1]? := hg 1 _ rfl
      have g2 : DataW.trod enc Tryd.prog W 0 (fun _ => true) true m 9 (([a0, a1, a2, a3, a4, a5].drop 2).take (Tryd.prog.cellsOf 9)) = [y0, y1, y2, y3, y4, y5][2]? := hg 2 _ rfl
      have g3 : DataW.trod enc Tryd.prog W 0 (fun _ => true) true m 23 (([a0, a1, a2, a3, a4, a5].drop 3).take (Tryd.prog.cellsOf 23)) = [y0, y1, y2, y3, y4, y5][3]? := hg 3 _ rfl
      have g4 : DataW.trod enc Tryd.prog W 0 (fun _ => true) true m 24 (([a0, a1, a2, a3, a4, a5].drop 4).take (Tryd.prog.cellsOf 24)) = [y0, y1, y2, y3, y4, y5][4]? := hg 4 _ rfl
      have g5 : DataW.trod enc Tryd.prog W 0 (fun _ => true) true m 25 (([a0, a1, a2, a3, a4, a5].drop 5).take (Tryd.prog.cellsOf 25)) = [y0, y1, y2, y3, y4, y5][5]? := hg 5 _ rfl
      simp only [e1, e2, e3, e4, e5, e6, List.drop_zero, List.drop_succ_cons, List.take_succ_cons, List.take_zero, List.getElem?_cons_zero, List.getElem?_cons_succ] at g0 g1 g2 g3 g4 g5
      obtain ⟨k, h0, rfl, w0⟩ := DataW.trod_int Tryd.underlying22 g0
      obtain ⟨i, h1, rfl, w1⟩ := DataW.trod_int Tryd.underlying2 g1
      obtain ⟨s, h2, rfl, _⟩ := DataW.trod_string Tryd.underlying9 g2
      obtain ⟨c, h3, rfl, w3⟩ := DataW.trod_int Tryd.underlying23 g3
      have hnw : ∀ q ∈ y4.1.weights Tryd.prog 24, q ≤ reachBytes := fun q hq => hsz q (by
        rw [hx, DataW.weights, Tryd.underlying27]
        simp [DataW.weightsEach, hq])
      obtain ⟨ns, hns, hp4⟩ := nums_field g4 hnw
      simp only [List.cons.injEq, and_true] at h0 h1 h2 h3
      subst h0 h1 h2 h3
      simp [Lit.wf, IntKind.min, IntKind.max, IntKind.signed, IntKind.bits] at w0 w1 w3
      subst hx
      have hws : ∀ q ∈ y5.1.weights Tryd.prog 25, q ≤ reachBytes := fun q hq => hsz q (by
        rw [DataW.weights, Tryd.underlying27]
        simp [DataW.weightsEach, hq])
      have hss : s.size ≤ 140737488351232 := by
        have := hsz s.data.toList.length (by rw [DataW.weights, Tryd.underlying27]; simp [DataW.weightsEach, DataW.weights])
        simpa [reachBytes] using this
      have hpart : Part k i s c := ⟨by omega, by omega, by omega, by omega, hss, by omega, by omega⟩
      rcases DataW.trod_slice Tryd.underlying25 g5 with ⟨hcs, hx5⟩ | ⟨a, len, cap, elems, rest, n', hn', hcs, hx5, _, hl, hm, hel, hget, hsp, _⟩
      · obtain rfl : a5 = .slice none 0 0 := by simpa using hcs
        subst hx5
        refine ⟨.mk k i s c ns [], ?_, ?_⟩
        · rw [TmAt]
          exact ⟨hpart, a4, none, 0, rfl, hns, ⟨Nat.le_refl _, Nat.zero_le _⟩, by decide, by rw [ArgsAt]; trivial⟩
        · intro p hp
          simp at hp
          exact hp4 p hp
      · obtain rfl : a5 = .slice (some a) len cap := by simpa using hcs
        subst hx5
        obtain ⟨hrl, hrest⟩ := hsp rfl
        have hel2 : ∀ j, j < cap → ∃ e cs', (elems ++ rest)[j]? = some e ∧ W.cells? 0 (a.add (j * 6)) 6 = some cs' ∧ DataW.trod enc Tryd.prog W 0 (fun _ => true) true n' 27 cs' = some e := by
          intro j hj
          by_cases hjl : j < len
          · have h := hget j hjl
            rw [c6] at h
            have he : elems[j]? = some (elems[j]'(by omega)) := List.getElem?_eq_getElem (by omega)
            rw [he] at h
            obtain ⟨cs', hc, ht⟩ := Option.bind_eq_some_iff.1 h
            exact ⟨_, cs', by rw [List.getElem?_append_left (by omega)]; exact he, hc, ht⟩
          · have h := hrest (j - len) (by omega)
            rw [c6, show len + (j - len) = j by omega] at h
            have he : rest[j - len]? = some (rest[j - len]'(by omega)) := List.getElem?_eq_getElem (by omega)
            rw [he] at h
            obtain ⟨cs', hc, ht⟩ := Option.bind_eq_some_iff.1 h
            exact ⟨_, cs', by rw [List.getElem?_append_right (by omega), hel]; exact he, hc, ht⟩
        have hw5 : ∀ e ∈ elems ++ rest, ∀ q ∈ e.1.weights Tryd.prog 27, q ≤ reachBytes := by
          intro e he q hq
          refine hws q ?_
          rw [DataW.weights, Tryd.underlying25]
          simp only [List.mem_cons, List.mem_append]
          rcases List.mem_append.1 he with he | he
          · exact .inr (.inl (weightsAll_mem (List.mem_map.2 ⟨e, he, rfl⟩) q hq))
          · exact .inr (.inr (weightsAll_mem (List.mem_map.2 ⟨e, he, rfl⟩) q hq))
        have hcap : cap * 88 ≤ 140737488351232 := by
          have := hws (((elems.map (·.1)).length + (rest.map (·.1)).length) * 88) (by
            rw [DataW.weights, Tryd.underlying25]
            simp only [hby]
            exact List.mem_cons_self)
          simp [reachBytes] at this
          omega
        have hall : ∀ j, j < cap → ∃ t cs', W.cells? 0 (a.add (j * 6)) 6 = some cs' ∧ TmAt (fun _ => True) t cs' W ∧ ∀ e, (elems ++ rest)[j]? = some e → ∀ p ∈ e.2, p.block < W.heap.size := by
          intro j hj
          obtain ⟨e, cs', he, hc, ht⟩ := hel2 j hj
          obtain ⟨t, ht1, ht2⟩ := ih n' cs' e (by omega) ht (hw5 e (List.mem_of_getElem? he))
          exact ⟨t, cs', hc, ht1, fun e' he' => by rw [he] at he'; cases he'; exact ht2⟩
        obtain ⟨b, off, spot⟩ := a
        have hspot : 0 < cap → spot = none := fun h0 => by
          obtain ⟨_, cs', hc, _⟩ := hall 0 h0
          obtain ⟨_, hcl, hat⟩ := World.cells?_some hc
          have h1 := hat 0 (by decide)
          rw [List.getElem?_eq_getElem (by omega)] at h1
          simpa [Addr.add] using World.cell?_spot h1
        obtain ⟨l, hll, hl2⟩ := list_choose len (fun j hj => hall j (by omega))
        refine ⟨.mk k i s c ns l, ?_, ?_⟩
        · rw [TmAt]
          refine ⟨hpart, a4, some ⟨b, off, spot⟩, cap, by rw [hll], hns, ⟨by omega, hm⟩, by omega, ?_⟩
          by_cases h0 : 0 < len
          · have hs := hspot (by omega)
            subst hs
            refine ArgsAt.mk trivial fun j hj => ?_
            obtain ⟨cs', hc, ht, _⟩ := hl2 j hj
            obtain ⟨_, hcl, hat⟩ := World.cells?_some hc
            refine ⟨cs', fun q hq => ?_, ht⟩
            have := hat q hq
            rw [Lib.add_plain, Lib.add_plain] at this
            rw [← this, Nat.add_assoc]
          · obtain rfl : l = [] := List.eq_nil_of_length_eq_zero (by omega)
            rw [ArgsAt]; trivial
        · intro p hp
          simp only [List.flatMap_cons, List.flatMap_nil, List.append_nil, List.nil_append, List.mem_append] at hp
          rcases hp with hp | hp | hp
          · exact hp4 p hp
          · obtain ⟨j, hj, rfl⟩ := MemPlace.mem_row.1 hp
            rw [c6] at hj
            obtain ⟨_, cs', hc, _⟩ := hall (j / 6) (by omega)
            obtain ⟨_, hcl, hat⟩ := World.cells?_some hc
            have hs := hspot (by omega)
            subst hs
            have h1 := hat 0 (by decide)
            rw [List.getElem?_eq_getElem (by omega), Lib.add_plain, Lib.add_plain] at h1
            exact World.block_lt_of_cell? W ⟨b, off + j / 6 * 6 + 0, none⟩ h1
          · obtain ⟨e, he, hp⟩ := List.mem_flatMap.1 hp
            obtain ⟨j, hj, rfl⟩ := List.getElem_of_mem he
            obtain ⟨_, _, _, _, h3⟩ := hall j (by rw [List.length_append] at hj; omega)
            exact h3 _ (List.getElem?_eq_getElem hj) p hp
end Go.Proofs.YtkipjbmckpmmfaaDoor
end
section
/- A term handed in by value: what it gives a walk. -/
open Go Go.RowKit Go.ChangeShapes Go.WideShapes Go.ChangeAt Go.Joins Go.Deep
namespace Go.Proofs.YtkipjbmckpmmfaaDoor
set_option maxRecDepth 100000 in
theorem term_open {H : Type} {enc : TypeId × Value → H} {W : World} {v : Value} {d : DataW H} {ps : List MemPlace} {r : Reach} {b0 : Nat} (hval : Value.okWide Tryd.prog W r b0 27 v)
    (h : DataW.Trod enc Tryd.prog W 0 (fun _ => true) true 27 v d ps) (hsz : ∀ n ∈ d.weights Tryd.prog 27, n ≤ reachBytes) :
    (∃ (t : Tm) (vs : List Value), v = .agg vs.toArray ∧ TmAt (fun b => b < W.heap.size) t vs W) ∧ ∀ x ∈ ps, x.block < W.heap.size := by
  obtain ⟨cs, rfl, hcs⟩ := okWide_struct Tryd.underlying27 hval
  obtain ⟨fuel, hf⟩ := h
  obtain ⟨l⟩ := cs
  obtain ⟨t, ht, hp⟩ := term_cells fuel fuel l (d, ps) (Nat.le_refl _) hf hsz
  exact ⟨⟨t, l, rfl, ht.mono (fun b hb _ => hb)⟩, hp⟩
theorem term_row : 27 < Tryd.prog.types.size := by rw [show Tryd.prog.types.size = 201 by kernel_rfl]; decide
end Go.Proofs.YtkipjbmckpmmfaaDoor
end
