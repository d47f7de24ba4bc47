/- Texts laid together: Cas. -/
import Derived.Test.YtlahagabcnmdiaaGreatDoorV12
import Derived.Test.YtlahagabcnmdiaaGreatDoorV32
section
/- A case of heddlelaw04 handed in by value: what it gives a walk. -/
open Go Go.RowKit Go.ChangeShapes Go.WideShapes Go.ChangeAt Go.Joins Go.Deep
namespace Go.Proofs.YtlahagabcnmdiaaGreatDoor
set_option maxRecDepth 100000 in
theorem strings_field {H : Type} {enc : TypeId × Value → H} {W : World} {v : Value} {n : Nat} {y : DataW H × List MemPlace} (hf : DataW.trod enc Tryz.prog W 0 (fun _ => true) true n 56 [v] = some y) :
    ∃ l, SArgIs v l W ∧ (∀ x ∈ y.2, x.block < W.heap.size) ∧ (∀ s ∈ l, s.size ∈ y.1.weights Tryz.prog 56) ∧ (l ≠ [] → ∃ q ∈ y.1.weights Tryz.prog 56, l.length ≤ q) := by
  have c5 : Tryz.prog.cellsOf 9 = 1 := by kernel_rfl
  have hby : Tryz.prog.bytesOf 9 = 16 := by kernel_rfl
  rcases open_strings Tryz.underlying56 Tryz.underlying9 c5 hf with ⟨hcs, hx⟩ | ⟨a, len, cap, ss, hcs, _, hl, hm, hz, hx, hcell, hwz⟩
  · obtain rfl : v = .slice none 0 0 := by simpa using hcs
    subst hx
    exact ⟨[], ⟨none, 0, rfl, fun j hj => absurd hj (Nat.not_lt_zero _)⟩, (fun x hx => by cases hx), (fun s hs => by cases hs), fun h => absurd rfl h⟩
  obtain rfl : v = .slice (some a) len cap := by simpa using hcs
  subst hx
  simp only [if_true] at hz
  obtain ⟨b, off, spot⟩ := a
  have hlz : len ≤ ss.length := by omega
  have hll : (ss.take len).length = len := by rw [List.length_take]; omega
  have hw : (DataW.slice (strs (ss.take len)) (strs (ss.drop len)) : DataW H).weights Tryz.prog 56 =
      ((strs (H := H) (ss.take len)).length + (strs (H := H) (ss.drop len)).length) * 16 :: (DataW.weightsAll Tryz.prog 9 (strs (H := H) (ss.take len)) ++ DataW.weightsAll Tryz.prog 9 (strs (H := H) (ss.drop len))) := by
    rw [DataW.weights, Tryz.underlying56]
    simp only [hby]
  refine ⟨ss.take len, ⟨some ⟨b, off, spot⟩, cap, by rw [hll], fun j hj => ?_⟩, fun x hx => ?_, fun s hs => ?_, fun _ => ?_⟩
  · rw [hll] at hj
    have hspot : spot = none := by simpa [Addr.add] using World.cell?_spot (hcell 0 (by omega))
    subst hspot
    refine ⟨b, off, rfl, ?_⟩
    have hc := hcell j (by omega)
    rw [WideShapes.add_plain] at hc
    rw [hc]
    have hzj : ss.getD j ByteArray.empty = ss[j]'(by omega) := by simp [List.getD, show j < ss.length by omega]
    rw [hzj]
    simp
  · obtain ⟨j, hj, rfl⟩ := MemPlace.mem_row.1 hx
    have hspot : spot = none := by simpa [Addr.add] using World.cell?_spot (hcell 0 (by omega))
    subst hspot
    have hc := hcell j hj
    rw [WideShapes.add_plain] at hc
    exact World.block_lt_of_cell? W ⟨b, off + j, none⟩ hc
  · rw [hw]
    refine List.mem_cons_of_mem _ (List.mem_append_left _ (weightsAll_mem (d := .lit (.string s.data.toList)) (List.mem_map.2 ⟨s, hs, rfl⟩) _ ?_))
    simp [DataW.weights]
  · refine ⟨_, by rw [hw]; exact List.mem_cons_self, ?_⟩
    simp only [strs, List.length_map]
    omega
set_option maxRecDepth 100000 in
theorem case_open {H : Type} {enc : TypeId × Value → H} {W : World} {v : Value} {d : DataW H} {ps : List MemPlace} {r : Reach} {b0 : Nat} (hval : Value.okWide Tryz.prog W r b0 58 v)
    (h : DataW.Trod enc Tryz.prog W 0 (fun _ => true) true 58 v d ps) (hsz : ∀ n ∈ d.weights Tryz.prog 58, n ≤ reachBytes) :
    (∃ (bl : List UInt8) (bv : Value) (limit : Int) (sl : List ByteArray) (hv : Value), v = .agg #[bv, .int .i64 limit, hv] ∧ RSl bv bl W ∧ SArgIs hv sl W ∧ sl.length ≤ 140737488351232 ∧ (∀ s ∈ sl, s.size ≤ 140737488351232) ∧ bl.length ≤ 140737488351232) ∧ ∀ x ∈ ps, x.block < W.heap.size := by
  obtain ⟨v0, v1, v2, y0, y1, y2, n, rfl, rfl, rfl, t0, t1, t2⟩ := open_agg3 Tryz.underlying58 (by kernel_rfl) (by kernel_rfl) hval h
  rw [DataW.weights, Tryz.underlying58] at hsz
  simp only [List.map_cons, List.map_nil] at hsz
  obtain ⟨bl, hl, hp, hq⟩ := bytes_field t0
  obtain ⟨k1, e1, rfl, w1⟩ := DataW.trod_int Tryz.underlying3 t1
  obtain ⟨sl, gl, gp, gs, gq⟩ := strings_field t2
  obtain rfl : v1 = .int .i64 k1 := by simpa using e1
  refine ⟨⟨bl, v0, k1, sl, v2, rfl, hl, gl, ?_, fun s hs => ?_, ?_⟩, fun x hx => ?_⟩
  · by_cases hn : sl = []
    · subst hn; exact Nat.zero_le _
    · obtain ⟨q, hq1, hq2⟩ := gq hn
      have := hsz q (by simp [DataW.weightsEach, DataW.weights, hq1])
      simp [reachBytes] at this
      omega
  · have hm := gs s hs
    generalize s.size = z at hm ⊢
    have := hsz z (by simp [DataW.weightsEach, DataW.weights, hm])
    simpa [reachBytes] using this
  · by_cases hn : bl = []
    · subst hn; exact Nat.zero_le _
    · obtain ⟨q, hq1, hq2⟩ := hq hn
      have := hsz q (by simp [DataW.weightsEach, DataW.weights, hq1])
      simp [reachBytes] at this
      omega
  · rcases List.mem_append.1 (show x ∈ y0.2 ++ (y2.2) by simpa using hx) with hx | hx
    · exact hp x hx
    · exact gp x hx
theorem case_row : 58 < Tryz.prog.types.size := by rw [show Tryz.prog.types.size = 279 by kernel_rfl]; decide
end Go.Proofs.YtlahagabcnmdiaaGreatDoor
end
