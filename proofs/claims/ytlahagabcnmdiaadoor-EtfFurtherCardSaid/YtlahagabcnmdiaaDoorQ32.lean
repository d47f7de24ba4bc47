/- Texts laid together: Bytes, Rb. -/
import Derived.Test.YtlahagabcnmdiaaDoorQ12
import Derived.ProofKit
import Derived.ChangeSlices
import Derived.ChangeOld
import Derived.Carry
import Derived.Lib.SmallJoins
section
/- A []byte argument: what it gives a walk. -/
open Go Go.RowKit Go.ChangeShapes Go.WideShapes Go.ChangeAt
namespace Go.Proofs.YtlahagabcnmdiaaDoor

set_option maxRecDepth 100000 in
theorem bytes_open {H : Type} {enc : TypeId × Value → H} {W : World} {v : Value} {d : DataW H} {ps : List MemPlace} {r : Reach} {b0 : Nat} (hval : Value.okWide Tryd.prog W r b0 64 v)
    (h : DataW.Trod enc Tryd.prog W 0 (fun _ => true) true 64 v d ps) : (∃ l, SliceIs v l W) ∧ ∀ x ∈ ps, x.block < W.heap.size := by
  obtain ⟨a0, len, cap, rfl⟩ := okWide_slice Tryd.underlying64 hval
  obtain ⟨fuel, hf⟩ := h
  have c5 : Tryd.prog.cellsOf 5 = 1 := by kernel_rfl
  rcases open_ints Tryd.underlying64 Tryd.underlying5 c5 hf with ⟨hcs, hx⟩ | ⟨a, len', cap', zs, hcs, _, hl, hm, hz, hx, hcell, hwz⟩
  · simp [Value.cells] at hcs
    obtain ⟨rfl, rfl, rfl⟩ := hcs
    simp only [Prod.mk.injEq] at hx
    obtain ⟨rfl, rfl⟩ := hx
    exact ⟨⟨[], none, 0, rfl, fun j hj => absurd hj (Nat.not_lt_zero _)⟩, fun x hx => by cases hx⟩
  simp [Value.cells] at hcs
  obtain ⟨rfl, rfl, rfl⟩ := hcs
  simp only [Prod.mk.injEq] at hx
  obtain ⟨rfl, rfl⟩ := hx
  simp only [if_true] at hz
  obtain ⟨b, off, spot⟩ := a
  have hlz : len ≤ zs.length := by omega
  constructor
  · have hll : ((zs.take len).map fun z => UInt8.ofNat z.toNat).length = len := by rw [List.length_map, List.length_take]; omega
    refine ⟨(zs.take len).map fun z => UInt8.ofNat z.toNat, some ⟨b, off, spot⟩, cap, by rw [hll], fun j hj => ?_⟩
    rw [hll] at hj
    have hspot : spot = none := by simpa [Addr.add] using World.cell?_spot (hcell 0 (by omega))
    subst hspot
    refine ⟨b, off, rfl, ?_⟩
    have hc := hcell j (by omega)
    rw [Lib.add_plain] at hc
    rw [hc]
    have hzj : zs.getD j 0 = zs[j]'(by omega) := by simp [List.getD, show j < zs.length by omega]
    have hw := hwz _ (List.getElem_mem (show j < zs.length by omega))
    simp [Lit.wf, IntKind.min, IntKind.max, IntKind.signed, IntKind.bits] at hw
    rw [hzj]
    simp only [List.getElem_map, List.getElem_take, byteV]
    congr 2
    simp
    omega
  · intro x hx
    obtain ⟨j, hj, rfl⟩ := MemPlace.mem_row.1 hx
    have hspot : spot = none := by simpa [Addr.add] using World.cell?_spot (hcell 0 (by omega))
    subst hspot
    have hc := hcell j hj
    rw [Lib.add_plain] at hc
    exact World.block_lt_of_cell? W ⟨b, off + j, none⟩ hc
theorem bytes_row : 64 < Tryd.prog.types.size := by rw [show Tryd.prog.types.size = 232 by kernel_rfl]; decide
end Go.Proofs.YtlahagabcnmdiaaDoor
end
section
/- Bytes handed in: what they give a walk. -/
open Go Go.RowKit Go.ChangeShapes Go.WideShapes Go.ChangeAt Go.Joins Go.Deep
namespace Go.Proofs.YtlahagabcnmdiaaDoor
set_option maxRecDepth 100000 in
theorem bytes_field {H : Type} {enc : TypeId × Value → H} {W : World} {v : Value} {n : Nat} {y : DataW H × List MemPlace} (hf : DataW.trod enc Tryd.prog W 0 (fun _ => true) true n 64 [v] = some y) :
    ∃ l, RSl v l W ∧ (∀ x ∈ y.2, x.block < W.heap.size) ∧ (l ≠ [] → ∃ q ∈ y.1.weights Tryd.prog 64, l.length ≤ q) := by
  have c5 : Tryd.prog.cellsOf 5 = 1 := by kernel_rfl
  have hby : Tryd.prog.bytesOf 5 = 1 := by kernel_rfl
  rcases open_ints Tryd.underlying64 Tryd.underlying5 c5 hf with ⟨hcs, hx⟩ | ⟨a, len, cap, zs, hcs, _, hl, hm, hz, hx, hcell, hwz⟩
  · obtain rfl : v = .slice none 0 0 := by simpa using hcs
    subst hx
    exact ⟨[], RSl.nil _, (fun x hx => by cases hx), fun h => absurd rfl h⟩
  obtain rfl : v = .slice (some a) len cap := by simpa using hcs
  subst hx
  simp only [if_true] at hz
  obtain ⟨b, off, spot⟩ := a
  have hlz : len ≤ zs.length := by omega
  have hll : ((zs.take len).map fun z => UInt8.ofNat z.toNat).length = len := by rw [List.length_map, List.length_take]; omega
  refine ⟨(zs.take len).map fun z => UInt8.ofNat z.toNat, ⟨some ⟨b, off, spot⟩, cap, by rw [hll], by rw [hll]; exact hl, hm, fun j hj => ?_⟩, ?_, fun _ => ?_⟩
  · rw [hll] at hj
    have hspot : spot = none := by simpa [Addr.add] using World.cell?_spot (hcell 0 (by omega))
    subst hspot
    refine ⟨b, off, rfl, ?_⟩
    have hc := hcell j (by omega)
    rw [Lib.add_plain] at hc
    rw [hc]
    have hzj : zs.getD j 0 = zs[j]'(by omega) := by simp [List.getD, show j < zs.length by omega]
    have hw := hwz _ (List.getElem_mem (show j < zs.length by omega))
    simp [Lit.wf, IntKind.min, IntKind.max, IntKind.signed, IntKind.bits] at hw
    rw [hzj]
    simp only [List.getElem_map, List.getElem_take, byteV]
    congr 2
    simp
    omega
  · intro x hx
    obtain ⟨j, hj, rfl⟩ := MemPlace.mem_row.1 hx
    have hspot : spot = none := by simpa [Addr.add] using World.cell?_spot (hcell 0 (by omega))
    subst hspot
    have hc := hcell j hj
    rw [Lib.add_plain] at hc
    exact World.block_lt_of_cell? W ⟨b, off + j, none⟩ hc
  · rw [hll]
    rw [DataW.weights, Tryd.underlying64]
    simp only [hby]
    exact ⟨_, List.mem_cons_self .., by simp [lits]; omega⟩

set_option maxRecDepth 100000 in
theorem rbytes_open {H : Type} {enc : TypeId × Value → H} {W : World} {v : Value} {d : DataW H} {ps : List MemPlace} {r : Reach} {b0 : Nat} (hval : Value.okWide Tryd.prog W r b0 64 v)
    (h : DataW.Trod enc Tryd.prog W 0 (fun _ => true) true 64 v d ps) (hsz : ∀ n ∈ d.weights Tryd.prog 64, n ≤ reachBytes) :
    (∃ l, RSl v l W ∧ l.length ≤ 140737488351232) ∧ ∀ x ∈ ps, x.block < W.heap.size := by
  obtain ⟨a0, len, cap, rfl⟩ := okWide_slice Tryd.underlying64 hval
  obtain ⟨fuel, hf⟩ := h
  obtain ⟨l, hl, hp, hq⟩ := bytes_field (y := (d, ps)) (by simpa [Value.cells] using hf)
  refine ⟨⟨l, hl, ?_⟩, hp⟩
  by_cases hn : l = []
  · subst hn; exact Nat.zero_le _
  · obtain ⟨q, hq1, hq2⟩ := hq hn
    have := hsz q hq1
    simp [reachBytes] at this
    omega
end Go.Proofs.YtlahagabcnmdiaaDoor
end
