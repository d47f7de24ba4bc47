/- Texts laid together: Strings. -/
import Derived.Test.YtlahagabcnmdiaaDoorQ7
import Derived.ProofKit
import Derived.SliceStrings
import Derived.ChangeOld
import Derived.SizedLaws
import Derived.Carry
section
/- A []string argument: what it gives a walk. -/
open Go Go.RowKit Go.ChangeShapes Go.WideShapes Go.ChangeAt
namespace Go.Proofs.YtlahagabcnmdiaaDoor

def SArgIs (v : Value) (l : List ByteArray) (w : World) : Prop :=
  ∃ a c, v = .slice a l.length c ∧ ∀ j, (h : j < l.length) → ∃ g o, a = some ⟨g, o, none⟩ ∧ w.cell? ⟨g, o + j, none⟩ = some (.string l[j])
theorem SArgIs.below {v : Value} {l : List ByteArray} {w w' : World} (h : SArgIs v l w) (hb : Below w.heap.size w w') : SArgIs v l w' := by
  obtain ⟨a, c, rfl, hc⟩ := h
  refine ⟨a, c, rfl, fun j hj => ?_⟩
  obtain ⟨g, o, ha, hc⟩ := hc j hj
  exact ⟨g, o, ha, by rw [hb.cell (World.block_lt_of_cell? w _ hc)]; exact hc⟩

theorem weightsAll_mem {H : Type} {P : Program} {e : TypeId} : ∀ {ds : List (DataW H)} {d : DataW H}, d ∈ ds → ∀ n ∈ d.weights P e, n ∈ DataW.weightsAll P e ds
  | [], _, h, _, _ => by cases h
  | x :: r, d, h, n, hn => by
    unfold DataW.weightsAll
    rcases List.mem_cons.1 h with rfl | h
    · exact List.mem_append_left _ hn
    · exact List.mem_append_right _ (weightsAll_mem h n hn)

set_option maxRecDepth 100000 in
theorem strings_open {H : Type} {enc : TypeId × Value → H} {W : World} {v : Value} {d : DataW H} {ps : List MemPlace} {r : Reach} {b0 : Nat} (hval : Value.okWide Tryd.prog W r b0 104 v)
    (h : DataW.Trod enc Tryd.prog W 0 (fun _ => true) true 104 v d ps) :
    (∃ l, SArgIs v l W ∧ l.length ≤ maxLen ∧ (∀ s ∈ l, s.size ∈ d.weights Tryd.prog 104) ∧ (l ≠ [] → ∃ n, n ∈ d.weights Tryd.prog 104 ∧ l.length * 16 ≤ n)) ∧ ∀ x ∈ ps, x.block < W.heap.size := by
  obtain ⟨a0, len, cap, rfl⟩ := okWide_slice Tryd.underlying104 hval
  obtain ⟨fuel, hf⟩ := h
  have c5 : Tryd.prog.cellsOf 9 = 1 := by kernel_rfl
  have hby : Tryd.prog.bytesOf 9 = 16 := by kernel_rfl
  rcases open_strings Tryd.underlying104 Tryd.underlying9 c5 hf with ⟨hcs, hx⟩ | ⟨a, len', cap', ss, hcs, _, hl, hm, hz, hx, hcell, hwz⟩
  · simp [Value.cells] at hcs
    obtain ⟨rfl, rfl, rfl⟩ := hcs
    simp only [Prod.mk.injEq] at hx
    obtain ⟨rfl, rfl⟩ := hx
    exact ⟨⟨[], ⟨none, 0, rfl, fun j hj => absurd hj (Nat.not_lt_zero _)⟩, Nat.zero_le _, (fun s hs => by cases hs), (fun hs => absurd rfl hs)⟩, fun x hx => by cases hx⟩
  simp [Value.cells] at hcs
  obtain ⟨rfl, rfl, rfl⟩ := hcs
  simp only [Prod.mk.injEq] at hx
  obtain ⟨rfl, rfl⟩ := hx
  simp only [if_true] at hz
  obtain ⟨b, off, spot⟩ := a
  have hlz : len ≤ ss.length := by omega
  have hll : (ss.take len).length = len := by rw [List.length_take]; omega
  have hw : (DataW.slice (strs (ss.take len)) (strs (ss.drop len)) : DataW H).weights Tryd.prog 104 =
      ((strs (H := H) (ss.take len)).length + (strs (H := H) (ss.drop len)).length) * 16 :: (DataW.weightsAll Tryd.prog 9 (strs (H := H) (ss.take len)) ++ DataW.weightsAll Tryd.prog 9 (strs (H := H) (ss.drop len))) := by
    rw [DataW.weights, Tryd.underlying104]
    simp only [hby]
  constructor
  · refine ⟨ss.take len, ⟨some ⟨b, off, spot⟩, cap, by rw [hll], fun j hj => ?_⟩, by omega, fun s hs => ?_, fun _ => ?_⟩
    · rw [hll] at hj
      have hspot : spot = none := by simpa [Addr.add] using World.cell?_spot (hcell 0 (by omega))
      subst hspot
      refine ⟨b, off, rfl, ?_⟩
      have hc := hcell j (by omega)
      rw [WideShapes.add_plain] at hc
      rw [hc]
      have hzj : ss.getD j ByteArray.empty = ss[j]'(by omega) := by simp [List.getD, show j < ss.length by omega]
      rw [hzj]
      simp
    · rw [hw]
      refine List.mem_cons_of_mem _ (List.mem_append_left _ (weightsAll_mem (d := .lit (.string s.data.toList)) (List.mem_map.2 ⟨s, hs, rfl⟩) _ ?_))
      simp [DataW.weights]
    · refine ⟨_, by rw [hw]; exact List.mem_cons_self, ?_⟩
      simp only [strs, List.length_map]
      omega
  · intro x hx
    obtain ⟨j, hj, rfl⟩ := MemPlace.mem_row.1 hx
    have hspot : spot = none := by simpa [Addr.add] using World.cell?_spot (hcell 0 (by omega))
    subst hspot
    have hc := hcell j hj
    rw [WideShapes.add_plain] at hc
    exact World.block_lt_of_cell? W ⟨b, off + j, none⟩ hc
theorem strings_row : 104 < Tryd.prog.types.size := by rw [show Tryd.prog.types.size = 232 by kernel_rfl]; decide
end Go.Proofs.YtlahagabcnmdiaaDoor
end
