/- Texts laid together: Strings. -/
import Derived.Test.YtkipjbmckpmmfaaDoorV9
import Derived.ProofKit
import Derived.SliceStrings
import Derived.ChangeOld
import Derived.SizedLaws
import Derived.Carry
section
/- A []string argument: what it gives a walk. -/
open Go Go.RowKit Go.ChangeShapes Go.WideShapes Go.ChangeAt
namespace Go.Proofs.YtkipjbmckpmmfaaDoor

def SArgIs (v : Value) (l : List ByteArray) (w : World) : Prop :=
  ∃ a c, v = .slice a l.length c ∧ ∀ j, (h : j < l.length) → ∃ g o, a = some ⟨g, o, none⟩ ∧ w.cell? ⟨g, o + j, none⟩ = some (.string l[j])
theorem SArgIs.below {v : Value} {l : List ByteArray} {w w' : World} (h : SArgIs v l w) (hb : Below w.heap.size w w') : SArgIs v l w' := by
  obtain ⟨a, c, rfl, hc⟩ := h
  refine ⟨a, c, rfl, fun j hj => ?_⟩
  obtain ⟨g, o, ha, hc⟩ := hc j hj
  exact ⟨g, o, ha, by rw [hb.cell (World.block_lt_of_cell? w _ hc)]; exact hc⟩

theorem weightsAll_mem {H : Type} {P : Program} {e : TypeId} : ∀ {ds : List (DataW H)} {d : DataW H}, d ∈ ds → ∀ n ∈ d.weights P e, n ∈ DataW.weightsAll P e ds
  | [], _, h, _, _ => by cases h
  | x :: r, d, h, n, hn => by
    unfold DataW.weightsAll
    rcases List.mem_cons.1 h with rfl | h
    · exact List.mem_append_left _ hn
    · exact List.mem_append_right _ (weightsAll_mem h n hn)

end Go.Proofs.YtkipjbmckpmmfaaDoor
end
