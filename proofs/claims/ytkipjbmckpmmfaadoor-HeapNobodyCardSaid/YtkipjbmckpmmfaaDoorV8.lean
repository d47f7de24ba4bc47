/- Texts laid together: LaidE. -/
import Derived.Test.YtkipjbmckpmmfaaDoorV1
import Derived.Test.YtkipjbmckpmmfaaDoorV7
import Derived.LaidHandle
section
/- What the listed handle errors.errorType gives a walk; a world that meets the condition. -/
open Go Go.RowKit Go.Shelf Go.Lib
namespace Go.Proofs.YtkipjbmckpmmfaaDoor

theorem Tryd.et : Tryd.prog.globalNamed "errors.errorType" = some 0 := by kernel_rfl
theorem Tryd.rt : (Tryd.prog.cutTypes.find? (·.1 == "internal/reflectlite.rtype")).map (·.2) = some 131 := by kernel_rfl
theorem Tryd.tsize : Tryd.prog.types.size = 201 := by kernel_rfl
theorem Tryd.oneRow : ((List.range 201).filter fun t => Tryd.prog.rowNamed t [101, 114, 114, 111, 114]) = [30] := by kernel_rfl
theorem errT_of_handles {W : World} {hs : List (String × DataW Unit)} (h : handlesMet Tryd.prog hs W) (hm : ("errors.errorType", (Rows.laid_errors_errorType : DataW Unit)) ∈ hs) : ErrT W := by
  obtain ⟨name, u, ty, e1, e2, e3, e4, e5⟩ := h _ hm
  have en : name = [101, 114, 114, 111, 114] := (Option.some.inj e1).symm
  subst en
  obtain rfl := Option.some.inj (Tryd.rt.symm.trans e2)
  have hm : ty ∈ (List.range 201).filter fun t => Tryd.prog.rowNamed t [101, 114, 114, 111, 114] := List.mem_filter.2 ⟨List.mem_range.2 (by rw [← Tryd.tsize]; exact e3), e4⟩
  rw [Tryd.oneRow] at hm
  obtain rfl := List.mem_singleton.1 hm
  have hh : typeHandle Tryd.prog 30 = .pointer (some ⟨4, 30, none⟩) := by kernel_rfl
  rw [hh] at e5
  simpa [ErrT] using World.var?_cell Tryd.et e5 0

/-- the settled world, the handle laid -/
noncomputable def handWorld (os : Os) : World :=
  let w0 := World.holding Tryd.prog os ⟨#[], #[], []⟩
  { w0 with heap := w0.heap.modify 0 fun
      | .cells _ t frozen => .cells #[.iface 131 (.agg #[.pointer (some ⟨4, 30, none⟩)])] t frozen
      | o => o }
noncomputable def handAll (os : Os) (l : List (String × DataW Unit)) : World := (handWorld os).layVars Tryd.prog l
theorem handAll_os (os : Os) (l : List (String × DataW Unit)) : (handAll os l).os = os := by unfold handAll; rw [World.layVars_os]; rfl
theorem laidMet_handAll {os : Os} {l : List (String × DataW Unit)} (args : Array Value)
    (hf : (handWorld os).layFits Tryd.prog l [] = true)
    (hi : (handWorld os).layIfaces Tryd.prog l (handAll os l) = true) :
    laidMet Tryd.prog l ((handAll os l).forCall (fun _ _ => 0) ⟨#[], args, []⟩).memory := by
  have e1 : (l.filter fun x => (l.map (·.1)).contains x.1) = l := List.filter_eq_self.2 fun x hx => List.contains_iff_mem.2 (List.mem_map.2 ⟨x, hx, rfl⟩)
  have e2 : (l.filter fun x => !(l.map (·.1)).contains x.1) = [] := List.filter_eq_nil_iff.2 fun x hx => by rw [List.contains_iff_mem.2 (List.mem_map.2 ⟨x, hx, rfl⟩)]; simp
  have h : laidMet Tryd.prog l (handAll os l) := laidMet_layVars (w0 := handWorld os) (l.map (·.1)) [] (by rw [e1]; rfl) (by rw [e1]; exact hf) (by rw [e1]; exact hi) (by rw [e2]; exact LaidIn.none)
  exact laidMet.of_heap (by rfl) h
end Go.Proofs.YtkipjbmckpmmfaaDoor
end
