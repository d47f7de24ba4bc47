/- Texts laid together: TabA. -/
import Derived.Test.YtkipjbmckpmmfaaDoorV28
import Derived.Test.YtkipjbmckpmmfaaDoorV30
section
/- Package atom: tables. -/
open Go Go.RowKit
namespace Go.Proofs.YtkipjbmckpmmfaaDoor

/-- the number of a text among texts -/
def idxM (l : List ByteArray) (k : List UInt8) : Option Int := (l.findIdx? (fun a => a.data.toList == k)).map fun i : Nat => (i : Int)
theorem idxM_bd {l : List ByteArray} {k : List UInt8} {i : Int} (h : idxM l k = some i) : 0 ≤ i ∧ i < l.length := by
  unfold idxM at h
  obtain ⟨j, hj, rfl⟩ := Option.map_eq_some_iff.1 h
  have := (List.findIdx?_eq_some_iff_getElem.1 hj).1
  exact ⟨by omega, by omega⟩
theorem idxM_snoc (l : List ByteArray) (s : ByteArray) (h : idxM l s.data.toList = none) : idxM (l ++ [s]) = mapSet (idxM l) s.data.toList l.length := by
  funext k
  unfold mapSet
  by_cases e : k = s.data.toList
  · subst e
    rw [if_pos rfl]
    unfold idxM at h ⊢
    rw [Option.map_eq_none_iff] at h
    rw [List.findIdx?_append, h]
    simp
  · rw [if_neg e]
    unfold idxM
    rw [List.findIdx?_append]
    have : ([s].findIdx? fun a => a.data.toList == k) = none := by simp [Ne.symm e]
    rw [this]
    cases List.findIdx? (fun a => a.data.toList == k) l <;> simp

theorem NF.map {w : World} {b n : Nat} {m : List UInt8 → Option Int} (h : MapS b n m w) : NF w b := fun _ _ e => h.ne_cells e rfl

section
variable {limit : Int} {g : Nat} {l : List ByteArray} {F : Nat → Prop} {w : World}
end
end Go.Proofs.YtkipjbmckpmmfaaDoor
end
