/- Texts laid together: Base. -/
import Derived.WalkKit
import Derived.KernelRfl
import Derived.Lib.Hide
import Derived.Lib.Strings
section
/- Words that several proofs of this seat share: values, errors as chains of faults, lists of links. No program is looked at here. -/
open Go Go.RowKit
namespace Go.Proofs.YtkipjbmckpmmfaaDoor

theorem ret_int {k : IntKind} {a b : Int} (h : a = b) : Ending.returned (.int k a) = .returned (.int k b) := by rw [h]
theorem ret_bool {a b : Bool} (h : a = b) : Ending.returned (.bool a) = .returned (.bool b) := by rw [h]
theorem byte_ne {c d : UInt8} (h : ¬ c = d) : ¬ ((c.toNat : Int) = (d.toNat : Int)) := fun e => h (UInt8.toNat_inj.1 (by omega))
theorem byte_eqb {c d : UInt8} (h : c = d) : ((c.toNat : Int) == (d.toNat : Int)) = true := by simp [h]
theorem byte_neb {c d : UInt8} (h : ¬ c = d) : ((c.toNat : Int) == (d.toNat : Int)) = false := by simpa using byte_ne h

theorem eq_of_chars {s : ByteArray} {l : List UInt8} (h : s.data.toList = l) : s = ⟨l.toArray⟩ := by
  subst h; rfl
theorem toList_data (s : ByteArray) : s.toList = s.data.toList := Lib.toList_data s
theorem drop_cons (s : ByteArray) (i : Nat) (h : i < s.size) : s.data.toList.drop i = s[i] :: s.data.toList.drop (i + 1) := by
  have : i < s.data.toList.length := by simpa using h
  rw [List.drop_eq_getElem_cons this]; rfl
theorem drop_end (s : ByteArray) (i : Nat) (h : s.size ≤ i) : s.data.toList.drop i = [] := List.drop_eq_nil_of_le (by simpa using h)

/-- A goal at which the walk is to stand still. -/
def Stopped (p : Prop) : Prop := p
theorem stop {p : Prop} (h : Stopped p) : p := h
theorem Stopped.of {p : Prop} (h : p) : Stopped p := h

end Go.Proofs.YtkipjbmckpmmfaaDoor
end
