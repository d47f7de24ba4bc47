/- Texts laid together: Err. -/
import Derived.Test.YtkipjbmckpmmfaaDoorProg
import Derived.Test.YtkipjbmckpmmfaaDoorV2
section
/- Errors as chains of faults: what a value of type error says in a world. No function of the program is looked at here. -/
open Go Go.RowKit
namespace Go.Proofs.YtkipjbmckpmmfaaDoor

/-- One fault of a chain. -/
structure Lk where
  layer : ByteArray
  at_ : Int
  code : Int

/-- The value v is an error that says just this chain; nil, if the chain is empty. -/
def ErrIs (w : World) : Value → List Lk → Prop
  | v, [] => v = .nilIface
  | v, k :: rest => ∃ b u, v = .iface 91 (.pointer (some ⟨b, 0, none⟩)) ∧ w.heap[b]? = some (.cells #[.string k.layer, .int .i64 k.at_, .int .i64 k.code, u] 93 (0, 0)) ∧ ErrIs w u rest

theorem ErrIs.below {w w' : World} (hb : Below w.heap.size w w') : ∀ {l : List Lk} {v : Value}, ErrIs w v l → ErrIs w' v l := by
  intro l
  induction l with
  | nil => exact fun h => h
  | cons k rest ih =>
    intro v h
    obtain ⟨b, u, hv, hc, hr⟩ := h
    exact ⟨b, u, hv, (hb.block b (Array.getElem?_eq_some_iff.1 hc).1).trans hc, ih hr⟩

theorem ErrIs.one {w : World} {layer : ByteArray} {at_ code : Int} :
    ErrIs (w.alloc (.cells #[.string layer, .int .i64 at_, .int .i64 code, .nilIface] 93 (0, 0))) (.iface 91 (.pointer (some ⟨w.heap.size, 0, none⟩))) [⟨layer, at_, code⟩] := by
  refine ⟨w.heap.size, .nilIface, rfl, ?_, rfl⟩
  show (w.heap.push _)[w.heap.size]? = _
  simp

theorem alloc_get (w : World) (o : Obj) : (w.alloc o).heap[w.heap.size]? = some o := by
  show (w.heap.push _)[w.heap.size]? = _
  simp

/-- A call that hands back a string and an error. -/
def RetSE (B : Nat) (w : World) (r : List UInt8 × List Lk) (e : Ending) (w' : World) : Prop := ∃ ev, e = .returned (.tuple #[.string ⟨r.1.toArray⟩, ev]) ∧ ErrIs w' ev r.2 ∧ Below B w w'
end Go.Proofs.YtkipjbmckpmmfaaDoor
end
