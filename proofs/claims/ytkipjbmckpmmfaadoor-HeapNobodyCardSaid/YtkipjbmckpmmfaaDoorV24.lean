/- Texts laid together: Blk. -/
import Derived.Test.YtkipjbmckpmmfaaDoorV9
import Derived.Deep.MidRow
section
/- A block of cells that is known whole: a struct stored into it, or into a part of it. No function of the program is looked at here. -/
open Go Go.RowKit
namespace Go.Proofs.YtkipjbmckpmmfaaDoor

def setFrom (l : List Value) (o : Nat) : List Value → List Value
  | [] => l
  | v :: r => setFrom (l.set o v) (o + 1) r
theorem Cells.setCells {g : Nat} {t : TypeId} (vs : List Value) : ∀ {w : World} {cs : List Value} (o : Nat), Cells w g t cs → Cells (w.setCells g o vs) g t (setFrom cs o vs) := by
  induction vs with
  | nil => intro w cs o h; exact h
  | cons v r ih => intro w cs o h; exact ih (o + 1) (h.set_ o v)
theorem grown_setCells {g : Nat} (vs : List Value) : ∀ (w : World) (o : Nat), w.grownBy (w.setCells g o vs) (some g) := by
  induction vs with
  | nil => intro w o; exact World.grownBy.refl w _
  | cons v r ih =>
    intro w o
    have h1 := ih (w.setCell ⟨g, o, none⟩ v) (o + 1)
    refine ⟨h1.os, h1.tape, h1.output, by have := h1.size; simpa [World.setCell, World.setCells] using this, fun k hk hne => ?_⟩
    rw [World.setCells, h1.block k (by simpa [World.setCell] using hk) hne]
    exact Below.heap_setCell _ _ _ _ (fun e => hne (by rw [e]))
theorem Cells.there {w : World} {g : Nat} {t : TypeId} {cs : List Value} (h : Cells w g t cs) (o n : Nat) (hn : o + n ≤ cs.length) : w.there g o n := fun j hj =>
  ⟨by rw [h.cell, List.getElem?_eq_getElem (by omega)]; rfl, h.frozen _⟩

/-- a struct stored into a block that is known whole, from a cell on -/
theorem wpList_store_blk {P : Program} {ops : Array Oper} {rest : List Oper} {o : Oper} {a : Act} {Q : Exit → Act → World → Prop} {w : World} (hgd : o.guard = none) (ty : TypeId) (x y : Operand) (ho : o.op = .store ty x y)
    (g off : Nat) (vs : List Value) (hx : a.eval x = .pointer (some ⟨g, off, none⟩)) (hy : a.eval y = .agg vs.toArray) (hi : (P.info? ty).map (·.size) = some vs.length) (h1 : ∀ v ∈ vs, v.oneCell' = true)
    (t : TypeId) (cs : List Value) (hC : Cells w g t cs) (hn : off + vs.length ≤ cs.length)
    (h : ∀ w', Cells w' g t (setFrom cs off vs) → w.grownBy w' (some g) → wpList P ops Q rest (a.put o.dst undef) w') : wpList P ops Q (o :: rest) a w := by
  refine wpList_store_mid hgd ty x y ho g off vs.toArray hx hy (by simpa using hC.there off vs.length hn) (by simpa using hi) (all_oneCell_toArray h1) ?_
  simpa using h _ (hC.setCells vs off) (grown_setCells vs w off)
end Go.Proofs.YtkipjbmckpmmfaaDoor
end
