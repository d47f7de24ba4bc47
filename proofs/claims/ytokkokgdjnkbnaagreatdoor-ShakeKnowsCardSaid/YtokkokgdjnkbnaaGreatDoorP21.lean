/- Texts laid together: MapV. -/
import Derived.Test.YtokkokgdjnkbnaaGreatDoorP10
import Derived.Maps.OwnSet
import Derived.Maps.Views
section
/- Maps from ints to whatever values: what a map's block holds, as a function on numbers. No function of the program is looked at here. -/
open Go Go.RowKit Go.Maps
namespace Go.Proofs.YtokkokgdjnkbnaaGreatDoor

def anyV (v : Value) : Option (DataW Value × List MemPlace) := some (.held v, [])
/-- block b is a map of at most n entries that takes the number x to m x -/
def MapV (k : TypeId) (b n : Nat) (m : Int → Option Value) (w : World) : Prop :=
  ∃ D : DataW Value, w.ownsMap Tryz.prog k anyV b n D ∧ IsMap D ∧ ∀ (x : Int) (z : Value), Maps.has D (.int .i64 x) = (m x).isSome ∧ D.atKey (.int .i64 x) (.held z) = .held ((m x).getD z)

theorem MapV.lt {k : TypeId} {b n : Nat} {m : Int → Option Value} {w : World} (h : MapV k b n m w) : b < w.heap.size := by
  obtain ⟨D, h, _⟩ := h; exact h.lt
theorem MapV.made (k : TypeId) (w : World) : MapV k w.heap.size 0 (fun _ => none) (w.alloc (.map #[] 0)) :=
  ⟨.map [], World.ownsMap_made _ _ _ _, isMap_empty, fun _ _ => ⟨rfl, rfl⟩⟩
theorem MapV.made_at (k : TypeId) (w : World) (b : Nat) (hb : w.heap.size = b) : MapV k b 0 (fun _ => none) (w.alloc (.map #[] 0)) := hb ▸ MapV.made k w
theorem MapV.frame {k : TypeId} {b n : Nat} {m : Int → Option Value} {w w' : World} (h : MapV k b n m w) (hb : w'.heap[b]? = w.heap[b]?) : MapV k b n m w' := by
  obtain ⟨D, ⟨es, clock, hb', F, hs, hD⟩, h2, h3⟩ := h
  exact ⟨D, ⟨es, clock, hb.trans hb', F, hs, hD⟩, h2, h3⟩

theorem MapV.look {t k e : TypeId} {b n : Nat} {m : Int → Option Value} {w : World} (h : MapV k b n m w) (ht : Tryz.prog.underlying t = some (.map k e)) (hk : Tryz.prog.underlying k = some (.int .i64)) {z : Value} (hz : (zeroValue e).run Tryz.prog w = .ok z w) (x : Int) (hx : (Lit.int .i64 x).wf = true) :
    (Instr.lookup t (.map (some b)) (.int .i64 x) true).run Tryz.prog w = .ok (.tuple #[(m x).getD z, .bool (m x).isSome]) w ∧ (Instr.lookup t (.map (some b)) (.int .i64 x) false).run Tryz.prog w = .ok ((m x).getD z) w := by
  obtain ⟨D, h1, _, h3⟩ := h
  have hkey := keyOf_int_mk hk hx
  constructor
  · obtain ⟨v, ps, hrun, hv⟩ := h1.look_ok (int_keyed hk) ht hz (show anyV z = some (.held z, []) from rfl) hkey
    rw [hrun, (h3 x z).1]
    have e1 : (DataW.held v : DataW Value) = D.atKey (.int .i64 x) (.held z) := congrArg Prod.fst (Option.some.inj hv)
    rw [(h3 x z).2] at e1
    rw [DataW.held.inj e1]
  · obtain ⟨v, ps, hrun, hv⟩ := h1.lookup (int_keyed hk) ht hz (show anyV z = some (.held z, []) from rfl) hkey
    rw [hrun]
    have e1 : (DataW.held v : DataW Value) = D.atKey (.int .i64 x) (.held z) := congrArg Prod.fst (Option.some.inj hv)
    rw [(h3 x z).2] at e1
    rw [DataW.held.inj e1]

def mapPut (m : Int → Option Value) (k : Int) (v : Value) : Int → Option Value := fun x => if x = k then some v else m x

theorem MapV.set_ {t k e : TypeId} {b n : Nat} {m : Int → Option Value} {w : World} (h : MapV k b n m w) (ht : Tryz.prog.underlying t = some (.map k e)) (hk : Tryz.prog.underlying k = some (.int .i64)) (x : Int) (hx : (Lit.int .i64 x).wf = true) (v : Value) (hn : n < maxLen) :
    ∃ w', (Instr.mapUpdate t (.map (some b)) (.int .i64 x) v).run Tryz.prog w = .ok () w' ∧ MapV k b (n + 1) (mapPut m x v) w' ∧ w.grownBy w' (some b) := by
  obtain ⟨D, h1, h2, h3⟩ := h
  have hkey := keyOf_int_mk hk hx
  obtain ⟨w', hrun, h4, h5⟩ := h1.update (int_keyed hk) ht hn hkey (show anyV v = some (.held v, []) from rfl)
  refine ⟨w', hrun, ⟨_, h4, ?_, ?_⟩, h5⟩
  · obtain ⟨es, rfl⟩ := h2; exact ⟨_, rfl⟩
  · intro y z
    have hl : WideAt.IsKeyLit (.int .i64 x) := (int_keyed hk).key hkey
    unfold mapPut
    by_cases e : y = x
    · subst e
      rw [has_put_same h2 hl, atKey_put_same h2 hl, if_pos rfl]
      exact ⟨rfl, rfl⟩
    · have e' : (Lit.int .i64 y) ≠ .int .i64 x := fun h => e (Lit.int.inj h).2
      rw [has_put_other e', atKey_put_other e', if_neg e]
      exact h3 y z

theorem wpList_mapV_ins {ops : Array Oper} {rest : List Oper} {o : Oper} {a : Act} {Q : Exit → Act → World → Prop} {w : World} {t k e : TypeId}
    (hg : o.guard = none) (p q r : Operand) (hop : o.op = Op.insert t p q r) (ht : Tryz.prog.underlying t = some (.map k e)) (hk : Tryz.prog.underlying k = some (.int .i64)) (b n : Nat) (m : Int → Option Value) (hm : a.eval p = .map (some b)) (h : MapV k b n m w) (hn : n < maxLen)
    (x : Int) (hx : (Lit.int .i64 x).wf = true) (hy : a.eval q = .int .i64 x) (v : Value) (hz : a.eval r = v)
    (hK : ∀ w', MapV k b (n + 1) (mapPut m x v) w' → w.grownBy w' (some b) → wpList Tryz.prog ops Q rest (a.put o.dst undef) w') :
    wpList Tryz.prog ops Q (o :: rest) a w := by
  refine wpList_plain hg fun K' hK' => ?_
  obtain ⟨w', hrun, r1, r2⟩ := h.set_ ht hk x hx v hn
  unfold Oper.wp
  simp [execOp, hop, hm, hy, hz, hrun, Result.andThen]
  exact hK' _ _ (hK w' r1 r2)
theorem stopIns {ops : Array Oper} {rest : List Oper} {o : Oper} {a : Act} {Q : Exit → Act → World → Prop} {w : World} (t : TypeId) (p q r : Operand) (hop : o.op = Op.insert t p q r)
    (h : Stopped (wpList Tryz.prog ops Q (o :: rest) a w)) : wpList Tryz.prog ops Q (o :: rest) a w := by
  exact (fun (_ : o.op = Op.insert t p q r) => h) hop
end Go.Proofs.YtokkokgdjnkbnaaGreatDoor
end
