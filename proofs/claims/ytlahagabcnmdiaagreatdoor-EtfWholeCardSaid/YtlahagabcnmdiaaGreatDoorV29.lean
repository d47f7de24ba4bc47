/- Texts laid together: MapS, MapB. -/
import Derived.Test.YtlahagabcnmdiaaGreatDoorV7
import Derived.Maps.OwnSet
import Derived.Maps.Views
section
/- Maps from strings to ints: what a map's block holds, as a function on texts. No function of the program is looked at here. -/
open Go Go.RowKit Go.Maps
namespace Go.Proofs.YtlahagabcnmdiaaGreatDoor

theorem Tryz.lawS : Keyed Tryz.prog 9 := string_keyed Tryz.underlying9
theorem Tryz.zeroI (w : World) : (zeroValue 3).run Tryz.prog w = .ok (.int .i64 0) w := by kernel_rfl

/-- block b is a map of at most n entries that takes the text l to m l -/
def MapS (b n : Nat) (m : List UInt8 → Option Int) (w : World) : Prop :=
  ∃ D : DataW Unit, w.ownsMap Tryz.prog 9 (plainElem Tryz.prog 3) b n D ∧ IsMap D ∧
    ∀ l : List UInt8, Maps.has D (.string l) = (m l).isSome ∧ D.atKey (.string l) (.lit (.int .i64 0)) = .lit (.int .i64 ((m l).getD 0))

theorem MapS.lt {b n : Nat} {m : List UInt8 → Option Int} {w : World} (h : MapS b n m w) : b < w.heap.size := by
  obtain ⟨D, h, _⟩ := h; exact h.lt
theorem MapS.made (w : World) : MapS w.heap.size 0 (fun _ => none) (w.alloc (.map #[] 0)) :=
  ⟨.map [], World.ownsMap_made _ _ _ _, isMap_empty, fun _ => ⟨rfl, rfl⟩⟩
theorem MapS.frame {b n : Nat} {m : List UInt8 → Option Int} {w w' : World} (h : MapS b n m w) (hb : w'.heap[b]? = w.heap[b]?) : MapS b n m w' := by
  obtain ⟨D, ⟨es, clock, hb', F, hs, hD⟩, h2, h3⟩ := h
  exact ⟨D, ⟨es, clock, hb.trans hb', F, hs, hD⟩, h2, h3⟩
theorem MapS.alloc {b n : Nat} {m : List UInt8 → Option Int} {w : World} (h : MapS b n m w) (o : Obj) : MapS b n m (w.alloc o) := h.frame (Below.heap_alloc w o b h.lt)
theorem MapS.drewN {b n : Nat} {m : List UInt8 → Option Int} {w : World} (h : MapS b n m w) (k : Nat) : MapS b n m (w.drewN k) := h.frame rfl
theorem MapS.drew {b n : Nat} {m : List UInt8 → Option Int} {w : World} (h : MapS b n m w) : MapS b n m w.drew := h.frame rfl
theorem MapS.keep {S : Nat → Prop} {b n : Nat} {m : List UInt8 → Option Int} {w w' : World} (h : MapS b n m w) (k : Keep S w w') (hS : ¬ S b) : MapS b n m w' := h.frame (k.block b h.lt hS)
theorem MapS.ne_cells {b n : Nat} {m : List UInt8 → Option Int} {w : World} (h : MapS b n m w) {g : Nat} {cs : Array Value} {t : TypeId} {f : Nat × Nat} (hc : w.heap[g]? = some (.cells cs t f)) : g ≠ b := by
  rintro rfl
  obtain ⟨D, ⟨es, clock, hb', _⟩, _⟩ := h
  rw [hc] at hb'; cases hb'

theorem MapS.look {b n : Nat} {m : List UInt8 → Option Int} {w : World} (h : MapS b n m w) (s : ByteArray) (hs : s.size ≤ maxLen) :
    (Instr.lookup 182 (.map (some b)) (.string s) true).run Tryz.prog w = .ok (.tuple #[.int .i64 ((m s.data.toList).getD 0), .bool (m s.data.toList).isSome]) w := by
  obtain ⟨D, h1, _, h3⟩ := h
  have hkey := WideMaps.keyOf_string_mk Tryz.underlying9 hs
  obtain ⟨v, ps, hrun, hv⟩ := h1.look_ok Tryz.lawS Tryz.underlying182 (Tryz.zeroI w) (plainElem_int Tryz.underlying3 (by decide)) hkey
  obtain ⟨c, rfl, hc, _⟩ := plainElem_int_inv Tryz.underlying3 hv
  rw [hrun, (h3 _).1]
  have := (h3 s.data.toList).2
  have hc1 : D.atKey (.string s.data.toList) (.lit (.int .i64 0)) = .lit (.int .i64 c) := congrArg Prod.fst hc
  rw [hc1] at this
  rw [(Lit.int.inj (DataW.lit.inj this)).2]

def mapSet (m : List UInt8 → Option Int) (k : List UInt8) (v : Int) : List UInt8 → Option Int := fun l => if l = k then some v else m l

theorem MapS.set_ {b n : Nat} {m : List UInt8 → Option Int} {w : World} (h : MapS b n m w) (s : ByteArray) (hs : s.size ≤ maxLen) (v : Int) (hv : (Lit.int .i64 v).wf = true) (hn : n < maxLen) :
    ∃ w', (Instr.mapUpdate 182 (.map (some b)) (.string s) (.int .i64 v)).run Tryz.prog w = .ok () w' ∧ MapS b (n + 1) (mapSet m s.data.toList v) w' ∧ w.grownBy w' (some b) := by
  obtain ⟨D, h1, h2, h3⟩ := h
  have hkey := WideMaps.keyOf_string_mk Tryz.underlying9 hs
  obtain ⟨w', hrun, h4, h5⟩ := h1.update Tryz.lawS Tryz.underlying182 hn hkey (plainElem_int Tryz.underlying3 hv)
  refine ⟨w', hrun, ⟨_, h4, ?_, ?_⟩, h5⟩
  · obtain ⟨es, rfl⟩ := h2; exact ⟨_, rfl⟩
  · intro l
    have hk : WideAt.IsKeyLit (.string s.data.toList) := Tryz.lawS.key hkey
    unfold mapSet
    by_cases e : l = s.data.toList
    · subst e
      rw [has_put_same h2 hk, atKey_put_same h2 hk, if_pos rfl]
      exact ⟨rfl, rfl⟩
    · have e' : (Lit.string l) ≠ .string s.data.toList := fun h => e (by injection h)
      rw [has_put_other e', atKey_put_other e', if_neg e]
      exact h3 l

end Go.Proofs.YtlahagabcnmdiaaGreatDoor
end
section
/- Maps from strings to bools, used as sets of texts. No function of the program is looked at here. -/
open Go Go.RowKit Go.Maps
namespace Go.Proofs.YtlahagabcnmdiaaGreatDoor

def memB (fl : List ByteArray) (s : List UInt8) : Bool := fl.any fun a => a.data.toList == s
def addB (fl : List ByteArray) (s : ByteArray) : List ByteArray := if memB fl s.data.toList then fl else fl ++ [s]
/-- block b is a map whose keys are just the texts of fl, each once -/
def SetS (b : Nat) (fl : List ByteArray) (w : World) : Prop :=
  ∃ (n : Nat) (D : DataW Unit), w.ownsMap Tryz.prog 9 (plainElem Tryz.prog 4) b n D ∧ n ≤ 100000 ∧ Maps.size D = fl.length ∧ fl.length ≤ n ∧ ∀ l : List UInt8, Maps.has D (.string l) = memB fl l
theorem SetS.lt {b : Nat} {fl : List ByteArray} {w : World} (h : SetS b fl w) : b < w.heap.size := by
  obtain ⟨n, D, h, _⟩ := h; exact h.lt
theorem SetS.made (w : World) : SetS w.heap.size [] (w.alloc (.map #[] 0)) :=
  ⟨0, .map [], World.ownsMap_made _ _ _ _, by decide, rfl, Nat.le_refl _, fun _ => rfl⟩
theorem SetS.frame {b : Nat} {fl : List ByteArray} {w w' : World} (h : SetS b fl w) (hb : w'.heap[b]? = w.heap[b]?) : SetS b fl w' := by
  obtain ⟨n, D, ⟨es, clock, hb', F, hs, hD⟩, h2, h3⟩ := h
  exact ⟨n, D, ⟨es, clock, hb.trans hb', F, hs, hD⟩, h2, h3⟩
theorem SetS.below {b : Nat} {fl : List ByteArray} {w w' : World} (h : SetS b fl w) (hb : Below w.heap.size w w') : SetS b fl w' := h.frame (hb.block b h.lt)
theorem SetS.drewN {b : Nat} {fl : List ByteArray} {w : World} (h : SetS b fl w) (n : Nat) : SetS b fl (w.drewN n) := h.frame rfl
theorem SetS.len {b : Nat} {fl : List ByteArray} {w : World} (h : SetS b fl w) (ty : TypeId) : (Builtin.len_ #[186] ty #[.map (some b)]).run Tryz.prog w = .ok (.int .i64 fl.length) w := by
  obtain ⟨n, D, h1, _, h3, _, _⟩ := h
  have := h1.len Tryz.underlying186 ty
  rw [h3] at this
  exact this
theorem memB_snoc (fl : List ByteArray) (s : ByteArray) (l : List UInt8) : memB (fl ++ [s]) l = (memB fl l || s.data.toList == l) := by
  unfold memB
  rw [List.any_append]
  simp
theorem SetS.set_ {b : Nat} {fl : List ByteArray} {w : World} (h : SetS b fl w) (s : ByteArray) (hs : s.size ≤ maxLen) (hn : fl.length < 50000) :
    ∃ w', (Instr.mapUpdate 186 (.map (some b)) (.string s) (.bool true)).run Tryz.prog w = .ok () w' ∧ SetS b (addB fl s) w' ∧ w.grownBy w' (some b) := by
  obtain ⟨n, D, h1, h2, h3, h4, h5⟩ := h
  have hkey := WideMaps.keyOf_string_mk Tryz.underlying9 hs
  have hT : Tidy D := h1.tidy Tryz.lawS
  have h1' : w.ownsMap Tryz.prog 9 (plainElem Tryz.prog 4) b fl.length D := by
    obtain ⟨es, clock, hb', F, hz, rfl⟩ := h1
    refine ⟨es, clock, hb', F, ?_, rfl⟩
    have e := h3
    rw [size_eq, length_read] at e
    omega
  obtain ⟨w', hrun, h6, h7⟩ := h1'.update Tryz.lawS Tryz.underlying186 (show fl.length < maxLen by unfold maxLen; omega) hkey (plainElem_bool Tryz.underlying4 true)
  have hk : WideAt.IsKeyLit (.string s.data.toList) := Tryz.lawS.key hkey
  refine ⟨w', hrun, ⟨_, _, h6, by omega, ?_, ?_, ?_⟩, h7⟩
  · rw [size_put hT, h5, h3]
    unfold addB
    split <;> simp
  · unfold addB; split <;> simp
  · intro l
    by_cases e : l = s.data.toList
    · subst e
      rw [has_put_same hT.isMap hk]
      unfold addB
      split
      · rename_i hm; exact hm.symm
      · rw [memB_snoc]; simp
    · have e' : (Lit.string l) ≠ .string s.data.toList := fun h => e (by injection h)
      rw [has_put_other e', h5]
      unfold addB
      split
      · rfl
      · rw [memB_snoc]
        have : (s.data.toList == l) = false := beq_eq_false_iff_ne.2 (Ne.symm e)
        rw [this, Bool.or_false]
theorem wpList_setS_set {ops : Array Oper} {rest : List Oper} {o : Oper} {a : Act} {Q : Exit → Act → World → Prop} {w : World}
    (hg : o.guard = none) (x y z : Operand) (hop : o.op = Op.mapUpdate 186 x y z) (b : Nat) (fl : List ByteArray) (hm : a.eval x = .map (some b)) (h : SetS b fl w) (hn : fl.length < 50000)
    (s : ByteArray) (hs : s.size ≤ maxLen) (hy : a.eval y = .string s) (hz : a.eval z = .bool true)
    (hK : ∀ w', SetS b (addB fl s) w' → w.grownBy w' (some b) → wpList Tryz.prog ops Q rest (a.put o.dst undef) w') :
    wpList Tryz.prog ops Q (o :: rest) a w := by
  refine wpList_plain hg fun K' hK' => ?_
  obtain ⟨w', hrun, r1, r2⟩ := h.set_ s hs hn
  unfold Oper.wp
  simp [execOp, hop, hm, hy, hz, hrun, Result.andThen]
  exact hK' _ _ (hK w' r1 r2)
end Go.Proofs.YtlahagabcnmdiaaGreatDoor
end
