/- Texts laid together: MapS, MapW. -/
import Derived.Test.YtkipjbmckpmmfaaDoorV9
import Derived.Maps.OwnSet
import Derived.Maps.Views
section
/- Maps from strings to ints: what a map's block holds, as a function on texts. No function of the program is looked at here. -/
open Go Go.RowKit Go.Maps
namespace Go.Proofs.YtkipjbmckpmmfaaDoor

theorem Tryd.lawS : Keyed Tryd.prog 9 := string_keyed Tryd.underlying9
theorem Tryd.zeroI (w : World) : (zeroValue 3).run Tryd.prog w = .ok (.int .i64 0) w := by kernel_rfl

/-- block b is a map of at most n entries that takes the text l to m l -/
def MapS (b n : Nat) (m : List UInt8 → Option Int) (w : World) : Prop :=
  ∃ D : DataW Unit, w.ownsMap Tryd.prog 9 (plainElem Tryd.prog 3) b n D ∧ IsMap D ∧
    ∀ l : List UInt8, Maps.has D (.string l) = (m l).isSome ∧ D.atKey (.string l) (.lit (.int .i64 0)) = .lit (.int .i64 ((m l).getD 0))

theorem MapS.lt {b n : Nat} {m : List UInt8 → Option Int} {w : World} (h : MapS b n m w) : b < w.heap.size := by
  obtain ⟨D, h, _⟩ := h; exact h.lt
theorem MapS.made (w : World) : MapS w.heap.size 0 (fun _ => none) (w.alloc (.map #[] 0)) :=
  ⟨.map [], World.ownsMap_made _ _ _ _, isMap_empty, fun _ => ⟨rfl, rfl⟩⟩
theorem MapS.frame {b n : Nat} {m : List UInt8 → Option Int} {w w' : World} (h : MapS b n m w) (hb : w'.heap[b]? = w.heap[b]?) : MapS b n m w' := by
  obtain ⟨D, ⟨es, clock, hb', F, hs, hD⟩, h2, h3⟩ := h
  exact ⟨D, ⟨es, clock, hb.trans hb', F, hs, hD⟩, h2, h3⟩
theorem MapS.alloc {b n : Nat} {m : List UInt8 → Option Int} {w : World} (h : MapS b n m w) (o : Obj) : MapS b n m (w.alloc o) := h.frame (Below.heap_alloc w o b h.lt)
theorem MapS.drewN {b n : Nat} {m : List UInt8 → Option Int} {w : World} (h : MapS b n m w) (k : Nat) : MapS b n m (w.drewN k) := h.frame rfl
theorem MapS.drew {b n : Nat} {m : List UInt8 → Option Int} {w : World} (h : MapS b n m w) : MapS b n m w.drew := h.frame rfl
theorem MapS.keep {S : Nat → Prop} {b n : Nat} {m : List UInt8 → Option Int} {w w' : World} (h : MapS b n m w) (k : Keep S w w') (hS : ¬ S b) : MapS b n m w' := h.frame (k.block b h.lt hS)
theorem MapS.ne_cells {b n : Nat} {m : List UInt8 → Option Int} {w : World} (h : MapS b n m w) {g : Nat} {cs : Array Value} {t : TypeId} {f : Nat × Nat} (hc : w.heap[g]? = some (.cells cs t f)) : g ≠ b := by
  rintro rfl
  obtain ⟨D, ⟨es, clock, hb', _⟩, _⟩ := h
  rw [hc] at hb'; cases hb'

theorem MapS.look {b n : Nat} {m : List UInt8 → Option Int} {w : World} (h : MapS b n m w) (s : ByteArray) (hs : s.size ≤ maxLen) :
    (Instr.lookup 50 (.map (some b)) (.string s) true).run Tryd.prog w = .ok (.tuple #[.int .i64 ((m s.data.toList).getD 0), .bool (m s.data.toList).isSome]) w := by
  obtain ⟨D, h1, _, h3⟩ := h
  have hkey := WideMaps.keyOf_string_mk Tryd.underlying9 hs
  obtain ⟨v, ps, hrun, hv⟩ := h1.look_ok Tryd.lawS Tryd.underlying50 (Tryd.zeroI w) (plainElem_int Tryd.underlying3 (by decide)) hkey
  obtain ⟨c, rfl, hc, _⟩ := plainElem_int_inv Tryd.underlying3 hv
  rw [hrun, (h3 _).1]
  have := (h3 s.data.toList).2
  have hc1 : D.atKey (.string s.data.toList) (.lit (.int .i64 0)) = .lit (.int .i64 c) := congrArg Prod.fst hc
  rw [hc1] at this
  rw [(Lit.int.inj (DataW.lit.inj this)).2]

def mapSet (m : List UInt8 → Option Int) (k : List UInt8) (v : Int) : List UInt8 → Option Int := fun l => if l = k then some v else m l

theorem MapS.set_ {b n : Nat} {m : List UInt8 → Option Int} {w : World} (h : MapS b n m w) (s : ByteArray) (hs : s.size ≤ maxLen) (v : Int) (hv : (Lit.int .i64 v).wf = true) (hn : n < maxLen) :
    ∃ w', (Instr.mapUpdate 50 (.map (some b)) (.string s) (.int .i64 v)).run Tryd.prog w = .ok () w' ∧ MapS b (n + 1) (mapSet m s.data.toList v) w' ∧ w.grownBy w' (some b) := by
  obtain ⟨D, h1, h2, h3⟩ := h
  have hkey := WideMaps.keyOf_string_mk Tryd.underlying9 hs
  obtain ⟨w', hrun, h4, h5⟩ := h1.update Tryd.lawS Tryd.underlying50 hn hkey (plainElem_int Tryd.underlying3 hv)
  refine ⟨w', hrun, ⟨_, h4, ?_, ?_⟩, h5⟩
  · obtain ⟨es, rfl⟩ := h2; exact ⟨_, rfl⟩
  · intro l
    have hk : WideAt.IsKeyLit (.string s.data.toList) := Tryd.lawS.key hkey
    unfold mapSet
    by_cases e : l = s.data.toList
    · subst e
      rw [has_put_same h2 hk, atKey_put_same h2 hk, if_pos rfl]
      exact ⟨rfl, rfl⟩
    · have e' : (Lit.string l) ≠ .string s.data.toList := fun h => e (by injection h)
      rw [has_put_other e', atKey_put_other e', if_neg e]
      exact h3 l

end Go.Proofs.YtkipjbmckpmmfaaDoor
end
section
/- Maps from words to words: what a map's block holds, as a function on numbers. No function of the program is looked at here. -/
open Go Go.RowKit Go.Maps
namespace Go.Proofs.YtkipjbmckpmmfaaDoor

theorem Tryd.lawW : Keyed Tryd.prog 35 := int_keyed Tryd.underlying35
theorem Tryd.zeroW (w : World) : (zeroValue 35).run Tryd.prog w = .ok (.int .u64 0) w := by kernel_rfl
theorem wf_u64 {k : Nat} (h : k < 18446744073709551616) : (Lit.int .u64 (k : Int)).wf = true := by
  simp only [Lit.wf, IntKind.min, IntKind.max, IntKind.signed, IntKind.bits, Bool.and_eq_true]
  constructor
  · simp
  · simp; omega

/-- block b is a map of at most n entries that takes the word k to m k -/
def MapW (b n : Nat) (m : Nat → Option Nat) (w : World) : Prop :=
  ∃ D : DataW Unit, w.ownsMap Tryd.prog 35 (plainElem Tryd.prog 35) b n D ∧ IsMap D ∧
    ∀ k : Nat, Maps.has D (.int .u64 k) = (m k).isSome ∧ D.atKey (.int .u64 k) (.lit (.int .u64 0)) = .lit (.int .u64 ((m k).getD 0 : Nat))

theorem MapW.lt {b n : Nat} {m : Nat → Option Nat} {w : World} (h : MapW b n m w) : b < w.heap.size := by
  obtain ⟨D, h, _⟩ := h; exact h.lt
theorem MapW.made (w : World) : MapW w.heap.size 0 (fun _ => none) (w.alloc (.map #[] 0)) :=
  ⟨.map [], World.ownsMap_made _ _ _ _, isMap_empty, fun _ => ⟨rfl, rfl⟩⟩
theorem MapW.frame {b n : Nat} {m : Nat → Option Nat} {w w' : World} (h : MapW b n m w) (hb : w'.heap[b]? = w.heap[b]?) : MapW b n m w' := by
  obtain ⟨D, ⟨es, clock, hb', F, hs, hD⟩, h2, h3⟩ := h
  exact ⟨D, ⟨es, clock, hb.trans hb', F, hs, hD⟩, h2, h3⟩
theorem MapW.alloc {b n : Nat} {m : Nat → Option Nat} {w : World} (h : MapW b n m w) (o : Obj) : MapW b n m (w.alloc o) := h.frame (Below.heap_alloc w o b h.lt)
theorem MapW.drewN {b n : Nat} {m : Nat → Option Nat} {w : World} (h : MapW b n m w) (k : Nat) : MapW b n m (w.drewN k) := h.frame rfl
theorem MapW.ne_cells {b n : Nat} {m : Nat → Option Nat} {w : World} (h : MapW b n m w) {g : Nat} {cs : Array Value} {t : TypeId} {f : Nat × Nat} (hc : w.heap[g]? = some (.cells cs t f)) : g ≠ b := by
  rintro rfl
  obtain ⟨D, ⟨es, clock, hb', _⟩, _⟩ := h
  rw [hc] at hb'; cases hb'
theorem MapW.look {b n : Nat} {m : Nat → Option Nat} {w : World} (h : MapW b n m w) (k : Nat) (hk : k < 18446744073709551616) :
    (Instr.lookup 81 (.map (some b)) (.int .u64 k) true).run Tryd.prog w = .ok (.tuple #[.int .u64 ((m k).getD 0 : Nat), .bool (m k).isSome]) w := by
  obtain ⟨D, h1, _, h3⟩ := h
  have hkey := keyOf_int_mk Tryd.underlying35 (wf_u64 hk)
  obtain ⟨v, ps, hrun, hv⟩ := h1.look_ok Tryd.lawW Tryd.underlying81 (Tryd.zeroW w) (plainElem_int Tryd.underlying35 (by decide)) hkey
  obtain ⟨c, rfl, hc, _⟩ := plainElem_int_inv Tryd.underlying35 hv
  rw [hrun, (h3 _).1]
  have := (h3 k).2
  have hc1 : D.atKey (.int .u64 k) (.lit (.int .u64 0)) = .lit (.int .u64 c) := congrArg Prod.fst hc
  rw [hc1] at this
  rw [(Lit.int.inj (DataW.lit.inj this)).2]

def mapSetW (m : Nat → Option Nat) (k v : Nat) : Nat → Option Nat := fun l => if l = k then some v else m l
theorem MapW.set_ {b n : Nat} {m : Nat → Option Nat} {w : World} (h : MapW b n m w) (k : Nat) (hk : k < 18446744073709551616) (v : Nat) (hv : v < 18446744073709551616) (hn : n < maxLen) :
    ∃ w', (Instr.mapUpdate 81 (.map (some b)) (.int .u64 k) (.int .u64 v)).run Tryd.prog w = .ok () w' ∧ MapW b (n + 1) (mapSetW m k v) w' ∧ w.grownBy w' (some b) := by
  obtain ⟨D, h1, h2, h3⟩ := h
  have hkey := keyOf_int_mk Tryd.underlying35 (wf_u64 hk)
  obtain ⟨w', hrun, h4, h5⟩ := h1.update Tryd.lawW Tryd.underlying81 hn hkey (plainElem_int Tryd.underlying35 (wf_u64 hv))
  refine ⟨w', hrun, ⟨_, h4, ?_, ?_⟩, h5⟩
  · obtain ⟨es, rfl⟩ := h2; exact ⟨_, rfl⟩
  · intro l
    have hkk : WideAt.IsKeyLit (.int .u64 (k : Int)) := Tryd.lawW.key hkey
    unfold mapSetW
    by_cases e : l = k
    · subst e
      simp only [if_true]
      exact ⟨by rw [has_put_same h2 hkk]; simp, by rw [atKey_put_same h2 hkk]; simp⟩
    · have e' : (Lit.int .u64 (l : Int)) ≠ .int .u64 (k : Int) := fun h => e (Int.ofNat.inj (Lit.int.inj h).2)
      rw [has_put_other e', atKey_put_other e', if_neg e]
      exact h3 l
end Go.Proofs.YtkipjbmckpmmfaaDoor
end
