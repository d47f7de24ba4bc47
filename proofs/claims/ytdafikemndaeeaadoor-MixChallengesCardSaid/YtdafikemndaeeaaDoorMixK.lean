/- The law MixChallenges: the generators. -/
import Derived.Test.YtdafikemndaeeaaDoorMixI
import Derived.Test.YtdafikemndaeeaaDoorChain
import Derived.Lib.SmallJoins
import Derived.Lib.SmallJoins
import Derived.Lib.SmallJoins
open Go Go.RowKit
namespace Go.Proofs.YtdafikemndaeeaaDoor

def GenIs (b : Nat) (s n : Int) (w : World) : Prop := w.heap[b]? = some (.cells #[.bool true, .int .u64 s, .int .i64 n] 86 (0, 0))
def RGenIs (b : Nat) (s n : Int) (w : World) : Prop := w.heap[b]? = some (.cells #[.int .u64 s, .int .i64 n] 48 (0, 0))
/-- but for one block the world is as it was -/
structure Touch (b : Nat) (w w' : World) : Prop where
  os : w'.os = w.os
  tape : w'.tape = w.tape
  output : w'.output = w.output
  size : w'.heap.size = w.heap.size
  block : ∀ k, k ≠ b → w'.heap[k]? = w.heap[k]?
theorem Touch.below {B b : Nat} {a w w' : World} (h : Below B a w) (ht : Touch b w w') (hb : B ≤ b) : Below B a w' :=
  h.trans ⟨ht.os, ht.tape, ht.output, by rw [ht.size]; exact Nat.le_refl _, fun k hk => ht.block k (by omega)⟩
theorem Touch.refl (b : Nat) (w : World) : Touch b w w := ⟨rfl, rfl, rfl, rfl, fun _ _ => rfl⟩
theorem Touch.set {b : Nat} {w w' : World} (h : Touch b w w') (i : Nat) (v : Value) : Touch b w (w'.setCell ⟨b, i, none⟩ v) :=
  ⟨h.os, h.tape, h.output, by rw [← h.size]; simp [World.setCell], fun k hk => by
    rw [← h.block k hk]; simp [World.setCell, Array.getElem?_modify, Ne.symm hk]⟩

def adv (s : Int) : Int := IntKind.u64.wrap (s + 11400714819323198485)
def z1 (a : Int) : Int := IntKind.u64.wrap (bits BinOp.xor IntKind.u64 a (a / 1073741824) * 13787848793156543929)
def z2 (z : Int) : Int := IntKind.u64.wrap (bits BinOp.xor IntKind.u64 z (z / 134217728) * 10723151780598845931)
def z3 (z : Int) : Int := bits BinOp.xor IntKind.u64 z (z / 2147483648) / 4294967296 % 4294967296
/-- the challenge that a state tells -/
def chal (s : Int) : Int := z3 (z2 (z1 (adv s)))

set_option maxHeartbeats 4000000 in
set_option maxRecDepth 100000 in
theorem next_any (b : Nat) (s : Int) (n : Nat) (w : World) (h : GenIs b s n w) (hn : n ≤ 2000) :
    Calls Tryd.prog 28 #[.pointer (some ⟨b, 0, none⟩)] w fun e w' => e = .returned (.tuple #[.int .u32 (chal s), .nilIface]) ∧ GenIs b (adv s) (n + 1 : Nat) w' ∧ Touch b w w' := by
  have c0 : w.cell? ⟨b, 0, none⟩ = some (.bool true) := cell_of_block h 0
  have c1 : w.cell? ⟨b, 1, none⟩ = some (.int .u64 s) := cell_of_block h 1
  have c2 : w.cell? ⟨b, 2, none⟩ = some (.int .i64 n) := cell_of_block h 2
  have f1 : w.frozen? ⟨b, 1, none⟩ = false := by simp [World.frozen?, show w.heap[b]? = _ from h]
  have f2 : w.frozen? ⟨b, 2, none⟩ = false := by simp [World.frozen?, show w.heap[b]? = _ from h]
  have H := Lib.hid h
  clear h
  go_enter Tryd.func28, Tryd.ntmps28
  go_wp2
  go_ret2
  refine ⟨rfl, ?_, ((Touch.refl b w).set 2 _).set 1 _⟩
  have h2 := Joins.block_setCell (i := 1) (Joins.block_setCell (i := 2) H.out (.int .i64 (wrap64 (n + 1)))) (.int .u64 (adv s))
  have e : wrap64 ((n : Int) + 1) = ((n + 1 : Nat) : Int) := by unfold wrap64; omega
  rw [e] at h2
  first | exact h2 | (rw [e]; exact h2)

set_option maxHeartbeats 4000000 in
set_option maxRecDepth 100000 in
theorem nextR_any (b : Nat) (s : Int) (n : Nat) (w : World) (h : RGenIs b s n w) (hn : n ≤ 2000) :
    Calls Tryd.prog 29 #[.pointer (some ⟨b, 0, none⟩)] w fun e w' => e = .returned (.int .u32 (chal s)) ∧ RGenIs b (adv s) (n + 1 : Nat) w' ∧ Touch b w w' := by
  have c1 : w.cell? ⟨b, 0, none⟩ = some (.int .u64 s) := cell_of_block h 0
  have c2 : w.cell? ⟨b, 1, none⟩ = some (.int .i64 n) := cell_of_block h 1
  have f1 : w.frozen? ⟨b, 0, none⟩ = false := by simp [World.frozen?, show w.heap[b]? = _ from h]
  have f2 : w.frozen? ⟨b, 1, none⟩ = false := by simp [World.frozen?, show w.heap[b]? = _ from h]
  have H := Lib.hid h
  clear h
  go_enter Tryd.func29, Tryd.ntmps29
  go_wp2
  go_ret
  refine ⟨rfl, ?_, ((Touch.refl b w).set 0 _).set 1 _⟩
  have h2 := Joins.block_setCell (i := 1) (Joins.block_setCell (i := 0) H.out (.int .u64 (adv s))) (.int .i64 (wrap64 (n + 1)))
  have e : wrap64 ((n : Int) + 1) = ((n + 1 : Nat) : Int) := by unfold wrap64; omega
  rw [e] at h2
  first | exact h2 | (rw [e]; exact h2)

theorem new_any (s : Int) (w : World) : Calls Tryd.prog 27 #[.int .u64 s] w fun e w' => e = .returned (.pointer (some ⟨w.heap.size, 0, none⟩)) ∧ w' = w.alloc (.cells #[.bool true, .int .u64 s, .int .i64 0] 86 (0, 0)) := by
  go_enter Tryd.func27, Tryd.ntmps27
  go_wp2
  go_ret
  exact ⟨rfl, rfl⟩
theorem count_any (b : Nat) (s n : Int) (w : World) (h : GenIs b s n w) :
    Calls Tryd.prog 30 #[.pointer (some ⟨b, 0, none⟩)] w fun e w' => e = .returned (.int .i64 n) ∧ w' = w := by
  have c2 : w.cell? ⟨b, 2, none⟩ = some (.int .i64 n) := cell_of_block h 2
  clear h
  go_enter Tryd.func30, Tryd.ntmps30
  go_wp2
  go_ret
  exact ⟨rfl, rfl⟩
end Go.Proofs.YtdafikemndaeeaaDoor
