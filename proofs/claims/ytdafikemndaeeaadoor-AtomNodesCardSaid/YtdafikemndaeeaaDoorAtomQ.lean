/- The reference's Node: the pure part, and that it is what package atom's Node is. -/
import Derived.Test.YtdafikemndaeeaaDoorAtomO
open Go Go.RowKit
namespace Go.Proofs.YtdafikemndaeeaaDoor

/-- one byte of the reference's loop: the place of the last '@', and whether all is well -/
def stepN (st : Int × Bool) (k : Nat) (c : UInt8) : Int × Bool :=
  if ((c.toNat : Int) == 64) = true then (k, st.2 && decide (st.1 < 0)) else (st.1, st.2 && ((kindS c.toNat != 0) || ((c.toNat : Int) == 45) || (((c.toNat : Int) == 46) && decide (0 ≤ st.1))))
def runN : List UInt8 → Nat → Int × Bool → Int × Bool
  | [], _, st => st
  | c :: r, k, st => runN r (k + 1) (stepN st k c)
def endN (s : ByteArray) : Int × Bool := runN s.data.toList 0 (-1, decide (3 ≤ (s.size : Int)) && decide ((s.size : Int) ≤ 64))
def nodeRS (s : ByteArray) : ByteArray × ByteArray × List Lk :=
  if (!(endN s).2 || decide ((endN s).1 < 1) || ((endN s).1 == (s.size : Int) - 1)) = true then (⟨#[]⟩, ⟨#[]⟩, [⟨atomL, 0, 24⟩])
  else (s.extract 0 (endN s).1.toNat, s.extract ((endN s).1.toNat + 1) s.size, [])

theorem okN_eq (c : UInt8) : okN c = ((kindS c.toNat != 0) || ((c.toNat : Int) == 45)) := by
  unfold okN; congr 1; rw [Bool.eq_iff_iff]; simp; omega
theorem okH_eq (c : UInt8) : okH c = ((kindS c.toNat != 0) || ((c.toNat : Int) == 45) || ((c.toNat : Int) == 46)) := by
  unfold okH; congr 1
  · congr 1; rw [Bool.eq_iff_iff]; simp; omega
  · rw [Bool.eq_iff_iff]; simp; omega
theorem is64 (c : UInt8) : (((c.toNat : Int) == 64) = true) ↔ c = 64 := by
  constructor
  · intro h
    have : c.toNat = 64 := by simp at h; omega
    exact UInt8.toNat_inj.1 this
  · rintro rfl; rfl

theorem runN_append (l1 : List UInt8) : ∀ (l2 : List UInt8) (k : Nat) (st : Int × Bool), runN (l1 ++ l2) k st = runN l2 (k + l1.length) (runN l1 k st) := by
  induction l1 with
  | nil => intro l2 k st; rfl
  | cons c r ih =>
    intro l2 k st
    rw [List.cons_append, runN, runN, ih]
    congr 1
    simp; omega
theorem runN_before (l : List UInt8) (h : 64 ∉ l) : ∀ (k : Nat) (g : Bool), runN l k (-1, g) = (-1, g && l.all okN) := by
  induction l with
  | nil => intro k g; simp [runN]
  | cons c r ih =>
    intro k g
    have hc : ¬ c = 64 := fun e => h (by simp [e])
    rw [runN, stepN, if_neg (by rw [is64]; exact hc), ih (fun e => h (by simp [e])), List.all_cons, okN_eq]
    simp [Bool.and_assoc]
theorem runN_after (l : List UInt8) (h : 64 ∉ l) (a : Int) (ha : 0 ≤ a) : ∀ (k : Nat) (g : Bool), runN l k (a, g) = (a, g && l.all okH) := by
  induction l with
  | nil => intro k g; simp [runN]
  | cons c r ih =>
    intro k g
    have hc : ¬ c = 64 := fun e => h (by simp [e])
    rw [runN, stepN, if_neg (by rw [is64]; exact hc), ih (fun e => h (by simp [e])), List.all_cons, okH_eq]
    simp [Bool.and_assoc, ha]
theorem runN_bad (l : List UInt8) : ∀ (k : Nat) (a : Int), (runN l k (a, false)).2 = false := by
  induction l with
  | nil => intro k a; rfl
  | cons c r ih =>
    intro k a
    rw [runN, stepN]
    split <;> simp only [Bool.false_and] <;> exact ih _ _
theorem runN_twice (l : List UInt8) (h : 64 ∈ l) : ∀ (k : Nat) (a : Int) (g : Bool), 0 ≤ a → (runN l k (a, g)).2 = false := by
  induction l with
  | nil => exact absurd h (by simp)
  | cons c r ih =>
    intro k a g ha
    rw [runN, stepN]
    by_cases hc : c = 64
    · rw [if_pos ((is64 c).2 hc)]
      have : decide (a < 0) = false := decide_eq_false (by omega)
      simp only [this, Bool.and_false]
      exact runN_bad r _ _
    · rw [if_neg (by rw [is64]; exact hc)]
      have hr : 64 ∈ r := by
        rcases List.mem_cons.1 h with e | e
        · exact absurd e.symm hc
        · exact e
      exact ih hr _ _ _ ha
end Go.Proofs.YtdafikemndaeeaaDoor
