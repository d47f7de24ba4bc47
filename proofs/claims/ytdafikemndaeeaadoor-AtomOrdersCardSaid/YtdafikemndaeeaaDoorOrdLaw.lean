/- AtomOrders: the walk of the statement. -/
import Derived.Test.YtdafikemndaeeaaDoorAtomI
open Go Go.RowKit
namespace Go.Proofs.YtdafikemndaeeaaDoor

theorem cmp_cases : ∀ (a b : List UInt8), Lib.compareBytes a b = -1 ∨ Lib.compareBytes a b = 0 ∨ Lib.compareBytes a b = 1
  | [], [] => by simp [Lib.compareBytes]
  | [], _ :: _ => by simp [Lib.compareBytes]
  | _ :: _, [] => by simp [Lib.compareBytes]
  | a :: xs, b :: ys => by
    rw [Lib.compareBytes]
    have := cmp_cases xs ys
    (repeat' split) <;> simp [this]
theorem cmp_neg : ∀ (a b : List UInt8), Lib.compareBytes b a = - Lib.compareBytes a b
  | [], [] => by simp [Lib.compareBytes]
  | [], _ :: _ => by simp [Lib.compareBytes]
  | _ :: _, [] => by simp [Lib.compareBytes]
  | a :: xs, b :: ys => by
    rw [Lib.compareBytes, Lib.compareBytes]
    have := cmp_neg xs ys
    by_cases h1 : a < b
    · have h2 : ¬ b < a := fun h => absurd (UInt8.lt_trans h1 h) (UInt8.lt_irrefl _)
      rw [if_neg h2, if_pos h1, if_pos h1]
      rfl
    · rw [if_neg h1, if_neg h1]
      by_cases h2 : b < a
      · rw [if_pos h2, if_pos h2]
      · rw [if_neg h2, if_neg h2]; exact this
theorem cmp_zero : ∀ (a b : List UInt8), Lib.compareBytes a b = 0 ↔ a = b
  | [], [] => by simp [Lib.compareBytes]
  | [], _ :: _ => by simp [Lib.compareBytes]
  | _ :: _, [] => by simp [Lib.compareBytes]
  | a :: xs, b :: ys => by
    rw [Lib.compareBytes]
    have := cmp_zero xs ys
    by_cases h1 : a < b
    · rw [if_pos h1]
      constructor
      · intro h; cases h
      · intro h; cases h; exact absurd h1 (UInt8.lt_irrefl _)
    · rw [if_neg h1]
      by_cases h2 : b < a
      · rw [if_pos h2]
        constructor
        · intro h; cases h
        · intro h; cases h; exact absurd h2 (UInt8.lt_irrefl _)
      · rw [if_neg h2, this]
        have e : a = b := UInt8.le_antisymm (UInt8.not_lt.1 h2) (UInt8.not_lt.1 h1)
        simp [e]
theorem cmp_trans : ∀ (a b c : List UInt8), Lib.compareBytes a b ≤ 0 → Lib.compareBytes b c ≤ 0 → Lib.compareBytes a c ≤ 0
  | [], _, [] => by simp [Lib.compareBytes]
  | [], _, _ :: _ => by simp [Lib.compareBytes]
  | _ :: _, [], _ => by simp [Lib.compareBytes]
  | _ :: _, _ :: _, [] => by simp [Lib.compareBytes]
  | a :: xs, b :: ys, c :: cs => by
    rw [Lib.compareBytes, Lib.compareBytes, Lib.compareBytes]
    have ih := cmp_trans xs ys cs
    simp only [UInt8.lt_iff_toNat_lt]
    (repeat' split) <;> (try omega)
    all_goals (intro h1 h2; first | omega | exact ih h1 h2)

theorem eq_of_data {a b : ByteArray} (h : a.data.toList = b.data.toList) : a = b := by
  obtain ⟨⟨a⟩⟩ := a; obtain ⟨⟨b⟩⟩ := b; simpa using h

set_option maxHeartbeats 4000000 in
set_option maxRecDepth 100000 in
theorem orders_walk (a b c : ByteArray) (w : World) (ha : a.size ≤ maxLen) (hb : b.size ≤ maxLen) (hc : c.size ≤ maxLen) (hT : Lib.Utf8Tabs 2 3 w) :
    Calls Tryd.prog 5 #[.string a, .string b, .string c] w fun e w' => e = .returned (.bool true) ∧ Below w.heap.size w w' := by
  have x3 := cmp_cases a.data.toList b.data.toList
  have y3 := cmp_cases b.data.toList c.data.toList
  have z3 := cmp_cases a.data.toList c.data.toList
  have xn := cmp_neg a.data.toList b.data.toList
  have x0 := cmp_zero a.data.toList b.data.toList
  have xyz := cmp_trans a.data.toList b.data.toList c.data.toList
  have A1 := Lib.hid (fun w => compare_any a b w)
  have A2 := Lib.hid (fun w => compare_any b c w)
  have A3 := Lib.hid (fun w => compare_any a c w)
  have A4 := Lib.hid (fun w => compare_any b a w)
  have B1 := Lib.hid (fun w => compareR_any a b w ha hb)
  have B2 := Lib.hid (fun w => compareR_any b c w hb hc)
  have B3 := Lib.hid (fun w => compareR_any a c w ha hc)
  have HA := fun n => Lib.hid (alive01 (w.drewN n) hT)
  have hab : (a.toList == b.toList) = decide (a.data.toList = b.data.toList) := by
    rw [toList_data, toList_data]; rw [Bool.eq_iff_iff]; simp
  simp only [cmpS] at A1 A2 A3 A4 B1 B2 B3
  rw [xn] at A4
  generalize Lib.compareBytes a.data.toList b.data.toList = x at *
  generalize Lib.compareBytes b.data.toList c.data.toList = y at *
  generalize Lib.compareBytes a.data.toList c.data.toList = z at *
  have hx0 : (a.toList == b.toList) = (x == 0) := by rw [hab, Bool.eq_iff_iff]; simp [x0]
  have H0 := Lib.hid hx0
  have xlo : -1 ≤ x := by omega
  have xhi : x ≤ 1 := by omega
  have hfin : 0 < x ∨ (x ≤ 0 ∧ 0 < y) ∨ (x ≤ 0 ∧ y ≤ 0 ∧ z ≤ 0) := by
    by_cases h1 : x ≤ 0
    · by_cases h2 : y ≤ 0
      · exact .inr (.inr ⟨h1, h2, xyz h1 h2⟩)
      · exact .inr (.inl ⟨h1, by omega⟩)
    · exact .inl (by omega)
  have hz : (x == 0) = true ∧ (a.toList == b.toList) = true ∨ (x == 0) = false ∧ (a.toList == b.toList) = false := by
    rw [hx0]; cases (x == 0) <;> simp
  clear x3 y3 z3 xn x0 xyz hab hx0 ha hb hc H0
  have hz' : (x == 0) = true → ¬ 0 < x := by simp; omega
  rcases hz with ⟨hz1, hz2⟩ | ⟨hz1, hz2⟩
  all_goals rcases hfin with hf | ⟨hf1, hf2⟩ | ⟨hf1, hf2, hf3⟩
  · exact absurd hf (hz' hz1)
  all_goals
    clear hz'
    go_enter Tryd.func5, Tryd.ntmps5
    go_wp2_with fail
    refine (A1.out _).mono ?_
    rintro e w1 ⟨rfl, rfl⟩
    go_wp2_with fail
    refine (A2.out _).mono ?_
    rintro e w1 ⟨rfl, rfl⟩
    go_wp2_with fail
    refine (A3.out _).mono ?_
    rintro e w1 ⟨rfl, rfl⟩
    go_wp2_with fail
    refine (B1.out _).mono ?_
    rintro e w1 ⟨rfl, n1, rfl⟩
    go_wp2_with fail
    refine (B2.out _).mono ?_
    rintro e w1 ⟨rfl, n2, rfl⟩
    go_wp2_with fail
    refine (B3.out _).mono ?_
    rintro e w1 ⟨rfl, n3, rfl⟩
    go_wp2_with fail
    refine (A4.out _).mono ?_
    rintro e w1 ⟨rfl, rfl⟩
    go_wp2_with fail
    refine (HA _).out.mono ?_
    rintro e w4 ⟨rfl, hb⟩
    go_wp2
    go_ret
    exact ⟨rfl, (below_drewN (Below.refl _ _) _).trans hb⟩
end Go.Proofs.YtdafikemndaeeaaDoor
