/- Package atom: what stands behind a backslash. -/
import Derived.Test.YtdafikemndaeeaaDoorAtomA
import Derived.Deep.RegionWith
open Go Go.RowKit
namespace Go.Proofs.YtdafikemndaeeaaDoor

theorem hexS_le (l : List UInt8) : 0 ≤ (hexS l).2 ∧ (hexS l).2 ≤ l.length + 1 := by
  unfold hexS
  (repeat' split) <;> (simp; try omega)
theorem hexS_byte (l : List UInt8) : 0 ≤ (hexS l).1 ∧ (hexS l).1 < 256 := by
  unfold hexS
  (repeat' split) <;> simp
  rename_i a b _ h
  have := nibbleS_hi a.toNat; have := nibbleS_hi b.toNat; omega
theorem escapeS_le (l : List UInt8) : 0 ≤ (escapeS l).2 ∧ (escapeS l).2 ≤ l.length := by
  unfold escapeS
  (repeat' split) <;> (simp; try omega)
  exact hexS_le _
theorem escapeS_byte (l : List UInt8) : 0 ≤ (escapeS l).1 ∧ (escapeS l).1 < 256 := by
  unfold escapeS
  split
  · simp
  · rename_i c l
    (repeat' split) <;> (first | exact hexS_byte _ | (simp; done) | (have := c.toNat_lt; simp; omega))

theorem ret2_int {k k' : IntKind} {a b c d : Int} {p : Int × Int} (hp : p = (b, d)) (h : a = b) (h' : c = d) : Ending.returned (.tuple #[.int k a, .int k' c]) = .returned (.tuple #[.int k p.1, .int k' p.2]) := by rw [hp, h, h']

theorem or16 (x y : Int) (h0 : 0 ≤ x) (h1 : x ≤ 15) (h2 : 0 ≤ y) (h3 : y ≤ 15) : bits BinOp.or IntKind.i64 (x * 16) y % 256 = x * 16 + y := by
  obtain ⟨a, rfl⟩ := Int.eq_ofNat_of_zero_le h0
  obtain ⟨b, rfl⟩ := Int.eq_ofNat_of_zero_le h2
  have key : ∀ a : Fin 16, ∀ b : Fin 16, bits BinOp.or IntKind.i64 (((a.val : Nat) : Int) * 16) ((b.val : Nat) : Int) % 256 = ((a.val : Nat) : Int) * 16 + ((b.val : Nat) : Int) := by decide +kernel
  exact key ⟨a, by omega⟩ ⟨b, by omega⟩

set_option maxHeartbeats 4000000 in
theorem escape_any (s : ByteArray) (w : World) (hs : s.size ≤ maxLen) :
    Calls Tryd.prog 75 #[.string s] w fun e w' =>
      e = .returned (.tuple #[.int .u8 (escapeS s.data.toList).1, .int .i64 (escapeS s.data.toList).2]) ∧ ∃ n, w' = w.drewN n := by
  unfold maxLen at hs
  by_cases h0 : s.size = 0
  · have he : s.data.toList = [] := by apply List.eq_nil_of_length_eq_zero; simpa using h0
    have he' : s.toList = [] := by rw [toList_data]; exact he
    have hee : s.toList.isEmpty = true := by rw [he']; rfl
    have P := Lib.hid (show escapeS s.data.toList = (0, 0) by rw [he]; rfl)
    clear he he'
    go_enter Tryd.func75, Tryd.ntmps75
    go_wp2
    go_ret2
    exact ⟨ret2_int P.out rfl rfl, 0, rfl⟩
  · have hpos : 0 < s.size := by omega
    have hd := drop_cons s 0 (by omega)
    rw [List.drop_zero] at hd
    have hee : s.toList.isEmpty = false := by rw [toList_data, hd]; rfl
    clear h0
    have e1 : escapeS s.data.toList = escapeS (s[0] :: s.data.toList.drop 1) := congrArg escapeS hd
    rw [escapeS.eq_2] at e1
    by_cases c1 : s[0] = 110
    · have b1 : ((s[0].toNat : Int) == 110) = true := byte_eqb c1
      rw [if_pos c1] at e1
      have P := Lib.hid e1
      clear e1 hd c1
      go_enter Tryd.func75, Tryd.ntmps75
      go_wp2
      go_ret2
      exact ⟨ret2_int P.out rfl rfl, 0, rfl⟩
    have b1 : ((s[0].toNat : Int) == 110) = false := byte_neb c1
    rw [if_neg c1] at e1
    by_cases c2 : s[0] = 116
    · have b2 : ((s[0].toNat : Int) == 116) = true := byte_eqb c2
      rw [if_pos c2] at e1
      have P := Lib.hid e1
      clear e1 hd c1 c2
      go_enter Tryd.func75, Tryd.ntmps75
      go_wp2
      go_ret2
      exact ⟨ret2_int P.out rfl rfl, 0, rfl⟩
    have b2 : ((s[0].toNat : Int) == 116) = false := byte_neb c2
    rw [if_neg c2] at e1
    by_cases c3 : s[0] = 114
    · have b3 : ((s[0].toNat : Int) == 114) = true := byte_eqb c3
      rw [if_pos c3] at e1
      have P := Lib.hid e1
      clear e1 hd c1 c2 c3
      go_enter Tryd.func75, Tryd.ntmps75
      go_wp2
      go_ret2
      exact ⟨ret2_int P.out rfl rfl, 0, rfl⟩
    have b3 : ((s[0].toNat : Int) == 114) = false := byte_neb c3
    rw [if_neg c3] at e1
    by_cases c4 : s[0] = 39
    · have b4 : ((s[0].toNat : Int) == 39) = true := byte_eqb c4
      rw [if_pos (.inl c4)] at e1
      have P := Lib.hid e1
      clear e1 hd c1 c2 c3 c4
      go_enter Tryd.func75, Tryd.ntmps75
      go_wp2
      go_ret2
      exact ⟨ret2_int P.out rfl rfl, 0, rfl⟩
    have b4 : ((s[0].toNat : Int) == 39) = false := byte_neb c4
    by_cases c5 : s[0] = 92
    · have b5 : ((s[0].toNat : Int) == 92) = true := byte_eqb c5
      rw [if_pos (.inr c5)] at e1
      have P := Lib.hid e1
      clear e1 hd c1 c2 c3 c4 c5
      go_enter Tryd.func75, Tryd.ntmps75
      go_wp2
      go_ret2
      exact ⟨ret2_int P.out rfl rfl, 0, rfl⟩
    have b5 : ((s[0].toNat : Int) == 92) = false := byte_neb c5
    rw [if_neg (by rintro (h | h); exact c4 h; exact c5 h)] at e1
    by_cases c6 : s[0] = 120
    · have b6 : ((s[0].toNat : Int) == 120) = true := byte_eqb c6
      rw [if_pos c6] at e1
      clear c1 c2 c3 c4 c5 c6
      by_cases hl : 2 < s.size
      · rw [drop_cons s 1 (by omega), drop_cons s 2 (by omega)] at e1
        simp only [hexS] at e1
        clear hd
        have l1 : (s[1].toNat : Int) < 256 := by have := s[1].toNat_lt; omega
        have l2 : (s[2].toNat : Int) < 256 := by have := s[2].toNat_lt; omega
        have n1 := fun w => nibble_any (s[1].toNat : Int) w (by omega) l1
        have n2 := fun w => nibble_any (s[2].toNat : Int) w (by omega) l2
        have N1 := Lib.hid n1
        have N2 := Lib.hid n2
        clear n1 n2 l1 l2
        have lo1 := nibbleS_lo (s[1].toNat : Int)
        have lo2 := nibbleS_lo (s[2].toNat : Int)
        have hi1 := nibbleS_hi (s[1].toNat : Int)
        have hi2 := nibbleS_hi (s[2].toNat : Int)
        generalize nibbleS (s[1].toNat : Int) = x1 at *
        generalize nibbleS (s[2].toNat : Int) = x2 at *
        by_cases g1 : 0 ≤ x1
        · by_cases g2 : 0 ≤ x2
          · rw [if_pos ⟨g1, g2⟩] at e1
            have P := Lib.hid e1
            clear e1
            go_enter Tryd.func75, Tryd.ntmps75
            go_wp2_with (go_at_call 89; (first | (with_reducible refine (N1.out _).mono ?_) | (with_reducible refine (N2.out _).mono ?_)); rintro e w' ⟨rfl, rfl⟩)
            go_quiet ((go_at_call 89; (first | (with_reducible refine Calls.quiet_of_same (N1.out _)) | (with_reducible refine Calls.quiet_of_same (N2.out _)))))
            go_wp2
            go_ret2
            exact ⟨ret2_int P.out (or16 _ _ g1 hi1 g2 hi2) rfl, _, rfl⟩
          · rw [if_neg (fun h => g2 h.2)] at e1
            have P := Lib.hid e1
            clear e1
            go_enter Tryd.func75, Tryd.ntmps75
            go_wp2_with (go_at_call 89; (first | (with_reducible refine (N1.out _).mono ?_) | (with_reducible refine (N2.out _).mono ?_)); rintro e w' ⟨rfl, rfl⟩)
            go_ret2
            exact ⟨ret2_int P.out rfl rfl, 0, rfl⟩
        · rw [if_neg (fun h => g1 h.1)] at e1
          have P := Lib.hid e1
          clear e1
          go_enter Tryd.func75, Tryd.ntmps75
          go_wp2_with (first | (go_at_call 89; refine (N1.out _).mono ?_; rintro e w' ⟨rfl, rfl⟩))
          go_ret2
          exact ⟨ret2_int P.out rfl rfl, 0, rfl⟩
      · have P := Lib.hid (show escapeS s.data.toList = (0, 0) by
          rw [e1]
          have hlen : (s.data.toList.drop 1).length ≤ 1 := by simp; omega
          unfold hexS
          split
          · rename_i h; rw [h] at hlen; simp at hlen
          · rfl)
        clear e1 hd
        go_enter Tryd.func75, Tryd.ntmps75
        go_wp2
        go_ret2
        exact ⟨ret2_int P.out rfl rfl, 0, rfl⟩
    have b6 : ((s[0].toNat : Int) == 120) = false := byte_neb c6
    rw [if_neg c6] at e1
    have P := Lib.hid e1
    clear e1 hd c1 c2 c3 c4 c5 c6
    go_enter Tryd.func75, Tryd.ntmps75
    go_wp2
    go_ret2
    exact ⟨ret2_int P.out rfl rfl, 0, rfl⟩
end Go.Proofs.YtdafikemndaeeaaDoor
