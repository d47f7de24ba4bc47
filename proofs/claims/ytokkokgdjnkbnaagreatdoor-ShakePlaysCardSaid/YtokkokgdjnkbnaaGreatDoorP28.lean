/- Texts laid together: CookN. -/
import Derived.Test.YtokkokgdjnkbnaaGreatDoorP11
section
/- heddleref07.Cookie of a cookie that is one: nil. -/
open Go Go.RowKit
namespace Go.Proofs.YtokkokgdjnkbnaaGreatDoor

set_option maxHeartbeats 4000000 in
set_option maxRecDepth 1000000 in
theorem cookieR_ok (s : ByteArray) (w : World) (hC : cookieS s = []) :
    Calls Tryz.prog 59 #[.string s] w fun e w' => e = .returned (.slice none 0 0) ∧ w = w' := by
  by_cases h0 : s.size = 0
  · obtain rfl : s = ⟨#[]⟩ := ByteArray.size_eq_zero_iff.1 h0
    exact absurd hC (by unfold cookieS; rw [if_pos h0]; simp)
  have hne : s.toList.isEmpty = false := by
    rw [toList_data]
    cases h : s.data.toList with
    | nil => exact absurd (by simpa using congrArg List.length h) h0
    | cons a b => rfl
  go_enter Tryz.func59, Tryz.ntmps59
  go_wp2
  go_loop [3] (fun v => ∃ (pos fuel : Nat), v = .int .i64 pos ∧ cookGo s fuel pos = cookGo s s.size 0 ∧ s.size ≤ pos + fuel ∧ pos ≤ 255 ∧ pos ≤ s.size) (fun v => s.size - (intOf v).toNat)
  case atStart => exact ⟨0, s.size, rfl, rfl, by omega, by omega, by omega⟩
  case round =>
    obtain ⟨pos, fuel, rfl, hacc, hfu, hp255, hps⟩ := hrel
    by_cases hp : pos < s.size
    · have hpi : (pos : Int) < (s.size : Int) := by omega
      obtain ⟨f, rfl⟩ : ∃ f, fuel = f + 1 := ⟨fuel - 1, by omega⟩
      have hbad := cookGo_bad s f pos hp
      have hgood := cookGo_good s f pos hp
      have fin : okC s[pos] pos = false → cookieS s = [⟨mixL, pos, 140⟩] := fun h => by
        have := hacc.symm.trans (hbad h)
        unfold cookieS
        rw [if_neg h0, this, if_pos (by omega)]
      by_cases h1 : pos = 255
      · exact absurd (hC.symm.trans (fin (by simp [okC]; omega))) (by simp)
      have h1' : ((pos : Int) == 255) = false := by simp; omega
      by_cases h2 : s[pos].toNat < 33
      · exact absurd (hC.symm.trans (fin (by simp [okC]; omega))) (by simp)
      have h2' : ¬ (s[pos].toNat : Int) < 33 := by omega
      by_cases h3 : 126 < s[pos].toNat
      · exact absurd (hC.symm.trans (fin (by simp [okC]; omega))) (by simp)
      have h3' : ¬ (126 : Int) < s[pos].toNat := by omega
      have hg := Lib.hid ((hgood (by simp [okC]; omega)).symm.trans hacc)
      clear hbad hgood fin hacc h2 h3
      go_wp2
      go_round
      case rel => exact ⟨pos + 1, f, by simp, hg.out, by omega, by omega, by omega⟩
      case measure => simp [intOf]; omega
    · have hpi : ¬ (pos : Int) < (s.size : Int) := by omega
      clear hacc
      go_wp2
      go_ret
      exact ⟨rfl, rfl⟩
end Go.Proofs.YtokkokgdjnkbnaaGreatDoor
end
