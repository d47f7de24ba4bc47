/- The reference of mix: a number's decimal digits. -/
import Derived.Test.YtdafikemndaeeaaDoorMixD
open Go Go.RowKit
namespace Go.Proofs.YtdafikemndaeeaaDoor

theorem digit_b (m : Nat) : UInt8.ofNat ((48 + (m : Int) % 10).toNat) = UInt8.ofNat (48 + m % 10) := by
  congr 1
theorem run_app_nil {base : Nat} {v : Value} {l : List UInt8} {w : World} (h : BufIs base v l w) (ty : TypeId) : (Builtin.append_ #[34, 34] ty #[v, .slice none 0 0]).run Tryd.prog w = .ok v w := by
  obtain ⟨i0, hi, hz0, hz1, hz2⟩ := info_parts Tryd.infoByte
  exact run_append_owned_none (base := base) w 34 ty 5 i0 1 Tryd.underlying34 hi v _ _ h

set_option maxHeartbeats 4000000 in
set_option maxRecDepth 100000 in
theorem digits_any (u : Nat) (hu : u < 4294967296) (w : World) :
    Calls Tryd.prog 69 #[.int .u32 u] w fun e w' => ∃ v', e = .returned v' ∧ BufIs w.heap.size v' (Lib.decDigits u) w' ∧ Below w.heap.size w w' := by
  by_cases h0 : u = 0
  · subst h0
    go_enter Tryd.func69, Tryd.ntmps69
    go_wp2
    go_ret
    have := BufIs.lit (base := w.heap.size) (w := w) [48] (Nat.le_refl _) (by decide)
    rw [show Lib.decDigits 0 = [48] by rw [Lib.decDigits_one (by omega)]; rfl]
    exact ⟨_, rfl, this, (Below.refl _ w).alloc (Nat.le_refl _) _⟩
  have h0' : ((u : Int) == 0) = false := by simp; omega
  have hD : (Lib.decDigits u).length ≤ 20 := by
    rw [Lib.decDigits_length]
    have := Lib.numDigits_eq u (by omega) (by omega); split at this <;> omega
  go_enter Tryd.func69, Tryd.ntmps69
  go_wp2
  go_loopw [0, 3] (fun n b wr => ∃ (m : Nat) (l : List UInt8), n = .int .u32 m ∧ m ≤ u ∧ BufIs w.heap.size b l wr ∧ (if m = 0 then l = Lib.decDigits u else Lib.decDigits m ++ l = Lib.decDigits u) ∧ Below w.heap.size w wr) (fun n _ _ => (intOf n).toNat)
  case atStart =>
    exact ⟨u, [], rfl, by omega, BufIs.nil _ _, by rw [if_neg h0]; simp, Below.refl _ _⟩
  case round =>
    obtain ⟨m, l, rfl, hm, hb, hacc, hbw⟩ := hrel
    by_cases hm0 : m = 0
    · subst hm0
      rw [if_pos rfl] at hacc
      subst hacc
      have HB := Lib.hid hb
      clear hb
      go_wp2
      go_ret
      exact ⟨_, rfl, HB.out, hbw⟩
    have hm1 : (0 : Int) < m := by omega
    rw [if_neg hm0] at hacc
    have hlen : l.length ≤ 20 := by rw [← hacc] at hD; simp at hD; omega
    have hstep : if m / 10 = 0 then (UInt8.ofNat (48 + m % 10)) :: l = Lib.decDigits u else Lib.decDigits (m / 10) ++ (UInt8.ofNat (48 + m % 10)) :: l = Lib.decDigits u := by
      rw [← hacc]
      by_cases h10 : m < 10
      · rw [if_pos (by omega), Lib.decDigits_one h10, Nat.mod_eq_of_lt h10]; rfl
      · rw [if_neg (by omega), Lib.decDigits.eq_1 m, dif_neg h10]; simp
    have hlit := BufIs.lit (base := w.heap.size) (w := wr) [UInt8.ofNat (48 + m % 10)] hbw.size (by simp [maxLen])
    have hlt : bytesV [UInt8.ofNat (48 + m % 10)] = [.int .u8 (48 + (m : Int) % 10)] := by
      simp only [bytesV, List.map, byteV]
      rw [← digit_b]; simp; omega
    rw [hlt] at hlit
    have hm10 : (m : Int) / 10 = ((m / 10 : Nat) : Int) := by omega
    have HS := Lib.hid hstep
    have HM := Lib.hid hm10
    clear hstep hm10 hacc hD hlt
    rcases hb.shape with ⟨rfl, rfl⟩ | ⟨g, c, rfl, hg1, hg2, hc1, hc2⟩
    · have hap := run_app_nil hlit
      have HL := Lib.hid hlit
      clear hlit hb
      go_wp2
      go_roundw
      case rel => exact ⟨m / 10, [UInt8.ofNat (48 + m % 10)], by rw [HM.out], by omega, HL.out, HS.out, hbw.alloc hbw.size _⟩
      case measure => simp [intOf]; omega
    · have HL := Lib.hid hlit
      have HB := Lib.hid (hb.alloc (.cells #[.int .u8 (48 + (m : Int) % 10)] 5 (0, 0)))
      clear hlit hb
      go_wp2_with (at_builtin; refine stop ?_)
      refine Stopped.of ?_
      refine wp_app_row rfl (.tmp 13) (.tmp 14) rfl w.heap.size (.slice (some ⟨wr.heap.size, 0, none⟩) 1 1) [UInt8.ofNat (48 + m % 10)] rfl HL.out ⟨g, 0, none⟩ l.length c l rfl rfl (fun j hj => by rw [Lib.add_plain, Nat.zero_add]; exact HB.out.cell j hj) (by simp; omega) (by have := hbw.size; simp; omega) ?_
      intro v' w2 hb2 hg2
      have H2 := Lib.hid hb2
      have W2 := Lib.hid (below_grown (hbw.alloc hbw.size _) HL.out (Nat.le_refl _) (by have := hbw.size; simp; omega) hg2)
      clear hb2 hg2
      go_wp2
      go_roundw
      case rel => exact ⟨m / 10, UInt8.ofNat (48 + m % 10) :: l, by rw [HM.out], by omega, H2.out, HS.out, W2.out⟩
      case measure => simp [intOf]; omega
end Go.Proofs.YtdafikemndaeeaaDoor
