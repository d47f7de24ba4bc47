/- Texts laid together: MixD, MixE. -/
import Derived.Test.YtokkokgdjnkbnaaGreatDoorP11
import Derived.Test.YtokkokgdjnkbnaaGreatDoorP3
section
/- Package mix: put. -/
open Go Go.RowKit
namespace Go.Proofs.YtokkokgdjnkbnaaGreatDoor

/-- the byte of a number at a power of two -/
def b8 (n d : Int) : UInt8 := UInt8.ofNat (n / d % 256).toNat
def be8 (n : Int) : List UInt8 := [b8 n 72057594037927936, b8 n 281474976710656, b8 n 1099511627776, b8 n 4294967296, b8 n 16777216, b8 n 65536, b8 n 256, b8 n 1]
theorem b8_cells (w : World) (n d : Int) : ∀ j, (h : j < [b8 n d].length) → (w.alloc (.cells #[.int .u8 (n / d % 256)] 5 (0, 0))).cell? ((⟨w.heap.size, 0, none⟩ : Addr).add j) = some (byteV [b8 n d][j]) :=
  lit_cells1i w (n / d % 256) (by omega) (by omega)

set_option maxHeartbeats 8000000 in
set_option maxRecDepth 100000 in
theorem put_any (base : Nat) (v : Value) (l : List UInt8) (n : Int) (w : World) (hv : BufIs base v l w) (hB : base ≤ w.heap.size) (hl : l.length ≤ 1000) :
    Calls Tryz.prog 102 #[v, .int .u64 n] w fun e w' => ∃ v', e = .returned v' ∧ BufIs base v' (l ++ be8 n) w' ∧ Below base w w' := by
  have HV := Lib.hid hv
  have HW := Lib.hid (Below.refl base w)
  have HL := Lib.hid hl
  have HSZ := Lib.hid hB
  clear hv hl hB
  go_enter Tryz.func102, Tryz.ntmps102
  go_wp2
  refine wp_loop_rounds 9 ?_
  rw [rounds_succ]
  go_wp2_with (at_builtin; refine stop ?_)
  refine Stopped.of ?_
  refine wp_app_row rfl (.tmp 10) (.tmp 15) rfl base v (l) rfl (HV.out.alloc _) ⟨w.heap.size, 0, none⟩ 1 1 [b8 n 72057594037927936] rfl rfl (b8_cells _ n 72057594037927936) (by have := HL.out; simp; omega) (by have := HSZ.out; simp; omega) ?_
  intro v0 w0 hb0 hg0
  have H0 := Lib.hid hb0
  have W0 := Lib.hid (below_grown (HW.out.alloc HSZ.out _) (HV.out.alloc _) (Nat.le_refl _) (by have := HSZ.out; simp; omega) hg0)
  have S0 := Lib.hid (Nat.le_trans HSZ.out (Nat.le_trans (by simp) hg0.size))
  clear hb0 hg0
  go_wp2_with fail
  rw [rounds_succ]
  go_wp2_with (at_builtin; refine stop ?_)
  refine Stopped.of ?_
  refine wp_app_row rfl (.tmp 10) (.tmp 15) rfl base v0 (l ++ [b8 n 72057594037927936]) rfl (H0.out.alloc _) ⟨w0.heap.size, 0, none⟩ 1 1 [b8 n 281474976710656] rfl rfl (b8_cells _ n 281474976710656) (by have := HL.out; simp; omega) (by have := S0.out; simp; omega) ?_
  intro v1 w1 hb1 hg1
  have H1 := Lib.hid hb1
  have W1 := Lib.hid (below_grown (W0.out.alloc S0.out _) (H0.out.alloc _) (Nat.le_refl _) (by have := S0.out; simp; omega) hg1)
  have S1 := Lib.hid (Nat.le_trans S0.out (Nat.le_trans (by simp) hg1.size))
  clear hb1 hg1
  go_wp2_with fail
  rw [rounds_succ]
  go_wp2_with (at_builtin; refine stop ?_)
  refine Stopped.of ?_
  refine wp_app_row rfl (.tmp 10) (.tmp 15) rfl base v1 (l ++ [b8 n 72057594037927936] ++ [b8 n 281474976710656]) rfl (H1.out.alloc _) ⟨w1.heap.size, 0, none⟩ 1 1 [b8 n 1099511627776] rfl rfl (b8_cells _ n 1099511627776) (by have := HL.out; simp; omega) (by have := S1.out; simp; omega) ?_
  intro v2 w2 hb2 hg2
  have H2 := Lib.hid hb2
  have W2 := Lib.hid (below_grown (W1.out.alloc S1.out _) (H1.out.alloc _) (Nat.le_refl _) (by have := S1.out; simp; omega) hg2)
  have S2 := Lib.hid (Nat.le_trans S1.out (Nat.le_trans (by simp) hg2.size))
  clear hb2 hg2
  go_wp2_with fail
  rw [rounds_succ]
  go_wp2_with (at_builtin; refine stop ?_)
  refine Stopped.of ?_
  refine wp_app_row rfl (.tmp 10) (.tmp 15) rfl base v2 (l ++ [b8 n 72057594037927936] ++ [b8 n 281474976710656] ++ [b8 n 1099511627776]) rfl (H2.out.alloc _) ⟨w2.heap.size, 0, none⟩ 1 1 [b8 n 4294967296] rfl rfl (b8_cells _ n 4294967296) (by have := HL.out; simp; omega) (by have := S2.out; simp; omega) ?_
  intro v3 w3 hb3 hg3
  have H3 := Lib.hid hb3
  have W3 := Lib.hid (below_grown (W2.out.alloc S2.out _) (H2.out.alloc _) (Nat.le_refl _) (by have := S2.out; simp; omega) hg3)
  have S3 := Lib.hid (Nat.le_trans S2.out (Nat.le_trans (by simp) hg3.size))
  clear hb3 hg3
  go_wp2_with fail
  rw [rounds_succ]
  go_wp2_with (at_builtin; refine stop ?_)
  refine Stopped.of ?_
  refine wp_app_row rfl (.tmp 10) (.tmp 15) rfl base v3 (l ++ [b8 n 72057594037927936] ++ [b8 n 281474976710656] ++ [b8 n 1099511627776] ++ [b8 n 4294967296]) rfl (H3.out.alloc _) ⟨w3.heap.size, 0, none⟩ 1 1 [b8 n 16777216] rfl rfl (b8_cells _ n 16777216) (by have := HL.out; simp; omega) (by have := S3.out; simp; omega) ?_
  intro v4 w4 hb4 hg4
  have H4 := Lib.hid hb4
  have W4 := Lib.hid (below_grown (W3.out.alloc S3.out _) (H3.out.alloc _) (Nat.le_refl _) (by have := S3.out; simp; omega) hg4)
  have S4 := Lib.hid (Nat.le_trans S3.out (Nat.le_trans (by simp) hg4.size))
  clear hb4 hg4
  go_wp2_with fail
  rw [rounds_succ]
  go_wp2_with (at_builtin; refine stop ?_)
  refine Stopped.of ?_
  refine wp_app_row rfl (.tmp 10) (.tmp 15) rfl base v4 (l ++ [b8 n 72057594037927936] ++ [b8 n 281474976710656] ++ [b8 n 1099511627776] ++ [b8 n 4294967296] ++ [b8 n 16777216]) rfl (H4.out.alloc _) ⟨w4.heap.size, 0, none⟩ 1 1 [b8 n 65536] rfl rfl (b8_cells _ n 65536) (by have := HL.out; simp; omega) (by have := S4.out; simp; omega) ?_
  intro v5 w5 hb5 hg5
  have H5 := Lib.hid hb5
  have W5 := Lib.hid (below_grown (W4.out.alloc S4.out _) (H4.out.alloc _) (Nat.le_refl _) (by have := S4.out; simp; omega) hg5)
  have S5 := Lib.hid (Nat.le_trans S4.out (Nat.le_trans (by simp) hg5.size))
  clear hb5 hg5
  go_wp2_with fail
  rw [rounds_succ]
  go_wp2_with (at_builtin; refine stop ?_)
  refine Stopped.of ?_
  refine wp_app_row rfl (.tmp 10) (.tmp 15) rfl base v5 (l ++ [b8 n 72057594037927936] ++ [b8 n 281474976710656] ++ [b8 n 1099511627776] ++ [b8 n 4294967296] ++ [b8 n 16777216] ++ [b8 n 65536]) rfl (H5.out.alloc _) ⟨w5.heap.size, 0, none⟩ 1 1 [b8 n 256] rfl rfl (b8_cells _ n 256) (by have := HL.out; simp; omega) (by have := S5.out; simp; omega) ?_
  intro v6 w6 hb6 hg6
  have H6 := Lib.hid hb6
  have W6 := Lib.hid (below_grown (W5.out.alloc S5.out _) (H5.out.alloc _) (Nat.le_refl _) (by have := S5.out; simp; omega) hg6)
  have S6 := Lib.hid (Nat.le_trans S5.out (Nat.le_trans (by simp) hg6.size))
  clear hb6 hg6
  go_wp2_with fail
  rw [rounds_succ]
  go_wp2_with (at_builtin; refine stop ?_)
  refine Stopped.of ?_
  refine wp_app_row rfl (.tmp 10) (.tmp 15) rfl base v6 (l ++ [b8 n 72057594037927936] ++ [b8 n 281474976710656] ++ [b8 n 1099511627776] ++ [b8 n 4294967296] ++ [b8 n 16777216] ++ [b8 n 65536] ++ [b8 n 256]) rfl (H6.out.alloc _) ⟨w6.heap.size, 0, none⟩ 1 1 [b8 n 1] rfl rfl (by have h := b8_cells w6 n 1; rw [Int.ediv_one] at h; exact h) (by have := HL.out; simp; omega) (by have := S6.out; simp; omega) ?_
  intro v7 w7 hb7 hg7
  have H7 := Lib.hid hb7
  have W7 := Lib.hid (below_grown (W6.out.alloc S6.out _) (H6.out.alloc _) (Nat.le_refl _) (by have := S6.out; simp; omega) hg7)
  have S7 := Lib.hid (Nat.le_trans S6.out (Nat.le_trans (by simp) hg7.size))
  clear hb7 hg7
  go_wp2_with fail
  rw [rounds_succ]
  go_wp2
  go_ret
  refine ⟨_, rfl, ?_, W7.out⟩
  have := H7.out
  simp only [List.append_assoc, List.cons_append, List.nil_append] at this
  exact this
end Go.Proofs.YtokkokgdjnkbnaaGreatDoor
end
section
/- The reference of mix: a number's decimal digits. -/
open Go Go.RowKit
namespace Go.Proofs.YtokkokgdjnkbnaaGreatDoor

theorem digit_b (m : Nat) : UInt8.ofNat ((48 + (m : Int) % 10).toNat) = UInt8.ofNat (48 + m % 10) := by
  congr 1
theorem run_app_nil {base : Nat} {v : Value} {l : List UInt8} {w : World} (h : BufIs base v l w) (ty : TypeId) : (Builtin.append_ #[25, 25] ty #[v, .slice none 0 0]).run Tryz.prog w = .ok v w := by
  obtain ⟨i0, hi, hz0, hz1, hz2⟩ := info_parts Tryz.infoByte
  exact run_append_owned_none (base := base) w 25 ty 5 i0 1 Tryz.underlying25 hi v _ _ h

set_option maxHeartbeats 4000000 in
set_option maxRecDepth 100000 in
theorem digits_any (u : Nat) (hu : u < 4294967296) (w : World) :
    Calls Tryz.prog 60 #[.int .u32 u] w fun e w' => ∃ v', e = .returned v' ∧ BufIs w.heap.size v' (Lib.decDigits u) w' ∧ Below w.heap.size w w' := by
  by_cases h0 : u = 0
  · subst h0
    go_enter Tryz.func60, Tryz.ntmps60
    go_wp2
    go_ret
    have := BufIs.lit (base := w.heap.size) (w := w) [48] (Nat.le_refl _) (by decide)
    rw [show Lib.decDigits 0 = [48] by rw [Lib.decDigits_one (by omega)]; rfl]
    exact ⟨_, rfl, this, (Below.refl _ w).alloc (Nat.le_refl _) _⟩
  have h0' : ((u : Int) == 0) = false := by simp; omega
  have hD : (Lib.decDigits u).length ≤ 20 := by
    rw [Lib.decDigits_length]
    have := Lib.numDigits_eq u (by omega) (by omega); split at this <;> omega
  go_enter Tryz.func60, Tryz.ntmps60
  go_wp2
  go_loopw [0, 3] (fun n b wr => ∃ (m : Nat) (l : List UInt8), n = .int .u32 m ∧ m ≤ u ∧ BufIs w.heap.size b l wr ∧ (if m = 0 then l = Lib.decDigits u else Lib.decDigits m ++ l = Lib.decDigits u) ∧ Below w.heap.size w wr) (fun n _ _ => (intOf n).toNat)
  case atStart =>
    exact ⟨u, [], rfl, by omega, BufIs.nil _ _, by rw [if_neg h0]; simp, Below.refl _ _⟩
  case round =>
    obtain ⟨m, l, rfl, hm, hb, hacc, hbw⟩ := hrel
    by_cases hm0 : m = 0
    · subst hm0
      rw [if_pos rfl] at hacc
      subst hacc
      have HB := Lib.hid hb
      clear hb
      go_wp2
      go_ret
      exact ⟨_, rfl, HB.out, hbw⟩
    have hm1 : (0 : Int) < m := by omega
    rw [if_neg hm0] at hacc
    have hlen : l.length ≤ 20 := by rw [← hacc] at hD; simp at hD; omega
    have hstep : if m / 10 = 0 then (UInt8.ofNat (48 + m % 10)) :: l = Lib.decDigits u else Lib.decDigits (m / 10) ++ (UInt8.ofNat (48 + m % 10)) :: l = Lib.decDigits u := by
      rw [← hacc]
      by_cases h10 : m < 10
      · rw [if_pos (by omega), Lib.decDigits_one h10, Nat.mod_eq_of_lt h10]; rfl
      · rw [if_neg (by omega), Lib.decDigits.eq_1 m, dif_neg h10]; simp
    have hlit := BufIs.lit (base := w.heap.size) (w := wr) [UInt8.ofNat (48 + m % 10)] hbw.size (by simp [maxLen])
    have hlt : bytesV [UInt8.ofNat (48 + m % 10)] = [.int .u8 (48 + (m : Int) % 10)] := by
      simp only [bytesV, List.map, byteV]
      rw [← digit_b]; simp; omega
    rw [hlt] at hlit
    have hm10 : (m : Int) / 10 = ((m / 10 : Nat) : Int) := by omega
    have HS := Lib.hid hstep
    have HM := Lib.hid hm10
    clear hstep hm10 hacc hD hlt
    rcases hb.shape with ⟨rfl, rfl⟩ | ⟨g, c, rfl, hg1, hg2, hc1, hc2⟩
    · have hap := run_app_nil hlit
      have HL := Lib.hid hlit
      clear hlit hb
      go_wp2
      go_roundw
      case rel => exact ⟨m / 10, [UInt8.ofNat (48 + m % 10)], by rw [HM.out], by omega, HL.out, HS.out, hbw.alloc hbw.size _⟩
      case measure => simp [intOf]; omega
    · have HL := Lib.hid hlit
      have HB := Lib.hid (hb.alloc (.cells #[.int .u8 (48 + (m : Int) % 10)] 5 (0, 0)))
      clear hlit hb
      go_wp2_with (at_builtin; refine stop ?_)
      refine Stopped.of ?_
      refine wp_app_row rfl (.tmp 13) (.tmp 14) rfl w.heap.size (.slice (some ⟨wr.heap.size, 0, none⟩) 1 1) [UInt8.ofNat (48 + m % 10)] rfl HL.out ⟨g, 0, none⟩ l.length c l rfl rfl (fun j hj => by rw [Lib.add_plain, Nat.zero_add]; exact HB.out.cell j hj) (by simp; omega) (by have := hbw.size; simp; omega) ?_
      intro v' w2 hb2 hg2
      have H2 := Lib.hid hb2
      have W2 := Lib.hid (below_grown (hbw.alloc hbw.size _) HL.out (Nat.le_refl _) (by have := hbw.size; simp; omega) hg2)
      clear hb2 hg2
      go_wp2
      go_roundw
      case rel => exact ⟨m / 10, UInt8.ofNat (48 + m % 10) :: l, by rw [HM.out], by omega, H2.out, HS.out, W2.out⟩
      case measure => simp [intOf]; omega
end Go.Proofs.YtokkokgdjnkbnaaGreatDoor
end
