/- Layer 1: Valid of the reference, the order of texts, and the statements' own 'alive'. -/
import Derived.Test.YtdafikemndaeeaaDoorAtomH
open Go Go.RowKit
namespace Go.Proofs.YtdafikemndaeeaaDoor

def validR (s : ByteArray) : Bool := decide (s.size ≤ 255) && decide (utfS s < 0)
theorem validR_any (s : ByteArray) (w : World) (hs : s.size ≤ 140737488351232) :
    Calls Tryd.prog 16 #[.string s] w fun e w' => e = .returned (.bool (validR s)) ∧ w' = w := by
  have HU := Lib.hid (fun w => utf_any s w hs)
  by_cases h : s.size ≤ 255
  · have P := Lib.hid (show validR s = decide (utfS s < 0) by unfold validR; simp [h])
    have h' : (s.size : Int) ≤ 255 := by omega
    clear h
    go_enter Tryd.func16, Tryd.ntmps16
    go_wp2_with (go_at_call 51; refine (HU.out _).mono ?_; rintro e w' ⟨rfl, rfl⟩)
    go_ret
    exact ⟨ret_bool P.out.symm, rfl⟩
  · have P := Lib.hid (show validR s = false by unfold validR; simp [h])
    have h' : 255 < (s.size : Int) := by omega
    clear h
    go_enter Tryd.func16, Tryd.ntmps16
    go_wp2_with (go_at_call 51; refine (HU.out _).mono ?_; rintro e w' ⟨rfl, rfl⟩)
    go_ret
    exact ⟨ret_bool P.out.symm, rfl⟩

def cmpS (a b : ByteArray) : Int := Lib.compareBytes a.data.toList b.data.toList
theorem compare_any (a b : ByteArray) (w : World) :
    Calls Tryd.prog 20 #[.string a, .string b] w fun e w' => e = .returned (.int .i64 (cmpS a b)) ∧ w' = w := by
  have HC := Lib.hid (Tryd.strings_Compare a b)
  go_enter Tryd.func20, Tryd.ntmps20
  go_wp2_with (go_at_call 57; refine (HC.out _).mono ?_; rintro e w' ⟨rfl, rfl⟩)
  go_ret
  exact ⟨rfl, rfl⟩

set_option maxHeartbeats 4000000 in
set_option maxRecDepth 100000 in
theorem compareR_any (a b : ByteArray) (w : World) (ha : a.size ≤ maxLen) (hb : b.size ≤ maxLen) :
    Calls Tryd.prog 21 #[.string a, .string b] w fun e w' => e = .returned (.int .i64 (cmpS a b)) ∧ ∃ n, w' = w.drewN n := by
  unfold maxLen at ha hb
  go_enter Tryd.func21, Tryd.ntmps21
  go_wp2
  go_loopw [5] (fun v wr => ∃ k n : Nat, k ≤ a.size ∧ k ≤ b.size ∧ v = .int .i64 k ∧ Lib.compareBytes (a.data.toList.drop k) (b.data.toList.drop k) = cmpS a b ∧ wr = w.drewN n) (fun v _ => a.size - (intOf v).toNat)
  case atStart => exact ⟨0, 0, by omega, by omega, rfl, rfl, rfl⟩
  case round =>
    obtain ⟨k, n, hka, hkb, rfl, hc, rfl⟩ := hrel
    by_cases h1 : k < a.size
    · by_cases h2 : k < b.size
      · rw [drop_cons a k h1, drop_cons b k h2, Lib.compareBytes] at hc
        have HC := Lib.hid hc
        clear hc
        by_cases c1 : a[k] < b[k]
        · have d1 : (a[k].toNat : Int) < (b[k].toNat : Int) := by have := UInt8.lt_iff_toNat_lt.1 c1; omega
          go_wp2
          go_quiet (fail)
          go_wp2
          go_ret
          have := HC.out
          rw [if_pos c1] at this
          exact ⟨ret_int this, _, by first | rfl | rw [World.drewN_drewN]⟩
        · have d1 : (b[k].toNat : Int) ≤ (a[k].toNat : Int) := by have := mt UInt8.lt_iff_toNat_lt.2 c1; omega
          by_cases c2 : b[k] < a[k]
          · have d2 : (b[k].toNat : Int) < (a[k].toNat : Int) := by have := UInt8.lt_iff_toNat_lt.1 c2; omega
            go_wp2
            go_quiet (fail)
            go_wp2
            go_quiet (fail)
            go_wp2
            go_ret
            have := HC.out
            rw [if_neg c1, if_pos c2] at this
            exact ⟨ret_int this, _, by first | rfl | rw [World.drewN_drewN, World.drewN_drewN]⟩
          · have d2 : (a[k].toNat : Int) ≤ (b[k].toNat : Int) := by have := mt UInt8.lt_iff_toNat_lt.2 c2; omega
            go_wp2
            go_quiet (fail)
            go_wp2
            go_quiet (fail)
            go_wp2
            go_roundw
            case rel =>
              have := HC.out
              rw [if_neg c1, if_neg c2] at this
              exact ⟨k + 1, _, by omega, by omega, by go_num, this, by first | rfl | rw [World.drewN_drewN, World.drewN_drewN]⟩
            case measure => simp [intOf]; omega
      · have hk : k = b.size := by omega
        have HC := Lib.hid hc
        clear hc
        go_wp2
        go_ret
        have := HC.out
        rw [drop_cons a k h1, drop_end b k (by omega), Lib.compareBytes] at this
        exact ⟨ret_int this, _, rfl⟩
    · have HC := Lib.hid hc
      clear hc
      by_cases h2 : k < b.size
      · go_wp2
        go_ret
        have := HC.out
        rw [drop_cons b k h2, drop_end a k (by omega), Lib.compareBytes] at this
        exact ⟨ret_int this, _, rfl⟩
      · go_wp2
        go_ret
        have := HC.out
        rw [drop_end b k (by omega), drop_end a k (by omega), Lib.compareBytes] at this
        exact ⟨ret_int this, _, rfl⟩

theorem quote_alive : quoteS ⟨#[105, 116, 39, 115]⟩ = ([39, 105, 116, 92, 39, 115, 39], []) := by kernel_rfl
theorem scan_alive : scanS ⟨#[102, 111, 111, 40, 88, 41]⟩ 0 = ([102, 111, 111], 3, []) := by kernel_rfl
theorem valid_alive : validS ⟨#[]⟩ = true := by kernel_rfl
theorem valid_alive2 : validS ⟨#[255]⟩ = false := by kernel_rfl

set_option maxHeartbeats 4000000 in
set_option maxRecDepth 100000 in
theorem alive01 (w : World) (hT : Lib.Utf8Tabs 2 3 w) :
    Calls Tryd.prog 17 #[] w fun e w' => e = .returned (.bool true) ∧ Below w.heap.size w w' := by
  have HQ := Lib.hid (quote_any ⟨#[105, 116, 39, 115]⟩ w (by decide) hT)
  have HS := fun w1 (h : Below w.heap.size w w1) => Lib.hid (scan_any ⟨#[102, 111, 111, 40, 88, 41]⟩ 0 w1 (by decide) (Utf8Tabs_below hT h))
  have HV := fun w1 (h : Below w.heap.size w w1) => Lib.hid (valid_any ⟨#[]⟩ w1 (by decide) (Utf8Tabs_below hT h))
  have HV2 := fun w1 (h : Below w.heap.size w w1) => Lib.hid (valid_any ⟨#[255]⟩ w1 (by decide) (Utf8Tabs_below hT h))
  rw [quote_alive] at HQ
  rw [scan_alive] at HS
  rw [valid_alive] at HV
  rw [valid_alive2] at HV2
  go_enter Tryd.func17, Tryd.ntmps17
  go_wp2_with fail
  refine HQ.out.mono ?_
  rintro e w1 ⟨ev, rfl, rfl, hb1⟩
  go_wp2_with fail
  refine (HS w1 hb1).out.mono ?_
  rintro e w2 ⟨ev, rfl, rfl, hb2⟩
  have hb2 := hb1.trans (hb2.mono hb1.size)
  go_wp2_with fail
  refine (HV w2 hb2).out.mono ?_
  rintro e w3 ⟨rfl, hb3⟩
  have hb3 := hb2.trans (hb3.mono hb2.size)
  go_wp2_with fail
  refine (HV2 w3 hb3).out.mono ?_
  rintro e w4 ⟨rfl, hb4⟩
  have hb4 := hb3.trans (hb4.mono hb3.size)
  go_wp2
  go_ret
  exact ⟨rfl, hb4⟩
end Go.Proofs.YtdafikemndaeeaaDoor
