/- The laws MixCookies and MixDigests: the walks. -/
import Derived.Test.YtdafikemndaeeaaDoorMixI
import Derived.Test.YtdafikemndaeeaaDoorRefused
open Go Go.RowKit
namespace Go.Proofs.YtdafikemndaeeaaDoor

theorem cookieS_len (s : ByteArray) : (cookieS s).length ≤ 1 := by
  unfold cookieS; (repeat' split) <;> simp
theorem digestS_len (s : ByteArray) (u : Nat) : (digestS s u).2.length ≤ 1 := by
  unfold digestS; split
  · simp
  · exact cookieS_len s

set_option maxHeartbeats 4000000 in
set_option maxRecDepth 100000 in
theorem cookies_walk (s : ByteArray) (w : World) (hP : Pow10 w) (hE : ErrT w) :
    Calls Tryd.prog 11 #[.string s] w fun e w' => e = .returned (.bool true) ∧ Below w.heap.size w w' := by
  have H1 := Lib.hid (cookie_any s w)
  have H2 := fun w1 => Lib.hid (cookieR_any s w1)
  have HF := fun ev lv base w1 (her : ErrIs w1 ev (cookieS s)) (hlk : LinksIs base lv (cookieS s) w1) (h : Below w.heap.size w w1) =>
    Lib.hid (refused_links ev (cookieS s) (cookieS s) lv base w1 her (by have := cookieS_len s; omega) (by have := cookieS_len s; omega) hlk (hE.below h))
  have HA := fun w1 (h : Below w.heap.size w w1) => Lib.hid (alive07 w1 (hP.below h))
  have hself : decide (cookieS s = cookieS s) = true := by simp
  rw [hself] at HF
  clear hself
  go_enter Tryd.func11, Tryd.ntmps11
  go_wp2_with fail
  refine H1.out.mono ?_
  rintro e w1 ⟨ev, rfl, her, hb1⟩
  go_wp2_with fail
  refine (H2 w1).out.mono ?_
  rintro e w2 ⟨lv, rfl, hlk, hb2⟩
  have her2 := her.below hb2
  have hb2 := hb1.trans (hb2.mono hb1.size)
  have HF2 := HF ev lv _ w2 her2 hlk hb2
  clear her her2 hlk
  go_wp2_with fail
  refine HF2.out.mono ?_
  rintro e w3 ⟨rfl, hb3⟩
  have hb3 := hb2.trans (hb3.mono hb2.size)
  go_wp2_with fail
  refine (HA w3 hb3).out.mono ?_
  rintro e w4 ⟨rfl, hb4⟩
  go_wp2
  go_ret
  exact ⟨rfl, hb3.trans (hb4.mono hb3.size)⟩

set_option maxHeartbeats 4000000 in
set_option maxRecDepth 100000 in
theorem digests_walk (s : ByteArray) (u : Nat) (w : World) (hu : u < 4294967296) (hP : Pow10 w) (hE : ErrT w) :
    Calls Tryd.prog 12 #[.string s, .int .u32 u] w fun e w' => e = .returned (.bool true) ∧ Below w.heap.size w w' := by
  have H1 := Lib.hid (digest_any s u hu w hP)
  have H2 := fun w1 => Lib.hid (digestR_any s u hu w1)
  have HF := fun ev lv base w1 (her : ErrIs w1 ev (digestS s u).2) (hlk : LinksIs base lv (digestS s u).2 w1) (h : Below w.heap.size w w1) =>
    Lib.hid (refused_links ev (digestS s u).2 (digestS s u).2 lv base w1 her (by have := digestS_len s u; omega) (by have := digestS_len s u; omega) hlk (hE.below h))
  have HA := fun w1 (h : Below w.heap.size w w1) => Lib.hid (alive07 w1 (hP.below h))
  have hself : decide ((digestS s u).2 = (digestS s u).2) = true := by simp
  rw [hself] at HF
  clear hself
  go_enter Tryd.func12, Tryd.ntmps12
  go_wp2_with fail
  refine H1.out.mono ?_
  rintro e w1 ⟨v1, ev, rfl, hv1, her, hb1⟩
  go_wp2_with fail
  refine (H2 w1).out.mono ?_
  rintro e w2 ⟨v2, lv, rfl, hv2, hlk, hb2⟩
  have her2 := her.below hb2
  have hs1 := run_buf_string (hv1.below hb2 (Nat.le_refl _))
  have hs2 := run_buf_string hv2
  have hb2 := hb1.trans (hb2.mono hb1.size)
  have HF2 := HF ev lv _ w2 her2 hlk hb2
  have hss : ((digestS s u).1 == (digestS s u).1) = true := by simp
  clear her her2 hlk hv1 hv2
  go_wp2_with fail
  refine HF2.out.mono ?_
  rintro e w3 ⟨rfl, hb3⟩
  have hb3 := hb2.trans (hb3.mono hb2.size)
  go_wp2_with fail
  refine (HA w3 hb3).out.mono ?_
  rintro e w4 ⟨rfl, hb4⟩
  go_wp2
  go_ret
  exact ⟨rfl, hb3.trans (hb4.mono hb3.size)⟩
end Go.Proofs.YtdafikemndaeeaaDoor
