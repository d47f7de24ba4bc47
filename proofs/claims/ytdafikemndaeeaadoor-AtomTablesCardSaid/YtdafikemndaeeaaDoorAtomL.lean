/- The reference's Quote, whole; AtomQuotes. -/
import Derived.Test.YtdafikemndaeeaaDoorAtomK
open Go Go.RowKit
namespace Go.Proofs.YtdafikemndaeeaaDoor

set_option maxHeartbeats 4000000 in
set_option maxRecDepth 100000 in
theorem quoteR_any (s : ByteArray) (w : World) (hs : s.size ≤ 140737488351232) :
    Calls Tryd.prog 31 #[.string s] w (RetSL w.heap.size w (quoteS s)) := by
  by_cases h1 : 255 < s.size
  · have P := Lib.hid (show quoteS s = ([], [⟨atomL, 0, 4⟩]) by unfold quoteS; rw [if_pos h1])
    have h1' : 255 < (s.size : Int) := by omega
    clear h1
    go_enter Tryd.func31, Tryd.ntmps31
    go_wp2_with (go_at_call 64; refine (no01_any _ _ _).mono ?_; rintro e w1 ⟨v, rfl, hl, hb⟩)
    go_ret2
    rw [P.out]
    exact ⟨_, rfl, hl, hb⟩
  rcases utfGo_cases s s.size 0 with h2 | h2
  · by_cases h3 : plainS s.data.toList = true
    · have P := Lib.hid (show quoteS s = (s.data.toList, []) by unfold quoteS utfS; rw [if_neg h1, h2, if_neg (by decide), if_pos h3])
      have HST := Lib.hid (fun w => utf_any s w hs)
      rw [show utfS s = -1 from h2] at HST
      have HPL := Lib.hid (fun w => plainR_any s w (by unfold maxLen; omega))
      rw [h3] at HPL
      have h1' : ¬ 255 < (s.size : Int) := by omega
      clear h1 h2 h3
      go_enter Tryd.func31, Tryd.ntmps31
      go_wp2_with (first | (go_at_call 51; refine (HST.out _).mono ?_; rintro e w' ⟨rfl, rfl⟩) | (go_at_call 65; refine (HPL.out _).mono ?_; rintro e w1 ⟨rfl, hb1⟩))
      go_ret2
      rw [P.out]
      exact ⟨_, rfl, LinksIs.nil _ _, hb1⟩
    · have h3' : plainS s.data.toList = false := by simpa using h3
      have P := Lib.hid (show quoteS s = (39 :: (quoteBodyS s.data.toList ++ [39]), []) by unfold quoteS utfS; rw [if_neg h1, h2, if_neg (by decide), if_neg h3])
      refine (quoteR_loop s w (by omega) h2 h3').mono ?_
      rintro e w' ⟨rfl, hb⟩
      rw [P.out]
      exact ⟨_, rfl, LinksIs.nil _ _, hb⟩
  · have P := Lib.hid (show quoteS s = ([], [⟨atomL, utfS s, 23⟩]) by unfold quoteS; rw [if_neg h1, if_pos (show 0 ≤ utfS s from h2)])
    have h1' : ¬ 255 < (s.size : Int) := by omega
    have h3 : 0 ≤ utfS s := h2
    have HST := Lib.hid (fun w => utf_any s w hs)
    clear h1 h2
    go_enter Tryd.func31, Tryd.ntmps31
    go_wp2_with (first | (go_at_call 51; refine (HST.out _).mono ?_; rintro e w' ⟨rfl, rfl⟩) | (go_at_call 64; refine (no01_any _ _ _).mono ?_; rintro e w1 ⟨v, rfl, hl, hb⟩))
    go_ret2
    rw [P.out]
    exact ⟨_, rfl, hl, hb⟩

theorem quoteS_len (s : ByteArray) : (quoteS s).2.length ≤ 1 := by
  unfold quoteS; (repeat' split) <;> simp
theorem validS_eq (s : ByteArray) : validS s = validR s := by
  unfold validS validR quoteS
  by_cases h1 : 255 < s.size
  · rw [if_pos h1]
    have : ¬ s.size ≤ 255 := by omega
    simp [errIsS, lastCode, this]
  · rw [if_neg h1]
    by_cases h2 : 0 ≤ utfS s
    · rw [if_pos h2]
      have : ¬ utfS s < 0 := by omega
      simp [errIsS, lastCode, this]
    · rw [if_neg h2]
      have h3 : utfS s < 0 := by omega
      have h4 : s.size ≤ 255 := by omega
      split <;> simp [errIsS, lastCode, h3, h4]

set_option maxHeartbeats 4000000 in
set_option maxRecDepth 100000 in
theorem quotes_walk (s : ByteArray) (w : World) (hs : s.size ≤ 140737488351232) (hT : Lib.Utf8Tabs 2 3 w) (hE : ErrT w) :
    Calls Tryd.prog 8 #[.string s] w fun e w' => e = .returned (.bool true) ∧ Below w.heap.size w w' := by
  have HQ := Lib.hid (quote_any s w (by unfold maxLen; omega) hT)
  have HR := fun w1 => Lib.hid (quoteR_any s w1 hs)
  have HF := fun ev lv base w1 (her : ErrIs w1 ev (quoteS s).2) (hlk : LinksIs base lv (quoteS s).2 w1) (h : Below w.heap.size w w1) =>
    Lib.hid (refused_links ev (quoteS s).2 (quoteS s).2 lv base w1 her (by have := quoteS_len s; omega) (by have := quoteS_len s; omega) hlk (hE.below h))
  have HV := fun w1 (h : Below w.heap.size w w1) => Lib.hid (valid_any s w1 (by unfold maxLen; omega) (Utf8Tabs_below hT h))
  have HVR := fun w1 => Lib.hid (validR_any s w1 hs)
  have HA := fun w1 (h : Below w.heap.size w w1) => Lib.hid (alive01 w1 (Utf8Tabs_below hT h))
  have hself : decide ((quoteS s).2 = (quoteS s).2) = true := by simp
  rw [hself] at HF
  have hvv : (validR s == validR s) = true := by simp
  rw [validS_eq] at HV
  clear hself
  go_enter Tryd.func8, Tryd.ntmps8
  go_wp2_with fail
  refine HQ.out.mono ?_
  rintro e w1 ⟨ev, rfl, her, hb1⟩
  go_wp2_with fail
  refine (HR w1).out.mono ?_
  rintro e w2 ⟨lv, rfl, hlk, hb2⟩
  have her2 := her.below hb2
  have hb2 := hb1.trans (hb2.mono hb1.size)
  have hss : ((⟨(quoteS s).1.toArray⟩ : ByteArray).toList == (⟨(quoteS s).1.toArray⟩ : ByteArray).toList) = true := by simp
  have HF2 := HF ev lv _ w2 her2 hlk hb2
  clear her her2 hlk
  go_wp2_with fail
  refine HF2.out.mono ?_
  rintro e w3 ⟨rfl, hb3⟩
  have hb3 := hb2.trans (hb3.mono hb2.size)
  go_wp2_with fail
  refine (HV w3 hb3).out.mono ?_
  rintro e w4 ⟨rfl, hb4⟩
  have hb4 := hb3.trans (hb4.mono hb3.size)
  go_wp2_with fail
  refine (HVR w4).out.mono ?_
  rintro e w5 ⟨rfl, rfl⟩
  go_wp2_with fail
  refine (HA _ hb4).out.mono ?_
  rintro e w6 ⟨rfl, hb6⟩
  have hb6 := hb4.trans (hb6.mono hb4.size)
  go_wp2
  go_ret
  exact ⟨rfl, hb6⟩
end Go.Proofs.YtdafikemndaeeaaDoor
