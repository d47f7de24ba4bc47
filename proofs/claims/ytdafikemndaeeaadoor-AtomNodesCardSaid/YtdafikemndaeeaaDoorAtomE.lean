/- Package atom: Quote, whole. -/
import Derived.Test.YtdafikemndaeeaaDoorAtomD
import Derived.Test.YtdafikemndaeeaaDoorErr
open Go Go.RowKit
namespace Go.Proofs.YtdafikemndaeeaaDoor

def atomL : ByteArray := ⟨#[97, 116, 111, 109]⟩
/-- what Quote answers -/
def quoteS (s : ByteArray) : List UInt8 × List Lk :=
  if 255 < s.size then ([], [⟨atomL, 0, 4⟩]) else if 0 ≤ utfS s then ([], [⟨atomL, utfS s, 23⟩])
  else if plainS s.data.toList then (s.data.toList, []) else (39 :: (quoteBodyS s.data.toList ++ [39]), [])

theorem utfGo_cases (s : ByteArray) : ∀ f p, utfGo s f p = -1 ∨ 0 ≤ utfGo s f p := by
  intro f
  induction f with
  | zero => exact fun _ => .inl rfl
  | succ f ih =>
    intro p
    rw [utfGo]
    split
    · split
      · exact .inr (by omega)
      · exact ih _
    · exact .inl rfl
theorem utfGo_lt (s : ByteArray) : ∀ f p, utfGo s f p < s.size := by
  intro f
  induction f with
  | zero => intro p; rw [utfGo]; omega
  | succ f ih =>
    intro p
    rw [utfGo]
    split
    · split
      · omega
      · exact ih _
    · omega

set_option maxHeartbeats 4000000 in
set_option maxRecDepth 100000 in
theorem quote_any (s : ByteArray) (w : World) (hs : s.size ≤ maxLen) (hT : Lib.Utf8Tabs 2 3 w) :
    Calls Tryd.prog 15 #[.string s] w (RetSE w.heap.size w (quoteS s)) := by
  have hs' := hs
  unfold maxLen at hs'
  by_cases h1 : 255 < s.size
  · have P := Lib.hid (show quoteS s = ([], [⟨atomL, 0, 4⟩]) by unfold quoteS; rw [if_pos h1])
    have h1' : 255 < (s.size : Int) := by omega
    clear h1
    go_enter Tryd.func15, Tryd.ntmps15
    go_wp2_with (go_at_call 48; refine (refused_any _ _ _).mono ?_; rintro e w' ⟨rfl, rfl⟩)
    go_ret2
    rw [P.out]
    exact ⟨_, rfl, ErrIs.one, (Below.refl _ _).alloc (Nat.le_refl _) _⟩
  rcases utfGo_cases s s.size 0 with h2 | h2
  · by_cases h3 : plainS s.data.toList = true
    · have P := Lib.hid (show quoteS s = (s.data.toList, []) by unfold quoteS utfS; rw [if_neg h1, h2, if_neg (by decide), if_pos h3])
      have hst := strange_any s w hT
      rw [show utfS s = -1 from h2] at hst
      have hpl := fun w => plain_any s w hs
      rw [h3] at hpl
      have HST := Lib.hid hst
      have HPL := Lib.hid hpl
      have h1' : ¬ 255 < (s.size : Int) := by omega
      clear hst hpl h1 h2 h3
      go_enter Tryd.func15, Tryd.ntmps15
      go_wp2_with (first | (go_at_call 49; refine HST.out.mono ?_; rintro e w1 ⟨rfl, hb1⟩) | (go_at_call 50; refine (HPL.out _).mono ?_; rintro e w' ⟨rfl, rfl⟩))
      go_ret2
      rw [P.out]
      exact ⟨_, rfl, rfl, hb1⟩
    · have h3' : plainS s.data.toList = false := by simpa using h3
      have P := Lib.hid (show quoteS s = (39 :: (quoteBodyS s.data.toList ++ [39]), []) by unfold quoteS utfS; rw [if_neg h1, h2, if_neg (by decide), if_neg h3])
      refine (quote_loop s w (by omega) hT h2 h3').mono ?_
      rintro e w' ⟨rfl, hb⟩
      rw [P.out]
      exact ⟨_, rfl, rfl, hb⟩
  · have P := Lib.hid (show quoteS s = ([], [⟨atomL, utfS s, 23⟩]) by unfold quoteS; rw [if_neg h1, if_pos (show 0 ≤ utfS s from h2)])
    have h1' : ¬ 255 < (s.size : Int) := by omega
    have h3 : 0 ≤ utfS s := h2
    have HST := Lib.hid (strange_any s w hT)
    clear h1 h2
    go_enter Tryd.func15, Tryd.ntmps15
    go_wp2_with (first | (go_at_call 49; refine HST.out.mono ?_; rintro e w1 ⟨rfl, hb1⟩) | (go_at_call 48; refine (refused_any _ _ _).mono ?_; rintro e w' ⟨rfl, rfl⟩))
    go_ret2
    rw [P.out]
    exact ⟨_, rfl, ErrIs.one, hb1.alloc hb1.size _⟩
end Go.Proofs.YtdafikemndaeeaaDoor
