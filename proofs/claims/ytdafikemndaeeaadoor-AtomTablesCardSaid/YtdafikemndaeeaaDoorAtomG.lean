/- Package atom: Scan, Valid. -/
import Derived.Test.YtdafikemndaeeaaDoorAtomF
open Go Go.RowKit
namespace Go.Proofs.YtdafikemndaeeaaDoor

/-- what Scan answers -/
def scanS (s : ByteArray) (frm : Int) : List UInt8 × Int × List Lk :=
  if frm < 0 ∨ (s.size : Int) < frm then ([], 0, [⟨atomL, 0, 2⟩])
  else match s.data.toList.drop frm.toNat with
    | [] => ([], 0, [⟨atomL, frm, 20⟩])
    | c :: rest =>
      if c = 39 then quotedS s frm.toNat
      else if kindS c.toNat = 1 then
        (if 255 < wordS (c :: rest) then ([], 0, [⟨atomL, frm, 4⟩])
         else if reservedS ((c :: rest).take (wordS (c :: rest))) then ([], 0, [⟨atomL, frm, 20⟩])
         else ((c :: rest).take (wordS (c :: rest)), frm + wordS (c :: rest), []))
      else ([], 0, [⟨atomL, frm, 20⟩])

set_option maxHeartbeats 8000000 in
set_option maxRecDepth 100000 in
theorem scan_any (s : ByteArray) (frm : Int) (w : World) (hs : s.size ≤ 140737488355000) (hT : Lib.Utf8Tabs 2 3 w) :
    Calls Tryd.prog 18 #[.string s, .int .i64 frm] w (RetSNE w.heap.size w (scanS s frm)) := by
  by_cases h1 : frm < 0
  · have P := Lib.hid (show scanS s frm = ([], 0, [⟨atomL, 0, 2⟩]) by unfold scanS; rw [if_pos (.inl h1)])
    go_enter Tryd.func18, Tryd.ntmps18
    go_wp2_with (go_at_call 48; refine (refused_any _ _ _).mono ?_; rintro e w' ⟨rfl, rfl⟩)
    go_ret3
    rw [P.out]
    exact ⟨_, rfl, ErrIs.one, (Below.refl _ _).alloc (Nat.le_refl _) _⟩
  by_cases h2 : (s.size : Int) < frm
  · have P := Lib.hid (show scanS s frm = ([], 0, [⟨atomL, 0, 2⟩]) by unfold scanS; rw [if_pos (.inr h2)])
    go_enter Tryd.func18, Tryd.ntmps18
    go_wp2_with (go_at_call 48; refine (refused_any _ _ _).mono ?_; rintro e w' ⟨rfl, rfl⟩)
    go_ret3
    rw [P.out]
    exact ⟨_, rfl, ErrIs.one, (Below.refl _ _).alloc (Nat.le_refl _) _⟩
  obtain ⟨i, rfl⟩ := Int.eq_ofNat_of_zero_le (show 0 ≤ frm by omega)
  have hi : i ≤ s.size := by omega
  have P := show scanS s i = _ by unfold scanS; rw [if_neg (by omega)]
  rw [show ((i : Nat) : Int).toNat = i from Int.toNat_natCast i] at P
  clear h1 h2
  by_cases he : i = s.size
  · rw [drop_end s i (by omega)] at P
    simp only at P
    have P := Lib.hid P
    have heb : ((i : Int) == (s.size : Int)) = true := by simp; omega
    have hlt : ¬ ((i : Int) < (s.size : Int)) := by omega
    clear he
    go_enter Tryd.func18, Tryd.ntmps18
    go_wp2_with (go_at_call 48; refine (refused_any _ _ _).mono ?_; rintro e w' ⟨rfl, rfl⟩)
    go_ret3
    rw [Hid.out P]
    exact ⟨_, rfl, ErrIs.one, (Below.refl _ _).alloc (Nat.le_refl _) _⟩
  have hlt : i < s.size := by omega
  have heb : ((i : Int) == (s.size : Int)) = false := by simp; omega
  rw [drop_cons s i hlt] at P
  simp only at P
  clear he
  by_cases c1 : s[i] = 39
  · rw [if_pos c1] at P
    have P := Lib.hid P
    have b1 : ((s[i].toNat : Int) == 39) = true := byte_eqb c1
    have HQ := Lib.hid (quoted_any s i w hs hlt hT)
    clear c1
    go_enter Tryd.func18, Tryd.ntmps18
    go_wp2_with (go_at_call 52; refine HQ.out.mono ?_; rintro e w' ⟨ev, rfl, her, hb⟩)
    go_ret3
    rw [Hid.out P]
    exact ⟨_, rfl, her, hb⟩
  rw [if_neg c1] at P
  have b1 : ((s[i].toNat : Int) == 39) = false := byte_neb c1
  clear c1
  by_cases c2 : kindS (s[i].toNat : Int) = 1
  · rw [if_pos c2] at P
    have b2 : (kindS (s[i].toNat : Int) != 1) = false := by simp [c2]
    have hW := fun w => word_any s i w (by unfold maxLen; omega) hi
    have hwl := wordS_le (s.data.toList.drop i)
    rw [← drop_cons s i hlt] at P
    rw [show (s.data.toList.drop i).length = s.size - i by simp] at hwl
    have hX := Lib.hid (show (s.extract i (i + wordS (s.data.toList.drop i))).data.toList = (s.data.toList.drop i).take (wordS (s.data.toList.drop i)) by
      rw [Lib.extract_data]; congr 1; omega)
    generalize hn : wordS (s.data.toList.drop i) = n at *
    have HW := Lib.hid hW
    have HN := Lib.hid hn
    have hsl := fun w => run_sub (P := Tryd.prog) Tryd.underlying9 s i (i + n) (by omega) (by omega) (x := (i : Int)) (y := (i : Int) + (n : Int)) rfl (by omega) w
    have hsz : (s.extract i (i + n)).size = n := by simp; omega
    clear c2 hn hW
    by_cases c3 : 255 < n
    · rw [if_pos c3] at P
      have P := Lib.hid P
      have b3 : 255 < (n : Int) := by omega
      clear c3
      go_enter Tryd.func18, Tryd.ntmps18
      go_wp2_with (first | (go_at_call 53; refine (kind_any _ _).mono ?_; rintro e w' ⟨rfl, rfl⟩) | (go_at_call 54; refine (HW.out _).mono ?_; rintro e w' ⟨rfl, rfl⟩) | (go_at_call 48; refine (refused_any _ _ _).mono ?_; rintro e w' ⟨rfl, rfl⟩))
      go_ret3
      rw [Hid.out P]
      exact ⟨_, rfl, ErrIs.one, (Below.refl _ _).alloc (Nat.le_refl _) _⟩
    · rw [if_neg c3] at P
      have b3 : ¬ 255 < (n : Int) := by omega
      clear c3
      have hR := fun w => reserved_any (s.extract i (i + n)) w
      rw [hX.out] at hR
      by_cases c4 : reservedS ((s.data.toList.drop i).take n) = true
      · rw [if_pos c4] at P
        rw [c4] at hR
        have P := Lib.hid P
        have HR := Lib.hid hR
        clear c4 hR
        go_enter Tryd.func18, Tryd.ntmps18
        go_wp2_with (first | (go_at_call 53; refine (kind_any _ _).mono ?_; rintro e w' ⟨rfl, rfl⟩) | (go_at_call 54; refine (HW.out _).mono ?_; rintro e w' ⟨rfl, rfl⟩) | (go_at_call 48; refine (refused_any _ _ _).mono ?_; rintro e w' ⟨rfl, rfl⟩) | (go_at_call 55; refine (HR.out _).mono ?_; rintro e w' ⟨rfl, rfl⟩))
        go_ret3
        rw [Hid.out P]
        exact ⟨_, rfl, ErrIs.one, (Below.refl _ _).alloc (Nat.le_refl _) _⟩
      · rw [if_neg c4] at P
        rw [show reservedS ((s.data.toList.drop i).take n) = false by simpa using c4] at hR
        have P := Lib.hid P
        have HR := Lib.hid hR
        clear c4 hR
        go_enter Tryd.func18, Tryd.ntmps18
        go_wp2_with (first | (go_at_call 53; refine (kind_any _ _).mono ?_; rintro e w' ⟨rfl, rfl⟩) | (go_at_call 54; refine (HW.out _).mono ?_; rintro e w' ⟨rfl, rfl⟩) | (go_at_call 55; refine (HR.out _).mono ?_; rintro e w' ⟨rfl, rfl⟩))
        go_ret3
        rw [Hid.out P]
        exact ⟨_, by rw [eq_of_chars hX.out]; rfl, rfl, Below.refl _ _⟩
  · rw [if_neg c2] at P
    have P := Lib.hid P
    have b2 : (kindS (s[i].toNat : Int) != 1) = true := by simp [c2]
    clear c2
    go_enter Tryd.func18, Tryd.ntmps18
    go_wp2_with (first | (go_at_call 53; refine (kind_any _ _).mono ?_; rintro e w' ⟨rfl, rfl⟩) | (go_at_call 48; refine (refused_any _ _ _).mono ?_; rintro e w' ⟨rfl, rfl⟩))
    go_ret3
    rw [Hid.out P]
    exact ⟨_, rfl, ErrIs.one, (Below.refl _ _).alloc (Nat.le_refl _) _⟩

/-- what Valid answers -/
def validS (s : ByteArray) : Bool := !errIsS (quoteS s).2 4 && !errIsS (quoteS s).2 23

set_option maxHeartbeats 4000000 in
theorem valid_any (s : ByteArray) (w : World) (hs : s.size ≤ maxLen) (hT : Lib.Utf8Tabs 2 3 w) :
    Calls Tryd.prog 19 #[.string s] w fun e w' => e = .returned (.bool (validS s)) ∧ Below w.heap.size w w' := by
  have HQ := Lib.hid (quote_any s w hs hT)
  obtain ⟨l, hl⟩ : ∃ l, (quoteS s).2 = l := ⟨_, rfl⟩
  by_cases h4 : errIsS l 4 = true
  · have P := Lib.hid (show validS s = false by unfold validS; rw [hl, h4]; rfl)
    have HL := Lib.hid hl
    clear hl
    go_enter Tryd.func19, Tryd.ntmps19
    go_wp2_with (go_at_call 15; refine HQ.out.mono ?_; rintro e w1 ⟨ev, rfl, her, hb⟩; rw [HL.out] at her; have HE := fun t => Lib.hid (errors_is _ _ t _ her); clear her)
    have h4' := (HE 4).out
    rw [h4] at h4'
    have HE4 := Lib.hid h4'
    clear h4 h4'
    go_wp2_with (go_at_call 56; refine HE4.out.mono ?_; rintro e w' ⟨rfl, rfl⟩)
    go_ret
    exact ⟨ret_bool P.out.symm, hb⟩
  · have h4' : errIsS l 4 = false := by simpa using h4
    have P := Lib.hid (show validS s = !errIsS l 23 by unfold validS; rw [hl, h4']; rfl)
    have HL := Lib.hid hl
    clear hl h4
    go_enter Tryd.func19, Tryd.ntmps19
    go_wp2_with (go_at_call 15; refine HQ.out.mono ?_; rintro e w1 ⟨ev, rfl, her, hb⟩; rw [HL.out] at her; have HE := fun t => Lib.hid (errors_is _ _ t _ her); clear her)
    have h4'' := (HE 4).out
    rw [h4'] at h4''
    have HE4 := Lib.hid h4''
    clear h4' h4''
    go_wp2_with (go_at_call 56; (first | (with_reducible refine HE4.out.mono ?_) | (with_reducible refine (HE 23).out.mono ?_)); rintro e w' ⟨rfl, rfl⟩)
    go_ret
    exact ⟨ret_bool P.out.symm, hb⟩
end Go.Proofs.YtdafikemndaeeaaDoor
