/- Package atom: an atom in quotes is read. -/
import Derived.Test.YtdafikemndaeeaaDoorAtomE
import Derived.Test.YtdafikemndaeeaaDoorErrIs
open Go Go.RowKit
namespace Go.Proofs.YtdafikemndaeeaaDoor

/-- from place i on, acc having been read -/
def quotedGo (s : ByteArray) (frm : Int) : Nat → Nat → List UInt8 → List UInt8 × Int × List Lk
  | 0, _, _ => ([], 0, [⟨atomL, frm, 21⟩])
  | f + 1, i, acc =>
    match s.data.toList.drop i with
    | [] => ([], 0, [⟨atomL, frm, 21⟩])
    | c :: rest =>
      if c = 39 then
        (if 255 < acc.length then ([], 0, [⟨atomL, frm, 4⟩])
         else if 0 ≤ utfS ⟨acc.toArray⟩ then ([], 0, [⟨atomL, frm, 23⟩])
         else (acc, (i : Int) + 1, []))
      else if c.toNat < 32 ∨ c = 127 then ([], 0, [⟨atomL, frm, 21⟩])
      else if c = 92 then
        (if rest = [] then ([], 0, [⟨atomL, frm, 21⟩])
         else if (escapeS rest).2 = 0 then ([], 0, [⟨atomL, (i : Int), 22⟩])
         else quotedGo s frm f (i + 1 + (escapeS rest).2.toNat) (acc ++ [UInt8.ofNat (escapeS rest).1.toNat]))
      else quotedGo s frm f (i + 1) (acc ++ [c])
def quotedS (s : ByteArray) (frm : Nat) : List UInt8 × Int × List Lk := quotedGo s frm s.size (frm + 1) []

theorem extract_toList (s : ByteArray) (i : Nat) : (s.extract i s.size).data.toList = s.data.toList.drop i := by
  rw [Lib.extract_data, List.take_of_length_le]
  simp

set_option maxHeartbeats 8000000 in
set_option maxRecDepth 100000 in
theorem quoted_any (s : ByteArray) (frm : Nat) (w : World) (hs : s.size ≤ 140737488355000) (hf : frm < s.size) (hT : Lib.Utf8Tabs 2 3 w) :
    Calls Tryd.prog 52 #[.string s, .int .i64 frm] w (RetSNE w.heap.size w (quotedS s frm)) := by
  go_enter Tryd.func52, Tryd.ntmps52
  go_wp2
  go_loopw [7, 8] (fun b i wr => ∃ (k f : Nat) (acc : List UInt8), k ≤ s.size ∧ i = .int .i64 k ∧ BufIs w.heap.size b acc wr ∧ Below w.heap.size w wr ∧ quotedGo s frm f k acc = quotedS s frm ∧ s.size + 1 ≤ k + f ∧ acc.length ≤ k) (fun _ i _ => s.size - (intOf i).toNat)
  case atStart => exact ⟨frm + 1, s.size, [], by omega, rfl, BufIs.nil _ _, Below.refl _ _, rfl, by omega, by simp⟩
  case round =>
    obtain ⟨k, f, acc, hk, rfl, hb, hbl, hq, hfu, hal⟩ := hrel
    have hwz := hbl.size
    have HB := Lib.hid hb
    have HBL := Lib.hid hbl
    have HT := Lib.hid (Utf8Tabs_below hT hbl)
    clear hb hbl
    by_cases hlt : k < s.size
    · obtain ⟨f, rfl⟩ : ∃ g, f = g + 1 := ⟨f - 1, by omega⟩
      rw [quotedGo, drop_cons s k hlt] at hq
      simp only at hq
      by_cases c1 : s[k] = 39
      · rw [if_pos c1] at hq
        have b1 : ((s[k].toNat : Int) == 39) = true := byte_eqb c1
        have hlen := fun w => run_buf_len HB.out w
        have hcv := run_buf_string HB.out
        clear c1
        by_cases d1 : 255 < acc.length
        · rw [if_pos d1] at hq
          have HQ := Lib.hid hq
          have d1' : 255 < (acc.length : Int) := by omega
          clear hq d1
          go_wp2_with (go_at_call 48; refine (refused_any _ _ _).mono ?_; rintro e w' ⟨rfl, rfl⟩)
          go_ret3
          rw [← HQ.out]
          exact ⟨_, rfl, ErrIs.one, HBL.out.alloc (by omega) _⟩
        · rw [if_neg d1] at hq
          have d1' : ¬ 255 < (acc.length : Int) := by omega
          have HS := Lib.hid (strange_any ⟨acc.toArray⟩ wr HT.out)
          by_cases d2 : 0 ≤ utfS ⟨acc.toArray⟩
          · rw [if_pos d2] at hq
            have HQ := Lib.hid hq
            clear hq d1
            go_wp2_with (first | (go_at_call 48; refine (refused_any _ _ _).mono ?_; rintro e w' ⟨rfl, rfl⟩) | (go_at_call 49; refine HS.out.mono ?_; rintro e w2 ⟨rfl, hb2⟩))
            go_ret3
            rw [← HQ.out]
            exact ⟨_, rfl, ErrIs.one, (HBL.out.trans (hb2.mono hwz)).alloc (by have := hb2.size; omega) _⟩
          · rw [if_neg d2] at hq
            have HQ := Lib.hid hq
            have d2' : utfS ⟨acc.toArray⟩ < 0 := by omega
            have HB2 := fun w2 (h : Below wr.heap.size wr w2) => Lib.hid (run_buf_string (HB.out.below h (Nat.le_refl _)))
            clear hq d1 d2
            go_wp2_with (first | (go_at_call 49; refine HS.out.mono ?_; rintro e w2 ⟨rfl, hb2⟩; have hcv2 := (HB2 _ hb2).out))
            go_ret3
            rw [← HQ.out]
            exact ⟨_, by go_num, rfl, HBL.out.trans (hb2.mono hwz)⟩
      rw [if_neg c1] at hq
      have b1 : ((s[k].toNat : Int) == 39) = false := byte_neb c1
      by_cases c2 : s[k].toNat < 32 ∨ s[k] = 127
      · rw [if_pos c2] at hq
        have b2 : (s[k].toNat : Int) < 32 ∨ ¬ ((s[k].toNat : Int) < 32) ∧ ((s[k].toNat : Int) == 127) = true := by
          by_cases h : s[k].toNat < 32
          · exact .inl (by omega)
          · exact .inr ⟨by omega, byte_eqb (c2.resolve_left h)⟩
        have HQ := Lib.hid hq
        clear c1 c2 hq
        rcases b2 with b2 | ⟨b2, b3⟩
        all_goals
          go_wp2_with (go_at_call 48; refine (refused_any _ _ _).mono ?_; rintro e w' ⟨rfl, rfl⟩)
          go_ret3
          rw [← HQ.out]
          exact ⟨_, rfl, ErrIs.one, HBL.out.alloc (by omega) _⟩
      rw [if_neg c2] at hq
      have b2 : ¬ (s[k].toNat : Int) < 32 := by omega
      have b3 : ((s[k].toNat : Int) == 127) = false := byte_neb (fun h => c2 (.inr h))
      by_cases c3 : s[k] = 92
      · rw [if_pos c3] at hq
        have b4 : ((s[k].toNat : Int) == 92) = true := byte_eqb c3
        clear c1 c2 c3
        by_cases d1 : k + 1 = s.size
        · rw [if_pos (drop_end s (k + 1) (by omega))] at hq
          have HQ := Lib.hid hq
          have d1' : ((k : Int) + 1 == (s.size : Int)) = true := by simp; omega
          clear hq d1
          go_wp2_with (go_at_call 48; refine (refused_any _ _ _).mono ?_; rintro e w' ⟨rfl, rfl⟩)
          go_ret3
          rw [← HQ.out]
          exact ⟨_, rfl, ErrIs.one, HBL.out.alloc (by omega) _⟩
        · have d1' : ((k : Int) + 1 == (s.size : Int)) = false := by simp; omega
          rw [if_neg (by rw [drop_cons s (k + 1) (by omega)]; simp)] at hq
          have hle := escapeS_le (s.data.toList.drop (k + 1))
          have hby := escapeS_byte (s.data.toList.drop (k + 1))
          have hEs := fun w => escape_any (s.extract (k + 1) s.size) w (by unfold maxLen; simp; omega)
          rw [extract_toList] at hEs
          have HE := Lib.hid hEs
          rw [show (s.data.toList.drop (k + 1)).length = s.size - (k + 1) by simp] at hle
          clear hEs
          generalize escapeS (s.data.toList.drop (k + 1)) = p at *
          obtain ⟨x, n⟩ := p
          simp only at *
          obtain ⟨hle1, hle2⟩ := hle
          obtain ⟨hby1, hby2⟩ := hby
          by_cases d2 : n = 0
          · rw [if_pos d2] at hq
            have d2' : (n == 0) = true := by simp [d2]
            have HQ := Lib.hid hq
            clear hq d1 d2
            go_wp2_with (first | (go_at_call 48; refine (refused_any _ _ _).mono ?_; rintro e w' ⟨rfl, rfl⟩) | (go_at_call 75; refine (HE.out _).mono ?_; rintro e w' ⟨rfl, nd, rfl⟩))
            go_ret3
            rw [← HQ.out]
            exact ⟨_, rfl, ErrIs.one (w := wr.drewN nd), (below_drewN HBL.out nd).alloc (by have := below_drewN HBL.out nd; exact this.size) _⟩
          · rw [if_neg d2] at hq
            have d2' : (n == 0) = false := by simp [d2]
            have HQ := Lib.hid hq
            clear hq d1 d2
            go_wp2_with (first | (go_at_call 75; refine (HE.out _).mono ?_; rintro e w' ⟨rfl, nd, rfl⟩) | (at_builtin; refine stop ?_))
            refine Stopped.of ?_
            have hwd : w.heap.size ≤ (wr.drewN nd).heap.size := hwz
            refine wp_app_row rfl (.tmp 76) (.tmp 78) rfl w.heap.size u7 acc rfl ((BufIs.drewN HB.out nd).alloc _) ⟨wr.heap.size, 0, none⟩ 1 1 [UInt8.ofNat x.toNat] rfl rfl (lit_cells1i (wr.drewN nd) x hby1 hby2) (by simp; omega) (by simp; omega) ?_
            intro v' w2 hb2 hg2
            go_wp2
            go_roundw
            case rel =>
              exact ⟨k + 1 + n.toNat, f, acc ++ [UInt8.ofNat x.toNat], by omega, by go_num, hb2, below_grown ((below_drewN HBL.out nd).alloc hwd _) ((BufIs.drewN HB.out nd).alloc _) (Nat.le_refl _) (by simp; omega) hg2, HQ.out, by omega, by simp; omega⟩
            case measure => simp [intOf]; omega
      rw [if_neg c3] at hq
      have b4 : ((s[k].toNat : Int) == 92) = false := byte_neb c3
      have HQ := Lib.hid hq
      clear c1 c2 c3 hq
      go_wp2_with (at_builtin; refine stop ?_)
      refine Stopped.of ?_
      refine wp_app_row rfl (.tmp 23) (.tmp 25) rfl w.heap.size u7 acc rfl (HB.out.alloc _) ⟨wr.heap.size, 0, none⟩ 1 1 [s[k]] rfl rfl (lit_cells1 wr s[k]) (by simp; omega) (by simp; omega) ?_
      intro v' w2 hb2 hg2
      go_wp2
      go_roundw
      case rel =>
        exact ⟨k + 1, f, acc ++ [s[k]], by omega, by go_num, hb2, below_grown (HBL.out.alloc (by omega) _) (HB.out.alloc _) (Nat.le_refl _) (by simp; omega) hg2, HQ.out, by omega, by simp; omega⟩
      case measure => simp [intOf]; omega
    · have hq2 : quotedS s frm = ([], 0, [⟨atomL, frm, 21⟩]) := by
        rw [← hq]
        cases f with
        | zero => rfl
        | succ f => rw [quotedGo, drop_end s k (by omega)]
      have HQ := Lib.hid hq2
      clear hq hq2
      go_wp2_with (go_at_call 48; refine (refused_any _ _ _).mono ?_; rintro e w' ⟨rfl, rfl⟩)
      go_ret3
      rw [HQ.out]
      exact ⟨_, rfl, ErrIs.one, HBL.out.alloc (by omega) _⟩
end Go.Proofs.YtdafikemndaeeaaDoor
