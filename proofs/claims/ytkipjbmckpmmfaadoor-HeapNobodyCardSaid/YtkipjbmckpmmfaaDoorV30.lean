/- Texts laid together: AtomJ, AtomK, AtomL, AtomM, QuoN. -/
import Derived.Test.YtkipjbmckpmmfaaDoorV29
import Derived.Test.YtkipjbmckpmmfaaDoorV21
import Derived.Deep.RegionLaw
section
/- The reference of layer 1: which atoms stand without quotes; how an atom is written. -/
open Go Go.RowKit
namespace Go.Proofs.YtkipjbmckpmmfaaDoor

theorem lit_cells2 (w : World) (a b : UInt8) : ∀ j, (h : j < [a, b].length) → (w.alloc (.cells #[.int .u8 a.toNat, .int .u8 b.toNat] 5 (0, 0))).cell? ((⟨w.heap.size, 0, none⟩ : Addr).add j) = some (byteV [a, b][j]) := lit_cells w [a, b] _ rfl

def resArr : Array Value := (reservedL.map fun l => Value.string ⟨l.toArray⟩).toArray
set_option maxHeartbeats 4000000 in
set_option maxRecDepth 100000 in
theorem reservedR_any (s : ByteArray) (w : World) :
    Calls Tryd.prog 64 #[.string s] w fun e w' => e = .returned (.bool (reservedS s.data.toList)) ∧ Below w.heap.size w w' := by
  go_enter Tryd.func64, Tryd.ntmps64
  go_wp2
  obtain ⟨W, hW⟩ : ∃ W, W = w.alloc (Obj.cells resArr 9) := ⟨_, rfl⟩
  have hbl : Below w.heap.size w W := by rw [hW]; exact (Below.refl _ _).alloc (Nat.le_refl _) _
  have hcells : ∀ k, (h : k < 19) → W.cell? ⟨w.heap.size, k, none⟩ = some (.string ⟨(reservedL[k]'(by simpa [reservedL] using h)).toArray⟩) := by
    intro k h
    rw [hW, cell_of_block (alloc_get _ _)]
    simp only [resArr, List.getElem?_toArray, List.getElem?_map]
    rw [List.getElem?_eq_getElem (by simpa [reservedL] using h)]
    rfl
  show Code.wp _ _ _ _ (w.alloc (Obj.cells resArr 9))
  rw [← hW]
  have HC := Lib.hid hcells
  clear hW hcells
  go_loop [4] (fun i => ∃ k : Nat, k ≤ 19 ∧ i = .int .i64 k ∧ (reservedL.take k).contains s.data.toList = false) (fun i => 19 - (intOf i).toNat)
  case atStart => exact ⟨0, by omega, rfl, rfl⟩
  case round =>
    obtain ⟨k, hk, rfl, hno⟩ := hrel
    have HN := Lib.hid hno
    clear hno
    have hrl : reservedL.length = 19 := rfl
    by_cases hlt : k < 19
    · have hcell := HC.out k hlt
      have hkI : (k : Int) < 19 := by omega
      obtain ⟨r, hr⟩ : ∃ r : ByteArray, r = ⟨(reservedL[k]'(by omega)).toArray⟩ := ⟨_, rfl⟩
      have hrd : r.data.toList = reservedL[k]'(by omega) := by rw [hr]
      rw [← hr] at hcell
      have HR := Lib.hid hrd
      clear hr hrd
      by_cases he : r.data.toList = s.data.toList
      · have hb : (r.toList == s.toList) = true := by rw [toList_data, toList_data, he]; simp
        have P := Lib.hid (show reservedS s.data.toList = true by
          unfold reservedS
          rw [← he, HR.out]
          simp)
        clear he
        go_wp2
        go_ret
        exact ⟨ret_bool P.out.symm, hbl⟩
      · have hb : (r.toList == s.toList) = false := by rw [toList_data, toList_data]; simpa using he
        have HE := Lib.hid he
        clear he
        go_wp2
        go_round
        case rel =>
          refine ⟨k + 1, by omega, by go_num, ?_⟩
          rw [List.take_succ_eq_append_getElem (by omega)]
          have h1 := HN.out
          have h2 := HE.out
          rw [HR.out] at h2
          simp only [List.contains_eq_mem, List.mem_append, List.mem_singleton, decide_eq_false_iff_not, not_or] at h1 ⊢
          exact ⟨h1, fun e => h2 e.symm⟩
        case measure => simp [intOf]; omega
    · have hk19 : k = 19 := by omega
      have P := Lib.hid (show reservedS s.data.toList = false by
        have := HN.out
        rw [hk19, List.take_of_length_le (by omega)] at this
        exact this)
      clear hk19
      go_wp2
      go_ret
      exact ⟨ret_bool P.out.symm, hbl⟩

/-- of all places from i on: does a byte of a word stand there? -/
theorem word_all (l : List UInt8) : wordS l = l.length ↔ ∀ c ∈ l, kindS c.toNat ≠ 0 := by
  induction l with
  | nil => simp [wordS]
  | cons c l ih =>
    rw [wordS_cons]
    have := wordS_le l
    by_cases h : kindS c.toNat = 0
    · rw [if_pos h]; simp [h]
    · rw [if_neg h]
      simp only [List.length_cons, List.mem_cons, forall_eq_or_imp]
      rw [← ih]
      constructor
      · intro e; exact ⟨h, by omega⟩
      · intro e; omega

set_option maxHeartbeats 4000000 in
set_option maxRecDepth 100000 in
theorem plainR_any (s : ByteArray) (w : World) (hs : s.size ≤ maxLen) :
    Calls Tryd.prog 54 #[.string s] w fun e w' => e = .returned (.bool (plainS s.data.toList)) ∧ Below w.heap.size w w' := by
  unfold maxLen at hs
  have HR := Lib.hid (fun w => reservedR_any s w)
  by_cases h0 : s.size = 0
  · have he : s.data.toList = [] := by apply List.eq_nil_of_length_eq_zero; simpa using h0
    have he' : s.toList = [] := by rw [toList_data]; exact he
    have hee : s.toList.isEmpty = true := by rw [he']; rfl
    have P := Lib.hid (show plainS s.data.toList = false by rw [he]; rfl)
    clear he he'
    go_enter Tryd.func54, Tryd.ntmps54
    go_wp2
    go_ret
    exact ⟨ret_bool P.out.symm, Below.refl _ _⟩
  have hpos : 0 < s.size := by omega
  have hd := drop_cons s 0 hpos
  rw [List.drop_zero] at hd
  have hee : s.toList.isEmpty = false := by rw [toList_data, hd]; rfl
  have P := Lib.hid (show plainS s.data.toList = (kindS (s[0].toNat : Int) == 1 && wordS s.data.toList == s.data.toList.length && !reservedS s.data.toList) by rw [hd]; rfl)
  clear h0 hd
  by_cases hk : kindS (s[0].toNat : Int) = 1
  · have hkb : (kindS (s[0].toNat : Int) == 1) = true := by simp [hk]
    by_cases hr : reservedS s.data.toList = true
    · have P2 := Lib.hid (show plainS s.data.toList = false by rw [P.out, hr]; simp)
      rw [hr] at HR
      clear hk hr
      go_enter Tryd.func54, Tryd.ntmps54
      go_wp2_with (first | (go_at_call 63; refine (small_any _ _).mono ?_; rintro e w' ⟨rfl, rfl⟩) | (go_at_call 64; refine (HR.out _).mono ?_; rintro e w1 ⟨rfl, hb1⟩))
      go_ret
      exact ⟨ret_bool P2.out.symm, hb1⟩
    · have hr' : reservedS s.data.toList = false := by simpa using hr
      rw [hr'] at HR
      have P2 := Lib.hid (show plainS s.data.toList = (wordS s.data.toList == s.data.toList.length) by rw [P.out, hr', hkb]; simp)
      clear hk hr hr'
      go_enter Tryd.func54, Tryd.ntmps54
      go_wp2_with (first | (go_at_call 63; refine (small_any _ _).mono ?_; rintro e w' ⟨rfl, rfl⟩) | (go_at_call 64; refine (HR.out _).mono ?_; rintro e w1 ⟨rfl, hb1⟩))
      go_loop [3] (fun i => ∃ k : Nat, k ≤ s.size ∧ i = .int .i64 k ∧ ∀ c ∈ s.data.toList.take k, kindS c.toNat ≠ 0) (fun i => s.size - (intOf i).toNat)
      case atStart => exact ⟨0, by omega, rfl, by simp⟩
      case round =>
        obtain ⟨k, hks, rfl, hall⟩ := hrel
        have HA := Lib.hid hall
        clear hall
        by_cases hlt : k < s.size
        · have htk := Lib.hid (show s.data.toList.take (k + 1) = s.data.toList.take k ++ [s[k]] by
            rw [List.take_succ_eq_append_getElem (by simpa using hlt)]; rfl)
          by_cases hz : kindS (s[k].toNat : Int) = 0
          · have hzb : (kindS (s[k].toNat : Int) != 0) = false := by simp [hz]
            have P3 := Lib.hid (show plainS s.data.toList = false by
              rw [P2.out]
              have : ¬ wordS s.data.toList = s.data.toList.length := by
                rw [word_all]
                intro h
                exact h s[k] (by show s.data[k] ∈ s.data.toList; simp) hz
              simpa using this)
            clear hz
            go_wp2_with (go_at_call 56; refine (inWord_any _ _).mono ?_; rintro e w' ⟨rfl, rfl⟩)
            go_ret
            exact ⟨ret_bool P3.out.symm, hb1⟩
          · have hzb : (kindS (s[k].toNat : Int) != 0) = true := by simp [hz]
            have HZ := Lib.hid hz
            clear hz
            go_wp2_with (go_at_call 56; refine (inWord_any _ _).mono ?_; rintro e w' ⟨rfl, rfl⟩)
            go_round
            case rel =>
              refine ⟨k + 1, by omega, by go_num, ?_⟩
              rw [htk.out]
              intro c hc
              rcases List.mem_append.1 hc with h | h
              · exact HA.out c h
              · rw [List.mem_singleton.1 h]; exact HZ.out
            case measure => simp [intOf]; omega
        · have P3 := Lib.hid (show plainS s.data.toList = true by
            rw [P2.out]
            have h := HA.out
            rw [List.take_of_length_le (by simp; omega)] at h
            simpa using (word_all _).2 h)
          go_wp2
          go_ret
          exact ⟨ret_bool P3.out.symm, hb1⟩
  · have hkb : (kindS (s[0].toNat : Int) == 1) = false := by simp [hk]
    have P2 := Lib.hid (show plainS s.data.toList = false by rw [P.out, hkb]; simp)
    clear hk
    go_enter Tryd.func54, Tryd.ntmps54
    go_wp2_with (first | (go_at_call 63; refine (small_any _ _).mono ?_; rintro e w' ⟨rfl, rfl⟩))
    go_ret
    exact ⟨ret_bool P2.out.symm, Below.refl _ _⟩

end Go.Proofs.YtkipjbmckpmmfaaDoor
end
section
/- The reference of layer 1: Quote. -/
open Go Go.RowKit
namespace Go.Proofs.YtkipjbmckpmmfaaDoor

theorem wrap8 (x : Int) (h0 : 0 ≤ x) (h1 : x < 256) : IntKind.u8.wrap x = x := by
  simp [IntKind.wrap, IntKind.signed, IntKind.bits]; omega

set_option maxHeartbeats 4000000 in
set_option maxRecDepth 100000 in
theorem quoteR_loop (s : ByteArray) (w : World) (hs : s.size ≤ 255)
    (hu : utfS s = -1) (hp : plainS s.data.toList = false) :
    Calls Tryd.prog 41 #[.string s] w fun e w' => e = .returned (.tuple #[.string ⟨(39 :: (quoteBodyS s.data.toList ++ [39])).toArray⟩, .slice none 0 0]) ∧ Below w.heap.size w w' := by
  have HST := Lib.hid (fun w => utf_any s w (by omega))
  rw [hu] at HST
  have HPL := Lib.hid (fun w => plainR_any s w (by unfold maxLen; omega))
  rw [hp] at HPL
  clear hu hp
  go_enter Tryd.func41, Tryd.ntmps41
  go_wp2_with (first | (go_at_call 53; refine (HST.out _).mono ?_; rintro e w' ⟨rfl, rfl⟩) | (go_at_call 54; refine (HPL.out _).mono ?_; rintro e w1 ⟨rfl, hb1⟩))
  obtain ⟨B, hB⟩ : ∃ B, B = w1.heap.size := ⟨_, rfl⟩
  have hBle := hb1.size
  rw [← hB] at hBle
  rw [← hB]
  have HBE := Lib.hid hB
  clear hB
  go_loopw [5, 6] (fun b i wr => ∃ k : Nat, k ≤ s.size ∧ i = .int .i64 k ∧ BufIs B b (39 :: quoteBodyS (s.data.toList.take k)) wr ∧ B < wr.heap.size ∧ Below w'.heap.size w' wr) (fun _ i _ => s.size - (intOf i).toNat)
  case atStart =>
    refine ⟨0, Nat.zero_le _, rfl, ?_, ?_, ?_⟩
    · exact HBE.out ▸ (BufIs.lit (w := w1) [39] (Nat.le_refl _) (by decide))
    · have := HBE.out; simp; omega
    · exact hb1.alloc hb1.size _
  case round =>
    obtain ⟨k, hk, rfl, hb, hBw, hbl⟩ := hrel
    by_cases hlt : k < s.size
    · have hw0 := hbl.size
      have htk := Lib.hid (show s.data.toList.take (k + 1) = s.data.toList.take k ++ [s[k]] by
        rw [List.take_succ_eq_append_getElem (by simpa using hlt)]; rfl)
      have hlen : (s.data.toList.take k).length = k := by rw [List.length_take]; simp; omega
      have HQ4 := Lib.hid (show (quoteBodyS (s.data.toList.take k)).length ≤ 1020 by have := quoteBodyS_le (s.data.toList.take k); omega)
      have HB := Lib.hid hb
      clear hlen hb
      have hc256 : (s[k].toNat : Int) < 256 := by have := s[k].toNat_lt; omega
      by_cases c1 : s[k] = 39 ∨ s[k] = 92
      · have q := Lib.hid (show quoteByteS s[k] = [92, s[k]] by unfold quoteByteS; rw [if_pos c1])
        have hN := Lib.hid (show ∀ j, (h : j < [92, s[k]].length) → (wr.alloc (Obj.cells #[Value.int IntKind.u8 92, Value.int IntKind.u8 ↑s[k].toNat] 5)).cell? ((⟨wr.heap.size, 0, none⟩ : Addr).add j) = some (byteV [92, s[k]][j]) by
          intro j h; match j, h with | 0, _ => simp [Addr.add, byteV] | 1, _ => simp [Addr.add, byteV])
        have b1 : ((s[k].toNat : Int) == 39) = true ∨ ((s[k].toNat : Int) == 39) = false ∧ ((s[k].toNat : Int) == 92) = true := by
          by_cases h : s[k] = 39
          · exact .inl (byte_eqb h)
          · exact .inr ⟨byte_neb h, byte_eqb (c1.resolve_left h)⟩
        clear c1 hc256
        rcases b1 with b1 | ⟨b1, b2⟩
        all_goals
          go_wp2_with (at_builtin; refine stop ?_)
          refine Stopped.of ?_
          refine wp_app_row rfl (.tmp 42) (.tmp 44) rfl B u5 (39 :: quoteBodyS (s.data.toList.take k)) rfl (HB.out.alloc _) ⟨wr.heap.size, 0, none⟩ 2 2 [92, s[k]] rfl rfl hN.out (by have := HQ4.out; simp; omega) (by simp; omega) ?_
          intro v' w2 hb2 hg2
          go_wp2
          go_roundw
          case rel =>
            refine ⟨k + 1, by omega, by go_num, ?_, (by have := hg2.size; simp at this; omega), below_grown (hbl.alloc (by omega) _) (HB.out.alloc _) hBle (by simp; omega) hg2⟩
            rw [htk.out, quoteBodyS_snoc, q.out]; exact hb2
          case measure => simp [intOf]; omega
      have b1 : ((s[k].toNat : Int) == 39) = false := byte_neb (fun h => c1 (.inl h))
      have b2 : ((s[k].toNat : Int) == 92) = false := byte_neb (fun h => c1 (.inr h))
      by_cases c3 : s[k] = 10
      · have q := Lib.hid (show quoteByteS s[k] = [92, 110] by unfold quoteByteS; rw [if_neg c1, if_pos c3])
        have b3 : ((s[k].toNat : Int) == 10) = true := byte_eqb c3
        clear c1 c3 hc256
        go_wp2_with (at_builtin; refine stop ?_)
        refine Stopped.of ?_
        refine wp_app_row rfl (.tmp 49) (.tmp 50) rfl B u5 (39 :: quoteBodyS (s.data.toList.take k)) rfl (HB.out.alloc _) ⟨wr.heap.size, 0, none⟩ 2 2 [92, 110] rfl rfl (lit_cells2 wr 92 110) (by have := HQ4.out; simp; omega) (by simp; omega) ?_
        intro v' w2 hb2 hg2
        go_wp2
        go_roundw
        case rel =>
          refine ⟨k + 1, by omega, by go_num, ?_, (by have := hg2.size; simp at this; omega), below_grown (hbl.alloc (by omega) _) (HB.out.alloc _) hBle (by simp; omega) hg2⟩
          rw [htk.out, quoteBodyS_snoc, q.out]; exact hb2
        case measure => simp [intOf]; omega
      have b3 : ((s[k].toNat : Int) == 10) = false := byte_neb c3
      by_cases c4 : s[k] = 9
      · have q := Lib.hid (show quoteByteS s[k] = [92, 116] by unfold quoteByteS; rw [if_neg c1, if_neg c3, if_pos c4])
        have b4 : ((s[k].toNat : Int) == 9) = true := byte_eqb c4
        clear c1 c3 c4 hc256
        go_wp2_with (at_builtin; refine stop ?_)
        refine Stopped.of ?_
        refine wp_app_row rfl (.tmp 55) (.tmp 56) rfl B u5 (39 :: quoteBodyS (s.data.toList.take k)) rfl (HB.out.alloc _) ⟨wr.heap.size, 0, none⟩ 2 2 [92, 116] rfl rfl (lit_cells2 wr 92 116) (by have := HQ4.out; simp; omega) (by simp; omega) ?_
        intro v' w2 hb2 hg2
        go_wp2
        go_roundw
        case rel =>
          refine ⟨k + 1, by omega, by go_num, ?_, (by have := hg2.size; simp at this; omega), below_grown (hbl.alloc (by omega) _) (HB.out.alloc _) hBle (by simp; omega) hg2⟩
          rw [htk.out, quoteBodyS_snoc, q.out]; exact hb2
        case measure => simp [intOf]; omega
      have b4 : ((s[k].toNat : Int) == 9) = false := byte_neb c4
      by_cases c5 : s[k] = 13
      · have q := Lib.hid (show quoteByteS s[k] = [92, 114] by unfold quoteByteS; rw [if_neg c1, if_neg c3, if_neg c4, if_pos c5])
        have b5 : ((s[k].toNat : Int) == 13) = true := byte_eqb c5
        clear c1 c3 c4 c5 hc256
        go_wp2_with (at_builtin; refine stop ?_)
        refine Stopped.of ?_
        refine wp_app_row rfl (.tmp 61) (.tmp 62) rfl B u5 (39 :: quoteBodyS (s.data.toList.take k)) rfl (HB.out.alloc _) ⟨wr.heap.size, 0, none⟩ 2 2 [92, 114] rfl rfl (lit_cells2 wr 92 114) (by have := HQ4.out; simp; omega) (by simp; omega) ?_
        intro v' w2 hb2 hg2
        go_wp2
        go_roundw
        case rel =>
          refine ⟨k + 1, by omega, by go_num, ?_, (by have := hg2.size; simp at this; omega), below_grown (hbl.alloc (by omega) _) (HB.out.alloc _) hBle (by simp; omega) hg2⟩
          rw [htk.out, quoteBodyS_snoc, q.out]; exact hb2
        case measure => simp [intOf]; omega
      have b5 : ((s[k].toNat : Int) == 13) = false := byte_neb c5
      by_cases c6 : s[k].toNat < 32 ∨ s[k] = 127
      · have q := Lib.hid (show quoteByteS s[k] = [92, 120, hexD (s[k].toNat / 16), hexD (s[k].toNat % 16)] by unfold quoteByteS; rw [if_neg c1, if_neg c3, if_neg c4, if_neg c5, if_pos c6])
        have b6 : (s[k].toNat : Int) < 32 ∨ ¬ ((s[k].toNat : Int) < 32) ∧ ((s[k].toNat : Int) == 127) = true := by
          by_cases h : s[k].toNat < 32
          · exact .inl (by omega)
          · exact .inr ⟨by omega, byte_eqb (c6.resolve_left h)⟩
        clear c1 c3 c4 c5 c6
        have hd1 := hex_index ((s[k].toNat : Int) / 16) (by omega) (by omega)
        have hd2 := hex_index ((s[k].toNat : Int) % 16) (by omega) (by omega)
        have hw16 := wrap8 ((s[k].toNat : Int) / 16) (by omega) (by omega)
        have hr16 := wrap8 ((s[k].toNat : Int) % 16) (by omega) (by omega)
        have ht16 : Int.tmod (s[k].toNat : Int) 16 = (s[k].toNat : Int) % 16 := Int.tmod_eq_emod_of_nonneg (by omega)
        have e1 := Lib.hid (show hexI ((s[k].toNat : Int) / 16) = ((hexD (s[k].toNat / 16)).toNat : Int) by unfold hexI; rw [show ((s[k].toNat : Int) / 16).toNat = s[k].toNat / 16 by omega])
        have e2 := Lib.hid (show hexI ((s[k].toNat : Int) % 16) = ((hexD (s[k].toNat % 16)).toNat : Int) by unfold hexI; rw [show ((s[k].toNat : Int) % 16).toNat = s[k].toNat % 16 by omega])
        have hN := Lib.hid (show ∀ j, (h : j < [92, 120, hexD (s[k].toNat / 16), hexD (s[k].toNat % 16)].length) → (wr.drew.alloc (Obj.cells #[Value.int IntKind.u8 92, Value.int IntKind.u8 120, Value.int IntKind.u8 (hexI ((s[k].toNat : Int) / 16)), Value.int IntKind.u8 (hexI ((s[k].toNat : Int) % 16))] 5)).cell? ((⟨wr.heap.size, 0, none⟩ : Addr).add j) = some (byteV [92, 120, hexD (s[k].toNat / 16), hexD (s[k].toNat % 16)][j]) by
            rw [e1.out, e2.out]
            exact lit_cells wr.drew [92, 120, hexD (s[k].toNat / 16), hexD (s[k].toNat % 16)] wr.heap.size rfl)
        rcases b6 with b6 | ⟨b6, b7⟩
        all_goals
          go_wp2
          go_region_law (refine step_app_row rfl (.tmp 71) (.tmp 78) rfl B u5 (39 :: quoteBodyS (s.data.toList.take k)) rfl (HB.out.drew.alloc _) ⟨wr.heap.size, 0, none⟩ 4 4 [92, 120, hexD (s[k].toNat / 16), hexD (s[k].toNat % 16)] rfl rfl hN.out (by have := HQ4.out; simp; omega) (by simp; omega) ?_; intro v' w2 hb2 hg2)
          all_goals
            go_wp2
            go_roundw
            case rel =>
              refine ⟨k + 1, by omega, by go_num, ?_, (by have := hg2.size; simp at this; omega), below_grown (hbl.drew.alloc (by simp; omega) _) (HB.out.drew.alloc _) hBle (by simp; omega) hg2⟩
              rw [htk.out, quoteBodyS_snoc, q.out]; exact hb2
            case measure => simp [intOf]; omega
      · have q := Lib.hid (show quoteByteS s[k] = [s[k]] by unfold quoteByteS; rw [if_neg c1, if_neg c3, if_neg c4, if_neg c5, if_neg c6])
        have b6 : ((s[k].toNat : Int) == 127) = false := byte_neb (fun h => c6 (.inr h))
        have b7 : ¬ (s[k].toNat : Int) < 32 := by omega
        have hN := Lib.hid (show ∀ j, (h : j < [s[k]].length) → (wr.alloc (Obj.cells #[Value.int IntKind.u8 ↑s[k].toNat] 5)).cell? ((⟨wr.heap.size, 0, none⟩ : Addr).add j) = some (byteV [s[k]][j]) by
          intro j h; match j, h with | 0, _ => simp [Addr.add, byteV])
        clear c1 c3 c4 c5 c6 hc256
        go_wp2_with (at_builtin; refine stop ?_)
        refine Stopped.of ?_
        refine wp_app_row rfl (.tmp 31) (.tmp 33) rfl B u5 (39 :: quoteBodyS (s.data.toList.take k)) rfl (HB.out.alloc _) ⟨wr.heap.size, 0, none⟩ 1 1 [s[k]] rfl rfl hN.out (by have := HQ4.out; simp; omega) (by simp; omega) ?_
        intro v' w2 hb2 hg2
        go_wp2
        go_roundw
        case rel =>
          refine ⟨k + 1, by omega, by go_num, ?_, (by have := hg2.size; simp at this; omega), below_grown (hbl.alloc (by omega) _) (HB.out.alloc _) hBle (by simp; omega) hg2⟩
          rw [htk.out, quoteBodyS_snoc, q.out]; exact hb2
        case measure => simp [intOf]; omega
    · have HK := Lib.hid (show s.data.toList.take k = s.data.toList from List.take_of_length_le (by simp; omega))
      have HQ4 := Lib.hid (show (quoteBodyS (s.data.toList.take k)).length ≤ 1020 by
        have := quoteBodyS_le (s.data.toList.take k)
        have h2 : (s.data.toList.take k).length ≤ k := List.length_take_le _ _
        omega)
      have HB := Lib.hid hb
      clear hb
      have hw0 := hbl.size
      have hN := Lib.hid (show ∀ j, (h : j < [(39 : UInt8)].length) → (wr.alloc (Obj.cells #[Value.int IntKind.u8 39] 5)).cell? ((⟨wr.heap.size, 0, none⟩ : Addr).add j) = some (byteV [(39 : UInt8)][j]) by
          intro j h; match j, h with | 0, _ => simp [Addr.add, byteV])
      go_wp2_with (at_builtin; refine stop ?_)
      refine Stopped.of ?_
      refine wp_app_row rfl (.tmp 80) (.tmp 81) rfl B u5 (39 :: quoteBodyS (s.data.toList.take k)) rfl (HB.out.alloc _) ⟨wr.heap.size, 0, none⟩ 1 1 [39] rfl rfl hN.out (by have := HQ4.out; simp; omega) (by simp; omega) ?_
      intro v' w2 hb2 hg2
      have hcv2 := run_buf_string hb2
      have HB2 := Lib.hid hb2
      clear hb2
      go_wp2
      go_ret2
      refine ⟨?_, below_grown (hbl.alloc (by omega) _) (HB.out.alloc _) hBle (by simp; omega) hg2⟩
      rw [HK.out]
      rfl
end Go.Proofs.YtkipjbmckpmmfaaDoor
end
section
/- The reference's Quote, whole; AtomQuotes. -/
open Go Go.RowKit
namespace Go.Proofs.YtkipjbmckpmmfaaDoor

theorem quoteS_len (s : ByteArray) : (quoteS s).2.length ≤ 1 := by
  unfold quoteS; (repeat' split) <;> simp
end Go.Proofs.YtkipjbmckpmmfaaDoor
end
section
/- Tables that nobody made: AtomNobody. -/
open Go Go.RowKit
namespace Go.Proofs.YtkipjbmckpmmfaaDoor

def Dead (w : World) (t : Value) : Prop := t = .pointer none ∨ ∃ b, t = .pointer (some ⟨b, 0, none⟩) ∧ w.cell? ⟨b, 0, none⟩ = some (.bool false)
theorem Dead.below {w w' : World} {t : Value} (h : Dead w t) (hb : Below w.heap.size w w') : Dead w' t := by
  rcases h with h | ⟨b, h, hc⟩
  · exact .inl h
  · refine .inr ⟨b, h, ?_⟩
    rw [hb.cell (p := ⟨b, 0, none⟩) (World.block_lt_of_cell? w _ hc)]
    exact hc
end Go.Proofs.YtkipjbmckpmmfaaDoor
end
section
/- The reference's Quote: no link is nil. -/
open Go Go.RowKit
namespace Go.Proofs.YtkipjbmckpmmfaaDoor

def RetSLN (B : Nat) (w : World) (r : List UInt8 × List Lk) (e : Ending) (w' : World) : Prop := ∃ lv, e = .returned (.tuple #[.string ⟨r.1.toArray⟩, lv]) ∧ LinksIs B lv r.2 w' ∧ Below B w w' ∧ (r.2 = [] → lv = .slice none 0 0)
set_option maxHeartbeats 4000000 in
set_option maxRecDepth 100000 in
theorem quoteR_nil (s : ByteArray) (w : World) (hs : s.size ≤ 140737488351232) :
    Calls Tryd.prog 41 #[.string s] w (RetSLN w.heap.size w (quoteS s)) := by
  by_cases h1 : 255 < s.size
  · have P := Lib.hid (show quoteS s = ([], [⟨atomL, 0, 4⟩]) by unfold quoteS; rw [if_pos h1])
    have h1' : 255 < (s.size : Int) := by omega
    clear h1
    go_enter Tryd.func41, Tryd.ntmps41
    go_wp2_with (go_at_call 52; refine (no01_any _ _ _).mono ?_; rintro e w1 ⟨v, rfl, hl, hb⟩)
    go_ret2
    rw [P.out]
    exact ⟨_, rfl, hl, hb, fun h => by cases h⟩
  rcases utfGo_cases s s.size 0 with h2 | h2
  · by_cases h3 : plainS s.data.toList = true
    · have P := Lib.hid (show quoteS s = (s.data.toList, []) by unfold quoteS utfS; rw [if_neg h1, h2, if_neg (by decide), if_pos h3])
      have HST := Lib.hid (fun w => utf_any s w hs)
      rw [show utfS s = -1 from h2] at HST
      have HPL := Lib.hid (fun w => plainR_any s w (by unfold maxLen; omega))
      rw [h3] at HPL
      have h1' : ¬ 255 < (s.size : Int) := by omega
      clear h1 h2 h3
      go_enter Tryd.func41, Tryd.ntmps41
      go_wp2_with (first | (go_at_call 53; refine (HST.out _).mono ?_; rintro e w' ⟨rfl, rfl⟩) | (go_at_call 54; refine (HPL.out _).mono ?_; rintro e w1 ⟨rfl, hb1⟩))
      go_ret2
      rw [P.out]
      exact ⟨_, rfl, LinksIs.nil _ _, hb1, fun _ => rfl⟩
    · have h3' : plainS s.data.toList = false := by simpa using h3
      have P := Lib.hid (show quoteS s = (39 :: (quoteBodyS s.data.toList ++ [39]), []) by unfold quoteS utfS; rw [if_neg h1, h2, if_neg (by decide), if_neg h3])
      refine (quoteR_loop s w (by omega) h2 h3').mono ?_
      rintro e w' ⟨rfl, hb⟩
      rw [P.out]
      exact ⟨_, rfl, LinksIs.nil _ _, hb, fun _ => rfl⟩
  · have P := Lib.hid (show quoteS s = ([], [⟨atomL, utfS s, 23⟩]) by unfold quoteS; rw [if_neg h1, if_pos (show 0 ≤ utfS s from h2)])
    have h1' : ¬ 255 < (s.size : Int) := by omega
    have h3 : 0 ≤ utfS s := h2
    have HST := Lib.hid (fun w => utf_any s w hs)
    clear h1 h2
    go_enter Tryd.func41, Tryd.ntmps41
    go_wp2_with (first | (go_at_call 53; refine (HST.out _).mono ?_; rintro e w' ⟨rfl, rfl⟩) | (go_at_call 52; refine (no01_any _ _ _).mono ?_; rintro e w1 ⟨v, rfl, hl, hb⟩))
    go_ret2
    rw [P.out]
    exact ⟨_, rfl, hl, hb, fun h => by cases h⟩

end Go.Proofs.YtkipjbmckpmmfaaDoor
end
