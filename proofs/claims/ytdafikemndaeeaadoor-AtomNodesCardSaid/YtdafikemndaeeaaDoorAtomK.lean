/- The reference of layer 1: Quote. -/
import Derived.Test.YtdafikemndaeeaaDoorAtomJ
import Derived.Deep.RegionLaw
open Go Go.RowKit
namespace Go.Proofs.YtdafikemndaeeaaDoor

theorem wrap8 (x : Int) (h0 : 0 ≤ x) (h1 : x < 256) : IntKind.u8.wrap x = x := by
  simp [IntKind.wrap, IntKind.signed, IntKind.bits]; omega

/-- A call that hands back a string and a chain. -/
def RetSL (B : Nat) (w : World) (r : List UInt8 × List Lk) (e : Ending) (w' : World) : Prop := ∃ lv, e = .returned (.tuple #[.string ⟨r.1.toArray⟩, lv]) ∧ LinksIs B lv r.2 w' ∧ Below B w w'

set_option maxHeartbeats 4000000 in
set_option maxRecDepth 100000 in
theorem quoteR_loop (s : ByteArray) (w : World) (hs : s.size ≤ 255)
    (hu : utfS s = -1) (hp : plainS s.data.toList = false) :
    Calls Tryd.prog 31 #[.string s] w fun e w' => e = .returned (.tuple #[.string ⟨(39 :: (quoteBodyS s.data.toList ++ [39])).toArray⟩, .slice none 0 0]) ∧ Below w.heap.size w w' := by
  have HST := Lib.hid (fun w => utf_any s w (by omega))
  rw [hu] at HST
  have HPL := Lib.hid (fun w => plainR_any s w (by unfold maxLen; omega))
  rw [hp] at HPL
  clear hu hp
  go_enter Tryd.func31, Tryd.ntmps31
  go_wp2_with (first | (go_at_call 51; refine (HST.out _).mono ?_; rintro e w' ⟨rfl, rfl⟩) | (go_at_call 65; refine (HPL.out _).mono ?_; rintro e w1 ⟨rfl, hb1⟩))
  obtain ⟨B, hB⟩ : ∃ B, B = w1.heap.size := ⟨_, rfl⟩
  have hBle := hb1.size
  rw [← hB] at hBle
  rw [← hB]
  have HBE := Lib.hid hB
  clear hB
  go_loopw [5, 6] (fun b i wr => ∃ k : Nat, k ≤ s.size ∧ i = .int .i64 k ∧ BufIs B b (39 :: quoteBodyS (s.data.toList.take k)) wr ∧ B < wr.heap.size ∧ Below w'.heap.size w' wr) (fun _ i _ => s.size - (intOf i).toNat)
  case atStart =>
    refine ⟨0, Nat.zero_le _, rfl, ?_, ?_, ?_⟩
    · exact HBE.out ▸ (BufIs.lit (w := w1) [39] (Nat.le_refl _) (by decide))
    · have := HBE.out; simp; omega
    · exact hb1.alloc hb1.size _
  case round =>
    obtain ⟨k, hk, rfl, hb, hBw, hbl⟩ := hrel
    by_cases hlt : k < s.size
    · have hw0 := hbl.size
      have htk := Lib.hid (show s.data.toList.take (k + 1) = s.data.toList.take k ++ [s[k]] by
        rw [List.take_succ_eq_append_getElem (by simpa using hlt)]; rfl)
      have hlen : (s.data.toList.take k).length = k := by rw [List.length_take]; simp; omega
      have HQ4 := Lib.hid (show (quoteBodyS (s.data.toList.take k)).length ≤ 1020 by have := quoteBodyS_le (s.data.toList.take k); omega)
      have HB := Lib.hid hb
      clear hlen hb
      have hc256 : (s[k].toNat : Int) < 256 := by have := s[k].toNat_lt; omega
      by_cases c1 : s[k] = 39 ∨ s[k] = 92
      · have q := Lib.hid (show quoteByteS s[k] = [92, s[k]] by unfold quoteByteS; rw [if_pos c1])
        have hN := Lib.hid (show ∀ j, (h : j < [92, s[k]].length) → (wr.alloc (Obj.cells #[Value.int IntKind.u8 92, Value.int IntKind.u8 ↑s[k].toNat] 5)).cell? ((⟨wr.heap.size, 0, none⟩ : Addr).add j) = some (byteV [92, s[k]][j]) by
          intro j h; match j, h with | 0, _ => simp [Addr.add, byteV] | 1, _ => simp [Addr.add, byteV])
        have b1 : ((s[k].toNat : Int) == 39) = true ∨ ((s[k].toNat : Int) == 39) = false ∧ ((s[k].toNat : Int) == 92) = true := by
          by_cases h : s[k] = 39
          · exact .inl (byte_eqb h)
          · exact .inr ⟨byte_neb h, byte_eqb (c1.resolve_left h)⟩
        clear c1 hc256
        rcases b1 with b1 | ⟨b1, b2⟩
        all_goals
          go_wp2_with (at_builtin; refine stop ?_)
          refine Stopped.of ?_
          refine wp_app_row rfl (.tmp 42) (.tmp 44) rfl B u5 (39 :: quoteBodyS (s.data.toList.take k)) rfl (HB.out.alloc _) ⟨wr.heap.size, 0, none⟩ 2 2 [92, s[k]] rfl rfl hN.out (by have := HQ4.out; simp; omega) (by simp; omega) ?_
          intro v' w2 hb2 hg2
          go_wp2
          go_roundw
          case rel =>
            refine ⟨k + 1, by omega, by go_num, ?_, (by have := hg2.size; simp at this; omega), below_grown (hbl.alloc (by omega) _) (HB.out.alloc _) hBle (by simp; omega) hg2⟩
            rw [htk.out, quoteBodyS_snoc, q.out]; exact hb2
          case measure => simp [intOf]; omega
      have b1 : ((s[k].toNat : Int) == 39) = false := byte_neb (fun h => c1 (.inl h))
      have b2 : ((s[k].toNat : Int) == 92) = false := byte_neb (fun h => c1 (.inr h))
      by_cases c3 : s[k] = 10
      · have q := Lib.hid (show quoteByteS s[k] = [92, 110] by unfold quoteByteS; rw [if_neg c1, if_pos c3])
        have b3 : ((s[k].toNat : Int) == 10) = true := byte_eqb c3
        clear c1 c3 hc256
        go_wp2_with (at_builtin; refine stop ?_)
        refine Stopped.of ?_
        refine wp_app_row rfl (.tmp 49) (.tmp 50) rfl B u5 (39 :: quoteBodyS (s.data.toList.take k)) rfl (HB.out.alloc _) ⟨wr.heap.size, 0, none⟩ 2 2 [92, 110] rfl rfl (lit_cells2 wr 92 110) (by have := HQ4.out; simp; omega) (by simp; omega) ?_
        intro v' w2 hb2 hg2
        go_wp2
        go_roundw
        case rel =>
          refine ⟨k + 1, by omega, by go_num, ?_, (by have := hg2.size; simp at this; omega), below_grown (hbl.alloc (by omega) _) (HB.out.alloc _) hBle (by simp; omega) hg2⟩
          rw [htk.out, quoteBodyS_snoc, q.out]; exact hb2
        case measure => simp [intOf]; omega
      have b3 : ((s[k].toNat : Int) == 10) = false := byte_neb c3
      by_cases c4 : s[k] = 9
      · have q := Lib.hid (show quoteByteS s[k] = [92, 116] by unfold quoteByteS; rw [if_neg c1, if_neg c3, if_pos c4])
        have b4 : ((s[k].toNat : Int) == 9) = true := byte_eqb c4
        clear c1 c3 c4 hc256
        go_wp2_with (at_builtin; refine stop ?_)
        refine Stopped.of ?_
        refine wp_app_row rfl (.tmp 55) (.tmp 56) rfl B u5 (39 :: quoteBodyS (s.data.toList.take k)) rfl (HB.out.alloc _) ⟨wr.heap.size, 0, none⟩ 2 2 [92, 116] rfl rfl (lit_cells2 wr 92 116) (by have := HQ4.out; simp; omega) (by simp; omega) ?_
        intro v' w2 hb2 hg2
        go_wp2
        go_roundw
        case rel =>
          refine ⟨k + 1, by omega, by go_num, ?_, (by have := hg2.size; simp at this; omega), below_grown (hbl.alloc (by omega) _) (HB.out.alloc _) hBle (by simp; omega) hg2⟩
          rw [htk.out, quoteBodyS_snoc, q.out]; exact hb2
        case measure => simp [intOf]; omega
      have b4 : ((s[k].toNat : Int) == 9) = false := byte_neb c4
      by_cases c5 : s[k] = 13
      · have q := Lib.hid (show quoteByteS s[k] = [92, 114] by unfold quoteByteS; rw [if_neg c1, if_neg c3, if_neg c4, if_pos c5])
        have b5 : ((s[k].toNat : Int) == 13) = true := byte_eqb c5
        clear c1 c3 c4 c5 hc256
        go_wp2_with (at_builtin; refine stop ?_)
        refine Stopped.of ?_
        refine wp_app_row rfl (.tmp 61) (.tmp 62) rfl B u5 (39 :: quoteBodyS (s.data.toList.take k)) rfl (HB.out.alloc _) ⟨wr.heap.size, 0, none⟩ 2 2 [92, 114] rfl rfl (lit_cells2 wr 92 114) (by have := HQ4.out; simp; omega) (by simp; omega) ?_
        intro v' w2 hb2 hg2
        go_wp2
        go_roundw
        case rel =>
          refine ⟨k + 1, by omega, by go_num, ?_, (by have := hg2.size; simp at this; omega), below_grown (hbl.alloc (by omega) _) (HB.out.alloc _) hBle (by simp; omega) hg2⟩
          rw [htk.out, quoteBodyS_snoc, q.out]; exact hb2
        case measure => simp [intOf]; omega
      have b5 : ((s[k].toNat : Int) == 13) = false := byte_neb c5
      by_cases c6 : s[k].toNat < 32 ∨ s[k] = 127
      · have q := Lib.hid (show quoteByteS s[k] = [92, 120, hexD (s[k].toNat / 16), hexD (s[k].toNat % 16)] by unfold quoteByteS; rw [if_neg c1, if_neg c3, if_neg c4, if_neg c5, if_pos c6])
        have b6 : (s[k].toNat : Int) < 32 ∨ ¬ ((s[k].toNat : Int) < 32) ∧ ((s[k].toNat : Int) == 127) = true := by
          by_cases h : s[k].toNat < 32
          · exact .inl (by omega)
          · exact .inr ⟨by omega, byte_eqb (c6.resolve_left h)⟩
        clear c1 c3 c4 c5 c6
        have hd1 := hex_index ((s[k].toNat : Int) / 16) (by omega) (by omega)
        have hd2 := hex_index ((s[k].toNat : Int) % 16) (by omega) (by omega)
        have hw16 := wrap8 ((s[k].toNat : Int) / 16) (by omega) (by omega)
        have hr16 := wrap8 ((s[k].toNat : Int) % 16) (by omega) (by omega)
        have ht16 : Int.tmod (s[k].toNat : Int) 16 = (s[k].toNat : Int) % 16 := Int.tmod_eq_emod_of_nonneg (by omega)
        have e1 := Lib.hid (show hexI ((s[k].toNat : Int) / 16) = ((hexD (s[k].toNat / 16)).toNat : Int) by unfold hexI; rw [show ((s[k].toNat : Int) / 16).toNat = s[k].toNat / 16 by omega])
        have e2 := Lib.hid (show hexI ((s[k].toNat : Int) % 16) = ((hexD (s[k].toNat % 16)).toNat : Int) by unfold hexI; rw [show ((s[k].toNat : Int) % 16).toNat = s[k].toNat % 16 by omega])
        have hN := Lib.hid (show ∀ j, (h : j < [92, 120, hexD (s[k].toNat / 16), hexD (s[k].toNat % 16)].length) → (wr.drew.alloc (Obj.cells #[Value.int IntKind.u8 92, Value.int IntKind.u8 120, Value.int IntKind.u8 (hexI ((s[k].toNat : Int) / 16)), Value.int IntKind.u8 (hexI ((s[k].toNat : Int) % 16))] 5)).cell? ((⟨wr.heap.size, 0, none⟩ : Addr).add j) = some (byteV [92, 120, hexD (s[k].toNat / 16), hexD (s[k].toNat % 16)][j]) by
            rw [e1.out, e2.out]
            exact lit_cells wr.drew [92, 120, hexD (s[k].toNat / 16), hexD (s[k].toNat % 16)] wr.heap.size rfl)
        rcases b6 with b6 | ⟨b6, b7⟩
        all_goals
          go_wp2
          go_region_law (refine step_app_row rfl (.tmp 71) (.tmp 78) rfl B u5 (39 :: quoteBodyS (s.data.toList.take k)) rfl (HB.out.drew.alloc _) ⟨wr.heap.size, 0, none⟩ 4 4 [92, 120, hexD (s[k].toNat / 16), hexD (s[k].toNat % 16)] rfl rfl hN.out (by have := HQ4.out; simp; omega) (by simp; omega) ?_; intro v' w2 hb2 hg2)
          all_goals
            go_wp2
            go_roundw
            case rel =>
              refine ⟨k + 1, by omega, by go_num, ?_, (by have := hg2.size; simp at this; omega), below_grown (hbl.drew.alloc (by simp; omega) _) (HB.out.drew.alloc _) hBle (by simp; omega) hg2⟩
              rw [htk.out, quoteBodyS_snoc, q.out]; exact hb2
            case measure => simp [intOf]; omega
      · have q := Lib.hid (show quoteByteS s[k] = [s[k]] by unfold quoteByteS; rw [if_neg c1, if_neg c3, if_neg c4, if_neg c5, if_neg c6])
        have b6 : ((s[k].toNat : Int) == 127) = false := byte_neb (fun h => c6 (.inr h))
        have b7 : ¬ (s[k].toNat : Int) < 32 := by omega
        have hN := Lib.hid (show ∀ j, (h : j < [s[k]].length) → (wr.alloc (Obj.cells #[Value.int IntKind.u8 ↑s[k].toNat] 5)).cell? ((⟨wr.heap.size, 0, none⟩ : Addr).add j) = some (byteV [s[k]][j]) by
          intro j h; match j, h with | 0, _ => simp [Addr.add, byteV])
        clear c1 c3 c4 c5 c6 hc256
        go_wp2_with (at_builtin; refine stop ?_)
        refine Stopped.of ?_
        refine wp_app_row rfl (.tmp 31) (.tmp 33) rfl B u5 (39 :: quoteBodyS (s.data.toList.take k)) rfl (HB.out.alloc _) ⟨wr.heap.size, 0, none⟩ 1 1 [s[k]] rfl rfl hN.out (by have := HQ4.out; simp; omega) (by simp; omega) ?_
        intro v' w2 hb2 hg2
        go_wp2
        go_roundw
        case rel =>
          refine ⟨k + 1, by omega, by go_num, ?_, (by have := hg2.size; simp at this; omega), below_grown (hbl.alloc (by omega) _) (HB.out.alloc _) hBle (by simp; omega) hg2⟩
          rw [htk.out, quoteBodyS_snoc, q.out]; exact hb2
        case measure => simp [intOf]; omega
    · have HK := Lib.hid (show s.data.toList.take k = s.data.toList from List.take_of_length_le (by simp; omega))
      have HQ4 := Lib.hid (show (quoteBodyS (s.data.toList.take k)).length ≤ 1020 by
        have := quoteBodyS_le (s.data.toList.take k)
        have h2 : (s.data.toList.take k).length ≤ k := List.length_take_le _ _
        omega)
      have HB := Lib.hid hb
      clear hb
      have hw0 := hbl.size
      have hN := Lib.hid (show ∀ j, (h : j < [(39 : UInt8)].length) → (wr.alloc (Obj.cells #[Value.int IntKind.u8 39] 5)).cell? ((⟨wr.heap.size, 0, none⟩ : Addr).add j) = some (byteV [(39 : UInt8)][j]) by
          intro j h; match j, h with | 0, _ => simp [Addr.add, byteV])
      go_wp2_with (at_builtin; refine stop ?_)
      refine Stopped.of ?_
      refine wp_app_row rfl (.tmp 80) (.tmp 81) rfl B u5 (39 :: quoteBodyS (s.data.toList.take k)) rfl (HB.out.alloc _) ⟨wr.heap.size, 0, none⟩ 1 1 [39] rfl rfl hN.out (by have := HQ4.out; simp; omega) (by simp; omega) ?_
      intro v' w2 hb2 hg2
      have hcv2 := run_buf_string hb2
      have HB2 := Lib.hid hb2
      clear hb2
      go_wp2
      go_ret2
      refine ⟨?_, below_grown (hbl.alloc (by omega) _) (HB.out.alloc _) hBle (by simp; omega) hg2⟩
      rw [HK.out]
      rfl
end Go.Proofs.YtdafikemndaeeaaDoor
