/- The reference of mix: Digest. -/
import Derived.Test.YtdafikemndaeeaaDoorMixG
import Derived.Test.YtdafikemndaeeaaDoorRefused
open Go Go.RowKit
namespace Go.Proofs.YtdafikemndaeeaaDoor

theorem decDigits_ne (u : Nat) : Lib.decDigits u ≠ [] := by
  intro h
  have h1 := congrArg List.length h
  rw [Lib.decDigits_length] at h1
  rw [Lib.nDigits] at h1
  split at h1 <;> simp at h1
theorem RowIs.below {v : Value} {l : List UInt8} {w w' : World} (h : RowIs v l w) (hb : Below w.heap.size w w') : RowIs v l w' := by
  obtain ⟨g, c, rfl, hc⟩ := h
  refine ⟨g, c, rfl, fun j hj => ?_⟩
  rw [hb.cell (World.block_lt_of_cell? w _ (hc j hj))]
  exact hc j hj

theorem wp_app_run {ops : Array Oper} {rest : List Oper} {o : Oper} {a : Act} {Q : Exit → Act → World → Prop} {w : World} (hgd : o.guard = none) (s x : Operand)
    (ho : o.op = .call { callee := .builtin .append, args := #[s, x], argTypes := #[34, 34] })
    (v1 v2 v' : Value) (w' : World) (hs : a.eval s = v1) (hx : a.eval x = v2) (hrun : (Builtin.append_ #[34, 34] o.type #[v1, v2]).run Tryd.prog w = .ok v' w')
    (h : wpList Tryd.prog ops Q rest (a.put o.dst v') w') : wpList Tryd.prog ops Q (o :: rest) a w := by
  refine wpList_plain hgd fun K hK' => ?_
  unfold Oper.wp
  simp [execOp, ho, resolve, invoke, builtin, hs, hx, hrun, Result.andThen]
  exact hK' _ _ h

theorem be8_len (n : Int) : (be8 n).length = 8 := rfl
theorem be8_take (n : Int) (k : Nat) (h1 : 1 ≤ k) (h2 : k ≤ 8) : (be8 n).take (8 - (k - 1)) = (be8 n).take (8 - k) ++ [b8 n (2 ^ (8 * (k - 1)))] := by
  have : k = 1 ∨ k = 2 ∨ k = 3 ∨ k = 4 ∨ k = 5 ∨ k = 6 ∨ k = 7 ∨ k = 8 := by omega
  rcases this with h | h | h | h | h | h | h | h <;> subst h <;> rfl

set_option maxHeartbeats 16000000 in
set_option maxRecDepth 100000 in
theorem digestR_any (s : ByteArray) (u : Nat) (hu : u < 4294967296) (w : World) :
    Calls Tryd.prog 45 #[.string s, .int .u32 u] w fun e w' => ∃ v ev, e = .returned (.tuple #[v, ev]) ∧ BufIs w.heap.size v (digestS s u).1 w' ∧ LinksIs w.heap.size ev (digestS s u).2 w' ∧ Below w.heap.size w w' := by
  have HC := Lib.hid (cookieR_any s w)
  by_cases hk : cookieS s = []
  · have hkc := hk
    have hsz := cookieS_ok s hk
    have hd20 := dec20 u hu
    rw [hk] at HC
    have hcv := fun w => Lib.run_convert_string_bytes (P := Tryd.prog) w 9 34 5 s Tryd.underlying9 Tryd.underlying34 Tryd.underlying5
    go_enter Tryd.func45, Tryd.ntmps45
    go_wp2_with fail
    refine HC.out.mono ?_
    rintro e w1 ⟨lv, rfl, hlk, hb1⟩
    have hlen := run_links_len hlk
    rw [List.length_nil] at hlen
    clear hlk
    go_wp2_with fail
    have hFC := FullConv.mk w1 s
    refine (digits_any u hu _).mono ?_
    rintro e w2 ⟨dv, rfl, hdv, hb2⟩
    have hFC2 := hFC.below hb2 hFC.lt
    obtain ⟨dh, dc, rfl⟩ : ∃ h c, dv = .slice (some ⟨h, 0, none⟩) (Lib.decDigits u).length c := by
      rcases hdv.shape with ⟨_, h⟩ | ⟨g, c, h, _⟩
      · exact absurd h (decDigits_ne u)
      · exact ⟨g, c, h⟩
    have hb2' := (below_bytesWorld hb1 hb1.size 5 s).trans (hb2.mono (by rw [Lib.bytesWorld_size]; have := hb1.size; omega))
    have hbase : w.heap.size ≤ (Lib.bytesWorld w1 5 s).heap.size := by rw [Lib.bytesWorld_size]; have := hb1.size; omega
    obtain ⟨tv, w3, hrun, hrow, hb3⟩ := run_app_conv (base := w.heap.size) hFC2 hb1.size _ (Lib.decDigits u) (hdv.base hbase) (decDigits_ne u) (by omega) (by omega) 34
    have hb3' := hb2'.trans hb3
    rw [← textS_list] at hrow
    have HROW := Lib.hid hrow
    obtain ⟨tg, tc, rfl, htc⟩ := hrow
    have htl : (textS s u).data.toList.length = s.size + (Lib.decDigits u).length := by rw [textS_list, List.length_append]; rfl
    rw [htl] at hrun
    clear hFC hFC2 hb2 hb3 hdv hb1 hb2'
    have HTC := Lib.hid htc
    clear htc
    have HRUN := Lib.hid hrun
    clear hrun
    go_wp2_with (at_builtin; refine stop ?_)
    refine Stopped.of ?_
    refine wp_app_run rfl (.tmp 23) (.tmp 25) rfl _ _ _ _ rfl rfl HRUN.out ?_
    clear HRUN hcv hlen
    go_wp2_with fail
    go_loopw [7, 8, 10] (fun a b i wr => ∃ k : Nat, k ≤ s.size + (Lib.decDigits u).length ∧ a = .int .u64 (accA ((textS s u).data.toList.take k)) ∧ b = .int .u64 (accB ((textS s u).data.toList.take k)) ∧ i = .int .i64 k ∧ wr = w3) (fun _ _ i _ => s.size + (Lib.decDigits u).length - (intOf i).toNat)
    case atStart =>
      exact ⟨0, Nat.zero_le _, rfl, rfl, rfl, rfl⟩
    case round =>
      obtain ⟨k, hk, rfl, rfl, rfl, rfl⟩ := hrel
      by_cases hlt : k < s.size + (Lib.decDigits u).length
      · have hlt' : (k : Int) < (s.size : Int) + (Lib.decDigits u).length := by omega
        have hltt : k < (textS s u).data.toList.length := by rw [htl]; exact hlt
        have hcell := HTC.out k hltt
        have hby : byteV (textS s u).data.toList[k] = .int .u8 (textS s u).data.toList[k].toNat := rfl
        rw [hby] at hcell
        have htk := Lib.hid (show (textS s u).data.toList.take (k + 1) = (textS s u).data.toList.take k ++ [(textS s u).data.toList[k]] by
          rw [List.take_succ_eq_append_getElem hltt])
        clear hby
        go_wp2
        go_roundw
        case rel => exact ⟨k + 1, by omega, by rw [htk.out, accA_snoc]; rfl, by rw [htk.out, accB_snoc]; rfl, by go_num, trivial⟩
        case measure => simp [intOf]; omega
      · obtain rfl : k = s.size + (Lib.decDigits u).length := by omega
        have hnlt : ¬ ((s.size + (Lib.decDigits u).length : Nat) : Int) < (s.size : Int) + (Lib.decDigits u).length := by omega
        rw [show (textS s u).data.toList.take (s.size + (Lib.decDigits u).length) = (textS s u).data.toList from List.take_of_length_le (by rw [← textS_size]; simp)]
        have HR := Lib.hid (show ∀ v w', BufIs w.heap.size v ([] ++ be8 (mixN 4 (accA (textS s u).data.toList, accB (textS s u).data.toList)).1 ++ be8 (mixN 4 (accA (textS s u).data.toList, accB (textS s u).data.toList)).2) w' → BufIs w.heap.size v (digestS s u).1 w' by
          intro v w' h; unfold digestS; rw [if_pos hkc]; exact h)
        have HE := Lib.hid (show ∀ w', LinksIs w.heap.size (.slice none 0 0) (digestS s u).2 w' by intro w'; unfold digestS; rw [if_pos hkc]; exact LinksIs.nil _ _)
        generalize accA (textS s u).data.toList = x0 at *
        generalize accB (textS s u).data.toList = y0 at *
        go_wp2
        go_loopw [7, 8, 12] (fun a b i wr' => ∃ k : Nat, k ≤ 4 ∧ a = .int .u64 (mixN k (x0, y0)).1 ∧ b = .int .u64 (mixN k (x0, y0)).2 ∧ i = .int .i64 k ∧ wr' = wr) (fun _ _ i _ => 4 - (intOf i).toNat)
        case atStart => exact ⟨0, Nat.zero_le _, rfl, rfl, rfl, rfl⟩
        case round =>
          obtain ⟨k, hk4, rfl, rfl, rfl, rfl⟩ := hrel
          by_cases h4 : k < 4
          · have h4' : (k : Int) < 4 := by omega
            go_wp2
            go_roundw
            case rel => exact ⟨k + 1, by omega, rfl, rfl, by go_num, trivial⟩
            case measure => simp [intOf]; omega
          · have h4n : ¬ (k : Int) < 4 := by omega
            have h4e : 4 = k := by omega
            rw [h4e] at HR
            clear h4e
            generalize (mixN k (x0, y0)).1 = x at *
            generalize (mixN k (x0, y0)).2 = y at *
            have HV := Lib.hid (BufIs.nil w.heap.size wr)
            have HW := Lib.hid (Below.refl w.heap.size wr)
            have HSZ := Lib.hid hb3'.size
            have HB3 := Lib.hid hb3'
            clear hb3'
            go_wp2
            go_loopw [13, 14] (fun v i w2 => ∃ k : Nat, k ≤ 8 ∧ i = .int .i64 ((k : Int) - 1) ∧ BufIs w.heap.size v ([] ++ (be8 x).take (8 - k)) w2 ∧ Below w.heap.size w w2) (fun _ i _ => (intOf i + 1).toNat)
            case atStart => exact ⟨8, Nat.le_refl _, rfl, HV.out, HB3.out⟩
            case round =>
              obtain ⟨k, hk8, rfl, hv, hbw⟩ := hrel
              by_cases hk0 : k = 0
              · have hk1 : ¬ (0 : Int) ≤ (k : Int) - 1 := by omega
                have HV2 := Lib.hid (show BufIs w.heap.size u13 (be8 x) wr by rw [hk0] at hv; exact hv)
                clear hk0
                have HB2 := Lib.hid hbw
                have HS2 := Lib.hid (hbw.size)
                clear hv hbw
                go_wp2
                go_loopw [13, 15] (fun v i w4 => ∃ k : Nat, k ≤ 8 ∧ i = .int .i64 ((k : Int) - 1) ∧ BufIs w.heap.size v (be8 x ++ (be8 y).take (8 - k)) w4 ∧ Below w.heap.size w w4) (fun _ i _ => (intOf i + 1).toNat)
                case atStart => exact ⟨8, Nat.le_refl _, rfl, by simpa using HV2.out, HB2.out⟩
                case round =>
                  obtain ⟨k, hk8, rfl, hv, hbw⟩ := hrel
                  by_cases hk0 : k = 0
                  · have hk1 : ¬ (0 : Int) ≤ (k : Int) - 1 := by omega
                    have HV3 := Lib.hid (show BufIs w.heap.size u13 ([] ++ be8 x ++ be8 y) wr by rw [hk0] at hv; exact hv)
                    clear hk0
                    have HB4 := Lib.hid hbw
                    clear hv hbw
                    go_wp2
                    go_ret2
                    exact ⟨_, _, rfl, HR.out _ _ HV3.out, HE.out _, HB4.out⟩
                  have hk1 : (0 : Int) ≤ (k : Int) - 1 := by omega
                  have HTK := Lib.hid (be8_take y k (by omega) hk8)
                  have HV2 := Lib.hid hv
                  have HB2 := Lib.hid hbw
                  have HS2 := Lib.hid (hbw.size)
                  clear hv hbw
                  go_wp2_with (at_builtin; refine stop ?_)
                  refine Stopped.of ?_
                  refine wp_app_row rfl (.tmp 79) (.tmp 85) rfl w.heap.size u13 (be8 x ++ (be8 y).take (8 - k)) rfl (HV2.out.alloc _) ⟨wr.heap.size, 0, none⟩ 1 1 [b8 y (2 ^ (8 * (k - 1)))] rfl rfl (b8_cells _ y (2 ^ (8 * (k - 1)))) (by simp [be8_len]; omega) (by have := HS2.out; simp; omega) ?_
                  intro v3 w3' hb3 hg3
                  have H3 := Lib.hid hb3
                  have W3 := Lib.hid (below_grown (HB2.out.alloc HS2.out _) (HV2.out.alloc _) (Nat.le_refl _) (by have := HS2.out; simp; omega) hg3)
                  clear hb3 hg3
                  go_wp2
                  go_roundw
                  case rel =>
                    refine ⟨k - 1, by omega, by go_num, ?_, W3.out⟩
                    rw [HTK.out, ← List.append_assoc]
                    exact H3.out
                  case measure => simp [intOf]; omega
              have hk1 : (0 : Int) ≤ (k : Int) - 1 := by omega
              have HTK := Lib.hid (be8_take x k (by omega) hk8)
              have HV2 := Lib.hid hv
              have HB2 := Lib.hid hbw
              have HS2 := Lib.hid (hbw.size)
              clear hv hbw
              go_wp2_with (at_builtin; refine stop ?_)
              refine Stopped.of ?_
              refine wp_app_row rfl (.tmp 67) (.tmp 73) rfl w.heap.size u13 ([] ++ (be8 x).take (8 - k)) rfl (HV2.out.alloc _) ⟨wr.heap.size, 0, none⟩ 1 1 [b8 x (2 ^ (8 * (k - 1)))] rfl rfl (b8_cells _ x (2 ^ (8 * (k - 1)))) (by simp [be8_len]; omega) (by have := HS2.out; simp; omega) ?_
              intro v3 w3' hb3 hg3
              have H3 := Lib.hid hb3
              have W3 := Lib.hid (below_grown (HB2.out.alloc HS2.out _) (HV2.out.alloc _) (Nat.le_refl _) (by have := HS2.out; simp; omega) hg3)
              clear hb3 hg3
              go_wp2
              go_roundw
              case rel =>
                refine ⟨k - 1, by omega, by go_num, ?_, W3.out⟩
                rw [HTK.out, ← List.append_assoc]
                exact H3.out
              case measure => simp [intOf]; omega
  · have HR := Lib.hid (show digestS s u = ([], cookieS s) by unfold digestS; rw [if_neg hk])
    go_enter Tryd.func45, Tryd.ntmps45
    go_wp2_with fail
    refine HC.out.mono ?_
    rintro e w1 ⟨lv, rfl, hlk, hb1⟩
    have hlen := run_links_len hlk
    have hpos : (0 : Int) < (cookieS s).length := by
      cases hl : cookieS s with
      | nil => exact absurd hl hk
      | cons k r => simp
    have HL := Lib.hid hlk
    clear hlk
    go_wp2
    go_ret2
    rw [HR.out]
    exact ⟨_, _, rfl, BufIs.nil _ _, HL.out, hb1⟩
end Go.Proofs.YtdafikemndaeeaaDoor
