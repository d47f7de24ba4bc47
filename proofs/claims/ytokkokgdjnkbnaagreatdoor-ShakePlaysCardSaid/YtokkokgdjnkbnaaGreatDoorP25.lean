/- Texts laid together: ShkH. -/
import Derived.Test.YtokkokgdjnkbnaaGreatDoorP24
import Derived.Deep.Cut
section
/- Package shake: Read of names; Read of all. -/
open Go Go.RowKit
namespace Go.Proofs.YtokkokgdjnkbnaaGreatDoor

theorem readS_nam (k : Int) (b : List UInt8) (W W2 W6 : Nat) (hW : wantS k = W) (h2 : W - 2 = W2) (h6 : W - 6 = W6) (hk : k = 1 ∨ k = 3) (hh : b.head? = some (letS k)) (hl : ¬ b.length < W) :
    readS k b = if b.length < W + (numS (cutB b W2 2)).toNat then (Msg.none, [⟨shakeL, b.length, 160⟩])
    else if W + (numS (cutB b W2 2)).toNat < b.length then (Msg.none, [⟨shakeL, (W + (numS (cutB b W2 2)).toNat : Nat), 160⟩])
    else if (nodeS ⟨(b.drop W).toArray⟩).2.2 ≠ [] then (Msg.none, [⟨shakeL, W, 24⟩, ⟨atomL, 0, 24⟩])
    else (⟨k, numS (cutB b 1 8), numS (cutB b W6 4), if k = 3 then numS (cutB b 9 4) else 0, ⟨(b.drop W).toArray⟩, ⟨#[]⟩, []⟩, []) := by
  subst h2 h6 hW
  unfold readS; rw [if_neg (by omega), if_neg (by rw [hh]; simp), if_neg (by omega), if_neg hl, if_neg (by omega)]
theorem cut_bd (b : List UInt8) (x n : Nat) (h : x + n ≤ b.length) : 0 ≤ numS (cutB b x n) ∧ numS (cutB b x n) < 256 ^ n := by
  have := numS_bd (cutB b x n)
  have hl : (cutB b x n).length = n := by unfold cutB; simp; omega
  rwa [hl] at this
set_option maxHeartbeats 8000000 in
set_option maxRecDepth 100000 in
theorem read_1_short (bv : Value) (b : List UInt8) (w : World) (hb : RSl bv b w) (hz : b.length ≤ 140737488351232) (hh : b.head? = some (letS 1)) (hl : b.length < 15) :
    Calls Tryz.prog 13 #[.int .i64 1, bv] w (RetME w.heap.size w (readS 1 b)) := by
  have HRS := Lib.hid (readS_short 1 b (by decide) (by decide) (by decide) hh hl)
  have hpos : 0 < b.length := by cases b with | nil => cases hh | cons => simp
  have hne0 : ((b.length : Int) == 0) = false := beq_eq_false_iff_ne.2 (by omega)
  have hposI : (0 : Int) < (b.length : Int) := by omega
  have hb0 : b[0] = letS 1 := by cases b with | nil => cases hh | cons x r => simpa using hh
  have HBV := Lib.hid hb
  obtain ⟨a, c, rfl, hc1, hc2, hc⟩ := hb
  obtain ⟨g, o, rfl, hx⟩ := hc 0 hpos
  rw [Nat.add_zero] at hx
  have hx0 : (w.alloc (.cells msgZ.toArray 27)).cell? ⟨g, o, none⟩ = some (.int .u8 (letS 1).toNat) := by
    rw [World.cell?_alloc_lt w _ _ (World.block_lt_of_cell? w _ hx), ← hb0]; exact hx
  simp only [msgZ] at hx0
  have hne : (((letS 1).toNat : Int) != ((letS 1).toNat : Int)) = false := by simp
  have hmm := @run_makeMap Tryz.prog
  clear hc hx hh hb0
  go_enter Tryz.func13, Tryz.ntmps13
  go_wp2
  go_quiet ((go_at_call 29; exact Calls.quiet_of_same (letter_quiet _ _ (by decide) (by decide))))
  clear hx0
  generalize hbv : (Value.slice (some ⟨g, o, none⟩) b.length c) = bv at *
  clear hbv
  go_wp2_with (with_reducible refine stopIns _ _ _ _ rfl ?_)
  refine Stopped.of ?_
  refine wpList_mapV_ins rfl _ _ _ rfl Tryz.underlying103 Tryz.underlying22 _ 0 (fun _ => none) (by rfl) (MapV.made_at _ _ _ (by simp)) (by unfold maxLen; omega) 1 (by decide) (by rfl) (.int .i64 15) (by rfl) ?_
  intro w1 M1 g1
  refine wpList_mapV_ins rfl _ _ _ rfl Tryz.underlying103 Tryz.underlying22 _ 1 _ (by rfl) M1 (by unfold maxLen; omega) 3 (by decide) (by rfl) (.int .i64 19) (by rfl) ?_
  intro w2 M2 g2
  refine wpList_mapV_ins rfl _ _ _ rfl Tryz.underlying103 Tryz.underlying22 _ 2 _ (by rfl) M2 (by unfold maxLen; omega) 4 (by decide) (by rfl) (.int .i64 21) (by rfl) ?_
  intro w3 M3 g3
  refine wpList_mapV_ins rfl _ _ _ rfl Tryz.underlying103 Tryz.underlying22 _ 3 _ (by rfl) M3 (by unfold maxLen; omega) 5 (by decide) (by rfl) (.int .i64 17) (by rfl) ?_
  intro w4 M4 g4
  have I4 := Lib.hid ((((RdInv.first (k := 1) g1).next g2).next g3).next g4)
  have hlook := (MapV.look (m := wantM) M4 Tryz.underlying103 Tryz.underlying22 (Tryz.zeroW w4) 1 (by decide)).2
  rw [wantM_get 1 (by decide) (by decide), show ((wantS 1 : Nat) : Int) = 15 from rfl] at hlook
  clear M1 M2 M3 M4 g1 g2 g3 g4
  have R4 := Lib.hid (HBV.out.below I4.out.hb)
  have hlen := run_slice_len R4.out.slice
  have hlI : (b.length : Int) < 15 := by omega
  have HRF := Lib.hid (show readS 1 b = (Msg.none, [⟨shakeL, (b.length : Int), 160⟩]) from HRS.out)
  go_wp2_with fail
  refine (wrong_any (b.length : Int) _).mono ?_
  rintro e w8 ⟨ev, rfl, her, hb8⟩
  have HB8 := Lib.hid (I4.out.hb.trans (hb8.mono (I4.out.hb).size))
  have CR8 := Lib.hid ((I4.out.cr).below hb8)
  have HER := Lib.hid her
  clear hb8 her
  go_wp2_with (refine wpList_store_blk rfl _ (.tmp 4) (.tmp 65) rfl w.heap.size 0 msgZ (by rfl) (by rfl) (by kernel_rfl) (by simp [msgZ, Value.oneCell']) 27 _ CR8.out (by decide) ?_; intro w9 hC9 hg9)
  refine bodyPost_ret (read_res (m := Msg.none) (dv := .slice none 0 0) (ev := ev) hC9 (by rfl) (by rfl)) rfl ?_
  rw [HRF.out]
  exact read_fin HB8.out HER.out CR8.out hg9 (RSl.nil _)

set_option maxHeartbeats 8000000 in
set_option maxRecDepth 100000 in
theorem read_1_long (bv : Value) (b : List UInt8) (w : World) (hb : RSl bv b w) (hz : b.length ≤ 140737488351232) (hh : b.head? = some (letS 1)) (hl : 15 ≤ b.length) (hE : ErrT w) :
    Calls Tryz.prog 13 #[.int .i64 1, bv] w (RetME w.heap.size w (readS 1 b)) := by
  have HE := Lib.hid hE
  clear hE
  have HRD := Lib.hid (readS_nam 1 b 15 13 9 rfl rfl rfl (by decide) hh (by omega))
  have hpos : 0 < b.length := by cases b with | nil => cases hh | cons => simp
  have hne0 : ((b.length : Int) == 0) = false := beq_eq_false_iff_ne.2 (by omega)
  have hposI : (0 : Int) < (b.length : Int) := by omega
  have hb0 : b[0] = letS 1 := by cases b with | nil => cases hh | cons x r => simpa using hh
  have HBV := Lib.hid hb
  obtain ⟨a, c, rfl, hc1, hc2, hc⟩ := hb
  obtain ⟨g, o, rfl, hx⟩ := hc 0 hpos
  rw [Nat.add_zero] at hx
  have hx0 : (w.alloc (.cells msgZ.toArray 27)).cell? ⟨g, o, none⟩ = some (.int .u8 (letS 1).toNat) := by
    rw [World.cell?_alloc_lt w _ _ (World.block_lt_of_cell? w _ hx), ← hb0]; exact hx
  simp only [msgZ] at hx0
  have hne : (((letS 1).toNat : Int) != ((letS 1).toNat : Int)) = false := by simp
  have hmm := @run_makeMap Tryz.prog
  clear hc hx hh hb0
  go_enter Tryz.func13, Tryz.ntmps13
  go_wp2
  go_quiet ((go_at_call 29; exact Calls.quiet_of_same (letter_quiet _ _ (by decide) (by decide))))
  clear hx0
  generalize hbv : (Value.slice (some ⟨g, o, none⟩) b.length c) = bv at *
  clear hbv
  go_wp2_with (with_reducible refine stopIns _ _ _ _ rfl ?_)
  refine Stopped.of ?_
  refine wpList_mapV_ins rfl _ _ _ rfl Tryz.underlying103 Tryz.underlying22 _ 0 (fun _ => none) (by rfl) (MapV.made_at _ _ _ (by simp)) (by unfold maxLen; omega) 1 (by decide) (by rfl) (.int .i64 15) (by rfl) ?_
  intro w1 M1 g1
  refine wpList_mapV_ins rfl _ _ _ rfl Tryz.underlying103 Tryz.underlying22 _ 1 _ (by rfl) M1 (by unfold maxLen; omega) 3 (by decide) (by rfl) (.int .i64 19) (by rfl) ?_
  intro w2 M2 g2
  refine wpList_mapV_ins rfl _ _ _ rfl Tryz.underlying103 Tryz.underlying22 _ 2 _ (by rfl) M2 (by unfold maxLen; omega) 4 (by decide) (by rfl) (.int .i64 21) (by rfl) ?_
  intro w3 M3 g3
  refine wpList_mapV_ins rfl _ _ _ rfl Tryz.underlying103 Tryz.underlying22 _ 3 _ (by rfl) M3 (by unfold maxLen; omega) 5 (by decide) (by rfl) (.int .i64 17) (by rfl) ?_
  intro w4 M4 g4
  have I4 := Lib.hid ((((RdInv.first (k := 1) g1).next g2).next g3).next g4)
  have hlook := (MapV.look (m := wantM) M4 Tryz.underlying103 Tryz.underlying22 (Tryz.zeroW w4) 1 (by decide)).2
  rw [wantM_get 1 (by decide) (by decide), show ((wantS 1 : Nat) : Int) = 15 from rfl] at hlook
  clear M1 M2 M3 M4 g1 g2 g3 g4
  have R4 := Lib.hid (HBV.out.below I4.out.hb)
  have hlen := run_slice_len R4.out.slice
  have hlI : ¬ (b.length : Int) < 15 := by omega
  have CM0 := Lib.hid I4.out.cm
  have CR0 := Lib.hid I4.out.cr
  have HB0 := Lib.hid I4.out.hb
  obtain ⟨v0, hv0, _, hs0, _⟩ := HBV.out.sub 1 b.length (by omega) (Nat.le_refl _)
  have hs0 : ∀ w', (Instr.slice 25 bv (some (.int .i64 1)) none none).run Tryz.prog w' = .ok v0 w' := hs0 rfl
  rw [List.take_of_length_le (by simp)] at hv0
  have HN0 := Lib.hid (show Calls Tryz.prog 44 #[v0, .int .i64 8] w4 fun e w' => e = .returned (.int .u64 (numS (cutB b 1 8))) ∧ w4 = w' from number_any v0 (b.drop 1) 8 _ (hv0.below HB0.out) (by simp; omega) (by decide))
  have hn0 := cut_bd b 1 8 (by omega)
  clear hn0 hv0
  go_wp2_with fail
  refine HN0.out.mono ?_
  rintro e y0 ⟨rfl, hy0⟩
  obtain rfl := hy0
  have hCM0 := CM0.out
  clear HN0 hs0
  have c0_1 := hCM0.cell 1
  have f0_1 := hCM0.frozen 1
  simp only [msgK, List.getElem?_cons_zero, List.getElem?_cons_succ] at c0_1
  clear hCM0
  have CM1 := Lib.hid (CM0.out.set_ 1 (.int .u64 (numS (cutB b 1 8))))
  have CR1 := Lib.hid (CR0.out.far (p := ⟨w.heap.size + 1, 1, none⟩) (by simp) (.int .u64 (numS (cutB b 1 8))))
  have HB1 := Lib.hid (HB0.out.setCell (p := ⟨w.heap.size + 1, 1, none⟩) (by simp) (.int .u64 (numS (cutB b 1 8))))
  obtain ⟨v1, hv1, _, hs1, _⟩ := HBV.out.sub 9 b.length (by omega) (Nat.le_refl _)
  have hs1 : ∀ w', (Instr.slice 25 bv (some (.int .i64 9)) none none).run Tryz.prog w' = .ok v1 w' := hs1 rfl
  rw [List.take_of_length_le (by simp)] at hv1
  have HN1 := Lib.hid (show Calls Tryz.prog 44 #[v1, .int .i64 4] (w4.setCell ⟨w.heap.size + 1, 1, none⟩ (.int .u64 (numS (cutB b 1 8)))) fun e w' => e = .returned (.int .u64 (numS (cutB b 9 4))) ∧ (w4.setCell ⟨w.heap.size + 1, 1, none⟩ (.int .u64 (numS (cutB b 1 8)))) = w' from number_any v1 (b.drop 9) 4 _ (hv1.below HB1.out) (by simp; omega) (by decide))
  have hn1 := cut_bd b 9 4 (by omega)
  have hn1a : 0 ≤ numS (cutB b 9 4) := hn1.1
  have hn1b : numS (cutB b 9 4) < 4294967296 := hn1.2
  have hwr1 : IntKind.u32.wrap (numS (cutB b 9 4)) = numS (cutB b 9 4) := by rw [IntKind.wrap_u32]; omega
  clear hn1 hv1
  go_wp2_with fail
  refine HN1.out.mono ?_
  rintro e y1 ⟨rfl, hy1⟩
  have hCM1 := CM1.out
  have hCR1 := CR1.out
  have hHB1 := HB1.out
  rw [hy1] at hCM1 hCR1 hHB1
  clear hy1 HN1 CM1 CR1 HB1 hs1
  have CM1 := Lib.hid hCM1
  have CR1 := Lib.hid hCR1
  have HB1 := Lib.hid hHB1
  have c1_2 := hCM1.cell 2
  have f1_2 := hCM1.frozen 2
  simp only [msgK, List.set_cons_succ, List.set_cons_zero, List.getElem?_cons_zero, List.getElem?_cons_succ] at c1_2
  clear hCM1 hCR1 hHB1
  have CM2 := Lib.hid (CM1.out.set_ 2 (.int .u32 (numS (cutB b 9 4))))
  have CR2 := Lib.hid (CR1.out.far (p := ⟨w.heap.size + 1, 2, none⟩) (by simp) (.int .u32 (numS (cutB b 9 4))))
  have HB2 := Lib.hid (HB1.out.setCell (p := ⟨w.heap.size + 1, 2, none⟩) (by simp) (.int .u32 (numS (cutB b 9 4))))
  obtain ⟨v2, hv2, _, hs2, _⟩ := HBV.out.sub 13 b.length (by omega) (Nat.le_refl _)
  have hs2 : ∀ w', (Instr.slice 25 bv (some (.int .i64 13)) none none).run Tryz.prog w' = .ok v2 w' := hs2 rfl
  rw [List.take_of_length_le (by simp)] at hv2
  have HN2 := Lib.hid (show Calls Tryz.prog 44 #[v2, .int .i64 2] (y1.setCell ⟨w.heap.size + 1, 2, none⟩ (.int .u32 (numS (cutB b 9 4)))) fun e w' => e = .returned (.int .u64 (numS (cutB b 13 2))) ∧ (y1.setCell ⟨w.heap.size + 1, 2, none⟩ (.int .u32 (numS (cutB b 9 4)))) = w' from number_any v2 (b.drop 13) 2 _ (hv2.below HB2.out) (by simp; omega) (by decide))
  have hn2 := cut_bd b 13 2 (by omega)
  obtain ⟨n9, hn9e⟩ : ∃ n : Nat, numS (cutB b 13 2) = n := ⟨(numS (cutB b 13 2)).toNat, by omega⟩
  have HRE := Lib.hid HRD.out
  rw [hn9e] at HN2 hn2
  have hn9b : (n9 : Int) < 65536 := hn2.2
  have HN9E := Lib.hid hn9e
  have hw9 : IntKind.i64.wrap (n9 : Int) = n9 := IntWalk.i64_in _ (by omega)
  clear hn9e hn2 HRD hv2
  go_wp2_with fail
  refine HN2.out.mono ?_
  rintro e y2 ⟨rfl, hy2⟩
  have hCM2 := CM2.out
  have hCR2 := CR2.out
  have hHB2 := HB2.out
  rw [hy2] at hCM2 hCR2 hHB2
  clear hy2 HN2 CM2 CR2 HB2 hs2
  have CM2 := Lib.hid hCM2
  have CR2 := Lib.hid hCR2
  have HB2 := Lib.hid hHB2
  have c2_4 := hCM2.cell 4
  have f2_4 := hCM2.frozen 4
  simp only [msgK, List.set_cons_succ, List.set_cons_zero, List.getElem?_cons_zero, List.getElem?_cons_succ] at c2_4
  clear hCM2 hCR2 hHB2
  have c6 := CM2.out.cell 6
  simp only [msgK, List.set_cons_succ, List.set_cons_zero, List.getElem?_cons_zero, List.getElem?_cons_succ] at c6
  have HZ := Lib.hid hz
  have HL := Lib.hid hl
  have HN9B := Lib.hid hn9b
  go_upto_region 26 with (fail)
  clear hlook hz hl hlI hn9b
  by_cases hA : b.length < 15 + n9
  · have hAI : (b.length : Int) < 15 + (n9 : Int) := by omega
    have HRF := Lib.hid (show readS 1 b = (Msg.none, [⟨shakeL, (b.length : Int), 160⟩]) from by rw [HRE.out, HN9E.out, Int.toNat_natCast, if_pos (show b.length < 15 + n9 from hA)])
    go_wp2_with fail
    refine (wrong_any (b.length : Int) _).mono ?_
    rintro e w8 ⟨ev, rfl, her, hb8⟩
    have HB8 := Lib.hid (HB2.out.trans (hb8.mono (HB2.out).size))
    have CR8 := Lib.hid ((CR2.out).below hb8)
    have HER := Lib.hid her
    clear hb8 her
    go_wp2_with (refine wpList_store_blk rfl _ (.tmp 4) (.tmp 119) rfl w.heap.size 0 msgZ (by rfl) (by rfl) (by kernel_rfl) (by simp [msgZ, Value.oneCell']) 27 _ CR8.out (by decide) ?_; intro w9 hC9 hg9)
    refine bodyPost_ret (read_res (m := Msg.none) (dv := .slice none 0 0) (ev := ev) hC9 (by rfl) (by rfl)) rfl ?_
    rw [HRF.out]
    exact read_fin HB8.out HER.out CR8.out hg9 (RSl.nil _)

  have hAI : ¬ (b.length : Int) < 15 + (n9 : Int) := by omega
  obtain ⟨vn, hvn, hsn, _⟩ := HBV.out.sub 15 (15 + n9) (by omega) (by omega)
  have hsn : ∀ w', (Instr.slice 25 bv (some (.int .i64 15)) (some (.int .i64 (15 + (n9 : Int)))) none).run Tryz.prog w' = .ok vn w' := hsn
  have hconv := run_slice_string (hvn.below HB2.out).slice
  generalize hST : (⟨((b.drop 15).take (15 + n9 - 15)).toArray⟩ : ByteArray) = S at *
  have CM8 := Lib.hid (CM2.out.set_ 4 (.string S))
  have CR8' := Lib.hid (CR2.out.far (p := ⟨w.heap.size + 1, 4, none⟩) (by simp) (.string S))
  have HB8' := Lib.hid (HB2.out.setCell (p := ⟨w.heap.size + 1, 4, none⟩) (by simp) (.string S))
  have HST := Lib.hid hST
  clear hvn hST
  by_cases hC : 15 + n9 < b.length
  · have hCI : 15 + (n9 : Int) < (b.length : Int) := by omega
    have HRF := Lib.hid (show readS 1 b = (Msg.none, [⟨shakeL, (15 + (n9 : Int)), 160⟩]) from by rw [HRE.out, HN9E.out, Int.toNat_natCast, if_neg (show ¬ b.length < 15 + n9 from hA), if_pos (show 15 + n9 < b.length from hC)]; rfl)
    go_wp2_with fail
    refine (wrong_any (15 + (n9 : Int)) _).mono ?_
    rintro e w8 ⟨ev, rfl, her, hb8⟩
    have HB8 := Lib.hid (HB8'.out.trans (hb8.mono (HB8'.out).size))
    have CR8 := Lib.hid ((CR8'.out).below hb8)
    have HER := Lib.hid her
    clear hb8 her
    go_wp2_with (refine wpList_store_blk rfl _ (.tmp 4) (.tmp 134) rfl w.heap.size 0 msgZ (by rfl) (by rfl) (by kernel_rfl) (by simp [msgZ, Value.oneCell']) 27 _ CR8.out (by decide) ?_; intro w9 hC9 hg9)
    refine bodyPost_ret (read_res (m := Msg.none) (dv := .slice none 0 0) (ev := ev) hC9 (by rfl) (by rfl)) rfl ?_
    rw [HRF.out]
    exact read_fin HB8.out HER.out CR8.out hg9 (RSl.nil _)

  have hCI : ¬ 15 + (n9 : Int) < (b.length : Int) := by omega
  have hlb : b.length = 15 + n9 := by omega
  have hSS := Lib.hid (show S = ⟨(b.drop 15).toArray⟩ by rw [← HST.out, List.take_of_length_le (by simp; omega)])
  have hSz : S.size ≤ 140737488351232 := by
    rw [hSS.out]
    show ((b.drop 15).toArray).size ≤ _
    rw [List.size_toArray, List.length_drop]
    exact Nat.le_trans (Nat.sub_le _ _) HZ.out
  have HND := Lib.hid (fun W => node_any S W hSz)
  have HRE2 := Lib.hid (show readS 1 b = if (nodeS S).2.2 ≠ [] then (Msg.none, [⟨shakeL, 15, 24⟩, ⟨atomL, 0, 24⟩]) else (⟨1, numS (cutB b 1 8), numS (cutB b 9 4), 0, S, ⟨#[]⟩, []⟩, []) by
    rw [HRE.out, HN9E.out, Int.toNat_natCast, if_neg (show ¬ b.length < 15 + n9 by omega), if_neg (show ¬ 15 + n9 < b.length by omega), hSS.out]; rfl)
  have hq9 : ((15 + (n9 : Int)) == 15) = true ∨ ((15 + (n9 : Int)) == 15) = false := by cases ((15 + (n9 : Int)) == 15) <;> simp
  clear HRE hlb
  rcases hq9 with hq9 | hq9
  all_goals
    go_wp2_with fail
    refine (HND.out _).mono ?_
    rintro e w7 ⟨ev, rfl, her, hb7⟩
    have HB7 := Lib.hid (HB8'.out.trans (hb7.mono HB8'.out.size))
    have CR7 := Lib.hid (CR8'.out.below hb7)
    have CM7 := Lib.hid (CM8.out.below hb7)
    clear hb7
    rcases nodeS_two S with hn | hn
    · rw [hn] at her
      obtain rfl : ev = .nilIface := her
      have HRF := Lib.hid (show readS 1 b = (⟨1, numS (cutB b 1 8), numS (cutB b 9 4), 0, S, ⟨#[]⟩, []⟩, []) by rw [HRE2.out, if_neg (by simp [hn])])
      have k0 := CM7.out.cell 0
      have k1 := CM7.out.cell 1
      have k2 := CM7.out.cell 2
      have k3 := CM7.out.cell 3
      have k4 := CM7.out.cell 4
      have k5 := CM7.out.cell 5
      have k6 := CM7.out.cell 6
      simp only [msgK, List.set_cons_succ, List.set_cons_zero, List.getElem?_cons_zero, List.getElem?_cons_succ] at k0 k1 k2 k3 k4 k5 k6
      clear hn
      go_wp2_with (refine wpList_store_blk rfl _ (.tmp 4) (.tmp 159) rfl w.heap.size 0 [.int .i64 1, .int .u64 (numS (cutB b 1 8)), .int .u32 (numS (cutB b 9 4)), .int .u32 0, .string S, .string ⟨#[]⟩, .slice none 0 0] (by rfl) (by rfl) (by kernel_rfl) (by simp [Value.oneCell']) 27 _ CR7.out (by simp [msgZ]) ?_; intro w9 hC9 hg9)
      refine bodyPost_ret (read_res (m := ⟨1, numS (cutB b 1 8), numS (cutB b 9 4), 0, S, ⟨#[]⟩, []⟩) (dv := .slice none 0 0) (ev := .nilIface) hC9 (by rfl) (by rfl)) rfl ?_
      rw [HRF.out]
      exact read_fin HB7.out rfl CR7.out hg9 (RSl.nil _)
    · rw [hn] at her
      have HRF := Lib.hid (show readS 1 b = (Msg.none, [⟨shakeL, 15, 24⟩, ⟨atomL, 0, 24⟩]) by rw [HRE2.out, if_pos (by simp [hn])])
      have HO := Lib.hid (over_any 15 ev ⟨atomL, 0, 24⟩ [] w7 her (HE.out.below HB7.out))
      obtain ⟨eb, eu, rfl, _, _⟩ := her
      clear hn
      go_wp2_with fail
      refine HO.out.mono ?_
      rintro e w8 ⟨ev8, rfl, her8, hb8⟩
      have HB8 := Lib.hid (HB7.out.trans (hb8.mono HB7.out.size))
      have CR8 := Lib.hid (CR7.out.below hb8)
      have HER := Lib.hid her8
      clear hb8 her8
      go_wp2_with (refine wpList_store_blk rfl _ (.tmp 4) (.tmp 155) rfl w.heap.size 0 msgZ (by rfl) (by rfl) (by kernel_rfl) (by simp [msgZ, Value.oneCell']) 27 _ CR8.out (by decide) ?_; intro w9 hC9 hg9)
      refine bodyPost_ret (read_res (m := Msg.none) (dv := .slice none 0 0) (ev := ev8) hC9 (by rfl) (by rfl)) rfl ?_
      rw [HRF.out]
      exact read_fin HB8.out HER.out CR8.out hg9 (RSl.nil _)
set_option maxHeartbeats 8000000 in
set_option maxRecDepth 100000 in
theorem read_3_short (bv : Value) (b : List UInt8) (w : World) (hb : RSl bv b w) (hz : b.length ≤ 140737488351232) (hh : b.head? = some (letS 3)) (hl : b.length < 19) :
    Calls Tryz.prog 13 #[.int .i64 3, bv] w (RetME w.heap.size w (readS 3 b)) := by
  have HRS := Lib.hid (readS_short 3 b (by decide) (by decide) (by decide) hh hl)
  have hpos : 0 < b.length := by cases b with | nil => cases hh | cons => simp
  have hne0 : ((b.length : Int) == 0) = false := beq_eq_false_iff_ne.2 (by omega)
  have hposI : (0 : Int) < (b.length : Int) := by omega
  have hb0 : b[0] = letS 3 := by cases b with | nil => cases hh | cons x r => simpa using hh
  have HBV := Lib.hid hb
  obtain ⟨a, c, rfl, hc1, hc2, hc⟩ := hb
  obtain ⟨g, o, rfl, hx⟩ := hc 0 hpos
  rw [Nat.add_zero] at hx
  have hx0 : (w.alloc (.cells msgZ.toArray 27)).cell? ⟨g, o, none⟩ = some (.int .u8 (letS 3).toNat) := by
    rw [World.cell?_alloc_lt w _ _ (World.block_lt_of_cell? w _ hx), ← hb0]; exact hx
  simp only [msgZ] at hx0
  have hne : (((letS 3).toNat : Int) != ((letS 3).toNat : Int)) = false := by simp
  have hmm := @run_makeMap Tryz.prog
  clear hc hx hh hb0
  go_enter Tryz.func13, Tryz.ntmps13
  go_wp2
  go_quiet ((go_at_call 29; exact Calls.quiet_of_same (letter_quiet _ _ (by decide) (by decide))))
  clear hx0
  generalize hbv : (Value.slice (some ⟨g, o, none⟩) b.length c) = bv at *
  clear hbv
  go_wp2_with (with_reducible refine stopIns _ _ _ _ rfl ?_)
  refine Stopped.of ?_
  refine wpList_mapV_ins rfl _ _ _ rfl Tryz.underlying103 Tryz.underlying22 _ 0 (fun _ => none) (by rfl) (MapV.made_at _ _ _ (by simp)) (by unfold maxLen; omega) 1 (by decide) (by rfl) (.int .i64 15) (by rfl) ?_
  intro w1 M1 g1
  refine wpList_mapV_ins rfl _ _ _ rfl Tryz.underlying103 Tryz.underlying22 _ 1 _ (by rfl) M1 (by unfold maxLen; omega) 3 (by decide) (by rfl) (.int .i64 19) (by rfl) ?_
  intro w2 M2 g2
  refine wpList_mapV_ins rfl _ _ _ rfl Tryz.underlying103 Tryz.underlying22 _ 2 _ (by rfl) M2 (by unfold maxLen; omega) 4 (by decide) (by rfl) (.int .i64 21) (by rfl) ?_
  intro w3 M3 g3
  refine wpList_mapV_ins rfl _ _ _ rfl Tryz.underlying103 Tryz.underlying22 _ 3 _ (by rfl) M3 (by unfold maxLen; omega) 5 (by decide) (by rfl) (.int .i64 17) (by rfl) ?_
  intro w4 M4 g4
  have I4 := Lib.hid ((((RdInv.first (k := 3) g1).next g2).next g3).next g4)
  have hlook := (MapV.look (m := wantM) M4 Tryz.underlying103 Tryz.underlying22 (Tryz.zeroW w4) 3 (by decide)).2
  rw [wantM_get 3 (by decide) (by decide), show ((wantS 3 : Nat) : Int) = 19 from rfl] at hlook
  clear M1 M2 M3 M4 g1 g2 g3 g4
  have R4 := Lib.hid (HBV.out.below I4.out.hb)
  have hlen := run_slice_len R4.out.slice
  have hlI : (b.length : Int) < 19 := by omega
  have HRF := Lib.hid (show readS 3 b = (Msg.none, [⟨shakeL, (b.length : Int), 160⟩]) from HRS.out)
  go_wp2_with fail
  refine (wrong_any (b.length : Int) _).mono ?_
  rintro e w8 ⟨ev, rfl, her, hb8⟩
  have HB8 := Lib.hid (I4.out.hb.trans (hb8.mono (I4.out.hb).size))
  have CR8 := Lib.hid ((I4.out.cr).below hb8)
  have HER := Lib.hid her
  clear hb8 her
  go_wp2_with (refine wpList_store_blk rfl _ (.tmp 4) (.tmp 65) rfl w.heap.size 0 msgZ (by rfl) (by rfl) (by kernel_rfl) (by simp [msgZ, Value.oneCell']) 27 _ CR8.out (by decide) ?_; intro w9 hC9 hg9)
  refine bodyPost_ret (read_res (m := Msg.none) (dv := .slice none 0 0) (ev := ev) hC9 (by rfl) (by rfl)) rfl ?_
  rw [HRF.out]
  exact read_fin HB8.out HER.out CR8.out hg9 (RSl.nil _)

set_option maxHeartbeats 8000000 in
set_option maxRecDepth 100000 in
theorem read_3_long (bv : Value) (b : List UInt8) (w : World) (hb : RSl bv b w) (hz : b.length ≤ 140737488351232) (hh : b.head? = some (letS 3)) (hl : 19 ≤ b.length) (hE : ErrT w) :
    Calls Tryz.prog 13 #[.int .i64 3, bv] w (RetME w.heap.size w (readS 3 b)) := by
  have HE := Lib.hid hE
  clear hE
  have HRD := Lib.hid (readS_nam 3 b 19 17 13 rfl rfl rfl (by decide) hh (by omega))
  have hpos : 0 < b.length := by cases b with | nil => cases hh | cons => simp
  have hne0 : ((b.length : Int) == 0) = false := beq_eq_false_iff_ne.2 (by omega)
  have hposI : (0 : Int) < (b.length : Int) := by omega
  have hb0 : b[0] = letS 3 := by cases b with | nil => cases hh | cons x r => simpa using hh
  have HBV := Lib.hid hb
  obtain ⟨a, c, rfl, hc1, hc2, hc⟩ := hb
  obtain ⟨g, o, rfl, hx⟩ := hc 0 hpos
  rw [Nat.add_zero] at hx
  have hx0 : (w.alloc (.cells msgZ.toArray 27)).cell? ⟨g, o, none⟩ = some (.int .u8 (letS 3).toNat) := by
    rw [World.cell?_alloc_lt w _ _ (World.block_lt_of_cell? w _ hx), ← hb0]; exact hx
  simp only [msgZ] at hx0
  have hne : (((letS 3).toNat : Int) != ((letS 3).toNat : Int)) = false := by simp
  have hmm := @run_makeMap Tryz.prog
  clear hc hx hh hb0
  go_enter Tryz.func13, Tryz.ntmps13
  go_wp2
  go_quiet ((go_at_call 29; exact Calls.quiet_of_same (letter_quiet _ _ (by decide) (by decide))))
  clear hx0
  generalize hbv : (Value.slice (some ⟨g, o, none⟩) b.length c) = bv at *
  clear hbv
  go_wp2_with (with_reducible refine stopIns _ _ _ _ rfl ?_)
  refine Stopped.of ?_
  refine wpList_mapV_ins rfl _ _ _ rfl Tryz.underlying103 Tryz.underlying22 _ 0 (fun _ => none) (by rfl) (MapV.made_at _ _ _ (by simp)) (by unfold maxLen; omega) 1 (by decide) (by rfl) (.int .i64 15) (by rfl) ?_
  intro w1 M1 g1
  refine wpList_mapV_ins rfl _ _ _ rfl Tryz.underlying103 Tryz.underlying22 _ 1 _ (by rfl) M1 (by unfold maxLen; omega) 3 (by decide) (by rfl) (.int .i64 19) (by rfl) ?_
  intro w2 M2 g2
  refine wpList_mapV_ins rfl _ _ _ rfl Tryz.underlying103 Tryz.underlying22 _ 2 _ (by rfl) M2 (by unfold maxLen; omega) 4 (by decide) (by rfl) (.int .i64 21) (by rfl) ?_
  intro w3 M3 g3
  refine wpList_mapV_ins rfl _ _ _ rfl Tryz.underlying103 Tryz.underlying22 _ 3 _ (by rfl) M3 (by unfold maxLen; omega) 5 (by decide) (by rfl) (.int .i64 17) (by rfl) ?_
  intro w4 M4 g4
  have I4 := Lib.hid ((((RdInv.first (k := 3) g1).next g2).next g3).next g4)
  have hlook := (MapV.look (m := wantM) M4 Tryz.underlying103 Tryz.underlying22 (Tryz.zeroW w4) 3 (by decide)).2
  rw [wantM_get 3 (by decide) (by decide), show ((wantS 3 : Nat) : Int) = 19 from rfl] at hlook
  clear M1 M2 M3 M4 g1 g2 g3 g4
  have R4 := Lib.hid (HBV.out.below I4.out.hb)
  have hlen := run_slice_len R4.out.slice
  have hlI : ¬ (b.length : Int) < 19 := by omega
  have CM0 := Lib.hid I4.out.cm
  have CR0 := Lib.hid I4.out.cr
  have HB0 := Lib.hid I4.out.hb
  obtain ⟨v0, hv0, _, hs0, _⟩ := HBV.out.sub 1 b.length (by omega) (Nat.le_refl _)
  have hs0 : ∀ w', (Instr.slice 25 bv (some (.int .i64 1)) none none).run Tryz.prog w' = .ok v0 w' := hs0 rfl
  rw [List.take_of_length_le (by simp)] at hv0
  have HN0 := Lib.hid (show Calls Tryz.prog 44 #[v0, .int .i64 8] w4 fun e w' => e = .returned (.int .u64 (numS (cutB b 1 8))) ∧ w4 = w' from number_any v0 (b.drop 1) 8 _ (hv0.below HB0.out) (by simp; omega) (by decide))
  have hn0 := cut_bd b 1 8 (by omega)
  clear hn0 hv0
  go_wp2_with fail
  refine HN0.out.mono ?_
  rintro e y0 ⟨rfl, hy0⟩
  obtain rfl := hy0
  have hCM0 := CM0.out
  clear HN0 hs0
  have c0_1 := hCM0.cell 1
  have f0_1 := hCM0.frozen 1
  simp only [msgK, List.getElem?_cons_zero, List.getElem?_cons_succ] at c0_1
  clear hCM0
  have CM1 := Lib.hid (CM0.out.set_ 1 (.int .u64 (numS (cutB b 1 8))))
  have CR1 := Lib.hid (CR0.out.far (p := ⟨w.heap.size + 1, 1, none⟩) (by simp) (.int .u64 (numS (cutB b 1 8))))
  have HB1 := Lib.hid (HB0.out.setCell (p := ⟨w.heap.size + 1, 1, none⟩) (by simp) (.int .u64 (numS (cutB b 1 8))))
  obtain ⟨v1, hv1, _, hs1, _⟩ := HBV.out.sub 9 b.length (by omega) (Nat.le_refl _)
  have hs1 : ∀ w', (Instr.slice 25 bv (some (.int .i64 9)) none none).run Tryz.prog w' = .ok v1 w' := hs1 rfl
  rw [List.take_of_length_le (by simp)] at hv1
  have HN1 := Lib.hid (show Calls Tryz.prog 44 #[v1, .int .i64 4] (w4.setCell ⟨w.heap.size + 1, 1, none⟩ (.int .u64 (numS (cutB b 1 8)))) fun e w' => e = .returned (.int .u64 (numS (cutB b 9 4))) ∧ (w4.setCell ⟨w.heap.size + 1, 1, none⟩ (.int .u64 (numS (cutB b 1 8)))) = w' from number_any v1 (b.drop 9) 4 _ (hv1.below HB1.out) (by simp; omega) (by decide))
  have hn1 := cut_bd b 9 4 (by omega)
  have hn1a : 0 ≤ numS (cutB b 9 4) := hn1.1
  have hn1b : numS (cutB b 9 4) < 4294967296 := hn1.2
  have hwr1 : IntKind.u32.wrap (numS (cutB b 9 4)) = numS (cutB b 9 4) := by rw [IntKind.wrap_u32]; omega
  clear hn1 hv1
  go_wp2_with fail
  refine HN1.out.mono ?_
  rintro e y1 ⟨rfl, hy1⟩
  have hCM1 := CM1.out
  have hCR1 := CR1.out
  have hHB1 := HB1.out
  rw [hy1] at hCM1 hCR1 hHB1
  clear hy1 HN1 CM1 CR1 HB1 hs1
  have CM1 := Lib.hid hCM1
  have CR1 := Lib.hid hCR1
  have HB1 := Lib.hid hHB1
  have c1_3 := hCM1.cell 3
  have f1_3 := hCM1.frozen 3
  simp only [msgK, List.set_cons_succ, List.set_cons_zero, List.getElem?_cons_zero, List.getElem?_cons_succ] at c1_3
  clear hCM1 hCR1 hHB1
  have CM2 := Lib.hid (CM1.out.set_ 3 (.int .u32 (numS (cutB b 9 4))))
  have CR2 := Lib.hid (CR1.out.far (p := ⟨w.heap.size + 1, 3, none⟩) (by simp) (.int .u32 (numS (cutB b 9 4))))
  have HB2 := Lib.hid (HB1.out.setCell (p := ⟨w.heap.size + 1, 3, none⟩) (by simp) (.int .u32 (numS (cutB b 9 4))))
  obtain ⟨v2, hv2, _, hs2, _⟩ := HBV.out.sub 13 b.length (by omega) (Nat.le_refl _)
  have hs2 : ∀ w', (Instr.slice 25 bv (some (.int .i64 13)) none none).run Tryz.prog w' = .ok v2 w' := hs2 rfl
  rw [List.take_of_length_le (by simp)] at hv2
  have HN2 := Lib.hid (show Calls Tryz.prog 44 #[v2, .int .i64 4] (y1.setCell ⟨w.heap.size + 1, 3, none⟩ (.int .u32 (numS (cutB b 9 4)))) fun e w' => e = .returned (.int .u64 (numS (cutB b 13 4))) ∧ (y1.setCell ⟨w.heap.size + 1, 3, none⟩ (.int .u32 (numS (cutB b 9 4)))) = w' from number_any v2 (b.drop 13) 4 _ (hv2.below HB2.out) (by simp; omega) (by decide))
  have hn2 := cut_bd b 13 4 (by omega)
  have hn2a : 0 ≤ numS (cutB b 13 4) := hn2.1
  have hn2b : numS (cutB b 13 4) < 4294967296 := hn2.2
  have hwr2 : IntKind.u32.wrap (numS (cutB b 13 4)) = numS (cutB b 13 4) := by rw [IntKind.wrap_u32]; omega
  clear hn2 hv2
  go_wp2_with fail
  refine HN2.out.mono ?_
  rintro e y2 ⟨rfl, hy2⟩
  have hCM2 := CM2.out
  have hCR2 := CR2.out
  have hHB2 := HB2.out
  rw [hy2] at hCM2 hCR2 hHB2
  clear hy2 HN2 CM2 CR2 HB2 hs2
  have CM2 := Lib.hid hCM2
  have CR2 := Lib.hid hCR2
  have HB2 := Lib.hid hHB2
  have c2_2 := hCM2.cell 2
  have f2_2 := hCM2.frozen 2
  simp only [msgK, List.set_cons_succ, List.set_cons_zero, List.getElem?_cons_zero, List.getElem?_cons_succ] at c2_2
  clear hCM2 hCR2 hHB2
  have CM3 := Lib.hid (CM2.out.set_ 2 (.int .u32 (numS (cutB b 13 4))))
  have CR3 := Lib.hid (CR2.out.far (p := ⟨w.heap.size + 1, 2, none⟩) (by simp) (.int .u32 (numS (cutB b 13 4))))
  have HB3 := Lib.hid (HB2.out.setCell (p := ⟨w.heap.size + 1, 2, none⟩) (by simp) (.int .u32 (numS (cutB b 13 4))))
  obtain ⟨v3, hv3, _, hs3, _⟩ := HBV.out.sub 17 b.length (by omega) (Nat.le_refl _)
  have hs3 : ∀ w', (Instr.slice 25 bv (some (.int .i64 17)) none none).run Tryz.prog w' = .ok v3 w' := hs3 rfl
  rw [List.take_of_length_le (by simp)] at hv3
  have HN3 := Lib.hid (show Calls Tryz.prog 44 #[v3, .int .i64 2] (y2.setCell ⟨w.heap.size + 1, 2, none⟩ (.int .u32 (numS (cutB b 13 4)))) fun e w' => e = .returned (.int .u64 (numS (cutB b 17 2))) ∧ (y2.setCell ⟨w.heap.size + 1, 2, none⟩ (.int .u32 (numS (cutB b 13 4)))) = w' from number_any v3 (b.drop 17) 2 _ (hv3.below HB3.out) (by simp; omega) (by decide))
  have hn3 := cut_bd b 17 2 (by omega)
  obtain ⟨n9, hn9e⟩ : ∃ n : Nat, numS (cutB b 17 2) = n := ⟨(numS (cutB b 17 2)).toNat, by omega⟩
  have HRE := Lib.hid HRD.out
  rw [hn9e] at HN3 hn3
  have hn9b : (n9 : Int) < 65536 := hn3.2
  have HN9E := Lib.hid hn9e
  have hw9 : IntKind.i64.wrap (n9 : Int) = n9 := IntWalk.i64_in _ (by omega)
  clear hn9e hn3 HRD hv3
  go_wp2_with fail
  refine HN3.out.mono ?_
  rintro e y3 ⟨rfl, hy3⟩
  have hCM3 := CM3.out
  have hCR3 := CR3.out
  have hHB3 := HB3.out
  rw [hy3] at hCM3 hCR3 hHB3
  clear hy3 HN3 CM3 CR3 HB3 hs3
  have CM3 := Lib.hid hCM3
  have CR3 := Lib.hid hCR3
  have HB3 := Lib.hid hHB3
  have c3_4 := hCM3.cell 4
  have f3_4 := hCM3.frozen 4
  simp only [msgK, List.set_cons_succ, List.set_cons_zero, List.getElem?_cons_zero, List.getElem?_cons_succ] at c3_4
  clear hCM3 hCR3 hHB3
  have c6 := CM3.out.cell 6
  simp only [msgK, List.set_cons_succ, List.set_cons_zero, List.getElem?_cons_zero, List.getElem?_cons_succ] at c6
  have HZ := Lib.hid hz
  have HL := Lib.hid hl
  have HN9B := Lib.hid hn9b
  go_upto_region 26 with (fail)
  clear hlook hz hl hlI hn9b
  by_cases hA : b.length < 19 + n9
  · have hAI : (b.length : Int) < 19 + (n9 : Int) := by omega
    have HRF := Lib.hid (show readS 3 b = (Msg.none, [⟨shakeL, (b.length : Int), 160⟩]) from by rw [HRE.out, HN9E.out, Int.toNat_natCast, if_pos (show b.length < 19 + n9 from hA)])
    go_wp2_with fail
    refine (wrong_any (b.length : Int) _).mono ?_
    rintro e w8 ⟨ev, rfl, her, hb8⟩
    have HB8 := Lib.hid (HB3.out.trans (hb8.mono (HB3.out).size))
    have CR8 := Lib.hid ((CR3.out).below hb8)
    have HER := Lib.hid her
    clear hb8 her
    go_wp2_with (refine wpList_store_blk rfl _ (.tmp 4) (.tmp 119) rfl w.heap.size 0 msgZ (by rfl) (by rfl) (by kernel_rfl) (by simp [msgZ, Value.oneCell']) 27 _ CR8.out (by decide) ?_; intro w9 hC9 hg9)
    refine bodyPost_ret (read_res (m := Msg.none) (dv := .slice none 0 0) (ev := ev) hC9 (by rfl) (by rfl)) rfl ?_
    rw [HRF.out]
    exact read_fin HB8.out HER.out CR8.out hg9 (RSl.nil _)

  have hAI : ¬ (b.length : Int) < 19 + (n9 : Int) := by omega
  obtain ⟨vn, hvn, hsn, _⟩ := HBV.out.sub 19 (19 + n9) (by omega) (by omega)
  have hsn : ∀ w', (Instr.slice 25 bv (some (.int .i64 19)) (some (.int .i64 (19 + (n9 : Int)))) none).run Tryz.prog w' = .ok vn w' := hsn
  have hconv := run_slice_string (hvn.below HB3.out).slice
  generalize hST : (⟨((b.drop 19).take (19 + n9 - 19)).toArray⟩ : ByteArray) = S at *
  have CM8 := Lib.hid (CM3.out.set_ 4 (.string S))
  have CR8' := Lib.hid (CR3.out.far (p := ⟨w.heap.size + 1, 4, none⟩) (by simp) (.string S))
  have HB8' := Lib.hid (HB3.out.setCell (p := ⟨w.heap.size + 1, 4, none⟩) (by simp) (.string S))
  have HST := Lib.hid hST
  clear hvn hST
  by_cases hC : 19 + n9 < b.length
  · have hCI : 19 + (n9 : Int) < (b.length : Int) := by omega
    have HRF := Lib.hid (show readS 3 b = (Msg.none, [⟨shakeL, (19 + (n9 : Int)), 160⟩]) from by rw [HRE.out, HN9E.out, Int.toNat_natCast, if_neg (show ¬ b.length < 19 + n9 from hA), if_pos (show 19 + n9 < b.length from hC)]; rfl)
    go_wp2_with fail
    refine (wrong_any (19 + (n9 : Int)) _).mono ?_
    rintro e w8 ⟨ev, rfl, her, hb8⟩
    have HB8 := Lib.hid (HB8'.out.trans (hb8.mono (HB8'.out).size))
    have CR8 := Lib.hid ((CR8'.out).below hb8)
    have HER := Lib.hid her
    clear hb8 her
    go_wp2_with (refine wpList_store_blk rfl _ (.tmp 4) (.tmp 134) rfl w.heap.size 0 msgZ (by rfl) (by rfl) (by kernel_rfl) (by simp [msgZ, Value.oneCell']) 27 _ CR8.out (by decide) ?_; intro w9 hC9 hg9)
    refine bodyPost_ret (read_res (m := Msg.none) (dv := .slice none 0 0) (ev := ev) hC9 (by rfl) (by rfl)) rfl ?_
    rw [HRF.out]
    exact read_fin HB8.out HER.out CR8.out hg9 (RSl.nil _)

  have hCI : ¬ 19 + (n9 : Int) < (b.length : Int) := by omega
  have hlb : b.length = 19 + n9 := by omega
  have hSS := Lib.hid (show S = ⟨(b.drop 19).toArray⟩ by rw [← HST.out, List.take_of_length_le (by simp; omega)])
  have hSz : S.size ≤ 140737488351232 := by
    rw [hSS.out]
    show ((b.drop 19).toArray).size ≤ _
    rw [List.size_toArray, List.length_drop]
    exact Nat.le_trans (Nat.sub_le _ _) HZ.out
  have HND := Lib.hid (fun W => node_any S W hSz)
  have HRE2 := Lib.hid (show readS 3 b = if (nodeS S).2.2 ≠ [] then (Msg.none, [⟨shakeL, 19, 24⟩, ⟨atomL, 0, 24⟩]) else (⟨3, numS (cutB b 1 8), numS (cutB b 13 4), numS (cutB b 9 4), S, ⟨#[]⟩, []⟩, []) by
    rw [HRE.out, HN9E.out, Int.toNat_natCast, if_neg (show ¬ b.length < 19 + n9 by omega), if_neg (show ¬ 19 + n9 < b.length by omega), hSS.out]; rfl)
  have hq9 : ((19 + (n9 : Int)) == 19) = true ∨ ((19 + (n9 : Int)) == 19) = false := by cases ((19 + (n9 : Int)) == 19) <;> simp
  clear HRE hlb
  rcases hq9 with hq9 | hq9
  all_goals
    go_wp2_with fail
    refine (HND.out _).mono ?_
    rintro e w7 ⟨ev, rfl, her, hb7⟩
    have HB7 := Lib.hid (HB8'.out.trans (hb7.mono HB8'.out.size))
    have CR7 := Lib.hid (CR8'.out.below hb7)
    have CM7 := Lib.hid (CM8.out.below hb7)
    clear hb7
    rcases nodeS_two S with hn | hn
    · rw [hn] at her
      obtain rfl : ev = .nilIface := her
      have HRF := Lib.hid (show readS 3 b = (⟨3, numS (cutB b 1 8), numS (cutB b 13 4), numS (cutB b 9 4), S, ⟨#[]⟩, []⟩, []) by rw [HRE2.out, if_neg (by simp [hn])])
      have k0 := CM7.out.cell 0
      have k1 := CM7.out.cell 1
      have k2 := CM7.out.cell 2
      have k3 := CM7.out.cell 3
      have k4 := CM7.out.cell 4
      have k5 := CM7.out.cell 5
      have k6 := CM7.out.cell 6
      simp only [msgK, List.set_cons_succ, List.set_cons_zero, List.getElem?_cons_zero, List.getElem?_cons_succ] at k0 k1 k2 k3 k4 k5 k6
      clear hn
      go_wp2_with (refine wpList_store_blk rfl _ (.tmp 4) (.tmp 159) rfl w.heap.size 0 [.int .i64 3, .int .u64 (numS (cutB b 1 8)), .int .u32 (numS (cutB b 13 4)), .int .u32 (numS (cutB b 9 4)), .string S, .string ⟨#[]⟩, .slice none 0 0] (by rfl) (by rfl) (by kernel_rfl) (by simp [Value.oneCell']) 27 _ CR7.out (by simp [msgZ]) ?_; intro w9 hC9 hg9)
      refine bodyPost_ret (read_res (m := ⟨3, numS (cutB b 1 8), numS (cutB b 13 4), numS (cutB b 9 4), S, ⟨#[]⟩, []⟩) (dv := .slice none 0 0) (ev := .nilIface) hC9 (by rfl) (by rfl)) rfl ?_
      rw [HRF.out]
      exact read_fin HB7.out rfl CR7.out hg9 (RSl.nil _)
    · rw [hn] at her
      have HRF := Lib.hid (show readS 3 b = (Msg.none, [⟨shakeL, 19, 24⟩, ⟨atomL, 0, 24⟩]) by rw [HRE2.out, if_pos (by simp [hn])])
      have HO := Lib.hid (over_any 19 ev ⟨atomL, 0, 24⟩ [] w7 her (HE.out.below HB7.out))
      obtain ⟨eb, eu, rfl, _, _⟩ := her
      clear hn
      go_wp2_with fail
      refine HO.out.mono ?_
      rintro e w8 ⟨ev8, rfl, her8, hb8⟩
      have HB8 := Lib.hid (HB7.out.trans (hb8.mono HB7.out.size))
      have CR8 := Lib.hid (CR7.out.below hb8)
      have HER := Lib.hid her8
      clear hb8 her8
      go_wp2_with (refine wpList_store_blk rfl _ (.tmp 4) (.tmp 155) rfl w.heap.size 0 msgZ (by rfl) (by rfl) (by kernel_rfl) (by simp [msgZ, Value.oneCell']) 27 _ CR8.out (by decide) ?_; intro w9 hC9 hg9)
      refine bodyPost_ret (read_res (m := Msg.none) (dv := .slice none 0 0) (ev := ev8) hC9 (by rfl) (by rfl)) rfl ?_
      rw [HRF.out]
      exact read_fin HB8.out HER.out CR8.out hg9 (RSl.nil _)
end Go.Proofs.YtokkokgdjnkbnaaGreatDoor
end
