/- Texts laid together: ShkO. -/
import Derived.Test.YtokkokgdjnkbnaaGreatDoorP24
section
/- Package shake: Read of digests: the digest is the call's own. Printed from XShkG by a program. -/
open Go Go.RowKit
namespace Go.Proofs.YtokkokgdjnkbnaaGreatDoor

def RetMO (B : Nat) (w : World) (r : Msg × List Lk) (e : Ending) (w' : World) : Prop := ∃ dv ev, e = .returned (.tuple #[r.1.val dv, ev]) ∧ BufIs B dv r.1.digest w' ∧ ErrIs w' ev r.2 ∧ Below B w w'
theorem read_finO {w w2 w3 : World} {ev : Value} {l : List Lk} {m : Msg} {dv : Value} {cs : List Value} (hB : Below w.heap.size w w2) (her : ErrIs w2 ev l) (hC : Cells w2 w.heap.size 27 cs) (hg : w2.grownBy w3 (some w.heap.size)) (hd : BufIs w.heap.size dv m.digest w3) :
    RetMO w.heap.size w (m, l) (.returned (.tuple #[m.val dv, ev])) w3 :=
  ⟨_, _, rfl, hd, her.keep ((Keep.refl (Blk1 w.heap.size) _).grown hg (fun j hj _ => (Option.some.inj hj).symm)) (fun j hj => by rw [hj]; exact NF.cells hC (by decide)), hB.grown hg hB.size (fun j hj => by rw [← Option.some.inj hj]; exact Nat.le_refl _)⟩

set_option maxHeartbeats 8000000 in
set_option maxRecDepth 100000 in
theorem read_5_own (bv : Value) (b : List UInt8) (w : World) (hb : RSl bv b w) (hz : b.length ≤ 140737488351232) (hh : b.head? = some (letS 5)) (hl : 17 ≤ b.length) :
    Calls Tryz.prog 13 #[.int .i64 5, bv] w (RetMO w.heap.size w (readS 5 b)) := by
  have HRD := Lib.hid (readS_dig 5 b (by decide) hh (by show ¬ b.length < 17; omega))
  have hpos : 0 < b.length := by cases b with | nil => cases hh | cons => simp
  have hne0 : ((b.length : Int) == 0) = false := beq_eq_false_iff_ne.2 (by omega)
  have hposI : (0 : Int) < (b.length : Int) := by omega
  have hb0 : b[0] = letS 5 := by cases b with | nil => cases hh | cons x r => simpa using hh
  have HBV := Lib.hid hb
  obtain ⟨a, c, rfl, hc1, hc2, hc⟩ := hb
  obtain ⟨g, o, rfl, hx⟩ := hc 0 hpos
  rw [Nat.add_zero] at hx
  have hx0 : (w.alloc (.cells msgZ.toArray 27)).cell? ⟨g, o, none⟩ = some (.int .u8 (letS 5).toNat) := by
    rw [World.cell?_alloc_lt w _ _ (World.block_lt_of_cell? w _ hx), ← hb0]; exact hx
  simp only [msgZ] at hx0
  have hne : (((letS 5).toNat : Int) != ((letS 5).toNat : Int)) = false := by simp
  have hmm := @run_makeMap Tryz.prog
  clear hc hx hh hb0
  go_enter Tryz.func13, Tryz.ntmps13
  go_wp2
  go_quiet ((go_at_call 29; exact Calls.quiet_of_same (letter_quiet _ _ (by decide) (by decide))))
  clear hx0
  generalize hbv : (Value.slice (some ⟨g, o, none⟩) b.length c) = bv at *
  clear hbv
  go_wp2_with (with_reducible refine stopIns _ _ _ _ rfl ?_)
  refine Stopped.of ?_
  refine wpList_mapV_ins rfl _ _ _ rfl Tryz.underlying103 Tryz.underlying22 _ 0 (fun _ => none) (by rfl) (MapV.made_at _ _ _ (by simp)) (by unfold maxLen; omega) 1 (by decide) (by rfl) (.int .i64 15) (by rfl) ?_
  intro w1 M1 g1
  refine wpList_mapV_ins rfl _ _ _ rfl Tryz.underlying103 Tryz.underlying22 _ 1 _ (by rfl) M1 (by unfold maxLen; omega) 3 (by decide) (by rfl) (.int .i64 19) (by rfl) ?_
  intro w2 M2 g2
  refine wpList_mapV_ins rfl _ _ _ rfl Tryz.underlying103 Tryz.underlying22 _ 2 _ (by rfl) M2 (by unfold maxLen; omega) 4 (by decide) (by rfl) (.int .i64 21) (by rfl) ?_
  intro w3 M3 g3
  refine wpList_mapV_ins rfl _ _ _ rfl Tryz.underlying103 Tryz.underlying22 _ 3 _ (by rfl) M3 (by unfold maxLen; omega) 5 (by decide) (by rfl) (.int .i64 17) (by rfl) ?_
  intro w4 M4 g4
  have I4 := Lib.hid ((((RdInv.first (k := 5) g1).next g2).next g3).next g4)
  have hlook := (MapV.look (m := wantM) M4 Tryz.underlying103 Tryz.underlying22 (Tryz.zeroW w4) 5 (by decide)).2
  rw [wantM_get 5 (by decide) (by decide), show ((wantS 5 : Nat) : Int) = 17 from rfl] at hlook
  clear M1 M2 M3 M4 g1 g2 g3 g4
  have R4 := Lib.hid (HBV.out.below I4.out.hb)
  have hlen := run_slice_len R4.out.slice
  have hlI : ¬ (b.length : Int) < 17 := by omega
  obtain ⟨v1, hv1, hs1, _⟩ := R4.out.sub 1 17 (by decide) hl
  have hs1 : ∀ w', (Instr.slice 25 bv (some (.int .i64 1)) (some (.int .i64 17)) none).run Tryz.prog w' = .ok v1 w' := hs1
  have hl16 : ((b.drop 1).take 16).length = 16 := by simp; omega
  have HC := Lib.hid (clone_any v1 ((b.drop 1).take 16) w4 hv1 (by omega))
  have HHB := Lib.hid I4.out.hb
  have HCM := Lib.hid I4.out.cm
  have HCR := Lib.hid I4.out.cr
  clear hv1
  go_wp2_with fail
  refine HC.out.mono ?_
  rintro e w6 ⟨v6, rfl, hv6, hb6⟩
  have HB6 := Lib.hid (HHB.out.trans (hb6.mono HHB.out.size))
  have CR6 := Lib.hid (HCR.out.below hb6)
  have hCM6 := HCM.out.below hb6
  have hs6 := hb6.size
  obtain ⟨_, hno⟩ | ⟨g6, c6, rfl, hg61, hg62, hc61, hc62⟩ := hv6.shape
  · rw [hno] at hl16; cases hl16
  rw [hl16] at hv6 ⊢
  have cc6 := hCM6.cell 6
  have ff6 := hCM6.frozen 6
  simp only [msgK, List.getElem?_cons_zero, List.getElem?_cons_succ] at cc6
  have CM7 := Lib.hid (hCM6.set_ 6 (.slice (some ⟨g6, 0, none⟩) 16 c6))
  have CR7 := Lib.hid (CR6.out.far (p := ⟨w.heap.size + 1, 6, none⟩) (by simp) (.slice (some ⟨g6, 0, none⟩) 16 c6))
  have HB7 := Lib.hid (HB6.out.setCell (p := ⟨w.heap.size + 1, 6, none⟩) (by simp) (.slice (some ⟨g6, 0, none⟩) 16 c6))
  have hng : g6 ≠ w.heap.size + 1 := fun e => by have := HCM.out.lt; omega
  have hng2 : g6 ≠ w.heap.size := fun e => by have := HCM.out.lt; omega
  have V7 := Lib.hid (hv6.frame (w' := w6.setCell ⟨w.heap.size + 1, 6, none⟩ (.slice (some ⟨g6, 0, none⟩) 16 c6)) (fun j hj => by cases hj; exact Below.heap_setCell _ _ _ _ hng))
  clear hb6 hCM6 hv6
  by_cases he : b.length = 17
  · have HRF := Lib.hid (show readS 5 b = (⟨5, 0, 0, 0, ⟨#[]⟩, ⟨#[]⟩, b.drop 1⟩, []) by rw [HRD.out, if_pos (show b.length = wantS 5 from he)]; rfl)
    have heI : ¬ (17 : Int) < (b.length : Int) := by omega
    have hdd : (b.drop 1).take 16 = b.drop 1 := List.take_of_length_le (by simp; omega)
    rw [hdd] at V7
    clear he
    have c0 := CM7.out.cell 0
    have c1 := CM7.out.cell 1
    have c2 := CM7.out.cell 2
    have c3 := CM7.out.cell 3
    have c4 := CM7.out.cell 4
    have c5 := CM7.out.cell 5
    have c7 := CM7.out.cell 6
    simp only [msgK, List.set_cons_succ, List.set_cons_zero, List.getElem?_cons_zero, List.getElem?_cons_succ] at c0 c1 c2 c3 c4 c5 c7
    go_wp2_with (refine wpList_store_blk rfl _ (.tmp 4) (.tmp 145) rfl w.heap.size 0 ([.int .i64 5, .int .u64 0, .int .u32 0, .int .u32 0, .string ⟨#[]⟩, .string ⟨#[]⟩, .slice (some ⟨g6, 0, none⟩) 16 c6]) (by rfl) (by rfl) (by kernel_rfl) (by simp [Value.oneCell']) 27 _ CR7.out (by simp [msgZ]) ?_; intro w8 hC8 hg8)
    refine bodyPost_ret (read_res (m := ⟨5, 0, 0, 0, ⟨#[]⟩, ⟨#[]⟩, b.drop 1⟩) (dv := .slice (some ⟨g6, 0, none⟩) 16 c6) (ev := .nilIface) hC8 (by rfl) (by rfl)) rfl ?_
    rw [HRF.out]
    exact read_finO HB7.out rfl CR7.out hg8 ((V7.out.frame (w' := w8) (fun j hj => by cases hj; exact hg8.block _ (V7.out.block (g := g6) rfl).2 (by simpa using hng2))).base HHB.out.size)
  · have heI : (17 : Int) < (b.length : Int) := by omega
    have HRF := Lib.hid (show readS 5 b = (Msg.none, [⟨shakeL, (17 : Int), 160⟩]) from by rw [HRD.out, if_neg (show ¬ b.length = wantS 5 from he)]; rfl)
    go_wp2_with fail
    refine (wrong_any (17 : Int) _).mono ?_
    rintro e w8 ⟨ev, rfl, her, hb8⟩
    have HB8 := Lib.hid (HB7.out.trans (hb8.mono (HB7.out).size))
    have CR8 := Lib.hid ((CR7.out).below hb8)
    have HER := Lib.hid her
    clear hb8 her
    go_wp2_with (refine wpList_store_blk rfl _ (.tmp 4) (.tmp 134) rfl w.heap.size 0 msgZ (by rfl) (by rfl) (by kernel_rfl) (by simp [msgZ, Value.oneCell']) 27 _ CR8.out (by decide) ?_; intro w9 hC9 hg9)
    refine bodyPost_ret (read_res (m := Msg.none) (dv := .slice none 0 0) (ev := ev) hC9 (by rfl) (by rfl)) rfl ?_
    rw [HRF.out]
    exact read_finO HB8.out HER.out CR8.out hg9 (BufIs.nil _ _)
set_option maxHeartbeats 8000000 in
set_option maxRecDepth 100000 in
theorem read_4_own (bv : Value) (b : List UInt8) (w : World) (hb : RSl bv b w) (hz : b.length ≤ 140737488351232) (hh : b.head? = some (letS 4)) (hl : 21 ≤ b.length) :
    Calls Tryz.prog 13 #[.int .i64 4, bv] w (RetMO w.heap.size w (readS 4 b)) := by
  have HRD := Lib.hid (readS_dig 4 b (by decide) hh (by show ¬ b.length < 21; omega))
  have hpos : 0 < b.length := by cases b with | nil => cases hh | cons => simp
  have hne0 : ((b.length : Int) == 0) = false := beq_eq_false_iff_ne.2 (by omega)
  have hposI : (0 : Int) < (b.length : Int) := by omega
  have hb0 : b[0] = letS 4 := by cases b with | nil => cases hh | cons x r => simpa using hh
  have HBV := Lib.hid hb
  obtain ⟨a, c, rfl, hc1, hc2, hc⟩ := hb
  obtain ⟨g, o, rfl, hx⟩ := hc 0 hpos
  rw [Nat.add_zero] at hx
  have hx0 : (w.alloc (.cells msgZ.toArray 27)).cell? ⟨g, o, none⟩ = some (.int .u8 (letS 4).toNat) := by
    rw [World.cell?_alloc_lt w _ _ (World.block_lt_of_cell? w _ hx), ← hb0]; exact hx
  simp only [msgZ] at hx0
  have hne : (((letS 4).toNat : Int) != ((letS 4).toNat : Int)) = false := by simp
  have hmm := @run_makeMap Tryz.prog
  clear hc hx hh hb0
  go_enter Tryz.func13, Tryz.ntmps13
  go_wp2
  go_quiet ((go_at_call 29; exact Calls.quiet_of_same (letter_quiet _ _ (by decide) (by decide))))
  clear hx0
  generalize hbv : (Value.slice (some ⟨g, o, none⟩) b.length c) = bv at *
  clear hbv
  go_wp2_with (with_reducible refine stopIns _ _ _ _ rfl ?_)
  refine Stopped.of ?_
  refine wpList_mapV_ins rfl _ _ _ rfl Tryz.underlying103 Tryz.underlying22 _ 0 (fun _ => none) (by rfl) (MapV.made_at _ _ _ (by simp)) (by unfold maxLen; omega) 1 (by decide) (by rfl) (.int .i64 15) (by rfl) ?_
  intro w1 M1 g1
  refine wpList_mapV_ins rfl _ _ _ rfl Tryz.underlying103 Tryz.underlying22 _ 1 _ (by rfl) M1 (by unfold maxLen; omega) 3 (by decide) (by rfl) (.int .i64 19) (by rfl) ?_
  intro w2 M2 g2
  refine wpList_mapV_ins rfl _ _ _ rfl Tryz.underlying103 Tryz.underlying22 _ 2 _ (by rfl) M2 (by unfold maxLen; omega) 4 (by decide) (by rfl) (.int .i64 21) (by rfl) ?_
  intro w3 M3 g3
  refine wpList_mapV_ins rfl _ _ _ rfl Tryz.underlying103 Tryz.underlying22 _ 3 _ (by rfl) M3 (by unfold maxLen; omega) 5 (by decide) (by rfl) (.int .i64 17) (by rfl) ?_
  intro w4 M4 g4
  have I4 := Lib.hid ((((RdInv.first (k := 4) g1).next g2).next g3).next g4)
  have hlook := (MapV.look (m := wantM) M4 Tryz.underlying103 Tryz.underlying22 (Tryz.zeroW w4) 4 (by decide)).2
  rw [wantM_get 4 (by decide) (by decide), show ((wantS 4 : Nat) : Int) = 21 from rfl] at hlook
  clear M1 M2 M3 M4 g1 g2 g3 g4
  have R4 := Lib.hid (HBV.out.below I4.out.hb)
  have hlen := run_slice_len R4.out.slice
  have hlI : ¬ (b.length : Int) < 21 := by omega
  obtain ⟨v1, hv1, hs1, _⟩ := R4.out.sub 5 21 (by decide) hl
  have hs1 : ∀ w', (Instr.slice 25 bv (some (.int .i64 5)) (some (.int .i64 21)) none).run Tryz.prog w' = .ok v1 w' := hs1
  have hl16 : ((b.drop 5).take 16).length = 16 := by simp; omega
  obtain ⟨v2, hv2, _, hs2, _⟩ := R4.out.sub 1 b.length (by omega) (Nat.le_refl _)
  have hs2 : ∀ w', (Instr.slice 25 bv (some (.int .i64 1)) none none).run Tryz.prog w' = .ok v2 w' := hs2 rfl
  have hv2 : RSl v2 (b.drop 1) w4 := by rw [List.take_of_length_le (by simp)] at hv2; exact hv2
  have HN := Lib.hid (number_any v2 (b.drop 1) 4 w4 hv2 (by simp; omega) (by decide))
  have hnb := numS_bd ((b.drop 1).take 4)
  have hnl : ((b.drop 1).take 4).length = 4 := by simp; omega
  rw [hnl] at hnb
  have hnb0 := hnb.1
  have hnb1 : numS ((b.drop 1).take 4) < 4294967296 := hnb.2
  have hwr : IntKind.u32.wrap (numS ((b.drop 1).take 4)) = numS ((b.drop 1).take 4) := by rw [IntKind.wrap_u32]; omega
  have c3 := I4.out.cm.cell 3
  have f3 := I4.out.cm.frozen 3
  simp only [msgK, List.getElem?_cons_zero, List.getElem?_cons_succ] at c3
  have hCM := I4.out.cm.set_ 3 (.int .u32 (numS ((b.drop 1).take 4)))
  have hCR := I4.out.cr.far (p := ⟨w.heap.size + 1, 3, none⟩) (by simp) (.int .u32 (numS ((b.drop 1).take 4)))
  have hHB := I4.out.hb.setCell (p := ⟨w.heap.size + 1, 3, none⟩) (by simp) (.int .u32 (numS ((b.drop 1).take 4)))
  have hv1' : RSl v1 ((b.drop 5).take 16) (w4.setCell ⟨w.heap.size + 1, 3, none⟩ (.int .u32 (numS ((b.drop 1).take 4)))) := rsl_far hv1 (by
    intro p x hx hp
    exact World.cell?_setCell_other w4 _ p _ (fun e => by
      subst e
      rw [I4.out.cm.cell 3] at hx
      simp [msgK] at hx
      obtain ⟨n, hn⟩ := hp
      rw [hn] at hx
      injection hx with hx
      cases hx))
  have HC := Lib.hid (clone_any v1 ((b.drop 5).take 16) _ hv1' (by omega))
  have HHB := Lib.hid hHB
  have HCM := Lib.hid hCM
  have HCR := Lib.hid hCR
  generalize hNN : numS ((b.drop 1).take 4) = NN at *
  clear hnb hv2 hCM hCR hHB hv1' hnl
  go_wp2_with fail
  refine HN.out.mono ?_
  rintro e w5 ⟨rfl, rfl⟩
  clear hv1
  go_wp2_with fail
  refine HC.out.mono ?_
  rintro e w6 ⟨v6, rfl, hv6, hb6⟩
  have HB6 := Lib.hid (HHB.out.trans (hb6.mono HHB.out.size))
  have CR6 := Lib.hid (HCR.out.below hb6)
  have hCM6 := HCM.out.below hb6
  have hs6 := hb6.size
  obtain ⟨_, hno⟩ | ⟨g6, c6, rfl, hg61, hg62, hc61, hc62⟩ := hv6.shape
  · rw [hno] at hl16; cases hl16
  rw [hl16] at hv6 ⊢
  have cc6 := hCM6.cell 6
  have ff6 := hCM6.frozen 6
  simp only [msgK, List.set_cons_succ, List.set_cons_zero, List.getElem?_cons_zero, List.getElem?_cons_succ] at cc6
  have CM7 := Lib.hid (hCM6.set_ 6 (.slice (some ⟨g6, 0, none⟩) 16 c6))
  have CR7 := Lib.hid (CR6.out.far (p := ⟨w.heap.size + 1, 6, none⟩) (by simp) (.slice (some ⟨g6, 0, none⟩) 16 c6))
  have HB7 := Lib.hid (HB6.out.setCell (p := ⟨w.heap.size + 1, 6, none⟩) (by simp) (.slice (some ⟨g6, 0, none⟩) 16 c6))
  have hng : g6 ≠ w.heap.size + 1 := fun e => by have := HCM.out.lt; omega
  have hng2 : g6 ≠ w.heap.size := fun e => by have := HCM.out.lt; omega
  have V7 := Lib.hid (hv6.frame (w' := w6.setCell ⟨w.heap.size + 1, 6, none⟩ (.slice (some ⟨g6, 0, none⟩) 16 c6)) (fun j hj => by cases hj; exact Below.heap_setCell _ _ _ _ hng))
  clear hb6 hCM6 hv6
  by_cases he : b.length = 21
  · have HRF := Lib.hid (show readS 4 b = (⟨4, 0, 0, NN, ⟨#[]⟩, ⟨#[]⟩, b.drop 5⟩, []) by rw [HRD.out, if_pos (show b.length = wantS 4 from he)]; rw [← hNN]; rfl)
    have heI : ¬ (21 : Int) < (b.length : Int) := by omega
    have hdd : (b.drop 5).take 16 = b.drop 5 := List.take_of_length_le (by simp; omega)
    rw [hdd] at V7
    clear he
    have c0 := CM7.out.cell 0
    have c1 := CM7.out.cell 1
    have c2 := CM7.out.cell 2
    have c3 := CM7.out.cell 3
    have c4 := CM7.out.cell 4
    have c5 := CM7.out.cell 5
    have c7 := CM7.out.cell 6
    simp only [msgK, List.set_cons_succ, List.set_cons_zero, List.getElem?_cons_zero, List.getElem?_cons_succ] at c0 c1 c2 c3 c4 c5 c7
    go_wp2_with (refine wpList_store_blk rfl _ (.tmp 4) (.tmp 145) rfl w.heap.size 0 ([.int .i64 4, .int .u64 0, .int .u32 0, .int .u32 NN, .string ⟨#[]⟩, .string ⟨#[]⟩, .slice (some ⟨g6, 0, none⟩) 16 c6]) (by rfl) (by rfl) (by kernel_rfl) (by simp [Value.oneCell']) 27 _ CR7.out (by simp [msgZ]) ?_; intro w8 hC8 hg8)
    refine bodyPost_ret (read_res (m := ⟨4, 0, 0, NN, ⟨#[]⟩, ⟨#[]⟩, b.drop 5⟩) (dv := .slice (some ⟨g6, 0, none⟩) 16 c6) (ev := .nilIface) hC8 (by rfl) (by rfl)) rfl ?_
    rw [HRF.out]
    exact read_finO HB7.out rfl CR7.out hg8 ((V7.out.frame (w' := w8) (fun j hj => by cases hj; exact hg8.block _ (V7.out.block (g := g6) rfl).2 (by simpa using hng2))).base HHB.out.size)
  · have heI : (21 : Int) < (b.length : Int) := by omega
    have HRF := Lib.hid (show readS 4 b = (Msg.none, [⟨shakeL, (21 : Int), 160⟩]) from by rw [HRD.out, if_neg (show ¬ b.length = wantS 4 from he)]; rfl)
    go_wp2_with fail
    refine (wrong_any (21 : Int) _).mono ?_
    rintro e w8 ⟨ev, rfl, her, hb8⟩
    have HB8 := Lib.hid (HB7.out.trans (hb8.mono (HB7.out).size))
    have CR8 := Lib.hid ((CR7.out).below hb8)
    have HER := Lib.hid her
    clear hb8 her
    go_wp2_with (refine wpList_store_blk rfl _ (.tmp 4) (.tmp 134) rfl w.heap.size 0 msgZ (by rfl) (by rfl) (by kernel_rfl) (by simp [msgZ, Value.oneCell']) 27 _ CR8.out (by decide) ?_; intro w9 hC9 hg9)
    refine bodyPost_ret (read_res (m := Msg.none) (dv := .slice none 0 0) (ev := ev) hC9 (by rfl) (by rfl)) rfl ?_
    rw [HRF.out]
    exact read_finO HB8.out HER.out CR8.out hg9 (BufIs.nil _ _)
end Go.Proofs.YtokkokgdjnkbnaaGreatDoor
end
