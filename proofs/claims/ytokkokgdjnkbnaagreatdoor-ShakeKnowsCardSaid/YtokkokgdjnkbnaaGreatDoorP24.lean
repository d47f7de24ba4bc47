/- Texts laid together: Clone, ShkG, ShkY. -/
import Derived.Test.YtokkokgdjnkbnaaGreatDoorP13
import Derived.WalkSpells
import Derived.Test.YtokkokgdjnkbnaaGreatDoorP23
import Derived.Test.YtokkokgdjnkbnaaGreatDoorP20
section
/- slices.Clone of bytes. -/
open Go Go.RowKit
namespace Go.Proofs.YtokkokgdjnkbnaaGreatDoor

theorem BufIs.empty {w : World} : BufIs w.heap.size (.slice (some ⟨w.heap.size, 0, none⟩) 0 0) [] (w.alloc (.cells #[] 5 (0, 0))) :=
  ⟨rfl, .inr ⟨w.heap.size, 0, #[], rfl, Nat.le_refl _, alloc_get _ _, Nat.le_refl _, Nat.zero_le _, rfl, rfl⟩⟩
set_option maxHeartbeats 4000000 in
set_option maxRecDepth 100000 in
theorem clone_any (v : Value) (l : List UInt8) (w : World) (hv : RSl v l w) (hl : l.length ≤ 140737488351232) :
    Calls Tryz.prog 45 #[v] w fun e w' => ∃ v', e = .returned v' ∧ BufIs w.heap.size v' l w' ∧ Below w.heap.size w w' := by
  have HV := Lib.hid hv
  obtain ⟨v', w', hrun, hb, hg⟩ := (BufIs.empty (w := w)).app (hv.alloc _) (by simpa using (by omega)) (by simp)
  have HB := Lib.hid (below_grown ((Below.refl w.heap.size w).alloc (Nat.le_refl _) _) (BufIs.empty (w := w)) (Nat.le_refl _) (by simp) hg)
  have HR := Lib.hid hrun
  have H := Lib.hid hb
  clear hrun hb hg
  obtain ⟨a, c, rfl, hc1, hc2, hc⟩ := hv
  have hq := fun (w : World) (a : Option Addr) (n c : Nat) => Lib.run_eql_slice_nil (P := Tryz.prog) w 25 5 a n c 0 0 Tryz.underlying25
  cases a with
  | none =>
    have hn : l = [] := by
      cases l with
      | nil => rfl
      | cons x r => obtain ⟨g, o, he, _⟩ := hc 0 (by simp); cases he
    subst hn
    clear hc
    go_enter Tryz.func45, Tryz.ntmps45
    go_wp2
    go_ret
    exact ⟨_, rfl, BufIs.nil _ _, Below.refl _ _⟩
  | some ad =>
    clear hc
    go_enter Tryz.func45, Tryz.ntmps45
    go_wp2_with (at_builtin; refine stop ?_)
    refine Stopped.of ?_
    refine wp_app_eq rfl (.tmp 5) (.tmp 6) _ _ rfl _ _ v' w' rfl rfl HR.out ?_
    go_wp2
    go_ret
    exact ⟨_, rfl, H.out, HB.out⟩
end Go.Proofs.YtokkokgdjnkbnaaGreatDoor
end
section
/- Package shake: Read of digests. -/
open Go Go.RowKit
namespace Go.Proofs.YtokkokgdjnkbnaaGreatDoor

theorem readS_short (k : Int) (b : List UInt8) (h1 : 1 ≤ k) (h5 : k ≤ 5) (h2 : k ≠ 2) (hh : b.head? = some (letS k)) (hl : b.length < wantS k) : readS k b = (Msg.none, [⟨shakeL, b.length, 160⟩]) := by
  unfold readS; rw [if_neg (by omega), if_neg (by rw [hh]; simp), if_neg h2, if_pos hl]
theorem readS_dig (k : Int) (b : List UInt8) (hk : k = 4 ∨ k = 5) (hh : b.head? = some (letS k)) (hl : ¬ b.length < wantS k) :
    readS k b = if b.length = wantS k then (⟨k, 0, 0, if k = 4 then numS (cutB b 1 4) else 0, ⟨#[]⟩, ⟨#[]⟩, b.drop (wantS k - 16)⟩, []) else (Msg.none, [⟨shakeL, wantS k, 160⟩]) := by
  unfold readS; rw [if_neg (by omega), if_neg (by rw [hh]; simp), if_neg (by omega), if_neg hl, if_pos hk]
set_option maxHeartbeats 8000000 in
set_option maxRecDepth 100000 in
theorem read_5_short (bv : Value) (b : List UInt8) (w : World) (hb : RSl bv b w) (hz : b.length ≤ 140737488351232) (hh : b.head? = some (letS 5)) (hl : b.length < 17) :
    Calls Tryz.prog 13 #[.int .i64 5, bv] w (RetME w.heap.size w (readS 5 b)) := by
  have HRS := Lib.hid (readS_short 5 b (by decide) (by decide) (by decide) hh hl)
  have hpos : 0 < b.length := by cases b with | nil => cases hh | cons => simp
  have hne0 : ((b.length : Int) == 0) = false := beq_eq_false_iff_ne.2 (by omega)
  have hposI : (0 : Int) < (b.length : Int) := by omega
  have hb0 : b[0] = letS 5 := by cases b with | nil => cases hh | cons x r => simpa using hh
  have HBV := Lib.hid hb
  obtain ⟨a, c, rfl, hc1, hc2, hc⟩ := hb
  obtain ⟨g, o, rfl, hx⟩ := hc 0 hpos
  rw [Nat.add_zero] at hx
  have hx0 : (w.alloc (.cells msgZ.toArray 27)).cell? ⟨g, o, none⟩ = some (.int .u8 (letS 5).toNat) := by
    rw [World.cell?_alloc_lt w _ _ (World.block_lt_of_cell? w _ hx), ← hb0]; exact hx
  simp only [msgZ] at hx0
  have hne : (((letS 5).toNat : Int) != ((letS 5).toNat : Int)) = false := by simp
  have hmm := @run_makeMap Tryz.prog
  clear hc hx hh hb0
  go_enter Tryz.func13, Tryz.ntmps13
  go_wp2
  go_quiet ((go_at_call 29; exact Calls.quiet_of_same (letter_quiet _ _ (by decide) (by decide))))
  clear hx0
  generalize hbv : (Value.slice (some ⟨g, o, none⟩) b.length c) = bv at *
  clear hbv
  go_wp2_with (with_reducible refine stopIns _ _ _ _ rfl ?_)
  refine Stopped.of ?_
  refine wpList_mapV_ins rfl _ _ _ rfl Tryz.underlying103 Tryz.underlying22 _ 0 (fun _ => none) (by rfl) (MapV.made_at _ _ _ (by simp)) (by unfold maxLen; omega) 1 (by decide) (by rfl) (.int .i64 15) (by rfl) ?_
  intro w1 M1 g1
  refine wpList_mapV_ins rfl _ _ _ rfl Tryz.underlying103 Tryz.underlying22 _ 1 _ (by rfl) M1 (by unfold maxLen; omega) 3 (by decide) (by rfl) (.int .i64 19) (by rfl) ?_
  intro w2 M2 g2
  refine wpList_mapV_ins rfl _ _ _ rfl Tryz.underlying103 Tryz.underlying22 _ 2 _ (by rfl) M2 (by unfold maxLen; omega) 4 (by decide) (by rfl) (.int .i64 21) (by rfl) ?_
  intro w3 M3 g3
  refine wpList_mapV_ins rfl _ _ _ rfl Tryz.underlying103 Tryz.underlying22 _ 3 _ (by rfl) M3 (by unfold maxLen; omega) 5 (by decide) (by rfl) (.int .i64 17) (by rfl) ?_
  intro w4 M4 g4
  have I4 := Lib.hid ((((RdInv.first (k := 5) g1).next g2).next g3).next g4)
  have hlook := (MapV.look (m := wantM) M4 Tryz.underlying103 Tryz.underlying22 (Tryz.zeroW w4) 5 (by decide)).2
  rw [wantM_get 5 (by decide) (by decide), show ((wantS 5 : Nat) : Int) = 17 from rfl] at hlook
  clear M1 M2 M3 M4 g1 g2 g3 g4
  have R4 := Lib.hid (HBV.out.below I4.out.hb)
  have hlen := run_slice_len R4.out.slice
  have hlI : (b.length : Int) < 17 := by omega
  have HRF := Lib.hid (show readS 5 b = (Msg.none, [⟨shakeL, (b.length : Int), 160⟩]) from HRS.out)
  go_wp2_with fail
  refine (wrong_any (b.length : Int) _).mono ?_
  rintro e w8 ⟨ev, rfl, her, hb8⟩
  have HB8 := Lib.hid (I4.out.hb.trans (hb8.mono (I4.out.hb).size))
  have CR8 := Lib.hid ((I4.out.cr).below hb8)
  have HER := Lib.hid her
  clear hb8 her
  go_wp2_with (refine wpList_store_blk rfl _ (.tmp 4) (.tmp 65) rfl w.heap.size 0 msgZ (by rfl) (by rfl) (by kernel_rfl) (by simp [msgZ, Value.oneCell']) 27 _ CR8.out (by decide) ?_; intro w9 hC9 hg9)
  refine bodyPost_ret (read_res (m := Msg.none) (dv := .slice none 0 0) (ev := ev) hC9 (by rfl) (by rfl)) rfl ?_
  rw [HRF.out]
  exact read_fin HB8.out HER.out CR8.out hg9 (RSl.nil _)

set_option maxHeartbeats 8000000 in
set_option maxRecDepth 100000 in
theorem read_5_long (bv : Value) (b : List UInt8) (w : World) (hb : RSl bv b w) (hz : b.length ≤ 140737488351232) (hh : b.head? = some (letS 5)) (hl : 17 ≤ b.length) :
    Calls Tryz.prog 13 #[.int .i64 5, bv] w (RetME w.heap.size w (readS 5 b)) := by
  have HRD := Lib.hid (readS_dig 5 b (by decide) hh (by show ¬ b.length < 17; omega))
  have hpos : 0 < b.length := by cases b with | nil => cases hh | cons => simp
  have hne0 : ((b.length : Int) == 0) = false := beq_eq_false_iff_ne.2 (by omega)
  have hposI : (0 : Int) < (b.length : Int) := by omega
  have hb0 : b[0] = letS 5 := by cases b with | nil => cases hh | cons x r => simpa using hh
  have HBV := Lib.hid hb
  obtain ⟨a, c, rfl, hc1, hc2, hc⟩ := hb
  obtain ⟨g, o, rfl, hx⟩ := hc 0 hpos
  rw [Nat.add_zero] at hx
  have hx0 : (w.alloc (.cells msgZ.toArray 27)).cell? ⟨g, o, none⟩ = some (.int .u8 (letS 5).toNat) := by
    rw [World.cell?_alloc_lt w _ _ (World.block_lt_of_cell? w _ hx), ← hb0]; exact hx
  simp only [msgZ] at hx0
  have hne : (((letS 5).toNat : Int) != ((letS 5).toNat : Int)) = false := by simp
  have hmm := @run_makeMap Tryz.prog
  clear hc hx hh hb0
  go_enter Tryz.func13, Tryz.ntmps13
  go_wp2
  go_quiet ((go_at_call 29; exact Calls.quiet_of_same (letter_quiet _ _ (by decide) (by decide))))
  clear hx0
  generalize hbv : (Value.slice (some ⟨g, o, none⟩) b.length c) = bv at *
  clear hbv
  go_wp2_with (with_reducible refine stopIns _ _ _ _ rfl ?_)
  refine Stopped.of ?_
  refine wpList_mapV_ins rfl _ _ _ rfl Tryz.underlying103 Tryz.underlying22 _ 0 (fun _ => none) (by rfl) (MapV.made_at _ _ _ (by simp)) (by unfold maxLen; omega) 1 (by decide) (by rfl) (.int .i64 15) (by rfl) ?_
  intro w1 M1 g1
  refine wpList_mapV_ins rfl _ _ _ rfl Tryz.underlying103 Tryz.underlying22 _ 1 _ (by rfl) M1 (by unfold maxLen; omega) 3 (by decide) (by rfl) (.int .i64 19) (by rfl) ?_
  intro w2 M2 g2
  refine wpList_mapV_ins rfl _ _ _ rfl Tryz.underlying103 Tryz.underlying22 _ 2 _ (by rfl) M2 (by unfold maxLen; omega) 4 (by decide) (by rfl) (.int .i64 21) (by rfl) ?_
  intro w3 M3 g3
  refine wpList_mapV_ins rfl _ _ _ rfl Tryz.underlying103 Tryz.underlying22 _ 3 _ (by rfl) M3 (by unfold maxLen; omega) 5 (by decide) (by rfl) (.int .i64 17) (by rfl) ?_
  intro w4 M4 g4
  have I4 := Lib.hid ((((RdInv.first (k := 5) g1).next g2).next g3).next g4)
  have hlook := (MapV.look (m := wantM) M4 Tryz.underlying103 Tryz.underlying22 (Tryz.zeroW w4) 5 (by decide)).2
  rw [wantM_get 5 (by decide) (by decide), show ((wantS 5 : Nat) : Int) = 17 from rfl] at hlook
  clear M1 M2 M3 M4 g1 g2 g3 g4
  have R4 := Lib.hid (HBV.out.below I4.out.hb)
  have hlen := run_slice_len R4.out.slice
  have hlI : ¬ (b.length : Int) < 17 := by omega
  obtain ⟨v1, hv1, hs1, _⟩ := R4.out.sub 1 17 (by decide) hl
  have hs1 : ∀ w', (Instr.slice 25 bv (some (.int .i64 1)) (some (.int .i64 17)) none).run Tryz.prog w' = .ok v1 w' := hs1
  have hl16 : ((b.drop 1).take 16).length = 16 := by simp; omega
  have HC := Lib.hid (clone_any v1 ((b.drop 1).take 16) w4 hv1 (by omega))
  have HHB := Lib.hid I4.out.hb
  have HCM := Lib.hid I4.out.cm
  have HCR := Lib.hid I4.out.cr
  clear hv1
  go_wp2_with fail
  refine HC.out.mono ?_
  rintro e w6 ⟨v6, rfl, hv6, hb6⟩
  have HB6 := Lib.hid (HHB.out.trans (hb6.mono HHB.out.size))
  have CR6 := Lib.hid (HCR.out.below hb6)
  have hCM6 := HCM.out.below hb6
  have hs6 := hb6.size
  obtain ⟨_, hno⟩ | ⟨g6, c6, rfl, hg61, hg62, hc61, hc62⟩ := hv6.shape
  · rw [hno] at hl16; cases hl16
  rw [hl16] at hv6 ⊢
  have cc6 := hCM6.cell 6
  have ff6 := hCM6.frozen 6
  simp only [msgK, List.getElem?_cons_zero, List.getElem?_cons_succ] at cc6
  have CM7 := Lib.hid (hCM6.set_ 6 (.slice (some ⟨g6, 0, none⟩) 16 c6))
  have CR7 := Lib.hid (CR6.out.far (p := ⟨w.heap.size + 1, 6, none⟩) (by simp) (.slice (some ⟨g6, 0, none⟩) 16 c6))
  have HB7 := Lib.hid (HB6.out.setCell (p := ⟨w.heap.size + 1, 6, none⟩) (by simp) (.slice (some ⟨g6, 0, none⟩) 16 c6))
  have hng : g6 ≠ w.heap.size + 1 := fun e => by have := HCM.out.lt; omega
  have hng2 : g6 ≠ w.heap.size := fun e => by have := HCM.out.lt; omega
  have V7 := Lib.hid (hv6.frame (w' := w6.setCell ⟨w.heap.size + 1, 6, none⟩ (.slice (some ⟨g6, 0, none⟩) 16 c6)) (fun j hj => by cases hj; exact Below.heap_setCell _ _ _ _ hng))
  clear hb6 hCM6 hv6
  by_cases he : b.length = 17
  · have HRF := Lib.hid (show readS 5 b = (⟨5, 0, 0, 0, ⟨#[]⟩, ⟨#[]⟩, b.drop 1⟩, []) by rw [HRD.out, if_pos (show b.length = wantS 5 from he)]; rfl)
    have heI : ¬ (17 : Int) < (b.length : Int) := by omega
    have hdd : (b.drop 1).take 16 = b.drop 1 := List.take_of_length_le (by simp; omega)
    rw [hdd] at V7
    clear he
    have c0 := CM7.out.cell 0
    have c1 := CM7.out.cell 1
    have c2 := CM7.out.cell 2
    have c3 := CM7.out.cell 3
    have c4 := CM7.out.cell 4
    have c5 := CM7.out.cell 5
    have c7 := CM7.out.cell 6
    simp only [msgK, List.set_cons_succ, List.set_cons_zero, List.getElem?_cons_zero, List.getElem?_cons_succ] at c0 c1 c2 c3 c4 c5 c7
    go_wp2_with (refine wpList_store_blk rfl _ (.tmp 4) (.tmp 145) rfl w.heap.size 0 ([.int .i64 5, .int .u64 0, .int .u32 0, .int .u32 0, .string ⟨#[]⟩, .string ⟨#[]⟩, .slice (some ⟨g6, 0, none⟩) 16 c6]) (by rfl) (by rfl) (by kernel_rfl) (by simp [Value.oneCell']) 27 _ CR7.out (by simp [msgZ]) ?_; intro w8 hC8 hg8)
    refine bodyPost_ret (read_res (m := ⟨5, 0, 0, 0, ⟨#[]⟩, ⟨#[]⟩, b.drop 1⟩) (dv := .slice (some ⟨g6, 0, none⟩) 16 c6) (ev := .nilIface) hC8 (by rfl) (by rfl)) rfl ?_
    rw [HRF.out]
    exact read_fin HB7.out rfl CR7.out hg8 (V7.out.frame (w' := w8) (fun j hj => by cases hj; exact hg8.block _ (V7.out.block (g := g6) rfl).2 (by simpa using hng2))).rsl
  · have heI : (17 : Int) < (b.length : Int) := by omega
    have HRF := Lib.hid (show readS 5 b = (Msg.none, [⟨shakeL, (17 : Int), 160⟩]) from by rw [HRD.out, if_neg (show ¬ b.length = wantS 5 from he)]; rfl)
    go_wp2_with fail
    refine (wrong_any (17 : Int) _).mono ?_
    rintro e w8 ⟨ev, rfl, her, hb8⟩
    have HB8 := Lib.hid (HB7.out.trans (hb8.mono (HB7.out).size))
    have CR8 := Lib.hid ((CR7.out).below hb8)
    have HER := Lib.hid her
    clear hb8 her
    go_wp2_with (refine wpList_store_blk rfl _ (.tmp 4) (.tmp 134) rfl w.heap.size 0 msgZ (by rfl) (by rfl) (by kernel_rfl) (by simp [msgZ, Value.oneCell']) 27 _ CR8.out (by decide) ?_; intro w9 hC9 hg9)
    refine bodyPost_ret (read_res (m := Msg.none) (dv := .slice none 0 0) (ev := ev) hC9 (by rfl) (by rfl)) rfl ?_
    rw [HRF.out]
    exact read_fin HB8.out HER.out CR8.out hg9 (RSl.nil _)
set_option maxHeartbeats 8000000 in
set_option maxRecDepth 100000 in
theorem read_4_short (bv : Value) (b : List UInt8) (w : World) (hb : RSl bv b w) (hz : b.length ≤ 140737488351232) (hh : b.head? = some (letS 4)) (hl : b.length < 21) :
    Calls Tryz.prog 13 #[.int .i64 4, bv] w (RetME w.heap.size w (readS 4 b)) := by
  have HRS := Lib.hid (readS_short 4 b (by decide) (by decide) (by decide) hh hl)
  have hpos : 0 < b.length := by cases b with | nil => cases hh | cons => simp
  have hne0 : ((b.length : Int) == 0) = false := beq_eq_false_iff_ne.2 (by omega)
  have hposI : (0 : Int) < (b.length : Int) := by omega
  have hb0 : b[0] = letS 4 := by cases b with | nil => cases hh | cons x r => simpa using hh
  have HBV := Lib.hid hb
  obtain ⟨a, c, rfl, hc1, hc2, hc⟩ := hb
  obtain ⟨g, o, rfl, hx⟩ := hc 0 hpos
  rw [Nat.add_zero] at hx
  have hx0 : (w.alloc (.cells msgZ.toArray 27)).cell? ⟨g, o, none⟩ = some (.int .u8 (letS 4).toNat) := by
    rw [World.cell?_alloc_lt w _ _ (World.block_lt_of_cell? w _ hx), ← hb0]; exact hx
  simp only [msgZ] at hx0
  have hne : (((letS 4).toNat : Int) != ((letS 4).toNat : Int)) = false := by simp
  have hmm := @run_makeMap Tryz.prog
  clear hc hx hh hb0
  go_enter Tryz.func13, Tryz.ntmps13
  go_wp2
  go_quiet ((go_at_call 29; exact Calls.quiet_of_same (letter_quiet _ _ (by decide) (by decide))))
  clear hx0
  generalize hbv : (Value.slice (some ⟨g, o, none⟩) b.length c) = bv at *
  clear hbv
  go_wp2_with (with_reducible refine stopIns _ _ _ _ rfl ?_)
  refine Stopped.of ?_
  refine wpList_mapV_ins rfl _ _ _ rfl Tryz.underlying103 Tryz.underlying22 _ 0 (fun _ => none) (by rfl) (MapV.made_at _ _ _ (by simp)) (by unfold maxLen; omega) 1 (by decide) (by rfl) (.int .i64 15) (by rfl) ?_
  intro w1 M1 g1
  refine wpList_mapV_ins rfl _ _ _ rfl Tryz.underlying103 Tryz.underlying22 _ 1 _ (by rfl) M1 (by unfold maxLen; omega) 3 (by decide) (by rfl) (.int .i64 19) (by rfl) ?_
  intro w2 M2 g2
  refine wpList_mapV_ins rfl _ _ _ rfl Tryz.underlying103 Tryz.underlying22 _ 2 _ (by rfl) M2 (by unfold maxLen; omega) 4 (by decide) (by rfl) (.int .i64 21) (by rfl) ?_
  intro w3 M3 g3
  refine wpList_mapV_ins rfl _ _ _ rfl Tryz.underlying103 Tryz.underlying22 _ 3 _ (by rfl) M3 (by unfold maxLen; omega) 5 (by decide) (by rfl) (.int .i64 17) (by rfl) ?_
  intro w4 M4 g4
  have I4 := Lib.hid ((((RdInv.first (k := 4) g1).next g2).next g3).next g4)
  have hlook := (MapV.look (m := wantM) M4 Tryz.underlying103 Tryz.underlying22 (Tryz.zeroW w4) 4 (by decide)).2
  rw [wantM_get 4 (by decide) (by decide), show ((wantS 4 : Nat) : Int) = 21 from rfl] at hlook
  clear M1 M2 M3 M4 g1 g2 g3 g4
  have R4 := Lib.hid (HBV.out.below I4.out.hb)
  have hlen := run_slice_len R4.out.slice
  have hlI : (b.length : Int) < 21 := by omega
  have HRF := Lib.hid (show readS 4 b = (Msg.none, [⟨shakeL, (b.length : Int), 160⟩]) from HRS.out)
  go_wp2_with fail
  refine (wrong_any (b.length : Int) _).mono ?_
  rintro e w8 ⟨ev, rfl, her, hb8⟩
  have HB8 := Lib.hid (I4.out.hb.trans (hb8.mono (I4.out.hb).size))
  have CR8 := Lib.hid ((I4.out.cr).below hb8)
  have HER := Lib.hid her
  clear hb8 her
  go_wp2_with (refine wpList_store_blk rfl _ (.tmp 4) (.tmp 65) rfl w.heap.size 0 msgZ (by rfl) (by rfl) (by kernel_rfl) (by simp [msgZ, Value.oneCell']) 27 _ CR8.out (by decide) ?_; intro w9 hC9 hg9)
  refine bodyPost_ret (read_res (m := Msg.none) (dv := .slice none 0 0) (ev := ev) hC9 (by rfl) (by rfl)) rfl ?_
  rw [HRF.out]
  exact read_fin HB8.out HER.out CR8.out hg9 (RSl.nil _)

set_option maxHeartbeats 8000000 in
set_option maxRecDepth 100000 in
theorem read_4_long (bv : Value) (b : List UInt8) (w : World) (hb : RSl bv b w) (hz : b.length ≤ 140737488351232) (hh : b.head? = some (letS 4)) (hl : 21 ≤ b.length) :
    Calls Tryz.prog 13 #[.int .i64 4, bv] w (RetME w.heap.size w (readS 4 b)) := by
  have HRD := Lib.hid (readS_dig 4 b (by decide) hh (by show ¬ b.length < 21; omega))
  have hpos : 0 < b.length := by cases b with | nil => cases hh | cons => simp
  have hne0 : ((b.length : Int) == 0) = false := beq_eq_false_iff_ne.2 (by omega)
  have hposI : (0 : Int) < (b.length : Int) := by omega
  have hb0 : b[0] = letS 4 := by cases b with | nil => cases hh | cons x r => simpa using hh
  have HBV := Lib.hid hb
  obtain ⟨a, c, rfl, hc1, hc2, hc⟩ := hb
  obtain ⟨g, o, rfl, hx⟩ := hc 0 hpos
  rw [Nat.add_zero] at hx
  have hx0 : (w.alloc (.cells msgZ.toArray 27)).cell? ⟨g, o, none⟩ = some (.int .u8 (letS 4).toNat) := by
    rw [World.cell?_alloc_lt w _ _ (World.block_lt_of_cell? w _ hx), ← hb0]; exact hx
  simp only [msgZ] at hx0
  have hne : (((letS 4).toNat : Int) != ((letS 4).toNat : Int)) = false := by simp
  have hmm := @run_makeMap Tryz.prog
  clear hc hx hh hb0
  go_enter Tryz.func13, Tryz.ntmps13
  go_wp2
  go_quiet ((go_at_call 29; exact Calls.quiet_of_same (letter_quiet _ _ (by decide) (by decide))))
  clear hx0
  generalize hbv : (Value.slice (some ⟨g, o, none⟩) b.length c) = bv at *
  clear hbv
  go_wp2_with (with_reducible refine stopIns _ _ _ _ rfl ?_)
  refine Stopped.of ?_
  refine wpList_mapV_ins rfl _ _ _ rfl Tryz.underlying103 Tryz.underlying22 _ 0 (fun _ => none) (by rfl) (MapV.made_at _ _ _ (by simp)) (by unfold maxLen; omega) 1 (by decide) (by rfl) (.int .i64 15) (by rfl) ?_
  intro w1 M1 g1
  refine wpList_mapV_ins rfl _ _ _ rfl Tryz.underlying103 Tryz.underlying22 _ 1 _ (by rfl) M1 (by unfold maxLen; omega) 3 (by decide) (by rfl) (.int .i64 19) (by rfl) ?_
  intro w2 M2 g2
  refine wpList_mapV_ins rfl _ _ _ rfl Tryz.underlying103 Tryz.underlying22 _ 2 _ (by rfl) M2 (by unfold maxLen; omega) 4 (by decide) (by rfl) (.int .i64 21) (by rfl) ?_
  intro w3 M3 g3
  refine wpList_mapV_ins rfl _ _ _ rfl Tryz.underlying103 Tryz.underlying22 _ 3 _ (by rfl) M3 (by unfold maxLen; omega) 5 (by decide) (by rfl) (.int .i64 17) (by rfl) ?_
  intro w4 M4 g4
  have I4 := Lib.hid ((((RdInv.first (k := 4) g1).next g2).next g3).next g4)
  have hlook := (MapV.look (m := wantM) M4 Tryz.underlying103 Tryz.underlying22 (Tryz.zeroW w4) 4 (by decide)).2
  rw [wantM_get 4 (by decide) (by decide), show ((wantS 4 : Nat) : Int) = 21 from rfl] at hlook
  clear M1 M2 M3 M4 g1 g2 g3 g4
  have R4 := Lib.hid (HBV.out.below I4.out.hb)
  have hlen := run_slice_len R4.out.slice
  have hlI : ¬ (b.length : Int) < 21 := by omega
  obtain ⟨v1, hv1, hs1, _⟩ := R4.out.sub 5 21 (by decide) hl
  have hs1 : ∀ w', (Instr.slice 25 bv (some (.int .i64 5)) (some (.int .i64 21)) none).run Tryz.prog w' = .ok v1 w' := hs1
  have hl16 : ((b.drop 5).take 16).length = 16 := by simp; omega
  obtain ⟨v2, hv2, _, hs2, _⟩ := R4.out.sub 1 b.length (by omega) (Nat.le_refl _)
  have hs2 : ∀ w', (Instr.slice 25 bv (some (.int .i64 1)) none none).run Tryz.prog w' = .ok v2 w' := hs2 rfl
  have hv2 : RSl v2 (b.drop 1) w4 := by rw [List.take_of_length_le (by simp)] at hv2; exact hv2
  have HN := Lib.hid (number_any v2 (b.drop 1) 4 w4 hv2 (by simp; omega) (by decide))
  have hnb := numS_bd ((b.drop 1).take 4)
  have hnl : ((b.drop 1).take 4).length = 4 := by simp; omega
  rw [hnl] at hnb
  have hnb0 := hnb.1
  have hnb1 : numS ((b.drop 1).take 4) < 4294967296 := hnb.2
  have hwr : IntKind.u32.wrap (numS ((b.drop 1).take 4)) = numS ((b.drop 1).take 4) := by rw [IntKind.wrap_u32]; omega
  have c3 := I4.out.cm.cell 3
  have f3 := I4.out.cm.frozen 3
  simp only [msgK, List.getElem?_cons_zero, List.getElem?_cons_succ] at c3
  have hCM := I4.out.cm.set_ 3 (.int .u32 (numS ((b.drop 1).take 4)))
  have hCR := I4.out.cr.far (p := ⟨w.heap.size + 1, 3, none⟩) (by simp) (.int .u32 (numS ((b.drop 1).take 4)))
  have hHB := I4.out.hb.setCell (p := ⟨w.heap.size + 1, 3, none⟩) (by simp) (.int .u32 (numS ((b.drop 1).take 4)))
  have hv1' : RSl v1 ((b.drop 5).take 16) (w4.setCell ⟨w.heap.size + 1, 3, none⟩ (.int .u32 (numS ((b.drop 1).take 4)))) := rsl_far hv1 (by
    intro p x hx hp
    exact World.cell?_setCell_other w4 _ p _ (fun e => by
      subst e
      rw [I4.out.cm.cell 3] at hx
      simp [msgK] at hx
      obtain ⟨n, hn⟩ := hp
      rw [hn] at hx
      injection hx with hx
      cases hx))
  have HC := Lib.hid (clone_any v1 ((b.drop 5).take 16) _ hv1' (by omega))
  have HHB := Lib.hid hHB
  have HCM := Lib.hid hCM
  have HCR := Lib.hid hCR
  generalize hNN : numS ((b.drop 1).take 4) = NN at *
  clear hnb hv2 hCM hCR hHB hv1' hnl
  go_wp2_with fail
  refine HN.out.mono ?_
  rintro e w5 ⟨rfl, rfl⟩
  clear hv1
  go_wp2_with fail
  refine HC.out.mono ?_
  rintro e w6 ⟨v6, rfl, hv6, hb6⟩
  have HB6 := Lib.hid (HHB.out.trans (hb6.mono HHB.out.size))
  have CR6 := Lib.hid (HCR.out.below hb6)
  have hCM6 := HCM.out.below hb6
  have hs6 := hb6.size
  obtain ⟨_, hno⟩ | ⟨g6, c6, rfl, hg61, hg62, hc61, hc62⟩ := hv6.shape
  · rw [hno] at hl16; cases hl16
  rw [hl16] at hv6 ⊢
  have cc6 := hCM6.cell 6
  have ff6 := hCM6.frozen 6
  simp only [msgK, List.set_cons_succ, List.set_cons_zero, List.getElem?_cons_zero, List.getElem?_cons_succ] at cc6
  have CM7 := Lib.hid (hCM6.set_ 6 (.slice (some ⟨g6, 0, none⟩) 16 c6))
  have CR7 := Lib.hid (CR6.out.far (p := ⟨w.heap.size + 1, 6, none⟩) (by simp) (.slice (some ⟨g6, 0, none⟩) 16 c6))
  have HB7 := Lib.hid (HB6.out.setCell (p := ⟨w.heap.size + 1, 6, none⟩) (by simp) (.slice (some ⟨g6, 0, none⟩) 16 c6))
  have hng : g6 ≠ w.heap.size + 1 := fun e => by have := HCM.out.lt; omega
  have hng2 : g6 ≠ w.heap.size := fun e => by have := HCM.out.lt; omega
  have V7 := Lib.hid (hv6.frame (w' := w6.setCell ⟨w.heap.size + 1, 6, none⟩ (.slice (some ⟨g6, 0, none⟩) 16 c6)) (fun j hj => by cases hj; exact Below.heap_setCell _ _ _ _ hng))
  clear hb6 hCM6 hv6
  by_cases he : b.length = 21
  · have HRF := Lib.hid (show readS 4 b = (⟨4, 0, 0, NN, ⟨#[]⟩, ⟨#[]⟩, b.drop 5⟩, []) by rw [HRD.out, if_pos (show b.length = wantS 4 from he)]; rw [← hNN]; rfl)
    have heI : ¬ (21 : Int) < (b.length : Int) := by omega
    have hdd : (b.drop 5).take 16 = b.drop 5 := List.take_of_length_le (by simp; omega)
    rw [hdd] at V7
    clear he
    have c0 := CM7.out.cell 0
    have c1 := CM7.out.cell 1
    have c2 := CM7.out.cell 2
    have c3 := CM7.out.cell 3
    have c4 := CM7.out.cell 4
    have c5 := CM7.out.cell 5
    have c7 := CM7.out.cell 6
    simp only [msgK, List.set_cons_succ, List.set_cons_zero, List.getElem?_cons_zero, List.getElem?_cons_succ] at c0 c1 c2 c3 c4 c5 c7
    go_wp2_with (refine wpList_store_blk rfl _ (.tmp 4) (.tmp 145) rfl w.heap.size 0 ([.int .i64 4, .int .u64 0, .int .u32 0, .int .u32 NN, .string ⟨#[]⟩, .string ⟨#[]⟩, .slice (some ⟨g6, 0, none⟩) 16 c6]) (by rfl) (by rfl) (by kernel_rfl) (by simp [Value.oneCell']) 27 _ CR7.out (by simp [msgZ]) ?_; intro w8 hC8 hg8)
    refine bodyPost_ret (read_res (m := ⟨4, 0, 0, NN, ⟨#[]⟩, ⟨#[]⟩, b.drop 5⟩) (dv := .slice (some ⟨g6, 0, none⟩) 16 c6) (ev := .nilIface) hC8 (by rfl) (by rfl)) rfl ?_
    rw [HRF.out]
    exact read_fin HB7.out rfl CR7.out hg8 (V7.out.frame (w' := w8) (fun j hj => by cases hj; exact hg8.block _ (V7.out.block (g := g6) rfl).2 (by simpa using hng2))).rsl
  · have heI : (21 : Int) < (b.length : Int) := by omega
    have HRF := Lib.hid (show readS 4 b = (Msg.none, [⟨shakeL, (21 : Int), 160⟩]) from by rw [HRD.out, if_neg (show ¬ b.length = wantS 4 from he)]; rfl)
    go_wp2_with fail
    refine (wrong_any (21 : Int) _).mono ?_
    rintro e w8 ⟨ev, rfl, her, hb8⟩
    have HB8 := Lib.hid (HB7.out.trans (hb8.mono (HB7.out).size))
    have CR8 := Lib.hid ((CR7.out).below hb8)
    have HER := Lib.hid her
    clear hb8 her
    go_wp2_with (refine wpList_store_blk rfl _ (.tmp 4) (.tmp 134) rfl w.heap.size 0 msgZ (by rfl) (by rfl) (by kernel_rfl) (by simp [msgZ, Value.oneCell']) 27 _ CR8.out (by decide) ?_; intro w9 hC9 hg9)
    refine bodyPost_ret (read_res (m := Msg.none) (dv := .slice none 0 0) (ev := ev) hC9 (by rfl) (by rfl)) rfl ?_
    rw [HRF.out]
    exact read_fin HB8.out HER.out CR8.out hg9 (RSl.nil _)
theorem read_45 (k : Int) (hk : k = 4 ∨ k = 5) (bv : Value) (b : List UInt8) (w : World) (hb : RSl bv b w) (hz : b.length ≤ 140737488351232) (hh : b.head? = some (letS k)) :
    Calls Tryz.prog 13 #[.int .i64 k, bv] w (RetME w.heap.size w (readS k b)) := by
  rcases hk with rfl | rfl
  · rcases Nat.lt_or_ge b.length 21 with h | h
    · exact read_4_short bv b w hb hz hh h
    · exact read_4_long bv b w hb hz hh h
  · rcases Nat.lt_or_ge b.length 17 with h | h
    · exact read_5_short bv b w hb hz hh h
    · exact read_5_long bv b w hb hz hh h
end Go.Proofs.YtokkokgdjnkbnaaGreatDoor
end
section
/- The reference's Write, of the kinds with a name; of all. -/
open Go Go.RowKit
namespace Go.Proofs.YtokkokgdjnkbnaaGreatDoor

theorem beN_join (n : Int) : beN (n / 4294967296) 4 ++ beN (n % 4294967296) 4 = beN n 8 := by
  simp only [beN, b8]
  have e : ∀ d : Nat, d ≤ 3 → n / 4294967296 / 2 ^ (8 * d) % 256 = n / 2 ^ (8 * (d + 4)) % 256 := by
    intro d hd
    have : d = 0 ∨ d = 1 ∨ d = 2 ∨ d = 3 := by omega
    rcases this with rfl | rfl | rfl | rfl <;> omega
  have e2 : ∀ d : Nat, d ≤ 3 → n % 4294967296 / 2 ^ (8 * d) % 256 = n / 2 ^ (8 * d) % 256 := by
    intro d hd
    have : d = 0 ∨ d = 1 ∨ d = 2 ∨ d = 3 := by omega
    rcases this with rfl | rfl | rfl | rfl <;> omega
  rw [e 3 (by omega), e 2 (by omega), e 1 (by omega), e 0 (by omega), e2 3 (by omega), e2 2 (by omega), e2 1 (by omega), e2 0 (by omega)]
  rfl
theorem two_cells (n : Int) : [Value.int .u8 (n / 256 % 256), .int .u8 (n % 256)] = bytesV (beN n 2) := by
  simp only [beN, bytesV, List.map_cons, List.map_nil, byteV, b8_val]
  simp

set_option maxHeartbeats 8000000 in
set_option maxRecDepth 100000 in
theorem writeR_1 (fl cr ch : Int) (nm st : ByteArray) (dg : List UInt8) (dv : Value) (w : World) (hd : RSl dv dg w) (hf0 : 0 ≤ fl) (hf1 : fl < 18446744073709551616) (hr0 : 0 ≤ cr) (hr1 : cr < 4294967296) (_h0 : 0 ≤ ch) (_h1 : ch < 4294967296) (hz : nm.size ≤ 140737488351232) (hf : formS ⟨1, fl, cr, ch, nm, st, dg⟩ = true) :
    Calls Tryz.prog 10 #[(Msg.mk 1 fl cr ch nm st dg).val dv] w (RetBL w.heap.size w (writeS ⟨1, fl, cr, ch, nm, st, dg⟩)) := by
  have HR1 := Lib.hid (show (nodeS nm).2.2 ≠ [] → writeS ⟨1, fl, cr, ch, nm, st, dg⟩ = ([], [⟨shakeL, 0, 24⟩, ⟨atomL, 0, 24⟩]) by
    intro hn; unfold writeS; rw [if_neg (by rw [hf]; decide)]; simp [hn])
  have HR2 := Lib.hid (show (nodeS nm).2.2 = [] → writeS ⟨1, fl, cr, ch, nm, st, dg⟩ = (78 :: (beN fl 8 ++ beN cr 4 ++ beN nm.size 2 ++ nm.data.toList), []) by
    intro hn; unfold writeS; rw [if_neg (by rw [hf]; decide)]; simp [hn])
  have HF := Lib.hid (fields_any ⟨1, fl, cr, ch, nm, st, dg⟩ dv (w.alloc (.cells [.int .i64 1, .int .u64 fl, .int .u32 cr, .int .u32 ch, .string nm, .string st, dv].toArray 27)) (hd.alloc _))
  rw [hf] at HF
  obtain ⟨a, c, rfl, _, _⟩ := hd.shape
  have hn2 : (nodeS nm).2.2 = [] → nm.size ≤ 64 := nodeS_size nm
  have hnc : (nodeS nm).2.2 = [] ∨ (nodeS nm).2.2 = [⟨atomL, 0, 24⟩] := nodeS_two nm
  have HJ := Lib.hid (beN_join fl)
  have hnq := fun (w : World) (a : Option Addr) (n c : Nat) => run_neq_slice_nil_any (P := Tryz.prog) w 32 98 a n c 0 0 Tryz.underlying32
  clear hd hf
  unfold Msg.val at *
  go_enter Tryz.func10, Tryz.ntmps10
  go_wp2_with fail
  refine HF.out.mono ?_
  rintro e w1 ⟨rfl, hb1⟩
  have hb1' := ((Below.refl _ w).alloc (Nat.le_refl _) _).trans (hb1.mono (B' := w.heap.size) (by simp))
  have HB := Lib.hid hb1'
  have hwz := hb1.size
  simp at hwz
  have hC1 := (Cells.new w _ _).below hb1
  have C1 := Lib.hid hC1
  have c0 := hC1.cell 0
  have c4 := hC1.cell 4
  simp only [List.getElem?_cons_zero, List.getElem?_cons_succ] at c0 c4
  have HN := Lib.hid (nodeR_nil nm w1 hz)
  clear hb1 hb1' hC1
  go_wp2_with fail
  refine HN.out.mono ?_
  rintro e w3 ⟨lv, rfl, hlk, hb3, hnil⟩
  rw [nodeRS_eq] at hlk hnil ⊢
  have hb3' := HB.out.trans (hb3.mono HB.out.size)
  have HB3 := Lib.hid hb3'
  rcases hnc with hn | hn
  rotate_left
  · have HR := Lib.hid (HR1.out (by rw [hn]; simp))
    rw [hn] at hlk
    have HO := Lib.hid (over08_any 0 lv ⟨atomL, 0, 24⟩ [] _ w3 hlk (by decide))
    obtain ⟨_, hno⟩ | ⟨lb, lc, rfl, _⟩ := hlk.shape
    · cases hno
    clear hb3 hb3' hn hn2 HR1 HR2 hlk hnil
    go_wp2_with fail
    refine HO.out.mono ?_
    rintro e w4 ⟨lv4, rfl, hlk4, hb4⟩
    go_wp2
    go_ret2
    rw [HR.out]
    exact ⟨_, _, rfl, BufIs.nil _ _, hlk4.base HB3.out.size, HB3.out.trans (hb4.mono HB3.out.size)⟩
  have HR := Lib.hid (HR2.out hn)
  have hnz := hn2 hn
  have hs3 := hb3.size
  have hC3 := C1.out.below hb3
  have C3 := Lib.hid hC3
  have e0 := hC3.cell 0
  have e1 := hC3.cell 1
  have hD := hC3.drew.alloc (.cells #[.int .u8 78] 5)
  have d1 := hD.cell 1
  simp only [List.getElem?_cons_zero, List.getElem?_cons_succ] at e0 e1 d1
  have V3 := Lib.hid (BufIs.one (w := w3.drew) 78)
  have hq0 : 0 ≤ fl / 4294967296 := by omega
  have hq1 : fl / 4294967296 < 4294967296 := by omega
  have hm0 : 0 ≤ fl % 4294967296 := by omega
  have hm1 : fl % 4294967296 < 4294967296 := by omega
  have hwq : IntKind.u32.wrap (fl / 4294967296) = fl / 4294967296 := by rw [IntKind.wrap_u32]; omega
  have hwm : IntKind.u32.wrap fl = fl % 4294967296 := IntKind.wrap_u32 fl
  obtain rfl := hnil hn
  clear hb3 hb3' hn hn2 HR1 HR2 hC3 HN hlk hnil hD
  have TOK := Lib.hid True.intro
  go_wp2_with fail
  go_region_held3 (fun w' => w'.cell? ⟨w.heap.size, 1, none⟩ = some (.int .u64 fl)) (go_keep)
    (first
      | (have tok := TOK.out
         go_at_call 35; refine (four_any w3.heap.size _ [78] (fl / 4294967296) _ hq0 hq1 V3.out (by simp) (by simp)).mono ?_; rintro e w4 ⟨v4, rfl, hv4, hb4⟩
         clear TOK
         have hb34 : Below w3.heap.size w3 w4 := (Below.drew (Below.refl w3.heap.size w3)).alloc (Nat.le_refl _) _ |>.trans hb4
         have hC4 := C3.out.belowB hb34 (by omega)
         have C4 := Lib.hid hC4
         have f1 := hC4.cell 1
         simp only [List.getElem?_cons_zero, List.getElem?_cons_succ] at f1
         have V4 := Lib.hid hv4
         have L4 := Lib.hid hb34
         have hs4 := hb34.size
         clear hb4 hb34 hC4 hv4)
      | (go_at_call 35; refine (four_any w3.heap.size _ ([78] ++ beN (fl / 4294967296) 4) (fl % 4294967296) _ hm0 hm1 V4.out hs4 (by simp [beN_length])).mono ?_; rintro e w5 ⟨v5, rfl, hv5, hb5⟩
         have hb35 := L4.out.trans hb5
         have hC5 := C4.out.belowB hb5 (by omega)
         have C5 := Lib.hid hC5
         have g0 := hC5.cell 0
         have g1 := hC5.cell 1
         have g2 := hC5.cell 2
         have g3 := hC5.cell 3
         simp only [List.getElem?_cons_zero, List.getElem?_cons_succ] at g0 g1 g2 g3
         have V5 := Lib.hid (show BufIs w3.heap.size v5 ([78] ++ beN fl 8) w5 by rw [List.append_assoc, HJ.out] at hv5; exact hv5)
         have L5 := Lib.hid hb35
         have hs5 := hb35.size
         clear hb5 hb35 hC5 hv5))

  go_wp2_with fail
  refine (four_any w3.heap.size _ ([78] ++ beN fl 8) cr _ (by omega) (by omega) V5.out (by omega) (by simp [beN_length])).mono ?_
  rintro e w6 ⟨v6, rfl, hv6, hb6⟩
  have hC6 := C5.out.belowB hb6 (by omega)
  have C6 := Lib.hid hC6
  have V6 := Lib.hid hv6
  have L6 := Lib.hid (L5.out.trans hb6)
  have hs6 := (L5.out.trans hb6).size
  have x6_2 := hC6.cell 2
  have x6_4 := hC6.cell 4
  simp only [List.getElem?_cons_zero, List.getElem?_cons_succ] at x6_2 x6_4
  clear hC6 hb6 hv6
  go_wp2_with (at_builtin; refine stop ?_)
  refine Stopped.of ?_
  refine wp_app_row rfl (.tmp 67) (.tmp 77) rfl w3.heap.size _ (([78] ++ beN fl 8) ++ beN cr 4) rfl (V6.out.alloc _) ⟨w6.heap.size, 0, none⟩ 2 2 (beN nm.size 2) rfl rfl ?_ (by simp [beN_length]) (by simp; omega) ?_
  · have := lit_cells w6 (beN nm.size 2) _ rfl
    rw [← two_cells, show (nm.size : Int) / 256 % 256 = (nm.size : Int) / 256 by omega, show (nm.size : Int) % 256 = nm.size by omega] at this
    exact this
  intro v7 w7 hb7 hg7
  have hL7 := below_grown (L6.out.alloc (by omega) _) (V6.out.alloc _) (Nat.le_refl _) (by simp; omega) hg7
  have L7 := Lib.hid hL7
  have V7 := Lib.hid hb7
  have hs7 := hL7.size
  have hC7 := C3.out.belowB hL7 (by omega)
  have y4 := hC7.cell 4
  simp only [List.getElem?_cons_zero, List.getElem?_cons_succ] at y4
  clear hb7 hg7 hL7 hC7
  go_wp2_with (at_builtin; refine stop ?_)
  refine Stopped.of ?_
  refine wp_app_str rfl (.tmp 79) (.tmp 81) rfl w3.heap.size _ ((([78] ++ beN fl 8) ++ beN cr 4) ++ beN nm.size 2) rfl V7.out nm rfl (by simp [beN_length]; omega) (by omega) ?_
  intro v' w9 hb9 hg9
  have W9 := Lib.hid (below_grown L7.out V7.out (Nat.le_refl _) (by omega) hg9)
  have H9 := Lib.hid hb9
  clear hb9 hg9
  go_wp2
  go_ret2
  rw [HR.out]
  exact ⟨_, _, rfl, by have := H9.out.base (base' := w.heap.size) (by omega); simpa using this, LinksIs.nil _ _, HB3.out.trans (W9.out.mono (by omega))⟩

set_option maxHeartbeats 8000000 in
set_option maxRecDepth 100000 in
theorem writeR_3 (fl cr ch : Int) (nm st : ByteArray) (dg : List UInt8) (dv : Value) (w : World) (hd : RSl dv dg w) (hf0 : 0 ≤ fl) (hf1 : fl < 18446744073709551616) (hr0 : 0 ≤ cr) (hr1 : cr < 4294967296) (h0 : 0 ≤ ch) (h1 : ch < 4294967296) (hz : nm.size ≤ 140737488351232) (hf : formS ⟨3, fl, cr, ch, nm, st, dg⟩ = true) :
    Calls Tryz.prog 10 #[(Msg.mk 3 fl cr ch nm st dg).val dv] w (RetBL w.heap.size w (writeS ⟨3, fl, cr, ch, nm, st, dg⟩)) := by
  have HR1 := Lib.hid (show (nodeS nm).2.2 ≠ [] → writeS ⟨3, fl, cr, ch, nm, st, dg⟩ = ([], [⟨shakeL, 0, 24⟩, ⟨atomL, 0, 24⟩]) by
    intro hn; unfold writeS; rw [if_neg (by rw [hf]; decide)]; simp [hn])
  have HR2 := Lib.hid (show (nodeS nm).2.2 = [] → writeS ⟨3, fl, cr, ch, nm, st, dg⟩ = (78 :: (beN fl 8 ++ beN ch 4 ++ beN cr 4 ++ beN nm.size 2 ++ nm.data.toList), []) by
    intro hn; unfold writeS; rw [if_neg (by rw [hf]; decide)]; simp [hn])
  have HF := Lib.hid (fields_any ⟨3, fl, cr, ch, nm, st, dg⟩ dv (w.alloc (.cells [.int .i64 3, .int .u64 fl, .int .u32 cr, .int .u32 ch, .string nm, .string st, dv].toArray 27)) (hd.alloc _))
  rw [hf] at HF
  obtain ⟨a, c, rfl, _, _⟩ := hd.shape
  have hn2 : (nodeS nm).2.2 = [] → nm.size ≤ 64 := nodeS_size nm
  have hnc : (nodeS nm).2.2 = [] ∨ (nodeS nm).2.2 = [⟨atomL, 0, 24⟩] := nodeS_two nm
  have HJ := Lib.hid (beN_join fl)
  have hnq := fun (w : World) (a : Option Addr) (n c : Nat) => run_neq_slice_nil_any (P := Tryz.prog) w 32 98 a n c 0 0 Tryz.underlying32
  clear hd hf
  unfold Msg.val at *
  go_enter Tryz.func10, Tryz.ntmps10
  go_wp2_with fail
  refine HF.out.mono ?_
  rintro e w1 ⟨rfl, hb1⟩
  have hb1' := ((Below.refl _ w).alloc (Nat.le_refl _) _).trans (hb1.mono (B' := w.heap.size) (by simp))
  have HB := Lib.hid hb1'
  have hwz := hb1.size
  simp at hwz
  have hC1 := (Cells.new w _ _).below hb1
  have C1 := Lib.hid hC1
  have c0 := hC1.cell 0
  have c4 := hC1.cell 4
  simp only [List.getElem?_cons_zero, List.getElem?_cons_succ] at c0 c4
  have HN := Lib.hid (nodeR_nil nm w1 hz)
  clear hb1 hb1' hC1
  go_wp2_with fail
  refine HN.out.mono ?_
  rintro e w3 ⟨lv, rfl, hlk, hb3, hnil⟩
  rw [nodeRS_eq] at hlk hnil ⊢
  have hb3' := HB.out.trans (hb3.mono HB.out.size)
  have HB3 := Lib.hid hb3'
  rcases hnc with hn | hn
  rotate_left
  · have HR := Lib.hid (HR1.out (by rw [hn]; simp))
    rw [hn] at hlk
    have HO := Lib.hid (over08_any 0 lv ⟨atomL, 0, 24⟩ [] _ w3 hlk (by decide))
    obtain ⟨_, hno⟩ | ⟨lb, lc, rfl, _⟩ := hlk.shape
    · cases hno
    clear hb3 hb3' hn hn2 HR1 HR2 hlk hnil
    go_wp2_with fail
    refine HO.out.mono ?_
    rintro e w4 ⟨lv4, rfl, hlk4, hb4⟩
    go_wp2
    go_ret2
    rw [HR.out]
    exact ⟨_, _, rfl, BufIs.nil _ _, hlk4.base HB3.out.size, HB3.out.trans (hb4.mono HB3.out.size)⟩
  have HR := Lib.hid (HR2.out hn)
  have hnz := hn2 hn
  have hs3 := hb3.size
  have hC3 := C1.out.below hb3
  have C3 := Lib.hid hC3
  have e0 := hC3.cell 0
  have e1 := hC3.cell 1
  have hD := hC3.drew.alloc (.cells #[.int .u8 78] 5)
  have d1 := hD.cell 1
  simp only [List.getElem?_cons_zero, List.getElem?_cons_succ] at e0 e1 d1
  have V3 := Lib.hid (BufIs.one (w := w3.drew) 78)
  have hq0 : 0 ≤ fl / 4294967296 := by omega
  have hq1 : fl / 4294967296 < 4294967296 := by omega
  have hm0 : 0 ≤ fl % 4294967296 := by omega
  have hm1 : fl % 4294967296 < 4294967296 := by omega
  have hwq : IntKind.u32.wrap (fl / 4294967296) = fl / 4294967296 := by rw [IntKind.wrap_u32]; omega
  have hwm : IntKind.u32.wrap fl = fl % 4294967296 := IntKind.wrap_u32 fl
  obtain rfl := hnil hn
  clear hb3 hb3' hn hn2 HR1 HR2 hC3 HN hlk hnil hD
  have TOK := Lib.hid True.intro
  go_wp2_with fail
  go_region_held3 (fun w' => w'.cell? ⟨w.heap.size, 1, none⟩ = some (.int .u64 fl)) (go_keep)
    (first
      | (have tok := TOK.out
         go_at_call 35; refine (four_any w3.heap.size _ [78] (fl / 4294967296) _ hq0 hq1 V3.out (by simp) (by simp)).mono ?_; rintro e w4 ⟨v4, rfl, hv4, hb4⟩
         clear TOK
         have hb34 : Below w3.heap.size w3 w4 := (Below.drew (Below.refl w3.heap.size w3)).alloc (Nat.le_refl _) _ |>.trans hb4
         have hC4 := C3.out.belowB hb34 (by omega)
         have C4 := Lib.hid hC4
         have f1 := hC4.cell 1
         simp only [List.getElem?_cons_zero, List.getElem?_cons_succ] at f1
         have V4 := Lib.hid hv4
         have L4 := Lib.hid hb34
         have hs4 := hb34.size
         clear hb4 hb34 hC4 hv4)
      | (go_at_call 35; refine (four_any w3.heap.size _ ([78] ++ beN (fl / 4294967296) 4) (fl % 4294967296) _ hm0 hm1 V4.out hs4 (by simp [beN_length])).mono ?_; rintro e w5 ⟨v5, rfl, hv5, hb5⟩
         have hb35 := L4.out.trans hb5
         have hC5 := C4.out.belowB hb5 (by omega)
         have C5 := Lib.hid hC5
         have g0 := hC5.cell 0
         have g1 := hC5.cell 1
         have g2 := hC5.cell 2
         have g3 := hC5.cell 3
         simp only [List.getElem?_cons_zero, List.getElem?_cons_succ] at g0 g1 g2 g3
         have V5 := Lib.hid (show BufIs w3.heap.size v5 ([78] ++ beN fl 8) w5 by rw [List.append_assoc, HJ.out] at hv5; exact hv5)
         have L5 := Lib.hid hb35
         have hs5 := hb35.size
         clear hb5 hb35 hC5 hv5))

  go_wp2_with fail
  refine (four_any w3.heap.size _ ([78] ++ beN fl 8) ch _ (by omega) (by omega) V5.out (by omega) (by simp [beN_length])).mono ?_
  rintro e w6 ⟨v6, rfl, hv6, hb6⟩
  have hC6 := C5.out.belowB hb6 (by omega)
  have C6 := Lib.hid hC6
  have V6 := Lib.hid hv6
  have L6 := Lib.hid (L5.out.trans hb6)
  have hs6 := (L5.out.trans hb6).size
  have x6_2 := hC6.cell 2
  have x6_4 := hC6.cell 4
  simp only [List.getElem?_cons_zero, List.getElem?_cons_succ] at x6_2 x6_4
  clear hC6 hb6 hv6
  go_wp2_with fail
  refine (four_any w3.heap.size _ (([78] ++ beN fl 8) ++ beN ch 4) cr _ (by omega) (by omega) V6.out (by omega) (by simp [beN_length])).mono ?_
  rintro e w7 ⟨v7, rfl, hv7, hb7⟩
  have hC7 := C6.out.belowB hb7 (by omega)
  have C7 := Lib.hid hC7
  have V7 := Lib.hid hv7
  have L7 := Lib.hid (L6.out.trans hb7)
  have hs7 := (L6.out.trans hb7).size
  have x7_2 := hC7.cell 2
  have x7_4 := hC7.cell 4
  simp only [List.getElem?_cons_zero, List.getElem?_cons_succ] at x7_2 x7_4
  clear hC7 hb7 hv7
  go_wp2_with (at_builtin; refine stop ?_)
  refine Stopped.of ?_
  refine wp_app_row rfl (.tmp 67) (.tmp 77) rfl w3.heap.size _ ((([78] ++ beN fl 8) ++ beN ch 4) ++ beN cr 4) rfl (V7.out.alloc _) ⟨w7.heap.size, 0, none⟩ 2 2 (beN nm.size 2) rfl rfl ?_ (by simp [beN_length]) (by simp; omega) ?_
  · have := lit_cells w7 (beN nm.size 2) _ rfl
    rw [← two_cells, show (nm.size : Int) / 256 % 256 = (nm.size : Int) / 256 by omega, show (nm.size : Int) % 256 = nm.size by omega] at this
    exact this
  intro v7 w7 hb7 hg7
  have hL7 := below_grown (L7.out.alloc (by omega) _) (V7.out.alloc _) (Nat.le_refl _) (by simp; omega) hg7
  have L7 := Lib.hid hL7
  have V7 := Lib.hid hb7
  have hs7 := hL7.size
  have hC7 := C3.out.belowB hL7 (by omega)
  have y4 := hC7.cell 4
  simp only [List.getElem?_cons_zero, List.getElem?_cons_succ] at y4
  clear hb7 hg7 hL7 hC7
  go_wp2_with (at_builtin; refine stop ?_)
  refine Stopped.of ?_
  refine wp_app_str rfl (.tmp 79) (.tmp 81) rfl w3.heap.size _ (((([78] ++ beN fl 8) ++ beN ch 4) ++ beN cr 4) ++ beN nm.size 2) rfl V7.out nm rfl (by simp [beN_length]; omega) (by omega) ?_
  intro v' w9 hb9 hg9
  have W9 := Lib.hid (below_grown L7.out V7.out (Nat.le_refl _) (by omega) hg9)
  have H9 := Lib.hid hb9
  clear hb9 hg9
  go_wp2
  go_ret2
  rw [HR.out]
  exact ⟨_, _, rfl, by have := H9.out.base (base' := w.heap.size) (by omega); simpa using this, LinksIs.nil _ _, HB3.out.trans (W9.out.mono (by omega))⟩

theorem writeR_any (m : Msg) (dv : Value) (w : World) (hd : RSl dv m.digest w) (hm : m.Ok) :
    Calls Tryz.prog 10 #[m.val dv] w (RetBL w.heap.size w (writeS m)) := by
  cases hf : formS m with
  | false => exact writeR_bad m dv w hd hf
  | true =>
    obtain ⟨k, fl, cr, ch, nm, st, dg⟩ := m
    obtain ⟨f0, f1, r0, r1, h0, h1, nz, sz, dz⟩ := hm
    simp only at *
    have hk := formS_kind hf
    simp only at hk
    rcases hk with rfl | rfl | rfl | rfl | rfl
    · exact writeR_1 fl cr ch nm st dg dv w hd f0 f1 r0 r1 h0 h1 nz hf
    · exact writeR_2 fl cr ch nm st dg dv w hd sz hf
    · exact writeR_3 fl cr ch nm st dg dv w hd f0 f1 r0 r1 h0 h1 nz hf
    · exact writeR_4 fl cr ch nm st dg dv w hd h0 h1 dz hf
    · exact writeR_5 fl cr ch nm st dg dv w hd dz hf
end Go.Proofs.YtokkokgdjnkbnaaGreatDoor
end
