/- Texts laid together: RdA, RdB, RdC, RdD. -/
import Derived.Test.YtokkokgdjnkbnaaGreatDoorP29
import Derived.Test.YtokkokgdjnkbnaaGreatDoorP25
import Derived.Deep.Cut
import Derived.StillTailTactics
section
/- Package heddleref08: letter, num; ends of Read. -/
open Go Go.RowKit
namespace Go.Proofs.YtokkokgdjnkbnaaGreatDoor

theorem letterR_quiet (k : Int) (w : World) (h1 : 1 ≤ k) (h5 : k ≤ 5) : Calls Tryz.prog 46 #[.int .i64 k] w fun e w' => e = .returned (.int .u8 (letS k).toNat) ∧ w' = w := by
  have hk : k = 1 ∨ k = 2 ∨ k = 3 ∨ k = 4 ∨ k = 5 := by omega
  rcases hk with rfl | rfl | rfl | rfl | rfl
  all_goals
    go_enter Tryz.func46, Tryz.ntmps46
    go_wp2
    go_ret
    exact ⟨rfl, rfl⟩

set_option maxHeartbeats 8000000 in
set_option maxRecDepth 100000 in
theorem numR_any (v : Value) (b : List UInt8) (x m : Nat) (w : World) (hv : RSl v b w) (hm : x + m ≤ b.length) (h8 : m ≤ 8) (hz : b.length ≤ 140737488351232) :
    Calls Tryz.prog 48 #[v, .int .i64 (x : Int), .int .i64 (m : Int)] w fun e w' => e = .returned (.int .u64 (numS (cutB b x m))) ∧ w = w' := by
  have hl : (cutB b x m).length = m := by unfold cutB; simp; omega
  have hget : ∀ k, k < m → ∀ (h1 : k < (cutB b x m).length) (h2 : x + k < b.length), (cutB b x m)[k] = b[x + k] := by
    intro k h h1 h2
    have e : (cutB b x m)[k]? = b[x + k]? := by unfold cutB; rw [List.getElem?_take_of_lt h, List.getElem?_drop]
    rw [List.getElem?_eq_getElem h1, List.getElem?_eq_getElem h2] at e
    exact Option.some.inj e
  obtain ⟨a, c, rfl, hc1, hc2, hc⟩ := hv
  have HC := Lib.hid hc
  have HL := Lib.hid hl
  have HGT := Lib.hid hget
  have HBL := Lib.hid hm
  have hx0 : (0 : Int) ≤ x := by omega
  have hm0 : (m : Int) ≤ 8 := by omega
  have hxb : (x : Int) + 8 ≤ 140737488351240 := by omega
  clear hc hget hc1 hc2
  go_enter Tryz.func48, Tryz.ntmps48
  go_wp2
  go_loop [7, 8] (fun n i => ∃ k : Nat, k ≤ m ∧ i = .int .i64 k ∧ n = .int .u64 (numS ((cutB b x m).take k))) (fun _ i => m - (intOf i).toNat)
  case atStart => exact ⟨0, Nat.zero_le _, rfl, rfl⟩
  case round =>
    obtain ⟨k, hk, rfl, rfl⟩ := hrel
    by_cases hlt : k < m
    · have hki : (k : Int) < (m : Int) := by omega
      have hkl : k < (cutB b x m).length := by rw [HL.out]; exact hlt
      have hxk : x + k < b.length := by have := HBL.out; omega
      obtain ⟨g, o, rfl, hx⟩ := HC.out (x + k) hxk
      have hx2 : w.cell? ⟨g, o + (x + k), none⟩ = some (.int .u8 (cutB b x m)[k].toNat) := by rw [HGT.out k hlt hkl hxk]; exact hx
      have hnx := Lib.hid (show numS ((cutB b x m).take (k + 1)) = numS ((cutB b x m).take k) * 256 + (cutB b x m)[k].toNat by
        rw [List.take_succ_eq_append_getElem hkl, numS_snoc])
      have hbd := numS_bd ((cutB b x m).take k)
      have hlk : ((cutB b x m).take k).length ≤ 7 := by rw [List.length_take]; omega
      have hbd2 : numS ((cutB b x m).take k) < 72057594037927936 := by
        have e0 : 256 ^ ((cutB b x m).take k).length ≤ 256 ^ 7 := Nat.pow_le_pow_right (by decide) hlk
        have e1 : ((256 ^ ((cutB b x m).take k).length : Nat) : Int) = (256 : Int) ^ ((cutB b x m).take k).length := by simp
        have e2 : (256 ^ 7 : Nat) = 72057594037927936 := by decide
        omega
      have hb0 := hbd.1
      have hcb := (cutB b x m)[k].toNat_lt
      have hxi : (x : Int) + (k : Int) < (b.length : Int) := by omega
      have hw0 : IntKind.i64.wrap ((x : Int) + k) = (x : Int) + k := IntWalk.i64_in _ (by omega)
      generalize (cutB b x m)[k] = cb at *
      generalize numS ((cutB b x m).take k) = y at *
      have hor := or256 y cb.toNat hb0 hbd2 (by omega) (by omega)
      have hw1 : IntKind.u64.wrap (y * 256) = y * 256 := by rw [IntKind.wrap_u64]; omega
      have hw2 : IntKind.u64.wrap (cb.toNat : Int) = cb.toNat := by rw [IntKind.wrap_u64]; omega
      have hadr : ((x : Int) + (k : Int)).toNat = x + k := by omega
      clear hbd hx hlk HC HGT
      go_wp2
      go_round
      case rel => exact ⟨k + 1, by omega, by go_num, by rw [hnx.out]⟩
      case measure => simp [intOf]; omega
    · have hki : ¬ (k : Int) < (m : Int) := by omega
      obtain rfl : k = m := by omega
      have hfin := Lib.hid (show (cutB b x k).take k = cutB b x k from List.take_of_length_le (by rw [HL.out]; exact Nat.le_refl _))
      go_wp2
      go_ret
      rw [hfin.out]
      exact ⟨rfl, rfl⟩
end Go.Proofs.YtokkokgdjnkbnaaGreatDoor
end
section
/- Package heddleref08: Read. Printed by wip/rdr.py. -/
open Go Go.RowKit
namespace Go.Proofs.YtokkokgdjnkbnaaGreatDoor
set_option linter.unusedSimpArgs false

def RetML (w : World) (r : Msg × List Lk) (e : Ending) (w' : World) : Prop := ∃ dv lv, e = .returned (.tuple #[r.1.val dv, lv]) ∧ RSl dv r.1.digest w' ∧ LinksIs w.heap.size lv r.2 w' ∧ (r.2 = [] → lv = .slice none 0 0) ∧ Below w.heap.size w w'
theorem readR_res {wf : World} {tmps : Array Value} {g : Nat} {m : Msg} {dv lv : Value} (hC : Cells wf g 27 [.int .i64 m.kind, .int .u64 m.flags, .int .u32 m.creation, .int .u32 m.challenge, .string m.name, .string m.status, dv])
    (h4 : tmps[4]?.getD undef = .pointer (some ⟨g, 0, none⟩)) (h5 : tmps[5]?.getD undef = lv) : (results Tryz.f14 tmps).run Tryz.prog wf = .ok (.tuple #[m.val dv, lv]) wf := by
  have c0 := hC.cell 0
  have c1 := hC.cell 1
  have c2 := hC.cell 2
  have c3 := hC.cell 3
  have c4 := hC.cell 4
  have c5 := hC.cell 5
  have c6 := hC.cell 6
  simp only [List.getElem?_cons_zero, List.getElem?_cons_succ] at c0 c1 c2 c3 c4 c5 c6
  simp [results, Tryz.results14, go_sem, h4, h5, c0, c1, c2, c3, c4, c5, c6, Msg.val]
theorem readR_fin {w w2 w3 : World} {base : Nat} {lv : Value} {l : List Lk} {m : Msg} {dv : Value} (hB : Below w.heap.size w w2) (hl : LinksIs base lv l w2) (hbase : w.heap.size < base) (hn : l = [] → lv = .slice none 0 0) (hg : w2.grownBy w3 (some w.heap.size)) (hd : RSl dv m.digest w3) :
    RetML w (m, l) (.returned (.tuple #[m.val dv, lv])) w3 :=
  ⟨_, _, rfl, hd, (hl.frame (fun j hj => hg.block j (hl.block hj).2 (fun e => by have := (hl.block hj).1; have := Option.some.inj e; omega))).base (Nat.le_of_lt hbase), hn, hB.grown hg hB.size (fun j hj => by rw [← Option.some.inj hj]; exact Nat.le_refl _)⟩
/-- behind the two blocks of a call of Read -/
structure RdR (k : Int) (w W : World) : Prop where
  cr : Cells W w.heap.size 27 msgZ
  cm : Cells W (w.heap.size + 1) 27 (msgK k)
  hb : Below w.heap.size w W
  sz : w.heap.size < W.heap.size
theorem RdR.mk' (k : Int) (w : World) : RdR k w ((w.alloc (.cells msgZ.toArray 27 (0, 0))).alloc (.cells (msgK k).toArray 27 (0, 0))) := by
  refine ⟨(Cells.new w 27 msgZ).alloc _, ?_, ((Below.refl _ w).alloc (Nat.le_refl _) _).alloc (by simp) _, by simp; omega⟩
  have := Cells.new (w.alloc (.cells msgZ.toArray 27 (0, 0))) 27 (msgK k)
  rwa [World.size_alloc] at this
theorem RdR.drewN {k : Int} {w W : World} (h : RdR k w W) (n : Nat) : RdR k w (W.drewN n) := ⟨h.cr.drewN n, h.cm.drewN n, below_drewN h.hb n, h.sz⟩
set_option maxHeartbeats 8000000 in
set_option maxRecDepth 100000 in
theorem readR_bad (k : Int) (bv : Value) (b : List UInt8) (w : World) (hk : k < 1 ∨ 5 < k) :
    Calls Tryz.prog 14 #[.int .i64 k, bv] w (RetML w (readS k b)) := by
  have HR := Lib.hid (show readS k b = (Msg.none, [⟨shakeL, 0, 1⟩]) by unfold readS; rw [if_pos hk])
  have HI := Lib.hid (RdR.mk' k w)
  unfold msgZ msgK at HI
  by_cases k1 : k < 1
  · clear hk
    go_enter Tryz.func14, Tryz.ntmps14
    go_upto_region 2 with (fail)
    generalize hW : World.alloc (World.alloc w _) _ = W2 at *
    clear hW
    have HRF := Lib.hid (HR.out)
    go_wp2_with fail
    refine (no08_any _ _ _).mono ?_
    rintro e w8 ⟨lv, rfl, hl8, hb8⟩
    have hsz8 : w.heap.size < _ := Nat.lt_of_lt_of_le (HI.out.cr).lt (Nat.le_refl _)
    have HB8 := Lib.hid ((HI.out.hb).trans (hb8.mono (HI.out.hb).size))
    have CR8 := Lib.hid ((HI.out.cr).below hb8)
    have HL := Lib.hid hl8
    have HSZ := Lib.hid hsz8
    clear hb8 hl8 hsz8
    go_wp2_with (refine wpList_store_blk rfl _ (.tmp 4) (.tmp 20) rfl w.heap.size 0 msgZ (by rfl) (by rfl) (by kernel_rfl) (by simp [msgZ, Value.oneCell']) 27 _ CR8.out (by decide) ?_; intro w9 hC9 hg9)
    refine bodyPost_ret (readR_res (m := Msg.none) (dv := .slice none 0 0) (lv := lv) hC9 (by rfl) (by rfl)) rfl ?_
    rw [HRF.out]
    exact readR_fin HB8.out HL.out HSZ.out (by simp) hg9 (RSl.nil _)
  · have k5 : 5 < k := by omega
    clear hk
    go_enter Tryz.func14, Tryz.ntmps14
    go_upto_region 2 with (fail)
    generalize hW : World.alloc (World.alloc w _) _ = W2 at *
    clear hW
    have HRF := Lib.hid (HR.out)
    go_wp2_with fail
    refine (no08_any _ _ _).mono ?_
    rintro e w8 ⟨lv, rfl, hl8, hb8⟩
    have hsz8 : w.heap.size < _ := Nat.lt_of_lt_of_le (HI.out.cr).lt (Nat.le_refl _)
    have HB8 := Lib.hid ((HI.out.hb).trans (hb8.mono (HI.out.hb).size))
    have CR8 := Lib.hid ((HI.out.cr).below hb8)
    have HL := Lib.hid hl8
    have HSZ := Lib.hid hsz8
    clear hb8 hl8 hsz8
    go_wp2_with (refine wpList_store_blk rfl _ (.tmp 4) (.tmp 20) rfl w.heap.size 0 msgZ (by rfl) (by rfl) (by kernel_rfl) (by simp [msgZ, Value.oneCell']) 27 _ CR8.out (by decide) ?_; intro w9 hC9 hg9)
    refine bodyPost_ret (readR_res (m := Msg.none) (dv := .slice none 0 0) (lv := lv) hC9 (by rfl) (by rfl)) rfl ?_
    rw [HRF.out]
    exact readR_fin HB8.out HL.out HSZ.out (by simp) hg9 (RSl.nil _)

set_option maxHeartbeats 8000000 in
set_option maxRecDepth 100000 in
theorem readR_head (k : Int) (bv : Value) (b : List UInt8) (w : World) (hb : RSl bv b w) (h1 : 1 ≤ k) (h5 : k ≤ 5) (hh : b.head? ≠ some (letS k)) :
    Calls Tryz.prog 14 #[.int .i64 k, bv] w (RetML w (readS k b)) := by
  have HR := Lib.hid (show readS k b = (Msg.none, [⟨shakeL, 0, 160⟩]) by unfold readS; rw [if_neg (by omega), if_pos hh])
  have HI := Lib.hid (RdR.mk' k w)
  have n1 : ¬ k < 1 := by omega
  have n5 : ¬ 5 < k := by omega
  by_cases hn : b = []
  · subst hn
    obtain ⟨a, c, rfl, _, _⟩ := hb.shape
    clear hb hh
    unfold msgZ msgK at HI
    go_enter Tryz.func14, Tryz.ntmps14
    go_wp2
    go_quiet (fail)
    have HI2 := Lib.hid (HI.out.drewN nq)
    generalize hW : World.drewN (World.alloc (World.alloc w _) _) nq = W2 at *
    clear hW HI
    have HRF := Lib.hid (HR.out)
    go_wp2_with fail
    refine (no08_any _ _ _).mono ?_
    rintro e w8 ⟨lv, rfl, hl8, hb8⟩
    have hsz8 : w.heap.size < _ := Nat.lt_of_lt_of_le (HI2.out.cr).lt (Nat.le_refl _)
    have HB8 := Lib.hid ((HI2.out.hb).trans (hb8.mono (HI2.out.hb).size))
    have CR8 := Lib.hid ((HI2.out.cr).below hb8)
    have HL := Lib.hid hl8
    have HSZ := Lib.hid hsz8
    clear hb8 hl8 hsz8
    go_wp2_with (refine wpList_store_blk rfl _ (.tmp 4) (.tmp 33) rfl w.heap.size 0 msgZ (by rfl) (by rfl) (by kernel_rfl) (by simp [msgZ, Value.oneCell']) 27 _ CR8.out (by decide) ?_; intro w9 hC9 hg9)
    refine bodyPost_ret (readR_res (m := Msg.none) (dv := .slice none 0 0) (lv := lv) hC9 (by rfl) (by rfl)) rfl ?_
    rw [HRF.out]
    exact readR_fin HB8.out HL.out HSZ.out (by simp) hg9 (RSl.nil _)
  · have hpos : 0 < b.length := List.length_pos_iff.2 hn
    have hne0 : ((b.length : Int) == 0) = false := beq_eq_false_iff_ne.2 (by omega)
    have hposI : (0 : Int) < (b.length : Int) := by omega
    have hb2 := hb.below HI.out.hb
    obtain ⟨a, c, rfl, hc1, hc2, hc⟩ := hb
    obtain ⟨a2, c2, he2, _, _, hcc⟩ := hb2
    obtain ⟨g, o, ha, hx⟩ := hcc 0 hpos
    simp only [Value.slice.injEq] at he2
    obtain ⟨rfl, _, rfl⟩ := he2
    subst ha
    rw [Nat.add_zero] at hx
    have hne : (((b[0]).toNat : Int) != ((letS k).toNat : Int)) = true := by
      have : b[0] ≠ letS k := fun e => hh (by cases b with | nil => cases hpos | cons x r => simpa using e)
      simp only [bne_iff_ne, ne_eq]
      exact fun e => this (UInt8.toNat_inj.1 (by omega))
    unfold byteV at hx
    generalize b[0] = b0 at *
    have HLQ := Lib.hid (fun W => letterR_quiet k W h1 h5)
    clear hc hcc hc1 hc2 hh h1 h5 hpos hn
    unfold msgZ msgK at HI hx
    go_enter Tryz.func14, Tryz.ntmps14
    go_wp2
    go_quiet ((go_at_call 46; exact Calls.quiet_of_same (HLQ.out _)))
    have HI2 := Lib.hid (HI.out.drewN nq)
    generalize hW : World.drewN (World.alloc (World.alloc w _) _) nq = W2 at *
    clear hW HI hx
    have HRF := Lib.hid (HR.out)
    go_wp2_with fail
    refine (no08_any _ _ _).mono ?_
    rintro e w8 ⟨lv, rfl, hl8, hb8⟩
    have hsz8 : w.heap.size < _ := Nat.lt_of_lt_of_le (HI2.out.cr).lt (Nat.le_refl _)
    have HB8 := Lib.hid ((HI2.out.hb).trans (hb8.mono (HI2.out.hb).size))
    have CR8 := Lib.hid ((HI2.out.cr).below hb8)
    have HL := Lib.hid hl8
    have HSZ := Lib.hid hsz8
    clear hb8 hl8 hsz8
    go_wp2_with (refine wpList_store_blk rfl _ (.tmp 4) (.tmp 33) rfl w.heap.size 0 msgZ (by rfl) (by rfl) (by kernel_rfl) (by simp [msgZ, Value.oneCell']) 27 _ CR8.out (by decide) ?_; intro w9 hC9 hg9)
    refine bodyPost_ret (readR_res (m := Msg.none) (dv := .slice none 0 0) (lv := lv) hC9 (by rfl) (by rfl)) rfl ?_
    rw [HRF.out]
    exact readR_fin HB8.out HL.out HSZ.out (by simp) hg9 (RSl.nil _)

set_option maxHeartbeats 8000000 in
set_option maxRecDepth 100000 in
theorem readR_2 (bv : Value) (b : List UInt8) (w : World) (hb : RSl bv b w) (hh : b.head? = some (letS 2)) :
    Calls Tryz.prog 14 #[.int .i64 2, bv] w (RetML w (readS 2 b)) := by
  have HR := Lib.hid (show readS 2 b = if isSt ⟨(b.drop 1).toArray⟩ then (⟨2, 0, 0, 0, ⟨#[]⟩, ⟨(b.drop 1).toArray⟩, []⟩, []) else (Msg.none, [⟨shakeL, 1, 160⟩]) by unfold readS; rw [if_neg (by omega), if_neg (by rw [hh]; simp), if_pos rfl])
  have HI := Lib.hid (RdR.mk' 2 w)
  have hpos : 0 < b.length := by cases b with | nil => cases hh | cons => simp
  have hne0 : ((b.length : Int) == 0) = false := beq_eq_false_iff_ne.2 (by omega)
  have hposI : (0 : Int) < (b.length : Int) := by omega
  have hb0 : b[0] = letS 2 := by cases b with | nil => cases hh | cons x r => simpa using hh
  have HBV := Lib.hid hb
  have hb2 := hb.below HI.out.hb
  obtain ⟨a, c, rfl, hc1, hc2, hc⟩ := hb
  obtain ⟨a2, c2, he2, _, _, hcc⟩ := hb2
  obtain ⟨g, o, ha, hx⟩ := hcc 0 hpos
  simp only [Value.slice.injEq] at he2
  obtain ⟨rfl, _, rfl⟩ := he2
  subst ha
  rw [Nat.add_zero, hb0] at hx
  unfold byteV at hx
  have hne : (((letS 2).toNat : Int) != ((letS 2).toNat : Int)) = false := by simp
  clear hc hcc hc1 hc2 hh hb0
  unfold msgZ msgK at HI hx
  go_enter Tryz.func14, Tryz.ntmps14
  go_wp2
  go_quiet ((go_at_call 46; exact Calls.quiet_of_same (letterR_quiet _ _ (by decide) (by decide))))
  have HI2 := Lib.hid (show RdR 2 w _ from HI.out.drewN nq)
  generalize hW : World.drewN (World.alloc (World.alloc w _) _) nq = W2 at *
  clear hW HI hx
  generalize hbv : (Value.slice (some ⟨g, o, none⟩) b.length c) = bv at *
  clear hbv
  have R4 := Lib.hid (HBV.out.below HI2.out.hb)
  obtain ⟨v1, hv1, _, hs1, _⟩ := R4.out.sub 1 b.length (by omega) (Nat.le_refl _)
  have hs1 : ∀ w', (Instr.slice 25 bv (some (.int .i64 1)) none none).run Tryz.prog w' = .ok v1 w' := hs1 rfl
  have hv1 : RSl v1 (b.drop 1) W2 := by rw [List.take_of_length_le (by simp)] at hv1; exact hv1
  have hconv := run_slice_string hv1.slice
  have c5 := HI2.out.cm.cell 5
  have f5 := HI2.out.cm.frozen 5
  simp only [msgK, List.getElem?_cons_zero, List.getElem?_cons_succ] at c5
  generalize hST : (⟨(b.drop 1).toArray⟩ : ByteArray) = S at *
  have CM := Lib.hid (HI2.out.cm.set_ 5 (.string S))
  have CR := Lib.hid (HI2.out.cr.far (p := ⟨w.heap.size + 1, 5, none⟩) (by simp) (.string S))
  have HB := Lib.hid (HI2.out.hb.setCell (p := ⟨w.heap.size + 1, 5, none⟩) (by simp) (.string S))
  have HIS := Lib.hid (statusR_any S (W2.setCell ⟨w.heap.size + 1, 5, none⟩ (.string S)))
  have d0 := CM.out.cell 0
  have d1 := CM.out.cell 1
  have d2 := CM.out.cell 2
  have d3 := CM.out.cell 3
  have d4 := CM.out.cell 4
  have d5 := CM.out.cell 5
  have d6 := CM.out.cell 6
  simp only [msgK, List.set_cons_succ, List.set_cons_zero, List.getElem?_cons_zero, List.getElem?_cons_succ] at d0 d1 d2 d3 d4 d5 d6
  clear hv1
  cases hst : isSt S with
  | true =>
    have HR2 := Lib.hid (show readS 2 b = (⟨2, 0, 0, 0, ⟨#[]⟩, S, []⟩, []) by rw [HR.out, if_pos hst])
    rw [hst] at HIS
    clear HR hst
    go_wp2_with fail
    refine HIS.out.mono ?_
    rintro e w5 ⟨rfl, rfl⟩
    go_wp2_with (refine wpList_store_blk rfl _ (.tmp 4) (.tmp 48) rfl w.heap.size 0 [.int .i64 2, .int .u64 0, .int .u32 0, .int .u32 0, .string ⟨#[]⟩, .string S, .slice none 0 0] (by rfl) (by rfl) (by kernel_rfl) (by simp [Value.oneCell']) 27 _ CR.out (by simp [msgZ]) ?_; intro w9 hC9 hg9)
    refine bodyPost_ret (readR_res (m := ⟨2, 0, 0, 0, ⟨#[]⟩, S, []⟩) (dv := .slice none 0 0) (lv := .slice none 0 0) hC9 (by rfl) (by rfl)) rfl ?_
    rw [HR2.out]
    exact readR_fin HB.out (LinksIs.nil (w.heap.size + 1) _) (Nat.lt_succ_self _) (fun _ => rfl) hg9 (RSl.nil _)
  | false =>
    have HR2 := Lib.hid (show readS 2 b = (Msg.none, [⟨shakeL, 1, 160⟩]) by rw [HR.out, if_neg (by simp [hst])])
    rw [hst] at HIS
    clear HR hst
    go_wp2_with fail
    refine HIS.out.mono ?_
    rintro e w5 ⟨rfl, rfl⟩
    have HRF := Lib.hid (HR2.out)
    go_wp2_with fail
    refine (no08_any _ _ _).mono ?_
    rintro e w8 ⟨lv, rfl, hl8, hb8⟩
    have hsz8 : w.heap.size < _ := Nat.lt_of_lt_of_le (CR.out).lt (Nat.le_refl _)
    have HB8 := Lib.hid ((HB.out).trans (hb8.mono (HB.out).size))
    have CR8 := Lib.hid ((CR.out).below hb8)
    have HL := Lib.hid hl8
    have HSZ := Lib.hid hsz8
    clear hb8 hl8 hsz8
    go_wp2_with (refine wpList_store_blk rfl _ (.tmp 4) (.tmp 46) rfl w.heap.size 0 msgZ (by rfl) (by rfl) (by kernel_rfl) (by simp [msgZ, Value.oneCell']) 27 _ CR8.out (by decide) ?_; intro w9 hC9 hg9)
    refine bodyPost_ret (readR_res (m := Msg.none) (dv := .slice none 0 0) (lv := lv) hC9 (by rfl) (by rfl)) rfl ?_
    rw [HRF.out]
    exact readR_fin HB8.out HL.out HSZ.out (by simp) hg9 (RSl.nil _)
end Go.Proofs.YtokkokgdjnkbnaaGreatDoor
end
section
/- Package heddleref08: Read. Printed by wip/rdr.py. -/
open Go Go.RowKit Go.Extern.Stop Go.Stop Go.Extern
namespace Go.Proofs.YtokkokgdjnkbnaaGreatDoor
set_option linter.unusedSimpArgs false

set_option maxHeartbeats 8000000 in
set_option maxRecDepth 100000 in
theorem readR_4 (bv : Value) (b : List UInt8) (w : World) (hb : RSl bv b w) (hz : b.length ≤ 140737488351232) (hh : b.head? = some (letS 4)) :
    Calls Tryz.prog 14 #[.int .i64 4, bv] w (RetML w (readS 4 b)) := by
  have HRS := Lib.hid (fun hl => readS_short 4 b (by decide) (by decide) (by decide) hh hl)
  have HRD := Lib.hid (fun h => readS_dig 4 b (by decide) hh h)
  have HI := Lib.hid (RdR.mk' 4 w)
  have hpos : 0 < b.length := by cases b with | nil => cases hh | cons => simp
  have hne0 : ((b.length : Int) == 0) = false := beq_eq_false_iff_ne.2 (by omega)
  have hposI : (0 : Int) < (b.length : Int) := by omega
  have hb0 : b[0] = letS 4 := by cases b with | nil => cases hh | cons x r => simpa using hh
  have HBV := Lib.hid hb
  have hb2 := hb.below HI.out.hb
  obtain ⟨a, c, rfl, hc1, hc2, hc⟩ := hb
  obtain ⟨a2, c2, he2, _, _, hcc⟩ := hb2
  obtain ⟨g, o, ha, hx⟩ := hcc 0 hpos
  simp only [Value.slice.injEq] at he2
  obtain ⟨rfl, _, rfl⟩ := he2
  subst ha
  rw [Nat.add_zero, hb0] at hx
  unfold byteV at hx
  have hne : (((letS 4).toNat : Int) != ((letS 4).toNat : Int)) = false := by simp
  clear hc hcc hc1 hc2 hh hb0
  unfold msgZ msgK at HI hx
  go_enter Tryz.func14, Tryz.ntmps14
  go_wp2
  go_quiet ((go_at_call 46; exact Calls.quiet_of_same (letterR_quiet _ _ (by decide) (by decide))))
  have HI2 := Lib.hid (show RdR 4 w _ from HI.out.drewN nq)
  generalize hW : World.drewN (World.alloc (World.alloc w _) _) nq = W2 at *
  clear hW HI hx
  generalize hbv : (Value.slice (some ⟨g, o, none⟩) b.length c) = bv at *
  clear hbv
  have R4 := Lib.hid (HBV.out.below HI2.out.hb)
  have hlen := run_slice_len R4.out.slice
  have HZ := Lib.hid hz
  by_cases hA : b.length < 21
  · have hAI : (b.length : Int) < 21 := by omega
    have HRF := Lib.hid (show readS 4 b = (Msg.none, [⟨shakeL, (b.length : Int), 160⟩]) from HRS.out hA)
    go_wp2_with fail
    refine (no08_any _ _ _).mono ?_
    rintro e w8 ⟨lv, rfl, hl8, hb8⟩
    have hsz8 : w.heap.size < _ := Nat.lt_of_lt_of_le (HI2.out.cr).lt (Nat.le_refl _)
    have HB8 := Lib.hid ((HI2.out.hb).trans (hb8.mono (HI2.out.hb).size))
    have CR8 := Lib.hid ((HI2.out.cr).below hb8)
    have HL := Lib.hid hl8
    have HSZ := Lib.hid hsz8
    clear hb8 hl8 hsz8
    go_wp2_with (refine wpList_store_blk rfl _ (.tmp 4) (.tmp 59) rfl w.heap.size 0 msgZ (by rfl) (by rfl) (by kernel_rfl) (by simp [msgZ, Value.oneCell']) 27 _ CR8.out (by decide) ?_; intro w9 hC9 hg9)
    refine bodyPost_ret (readR_res (m := Msg.none) (dv := .slice none 0 0) (lv := lv) hC9 (by rfl) (by rfl)) rfl ?_
    rw [HRF.out]
    exact readR_fin HB8.out HL.out HSZ.out (by simp) hg9 (RSl.nil _)
  have hAI : ¬ (b.length : Int) < 21 := by omega
  by_cases hC : b.length = 21
  · have hCI : ¬ (21 : Int) < (b.length : Int) := by omega
    have HRF := Lib.hid (show readS 4 b = (⟨4, 0, 0, numS (cutB b 1 4), ⟨#[]⟩, ⟨#[]⟩, b.drop 5⟩, []) from (HRD.out hA).trans (if_pos hC))
    obtain ⟨v1, hv1, _, hs1, _⟩ := R4.out.sub 5 b.length (by omega) (Nat.le_refl _)
    have hs1 : ∀ w', (Instr.slice 25 bv (some (.int .i64 5)) none none).run Tryz.prog w' = .ok v1 w' := hs1 rfl
    have hv1 : RSl v1 (b.drop 5) W2 := by rw [List.take_of_length_le (by simp)] at hv1; exact hv1
    have HV1 := Lib.hid hv1
    clear hv1
    have HNM := Lib.hid (show Calls Tryz.prog 48 #[bv, .int .i64 1, .int .i64 4] W2 fun e w' => e = .returned (.int .u64 (numS (cutB b 1 4))) ∧ W2 = w' from numR_any bv b 1 4 W2 R4.out (by omega) (by decide) HZ.out)
    have hwr : IntKind.u32.wrap (numS (cutB b 1 4)) = numS (cutB b 1 4) := by have := cut_bd b 1 4 (by omega); have h1 := this.1; have h2 : numS (cutB b 1 4) < 4294967296 := this.2; rw [IntKind.wrap_u32]; omega
    have c3 := HI2.out.cm.cell 3
    have f3 := HI2.out.cm.frozen 3
    simp only [msgK, List.getElem?_cons_zero, List.getElem?_cons_succ] at c3
    have CM := Lib.hid (HI2.out.cm.set_ 3 (.int .u32 (numS (cutB b 1 4))))
    have CR := Lib.hid (HI2.out.cr.far (p := ⟨w.heap.size + 1, 3, none⟩) (by simp) (.int .u32 (numS (cutB b 1 4))))
    have HB := Lib.hid (HI2.out.hb.setCell (p := ⟨w.heap.size + 1, 3, none⟩) (by simp) (.int .u32 (numS (cutB b 1 4))))
    have HV2 := Lib.hid (show RSl v1 (b.drop 5) (W2.setCell ⟨w.heap.size + 1, 3, none⟩ (.int .u32 (numS (cutB b 1 4)))) from rsl_far HV1.out (fun p x hx hn => by
      have hne2 : (⟨w.heap.size + 1, 3, none⟩ : Addr) ≠ p := fun e => by
        rw [← e, c3] at hx
        obtain ⟨n, rfl⟩ := hn
        cases hx
      rw [World.cell?_setCell_other]
      exact hne2))
    have hszw : w.heap.size + 1 < W2.heap.size := HI2.out.cm.lt
    go_wp2_with fail
    refine HNM.out.mono ?_
    rintro e x1 ⟨rfl, rfl⟩
    have LT := BufIs.lit (base := (W2.setCell ⟨w.heap.size + 1, 3, none⟩ (.int .u32 (numS (cutB b 1 4)))).heap.size) (w := (W2.setCell ⟨w.heap.size + 1, 3, none⟩ (.int .u32 (numS (cutB b 1 4))))) [] (Nat.le_refl _) (Nat.zero_le _)
    obtain ⟨v', w3, hrun, hv3, hg3⟩ := LT.app (HV2.out.alloc (.cells (bytesV []).toArray 5 (0, 0))) (by simp; have := HZ.out; omega) (by simp)
    have hnot : (some ((W2.setCell ⟨w.heap.size + 1, 3, none⟩ (.int .u32 (numS (cutB b 1 4)))).heap.size) : Option Nat) ≠ some (w.heap.size + 1) := by intro e; have := Option.some.inj e; (try simp at this); omega
    have hnot2 : (some ((W2.setCell ⟨w.heap.size + 1, 3, none⟩ (.int .u32 (numS (cutB b 1 4)))).heap.size) : Option Nat) ≠ some w.heap.size := by intro e; have := Option.some.inj e; (try simp at this); omega
    have CM3 := Lib.hid ((CM.out.alloc (.cells (bytesV []).toArray 5 (0, 0))).grown hg3 hnot)
    have CR3 := Lib.hid ((CR.out.alloc (.cells (bytesV []).toArray 5 (0, 0))).grown hg3 hnot2)
    have HB3 := Lib.hid ((HB.out.alloc HB.out.size (.cells (bytesV []).toArray 5 (0, 0))).grown hg3 (Nat.le_trans HB.out.size (by simp)) (fun j hj => by rw [← Option.some.inj hj]; exact HB.out.size))
    have hrun2 := hrun
    try simp only [World.size_setCell] at hrun2
    have HRUN := Lib.hid hrun2
    have hdl : (b.drop 5).length = 16 := by simp; omega
    rw [List.nil_append] at hv3
    obtain ⟨va, vc, rfl⟩ := dig_shape hv3 hdl
    clear hrun2
    have HV3 := Lib.hid hv3
    have hvb := (hv3.block (g := va) rfl).1
    have hva : va ≠ w.heap.size + 1 := by intro e; rw [e] at hvb; (try simp at hvb); omega
    have hva0 : va ≠ w.heap.size := by intro e; rw [e] at hvb; (try simp at hvb); omega
    have HVA := Lib.hid hva0
    have c6 := CM3.out.cell 6
    have f6 := CM3.out.frozen 6
    have CM4 := Lib.hid (CM3.out.set_ 6 (.slice (some ⟨va, 0, none⟩) 16 vc))
    have CR4 := Lib.hid (CR3.out.far (p := ⟨w.heap.size + 1, 6, none⟩) (by simp) (.slice (some ⟨va, 0, none⟩) 16 vc))
    have HB4 := Lib.hid (HB3.out.setCell (p := ⟨w.heap.size + 1, 6, none⟩) (by simp) (.slice (some ⟨va, 0, none⟩) 16 vc))
    have HV4 := Lib.hid (HV3.out.frame (w' := w3.setCell ⟨w.heap.size + 1, 6, none⟩ (.slice (some ⟨va, 0, none⟩) 16 vc)) (fun j hj => Below.heap_setCell _ _ _ j (by cases hj; exact hva)))
    simp only [msgK, List.set_cons_succ, List.set_cons_zero, List.getElem?_cons_zero, List.getElem?_cons_succ] at c6
    clear hrun hv3 hg3 LT hdl hvb hva hva0 hnot hnot2
    have q0 := CM4.out.cell 0
    have q1 := CM4.out.cell 1
    have q2 := CM4.out.cell 2
    have q3 := CM4.out.cell 3
    have q4 := CM4.out.cell 4
    have q5 := CM4.out.cell 5
    have q6 := CM4.out.cell 6
    simp only [msgK, List.set_cons_succ, List.set_cons_zero, List.getElem?_cons_zero, List.getElem?_cons_succ] at q0 q1 q2 q3 q4 q5 q6
    go_wp2_with (at_builtin; refine stop ?_)
    refine Stopped.of ?_
    refine wp_app_eq rfl (.tmp 99) (.tmp 101) _ _ rfl _ _ (.slice (some ⟨va, 0, none⟩) 16 vc) w3 rfl rfl HRUN.out ?_
    go_upto_region 32 with (fail)
    clear hz hlen hAI hCI hpos hne0 hposI c6 f6
    go_wp2_with (refine wpList_store_blk rfl _ (.tmp 4) (.tmp 104) rfl w.heap.size 0 [.int .i64 4, .int .u64 0, .int .u32 0, .int .u32 (numS (cutB b 1 4)), .string ⟨#[]⟩, .string ⟨#[]⟩, .slice (some ⟨va, 0, none⟩) 16 vc] (by rfl) (by rfl) (by kernel_rfl) (by simp [Value.oneCell']) 27 _ CR4.out (by simp [msgZ]) ?_; intro w9 hC9 hg9)
    refine bodyPost_ret (readR_res (m := ⟨4, 0, 0, numS (cutB b 1 4), ⟨#[]⟩, ⟨#[]⟩, b.drop 5⟩) (dv := .slice (some ⟨va, 0, none⟩) 16 vc) (lv := .slice none 0 0) hC9 (by rfl) (by rfl)) rfl ?_
    rw [HRF.out]
    exact readR_fin HB4.out (LinksIs.nil (w.heap.size + 1) _) (Nat.lt_succ_self _) (fun _ => rfl) hg9 (HV4.out.frame (fun j hj => hg9.block j (HV4.out.block hj).2 (fun e => by cases hj; exact HVA.out (Option.some.inj e)))).rsl
  · have hCI : (21 : Int) < (b.length : Int) := by omega
    have HRF := Lib.hid (show readS 4 b = (Msg.none, [⟨shakeL, 21, 160⟩]) from (HRD.out hA).trans (if_neg hC))
    go_wp2_with fail
    refine (no08_any _ _ _).mono ?_
    rintro e w8 ⟨lv, rfl, hl8, hb8⟩
    have hsz8 : w.heap.size < _ := Nat.lt_of_lt_of_le (HI2.out.cr).lt (Nat.le_refl _)
    have HB8 := Lib.hid ((HI2.out.hb).trans (hb8.mono (HI2.out.hb).size))
    have CR8 := Lib.hid ((HI2.out.cr).below hb8)
    have HL := Lib.hid hl8
    have HSZ := Lib.hid hsz8
    clear hb8 hl8 hsz8
    go_wp2_with (refine wpList_store_blk rfl _ (.tmp 4) (.tmp 89) rfl w.heap.size 0 msgZ (by rfl) (by rfl) (by kernel_rfl) (by simp [msgZ, Value.oneCell']) 27 _ CR8.out (by decide) ?_; intro w9 hC9 hg9)
    refine bodyPost_ret (readR_res (m := Msg.none) (dv := .slice none 0 0) (lv := lv) hC9 (by rfl) (by rfl)) rfl ?_
    rw [HRF.out]
    exact readR_fin HB8.out HL.out HSZ.out (by simp) hg9 (RSl.nil _)
set_option maxHeartbeats 8000000 in
set_option maxRecDepth 100000 in
theorem readR_5 (bv : Value) (b : List UInt8) (w : World) (hb : RSl bv b w) (hz : b.length ≤ 140737488351232) (hh : b.head? = some (letS 5)) :
    Calls Tryz.prog 14 #[.int .i64 5, bv] w (RetML w (readS 5 b)) := by
  have HRS := Lib.hid (fun hl => readS_short 5 b (by decide) (by decide) (by decide) hh hl)
  have HRD := Lib.hid (fun h => readS_dig 5 b (by decide) hh h)
  have HI := Lib.hid (RdR.mk' 5 w)
  have hpos : 0 < b.length := by cases b with | nil => cases hh | cons => simp
  have hne0 : ((b.length : Int) == 0) = false := beq_eq_false_iff_ne.2 (by omega)
  have hposI : (0 : Int) < (b.length : Int) := by omega
  have hb0 : b[0] = letS 5 := by cases b with | nil => cases hh | cons x r => simpa using hh
  have HBV := Lib.hid hb
  have hb2 := hb.below HI.out.hb
  obtain ⟨a, c, rfl, hc1, hc2, hc⟩ := hb
  obtain ⟨a2, c2, he2, _, _, hcc⟩ := hb2
  obtain ⟨g, o, ha, hx⟩ := hcc 0 hpos
  simp only [Value.slice.injEq] at he2
  obtain ⟨rfl, _, rfl⟩ := he2
  subst ha
  rw [Nat.add_zero, hb0] at hx
  unfold byteV at hx
  have hne : (((letS 5).toNat : Int) != ((letS 5).toNat : Int)) = false := by simp
  clear hc hcc hc1 hc2 hh hb0
  unfold msgZ msgK at HI hx
  go_enter Tryz.func14, Tryz.ntmps14
  go_wp2
  go_quiet ((go_at_call 46; exact Calls.quiet_of_same (letterR_quiet _ _ (by decide) (by decide))))
  have HI2 := Lib.hid (show RdR 5 w _ from HI.out.drewN nq)
  generalize hW : World.drewN (World.alloc (World.alloc w _) _) nq = W2 at *
  clear hW HI hx
  generalize hbv : (Value.slice (some ⟨g, o, none⟩) b.length c) = bv at *
  clear hbv
  have R4 := Lib.hid (HBV.out.below HI2.out.hb)
  have hlen := run_slice_len R4.out.slice
  have HZ := Lib.hid hz
  by_cases hA : b.length < 17
  · have hAI : (b.length : Int) < 17 := by omega
    have HRF := Lib.hid (show readS 5 b = (Msg.none, [⟨shakeL, (b.length : Int), 160⟩]) from HRS.out hA)
    go_wp2_with fail
    refine (no08_any _ _ _).mono ?_
    rintro e w8 ⟨lv, rfl, hl8, hb8⟩
    have hsz8 : w.heap.size < _ := Nat.lt_of_lt_of_le (HI2.out.cr).lt (Nat.le_refl _)
    have HB8 := Lib.hid ((HI2.out.hb).trans (hb8.mono (HI2.out.hb).size))
    have CR8 := Lib.hid ((HI2.out.cr).below hb8)
    have HL := Lib.hid hl8
    have HSZ := Lib.hid hsz8
    clear hb8 hl8 hsz8
    go_wp2_with (refine wpList_store_blk rfl _ (.tmp 4) (.tmp 59) rfl w.heap.size 0 msgZ (by rfl) (by rfl) (by kernel_rfl) (by simp [msgZ, Value.oneCell']) 27 _ CR8.out (by decide) ?_; intro w9 hC9 hg9)
    refine bodyPost_ret (readR_res (m := Msg.none) (dv := .slice none 0 0) (lv := lv) hC9 (by rfl) (by rfl)) rfl ?_
    rw [HRF.out]
    exact readR_fin HB8.out HL.out HSZ.out (by simp) hg9 (RSl.nil _)
  have hAI : ¬ (b.length : Int) < 17 := by omega
  by_cases hC : b.length = 17
  · have hCI : ¬ (17 : Int) < (b.length : Int) := by omega
    have HRF := Lib.hid (show readS 5 b = (⟨5, 0, 0, 0, ⟨#[]⟩, ⟨#[]⟩, b.drop 1⟩, []) from (HRD.out hA).trans (if_pos hC))
    obtain ⟨v1, hv1, _, hs1, _⟩ := R4.out.sub 1 b.length (by omega) (Nat.le_refl _)
    have hs1 : ∀ w', (Instr.slice 25 bv (some (.int .i64 1)) none none).run Tryz.prog w' = .ok v1 w' := hs1 rfl
    have hv1 : RSl v1 (b.drop 1) W2 := by rw [List.take_of_length_le (by simp)] at hv1; exact hv1
    have HV1 := Lib.hid hv1
    clear hv1
    have CM := Lib.hid HI2.out.cm
    have CR := Lib.hid HI2.out.cr
    have HB := Lib.hid HI2.out.hb
    have HV2 := HV1
    have hszw : w.heap.size + 1 < W2.heap.size := HI2.out.cm.lt
    have LT := BufIs.lit (base := W2.heap.size) (w := W2) [] (Nat.le_refl _) (Nat.zero_le _)
    obtain ⟨v', w3, hrun, hv3, hg3⟩ := LT.app (HV2.out.alloc (.cells (bytesV []).toArray 5 (0, 0))) (by simp; have := HZ.out; omega) (by simp)
    have hnot : (some (W2.heap.size) : Option Nat) ≠ some (w.heap.size + 1) := by intro e; have := Option.some.inj e; (try simp at this); omega
    have hnot2 : (some (W2.heap.size) : Option Nat) ≠ some w.heap.size := by intro e; have := Option.some.inj e; (try simp at this); omega
    have CM3 := Lib.hid ((CM.out.alloc (.cells (bytesV []).toArray 5 (0, 0))).grown hg3 hnot)
    have CR3 := Lib.hid ((CR.out.alloc (.cells (bytesV []).toArray 5 (0, 0))).grown hg3 hnot2)
    have HB3 := Lib.hid ((HB.out.alloc HB.out.size (.cells (bytesV []).toArray 5 (0, 0))).grown hg3 (Nat.le_trans HB.out.size (by simp)) (fun j hj => by rw [← Option.some.inj hj]; exact HB.out.size))
    have hrun2 := hrun
    try simp only [World.size_setCell] at hrun2
    have HRUN := Lib.hid hrun2
    have hdl : (b.drop 1).length = 16 := by simp; omega
    rw [List.nil_append] at hv3
    obtain ⟨va, vc, rfl⟩ := dig_shape hv3 hdl
    clear hrun2
    have HV3 := Lib.hid hv3
    have hvb := (hv3.block (g := va) rfl).1
    have hva : va ≠ w.heap.size + 1 := by intro e; rw [e] at hvb; (try simp at hvb); omega
    have hva0 : va ≠ w.heap.size := by intro e; rw [e] at hvb; (try simp at hvb); omega
    have HVA := Lib.hid hva0
    have c6 := CM3.out.cell 6
    have f6 := CM3.out.frozen 6
    have CM4 := Lib.hid (CM3.out.set_ 6 (.slice (some ⟨va, 0, none⟩) 16 vc))
    have CR4 := Lib.hid (CR3.out.far (p := ⟨w.heap.size + 1, 6, none⟩) (by simp) (.slice (some ⟨va, 0, none⟩) 16 vc))
    have HB4 := Lib.hid (HB3.out.setCell (p := ⟨w.heap.size + 1, 6, none⟩) (by simp) (.slice (some ⟨va, 0, none⟩) 16 vc))
    have HV4 := Lib.hid (HV3.out.frame (w' := w3.setCell ⟨w.heap.size + 1, 6, none⟩ (.slice (some ⟨va, 0, none⟩) 16 vc)) (fun j hj => Below.heap_setCell _ _ _ j (by cases hj; exact hva)))
    simp only [msgK, List.set_cons_succ, List.set_cons_zero, List.getElem?_cons_zero, List.getElem?_cons_succ] at c6
    clear hrun hv3 hg3 LT hdl hvb hva hva0 hnot hnot2
    have q0 := CM4.out.cell 0
    have q1 := CM4.out.cell 1
    have q2 := CM4.out.cell 2
    have q3 := CM4.out.cell 3
    have q4 := CM4.out.cell 4
    have q5 := CM4.out.cell 5
    have q6 := CM4.out.cell 6
    simp only [msgK, List.set_cons_succ, List.set_cons_zero, List.getElem?_cons_zero, List.getElem?_cons_succ] at q0 q1 q2 q3 q4 q5 q6
    go_wp2_with (at_builtin; refine stop ?_)
    refine Stopped.of ?_
    refine wp_app_eq rfl (.tmp 107) (.tmp 109) _ _ rfl _ _ (.slice (some ⟨va, 0, none⟩) 16 vc) w3 rfl rfl HRUN.out ?_
    go_upto_region 35 with (fail)
    clear hz hlen hAI hCI hpos hne0 hposI c6 f6
    go_wp2_with (refine wpList_store_blk rfl _ (.tmp 4) (.tmp 112) rfl w.heap.size 0 [.int .i64 5, .int .u64 0, .int .u32 0, .int .u32 0, .string ⟨#[]⟩, .string ⟨#[]⟩, .slice (some ⟨va, 0, none⟩) 16 vc] (by rfl) (by rfl) (by kernel_rfl) (by simp [Value.oneCell']) 27 _ CR4.out (by simp [msgZ]) ?_; intro w9 hC9 hg9)
    refine bodyPost_ret (readR_res (m := ⟨5, 0, 0, 0, ⟨#[]⟩, ⟨#[]⟩, b.drop 1⟩) (dv := .slice (some ⟨va, 0, none⟩) 16 vc) (lv := .slice none 0 0) hC9 (by rfl) (by rfl)) rfl ?_
    rw [HRF.out]
    exact readR_fin HB4.out (LinksIs.nil (w.heap.size + 1) _) (Nat.lt_succ_self _) (fun _ => rfl) hg9 (HV4.out.frame (fun j hj => hg9.block j (HV4.out.block hj).2 (fun e => by cases hj; exact HVA.out (Option.some.inj e)))).rsl
  · have hCI : (17 : Int) < (b.length : Int) := by omega
    have HRF := Lib.hid (show readS 5 b = (Msg.none, [⟨shakeL, 17, 160⟩]) from (HRD.out hA).trans (if_neg hC))
    go_wp2_with fail
    refine (no08_any _ _ _).mono ?_
    rintro e w8 ⟨lv, rfl, hl8, hb8⟩
    have hsz8 : w.heap.size < _ := Nat.lt_of_lt_of_le (HI2.out.cr).lt (Nat.le_refl _)
    have HB8 := Lib.hid ((HI2.out.hb).trans (hb8.mono (HI2.out.hb).size))
    have CR8 := Lib.hid ((HI2.out.cr).below hb8)
    have HL := Lib.hid hl8
    have HSZ := Lib.hid hsz8
    clear hb8 hl8 hsz8
    go_wp2_with (refine wpList_store_blk rfl _ (.tmp 4) (.tmp 89) rfl w.heap.size 0 msgZ (by rfl) (by rfl) (by kernel_rfl) (by simp [msgZ, Value.oneCell']) 27 _ CR8.out (by decide) ?_; intro w9 hC9 hg9)
    refine bodyPost_ret (readR_res (m := Msg.none) (dv := .slice none 0 0) (lv := lv) hC9 (by rfl) (by rfl)) rfl ?_
    rw [HRF.out]
    exact readR_fin HB8.out HL.out HSZ.out (by simp) hg9 (RSl.nil _)
end Go.Proofs.YtokkokgdjnkbnaaGreatDoor
end
section
/- Package heddleref08: Read. Printed by wip/rdr.py. -/
open Go Go.RowKit
namespace Go.Proofs.YtokkokgdjnkbnaaGreatDoor
set_option linter.unusedSimpArgs false

set_option maxHeartbeats 8000000 in
set_option maxRecDepth 100000 in
theorem readR_1 (bv : Value) (b : List UInt8) (w : World) (hb : RSl bv b w) (hz : b.length ≤ 140737488351232) (hh : b.head? = some (letS 1)) :
    Calls Tryz.prog 14 #[.int .i64 1, bv] w (RetML w (readS 1 b)) := by
  have HRS := Lib.hid (fun hl => readS_short 1 b (by decide) (by decide) (by decide) hh hl)
  have HRD := Lib.hid (fun hl => readS_nam 1 b 15 13 9 rfl rfl rfl (by decide) hh hl)
  have hnq := fun (w : World) (a : Option Addr) (n c : Nat) => run_neq_slice_nil_any (P := Tryz.prog) w 32 98 a n c 0 0 Tryz.underlying32
  have HI := Lib.hid (RdR.mk' 1 w)
  have hpos : 0 < b.length := by cases b with | nil => cases hh | cons => simp
  have hne0 : ((b.length : Int) == 0) = false := beq_eq_false_iff_ne.2 (by omega)
  have hposI : (0 : Int) < (b.length : Int) := by omega
  have hb0 : b[0] = letS 1 := by cases b with | nil => cases hh | cons x r => simpa using hh
  have HBV := Lib.hid hb
  have hb2 := hb.below HI.out.hb
  obtain ⟨a, c, rfl, hc1, hc2, hc⟩ := hb
  obtain ⟨a2, c2, he2, _, _, hcc⟩ := hb2
  obtain ⟨g, o, ha, hx⟩ := hcc 0 hpos
  simp only [Value.slice.injEq] at he2
  obtain ⟨rfl, _, rfl⟩ := he2
  subst ha
  rw [Nat.add_zero, hb0] at hx
  unfold byteV at hx
  have hne : (((letS 1).toNat : Int) != ((letS 1).toNat : Int)) = false := by simp
  clear hc hcc hc1 hc2 hh hb0
  unfold msgZ msgK at HI hx
  go_enter Tryz.func14, Tryz.ntmps14
  go_wp2
  go_quiet ((go_at_call 46; exact Calls.quiet_of_same (letterR_quiet _ _ (by decide) (by decide))))
  have HI2 := Lib.hid (show RdR 1 w _ from HI.out.drewN nq)
  generalize hW : World.drewN (World.alloc (World.alloc w _) _) nq = W2 at *
  clear hW HI hx
  generalize hbv : (Value.slice (some ⟨g, o, none⟩) b.length c) = bv at *
  clear hbv
  have R4 := Lib.hid (HBV.out.below HI2.out.hb)
  have hlen := run_slice_len R4.out.slice
  have HZ := Lib.hid hz
  by_cases hA0 : b.length < 15
  · have hAI : (b.length : Int) < 15 := by omega
    clear hz
    have HRF := Lib.hid (show readS 1 b = (Msg.none, [⟨shakeL, (b.length : Int), 160⟩]) from HRS.out hA0)
    go_wp2_with fail
    refine (no08_any _ _ _).mono ?_
    rintro e w8 ⟨lv, rfl, hl8, hb8⟩
    have hsz8 : w.heap.size < _ := Nat.lt_of_lt_of_le (HI2.out.cr).lt (Nat.le_refl _)
    have HB8 := Lib.hid ((HI2.out.hb).trans (hb8.mono (HI2.out.hb).size))
    have CR8 := Lib.hid ((HI2.out.cr).below hb8)
    have HL := Lib.hid hl8
    have HSZ := Lib.hid hsz8
    clear hb8 hl8 hsz8
    go_wp2_with (refine wpList_store_blk rfl _ (.tmp 4) (.tmp 59) rfl w.heap.size 0 msgZ (by rfl) (by rfl) (by kernel_rfl) (by simp [msgZ, Value.oneCell']) 27 _ CR8.out (by decide) ?_; intro w9 hC9 hg9)
    refine bodyPost_ret (readR_res (m := Msg.none) (dv := .slice none 0 0) (lv := lv) hC9 (by rfl) (by rfl)) rfl ?_
    rw [HRF.out]
    exact readR_fin HB8.out HL.out HSZ.out (by simp) hg9 (RSl.nil _)
  have hAI : ¬ (b.length : Int) < 15 := by omega
  have hbd := cut_bd b 13 2 (by omega)
  obtain ⟨n9, hn9e⟩ : ∃ n : Nat, numS (cutB b 13 2) = n := ⟨(numS (cutB b 13 2)).toNat, by omega⟩
  have hre := HRD.out hA0
  have hnm := numR_any bv b 13 2 W2 R4.out (by omega) (by decide) hz
  rw [hn9e] at hre hnm hbd
  rw [Int.toNat_natCast] at hre
  have HRE := Lib.hid hre
  have HNM := Lib.hid (show Calls Tryz.prog 48 #[bv, .int .i64 13, .int .i64 2] W2 _ from hnm)
  have hn9 : (n9 : Int) < 65536 := hbd.2
  have hw9 : IntKind.i64.wrap (n9 : Int) = n9 := IntWalk.i64_in _ (by omega)
  have hw9' : IntKind.i64.wrap (15 + (n9 : Int)) = 15 + (n9 : Int) := IntWalk.i64_in _ (by omega)
  have HN9 := Lib.hid hn9
  have HA0 := Lib.hid hA0
  clear hn9 hbd hn9e hre hnm hz hA0
  go_wp2_with fail
  refine HNM.out.mono ?_
  rintro e x1 ⟨rfl, rfl⟩
  clear HNM HRS HRD
  go_upto_region 24 with (fail)
  clear hAI hw9 hw9' hpos hne0 hposI
  by_cases hA : b.length < 15 + n9
  · have hAI : (b.length : Int) < 15 + (n9 : Int) := by omega
    have HRF := Lib.hid (show readS 1 b = (Msg.none, [⟨shakeL, (b.length : Int), 160⟩]) by rw [HRE.out, if_pos hA])
    go_wp2_with fail
    refine (no08_any _ _ _).mono ?_
    rintro e w8 ⟨lv, rfl, hl8, hb8⟩
    have hsz8 : w.heap.size < _ := Nat.lt_of_lt_of_le (HI2.out.cr).lt (Nat.le_refl _)
    have HB8 := Lib.hid ((HI2.out.hb).trans (hb8.mono (HI2.out.hb).size))
    have CR8 := Lib.hid ((HI2.out.cr).below hb8)
    have HL := Lib.hid hl8
    have HSZ := Lib.hid hsz8
    clear hb8 hl8 hsz8
    go_wp2_with (refine wpList_store_blk rfl _ (.tmp 4) (.tmp 81) rfl w.heap.size 0 msgZ (by rfl) (by rfl) (by kernel_rfl) (by simp [msgZ, Value.oneCell']) 27 _ CR8.out (by decide) ?_; intro w9 hC9 hg9)
    refine bodyPost_ret (readR_res (m := Msg.none) (dv := .slice none 0 0) (lv := lv) hC9 (by rfl) (by rfl)) rfl ?_
    rw [HRF.out]
    exact readR_fin HB8.out HL.out HSZ.out (by simp) hg9 (RSl.nil _)
  have hAI : ¬ (b.length : Int) < 15 + (n9 : Int) := by omega
  by_cases hC : 15 + n9 < b.length
  · have hCI : 15 + (n9 : Int) < (b.length : Int) := by omega
    have HRF := Lib.hid (show readS 1 b = (Msg.none, [⟨shakeL, (15 + (n9 : Int)), 160⟩]) by rw [HRE.out, if_neg hA, if_pos hC]; rfl)
    go_wp2_with fail
    refine (no08_any _ _ _).mono ?_
    rintro e w8 ⟨lv, rfl, hl8, hb8⟩
    have hsz8 : w.heap.size < _ := Nat.lt_of_lt_of_le (HI2.out.cr).lt (Nat.le_refl _)
    have HB8 := Lib.hid ((HI2.out.hb).trans (hb8.mono (HI2.out.hb).size))
    have CR8 := Lib.hid ((HI2.out.cr).below hb8)
    have HL := Lib.hid hl8
    have HSZ := Lib.hid hsz8
    clear hb8 hl8 hsz8
    go_wp2_with (refine wpList_store_blk rfl _ (.tmp 4) (.tmp 89) rfl w.heap.size 0 msgZ (by rfl) (by rfl) (by kernel_rfl) (by simp [msgZ, Value.oneCell']) 27 _ CR8.out (by decide) ?_; intro w9 hC9 hg9)
    refine bodyPost_ret (readR_res (m := Msg.none) (dv := .slice none 0 0) (lv := lv) hC9 (by rfl) (by rfl)) rfl ?_
    rw [HRF.out]
    exact readR_fin HB8.out HL.out HSZ.out (by simp) hg9 (RSl.nil _)
  have hCI : ¬ 15 + (n9 : Int) < (b.length : Int) := by omega
  have hWb : 15 ≤ b.length := by have := HA0.out; omega
  obtain ⟨v1, hv1, _, hs1, _⟩ := R4.out.sub 15 b.length hWb (Nat.le_refl _)
  have hs1 : ∀ w', (Instr.slice 25 bv (some (.int .i64 15)) none none).run Tryz.prog w' = .ok v1 w' := hs1 rfl
  have hv1 : RSl v1 (b.drop 15) W2 := by rw [List.take_of_length_le (by simp)] at hv1; exact hv1
  have hconv := run_slice_string hv1.slice
  have hSz := drop_sz b 15 HZ.out
  have HRE2 := Lib.hid (show readS 1 b = _ from HRE.out.trans ((if_neg hA).trans (if_neg hC)))
  generalize hST : (⟨(b.drop 15).toArray⟩ : ByteArray) = S at *
  have HND := Lib.hid (fun X => nodeR_nil S X hSz)
  rw [nodeRS_eq] at HND
  have HWB := Lib.hid hWb
  have c4 := HI2.out.cm.cell 4
  have f4 := HI2.out.cm.frozen 4
  simp only [msgK, List.getElem?_cons_zero, List.getElem?_cons_succ] at c4
  have CM := Lib.hid (HI2.out.cm.set_ 4 (.string S))
  have CR := Lib.hid (HI2.out.cr.far (p := ⟨w.heap.size + 1, 4, none⟩) (by simp) (.string S))
  have HB := Lib.hid (HI2.out.hb.setCell (p := ⟨w.heap.size + 1, 4, none⟩) (by simp) (.string S))
  have c4' := CM.out.cell 4
  simp only [msgK, List.set_cons_succ, List.set_cons_zero, List.getElem?_cons_zero, List.getElem?_cons_succ] at c4'
  clear hv1 hSz hWb hST hA hC HRE HA0
  go_wp2_with fail
  refine (HND.out _).mono ?_
  rintro e x2 ⟨lv, rfl, hl, hb5, hnil⟩
  have CM5 := Lib.hid (CM.out.below hb5)
  have CR5 := Lib.hid (CR.out.below hb5)
  have HB5 := Lib.hid (HB.out.trans (hb5.mono HB.out.size))
  clear hb5 HND c4 f4 c4' hAI hCI hlen hconv hs1 CM CR HB
  rcases nodeS_two S with hn | hn
  · obtain rfl : lv = .slice none 0 0 := hnil hn
    have HRF := Lib.hid (show readS 1 b = (⟨1, numS (cutB b 1 8), numS (cutB b 9 4), 0, S, ⟨#[]⟩, []⟩, []) by rw [HRE2.out, if_neg (by simp [hn])]; rfl)
    clear hl hnil hn HRE2
    have R5 := Lib.hid (HBV.out.below HB5.out)
    have HN1 := Lib.hid (show Calls Tryz.prog 48 #[bv, .int .i64 1, .int .i64 8] x2 fun e w' => e = .returned (.int .u64 (numS (cutB b 1 8))) ∧ x2 = w' from numR_any bv b 1 8 x2 R5.out (by have := HWB.out; omega) (by decide) HZ.out)
    have c1 := CM5.out.cell 1
    have f1 := CM5.out.frozen 1
    have CM6 := Lib.hid (CM5.out.set_ 1 (.int .u64 (numS (cutB b 1 8))))
    have CR6 := Lib.hid (CR5.out.far (p := ⟨w.heap.size + 1, 1, none⟩) (by simp) (.int .u64 (numS (cutB b 1 8))))
    have HB6 := Lib.hid (HB5.out.setCell (p := ⟨w.heap.size + 1, 1, none⟩) (by simp) (.int .u64 (numS (cutB b 1 8))))
    have R6 := Lib.hid (HBV.out.below HB6.out)
    have HN2 := Lib.hid (show Calls Tryz.prog 48 #[bv, .int .i64 9, .int .i64 4] (x2.setCell ⟨w.heap.size + 1, 1, none⟩ (.int .u64 (numS (cutB b 1 8)))) fun e w' => e = .returned (.int .u64 (numS (cutB b 9 4))) ∧ (x2.setCell ⟨w.heap.size + 1, 1, none⟩ (.int .u64 (numS (cutB b 1 8)))) = w' from numR_any bv b 9 4 _ R6.out (by have := HWB.out; omega) (by decide) HZ.out)
    have hwr2 : IntKind.u32.wrap (numS (cutB b 9 4)) = numS (cutB b 9 4) := by have := cutN_bd b 9; rw [IntKind.wrap_u32]; omega
    have c2 := CM6.out.cell 2
    have f2 := CM6.out.frozen 2
    have CM7 := Lib.hid (CM6.out.set_ 2 (.int .u32 (numS (cutB b 9 4))))
    have CR7 := Lib.hid (CR6.out.far (p := ⟨w.heap.size + 1, 2, none⟩) (by simp) (.int .u32 (numS (cutB b 9 4))))
    have HB7 := Lib.hid (HB6.out.setCell (p := ⟨w.heap.size + 1, 2, none⟩) (by simp) (.int .u32 (numS (cutB b 9 4))))
    simp only [msgK, List.set_cons_succ, List.set_cons_zero, List.getElem?_cons_zero, List.getElem?_cons_succ] at c1 c2
    have CM8 := CM7
    have CR8 := CR7
    have HB8 := HB7
    have q0 := CM8.out.cell 0
    have q1 := CM8.out.cell 1
    have q2 := CM8.out.cell 2
    have q3 := CM8.out.cell 3
    have q4 := CM8.out.cell 4
    have q5 := CM8.out.cell 5
    have q6 := CM8.out.cell 6
    simp only [msgK, List.set_cons_succ, List.set_cons_zero, List.getElem?_cons_zero, List.getElem?_cons_succ] at q0 q1 q2 q3 q4 q5 q6
    go_wp2_with fail
    refine HN1.out.mono ?_
    rintro e x3 ⟨rfl, rfl⟩
    go_wp2_with fail
    refine HN2.out.mono ?_
    rintro e x4 ⟨rfl, rfl⟩
    go_wp2_with (refine wpList_store_blk rfl _ (.tmp 4) (.tmp 146) rfl w.heap.size 0 [.int .i64 1, .int .u64 (numS (cutB b 1 8)), .int .u32 (numS (cutB b 9 4)), .int .u32 0, .string S, .string ⟨#[]⟩, .slice none 0 0] (by rfl) (by rfl) (by kernel_rfl) (by simp [Value.oneCell']) 27 _ CR8.out (by simp [msgZ]) ?_; intro w9 hC9 hg9)
    refine bodyPost_ret (readR_res (m := ⟨1, numS (cutB b 1 8), numS (cutB b 9 4), 0, S, ⟨#[]⟩, []⟩) (dv := .slice none 0 0) (lv := .slice none 0 0) hC9 (by rfl) (by rfl)) rfl ?_
    rw [HRF.out]
    exact readR_fin HB8.out (LinksIs.nil (w.heap.size + 1) _) (Nat.lt_succ_self _) (fun _ => rfl) hg9 (RSl.nil _)
  · rw [hn] at hl
    have HRF := Lib.hid (show readS 1 b = (Msg.none, [⟨shakeL, 15, 24⟩, ⟨atomL, 0, 24⟩]) by rw [HRE2.out, if_pos (by simp [hn])]; rfl)
    have HO := Lib.hid (over08_any 15 lv ⟨atomL, 0, 24⟩ [] _ x2 hl (Nat.zero_le _))
    have hsz8 : w.heap.size < x2.heap.size := CR5.out.lt
    have HSZ := Lib.hid hsz8
    obtain ⟨sg, sn, sc, rfl⟩ := some_links hl
    clear hl hnil hn hsz8
    go_wp2_with fail
    refine HO.out.mono ?_
    rintro e w8 ⟨lv8, rfl, hl8, hb8⟩
    have HB8 := Lib.hid (HB5.out.trans (hb8.mono HB5.out.size))
    have CR8 := Lib.hid (CR5.out.below hb8)
    have HL := Lib.hid hl8
    clear hb8 hl8
    go_wp2_with (refine wpList_store_blk rfl _ (.tmp 4) (.tmp 127) rfl w.heap.size 0 msgZ (by rfl) (by rfl) (by kernel_rfl) (by simp [msgZ, Value.oneCell']) 27 _ CR8.out (by decide) ?_; intro w9 hC9 hg9)
    refine bodyPost_ret (readR_res (m := Msg.none) (dv := .slice none 0 0) (lv := lv8) hC9 (by rfl) (by rfl)) rfl ?_
    rw [HRF.out]
    exact readR_fin HB8.out HL.out HSZ.out (by simp) hg9 (RSl.nil _)
set_option maxHeartbeats 8000000 in
set_option maxRecDepth 100000 in
theorem readR_3 (bv : Value) (b : List UInt8) (w : World) (hb : RSl bv b w) (hz : b.length ≤ 140737488351232) (hh : b.head? = some (letS 3)) :
    Calls Tryz.prog 14 #[.int .i64 3, bv] w (RetML w (readS 3 b)) := by
  have HRS := Lib.hid (fun hl => readS_short 3 b (by decide) (by decide) (by decide) hh hl)
  have HRD := Lib.hid (fun hl => readS_nam 3 b 19 17 13 rfl rfl rfl (by decide) hh hl)
  have hnq := fun (w : World) (a : Option Addr) (n c : Nat) => run_neq_slice_nil_any (P := Tryz.prog) w 32 98 a n c 0 0 Tryz.underlying32
  have HI := Lib.hid (RdR.mk' 3 w)
  have hpos : 0 < b.length := by cases b with | nil => cases hh | cons => simp
  have hne0 : ((b.length : Int) == 0) = false := beq_eq_false_iff_ne.2 (by omega)
  have hposI : (0 : Int) < (b.length : Int) := by omega
  have hb0 : b[0] = letS 3 := by cases b with | nil => cases hh | cons x r => simpa using hh
  have HBV := Lib.hid hb
  have hb2 := hb.below HI.out.hb
  obtain ⟨a, c, rfl, hc1, hc2, hc⟩ := hb
  obtain ⟨a2, c2, he2, _, _, hcc⟩ := hb2
  obtain ⟨g, o, ha, hx⟩ := hcc 0 hpos
  simp only [Value.slice.injEq] at he2
  obtain ⟨rfl, _, rfl⟩ := he2
  subst ha
  rw [Nat.add_zero, hb0] at hx
  unfold byteV at hx
  have hne : (((letS 3).toNat : Int) != ((letS 3).toNat : Int)) = false := by simp
  clear hc hcc hc1 hc2 hh hb0
  unfold msgZ msgK at HI hx
  go_enter Tryz.func14, Tryz.ntmps14
  go_wp2
  go_quiet ((go_at_call 46; exact Calls.quiet_of_same (letterR_quiet _ _ (by decide) (by decide))))
  have HI2 := Lib.hid (show RdR 3 w _ from HI.out.drewN nq)
  generalize hW : World.drewN (World.alloc (World.alloc w _) _) nq = W2 at *
  clear hW HI hx
  generalize hbv : (Value.slice (some ⟨g, o, none⟩) b.length c) = bv at *
  clear hbv
  have R4 := Lib.hid (HBV.out.below HI2.out.hb)
  have hlen := run_slice_len R4.out.slice
  have HZ := Lib.hid hz
  by_cases hA0 : b.length < 19
  · have hAI : (b.length : Int) < 19 := by omega
    clear hz
    have HRF := Lib.hid (show readS 3 b = (Msg.none, [⟨shakeL, (b.length : Int), 160⟩]) from HRS.out hA0)
    go_wp2_with fail
    refine (no08_any _ _ _).mono ?_
    rintro e w8 ⟨lv, rfl, hl8, hb8⟩
    have hsz8 : w.heap.size < _ := Nat.lt_of_lt_of_le (HI2.out.cr).lt (Nat.le_refl _)
    have HB8 := Lib.hid ((HI2.out.hb).trans (hb8.mono (HI2.out.hb).size))
    have CR8 := Lib.hid ((HI2.out.cr).below hb8)
    have HL := Lib.hid hl8
    have HSZ := Lib.hid hsz8
    clear hb8 hl8 hsz8
    go_wp2_with (refine wpList_store_blk rfl _ (.tmp 4) (.tmp 59) rfl w.heap.size 0 msgZ (by rfl) (by rfl) (by kernel_rfl) (by simp [msgZ, Value.oneCell']) 27 _ CR8.out (by decide) ?_; intro w9 hC9 hg9)
    refine bodyPost_ret (readR_res (m := Msg.none) (dv := .slice none 0 0) (lv := lv) hC9 (by rfl) (by rfl)) rfl ?_
    rw [HRF.out]
    exact readR_fin HB8.out HL.out HSZ.out (by simp) hg9 (RSl.nil _)
  have hAI : ¬ (b.length : Int) < 19 := by omega
  have hbd := cut_bd b 17 2 (by omega)
  obtain ⟨n9, hn9e⟩ : ∃ n : Nat, numS (cutB b 17 2) = n := ⟨(numS (cutB b 17 2)).toNat, by omega⟩
  have hre := HRD.out hA0
  have hnm := numR_any bv b 17 2 W2 R4.out (by omega) (by decide) hz
  rw [hn9e] at hre hnm hbd
  rw [Int.toNat_natCast] at hre
  have HRE := Lib.hid hre
  have HNM := Lib.hid (show Calls Tryz.prog 48 #[bv, .int .i64 17, .int .i64 2] W2 _ from hnm)
  have hn9 : (n9 : Int) < 65536 := hbd.2
  have hw9 : IntKind.i64.wrap (n9 : Int) = n9 := IntWalk.i64_in _ (by omega)
  have hw9' : IntKind.i64.wrap (19 + (n9 : Int)) = 19 + (n9 : Int) := IntWalk.i64_in _ (by omega)
  have HN9 := Lib.hid hn9
  have HA0 := Lib.hid hA0
  clear hn9 hbd hn9e hre hnm hz hA0
  go_wp2_with fail
  refine HNM.out.mono ?_
  rintro e x1 ⟨rfl, rfl⟩
  clear HNM HRS HRD
  go_upto_region 24 with (fail)
  clear hAI hw9 hw9' hpos hne0 hposI
  by_cases hA : b.length < 19 + n9
  · have hAI : (b.length : Int) < 19 + (n9 : Int) := by omega
    have HRF := Lib.hid (show readS 3 b = (Msg.none, [⟨shakeL, (b.length : Int), 160⟩]) by rw [HRE.out, if_pos hA])
    go_wp2_with fail
    refine (no08_any _ _ _).mono ?_
    rintro e w8 ⟨lv, rfl, hl8, hb8⟩
    have hsz8 : w.heap.size < _ := Nat.lt_of_lt_of_le (HI2.out.cr).lt (Nat.le_refl _)
    have HB8 := Lib.hid ((HI2.out.hb).trans (hb8.mono (HI2.out.hb).size))
    have CR8 := Lib.hid ((HI2.out.cr).below hb8)
    have HL := Lib.hid hl8
    have HSZ := Lib.hid hsz8
    clear hb8 hl8 hsz8
    go_wp2_with (refine wpList_store_blk rfl _ (.tmp 4) (.tmp 81) rfl w.heap.size 0 msgZ (by rfl) (by rfl) (by kernel_rfl) (by simp [msgZ, Value.oneCell']) 27 _ CR8.out (by decide) ?_; intro w9 hC9 hg9)
    refine bodyPost_ret (readR_res (m := Msg.none) (dv := .slice none 0 0) (lv := lv) hC9 (by rfl) (by rfl)) rfl ?_
    rw [HRF.out]
    exact readR_fin HB8.out HL.out HSZ.out (by simp) hg9 (RSl.nil _)
  have hAI : ¬ (b.length : Int) < 19 + (n9 : Int) := by omega
  by_cases hC : 19 + n9 < b.length
  · have hCI : 19 + (n9 : Int) < (b.length : Int) := by omega
    have HRF := Lib.hid (show readS 3 b = (Msg.none, [⟨shakeL, (19 + (n9 : Int)), 160⟩]) by rw [HRE.out, if_neg hA, if_pos hC]; rfl)
    go_wp2_with fail
    refine (no08_any _ _ _).mono ?_
    rintro e w8 ⟨lv, rfl, hl8, hb8⟩
    have hsz8 : w.heap.size < _ := Nat.lt_of_lt_of_le (HI2.out.cr).lt (Nat.le_refl _)
    have HB8 := Lib.hid ((HI2.out.hb).trans (hb8.mono (HI2.out.hb).size))
    have CR8 := Lib.hid ((HI2.out.cr).below hb8)
    have HL := Lib.hid hl8
    have HSZ := Lib.hid hsz8
    clear hb8 hl8 hsz8
    go_wp2_with (refine wpList_store_blk rfl _ (.tmp 4) (.tmp 89) rfl w.heap.size 0 msgZ (by rfl) (by rfl) (by kernel_rfl) (by simp [msgZ, Value.oneCell']) 27 _ CR8.out (by decide) ?_; intro w9 hC9 hg9)
    refine bodyPost_ret (readR_res (m := Msg.none) (dv := .slice none 0 0) (lv := lv) hC9 (by rfl) (by rfl)) rfl ?_
    rw [HRF.out]
    exact readR_fin HB8.out HL.out HSZ.out (by simp) hg9 (RSl.nil _)
  have hCI : ¬ 19 + (n9 : Int) < (b.length : Int) := by omega
  have hWb : 19 ≤ b.length := by have := HA0.out; omega
  obtain ⟨v1, hv1, _, hs1, _⟩ := R4.out.sub 19 b.length hWb (Nat.le_refl _)
  have hs1 : ∀ w', (Instr.slice 25 bv (some (.int .i64 19)) none none).run Tryz.prog w' = .ok v1 w' := hs1 rfl
  have hv1 : RSl v1 (b.drop 19) W2 := by rw [List.take_of_length_le (by simp)] at hv1; exact hv1
  have hconv := run_slice_string hv1.slice
  have hSz := drop_sz b 19 HZ.out
  have HRE2 := Lib.hid (show readS 3 b = _ from HRE.out.trans ((if_neg hA).trans (if_neg hC)))
  generalize hST : (⟨(b.drop 19).toArray⟩ : ByteArray) = S at *
  have HND := Lib.hid (fun X => nodeR_nil S X hSz)
  rw [nodeRS_eq] at HND
  have HWB := Lib.hid hWb
  have c4 := HI2.out.cm.cell 4
  have f4 := HI2.out.cm.frozen 4
  simp only [msgK, List.getElem?_cons_zero, List.getElem?_cons_succ] at c4
  have CM := Lib.hid (HI2.out.cm.set_ 4 (.string S))
  have CR := Lib.hid (HI2.out.cr.far (p := ⟨w.heap.size + 1, 4, none⟩) (by simp) (.string S))
  have HB := Lib.hid (HI2.out.hb.setCell (p := ⟨w.heap.size + 1, 4, none⟩) (by simp) (.string S))
  have c4' := CM.out.cell 4
  simp only [msgK, List.set_cons_succ, List.set_cons_zero, List.getElem?_cons_zero, List.getElem?_cons_succ] at c4'
  clear hv1 hSz hWb hST hA hC HRE HA0
  go_wp2_with fail
  refine (HND.out _).mono ?_
  rintro e x2 ⟨lv, rfl, hl, hb5, hnil⟩
  have CM5 := Lib.hid (CM.out.below hb5)
  have CR5 := Lib.hid (CR.out.below hb5)
  have HB5 := Lib.hid (HB.out.trans (hb5.mono HB.out.size))
  clear hb5 HND c4 f4 c4' hAI hCI hlen hconv hs1 CM CR HB
  rcases nodeS_two S with hn | hn
  · obtain rfl : lv = .slice none 0 0 := hnil hn
    have HRF := Lib.hid (show readS 3 b = (⟨3, numS (cutB b 1 8), numS (cutB b 13 4), numS (cutB b 9 4), S, ⟨#[]⟩, []⟩, []) by rw [HRE2.out, if_neg (by simp [hn])]; rfl)
    clear hl hnil hn HRE2
    have R5 := Lib.hid (HBV.out.below HB5.out)
    have HN1 := Lib.hid (show Calls Tryz.prog 48 #[bv, .int .i64 1, .int .i64 8] x2 fun e w' => e = .returned (.int .u64 (numS (cutB b 1 8))) ∧ x2 = w' from numR_any bv b 1 8 x2 R5.out (by have := HWB.out; omega) (by decide) HZ.out)
    have c1 := CM5.out.cell 1
    have f1 := CM5.out.frozen 1
    have CM6 := Lib.hid (CM5.out.set_ 1 (.int .u64 (numS (cutB b 1 8))))
    have CR6 := Lib.hid (CR5.out.far (p := ⟨w.heap.size + 1, 1, none⟩) (by simp) (.int .u64 (numS (cutB b 1 8))))
    have HB6 := Lib.hid (HB5.out.setCell (p := ⟨w.heap.size + 1, 1, none⟩) (by simp) (.int .u64 (numS (cutB b 1 8))))
    have R6 := Lib.hid (HBV.out.below HB6.out)
    have HN2 := Lib.hid (show Calls Tryz.prog 48 #[bv, .int .i64 13, .int .i64 4] (x2.setCell ⟨w.heap.size + 1, 1, none⟩ (.int .u64 (numS (cutB b 1 8)))) fun e w' => e = .returned (.int .u64 (numS (cutB b 13 4))) ∧ (x2.setCell ⟨w.heap.size + 1, 1, none⟩ (.int .u64 (numS (cutB b 1 8)))) = w' from numR_any bv b 13 4 _ R6.out (by have := HWB.out; omega) (by decide) HZ.out)
    have hwr2 : IntKind.u32.wrap (numS (cutB b 13 4)) = numS (cutB b 13 4) := by have := cutN_bd b 13; rw [IntKind.wrap_u32]; omega
    have c2 := CM6.out.cell 2
    have f2 := CM6.out.frozen 2
    have CM7 := Lib.hid (CM6.out.set_ 2 (.int .u32 (numS (cutB b 13 4))))
    have CR7 := Lib.hid (CR6.out.far (p := ⟨w.heap.size + 1, 2, none⟩) (by simp) (.int .u32 (numS (cutB b 13 4))))
    have HB7 := Lib.hid (HB6.out.setCell (p := ⟨w.heap.size + 1, 2, none⟩) (by simp) (.int .u32 (numS (cutB b 13 4))))
    simp only [msgK, List.set_cons_succ, List.set_cons_zero, List.getElem?_cons_zero, List.getElem?_cons_succ] at c1 c2
    have R7 := Lib.hid (HBV.out.below HB7.out)
    have HN3 := Lib.hid (show Calls Tryz.prog 48 #[bv, .int .i64 9, .int .i64 4] ((x2.setCell ⟨w.heap.size + 1, 1, none⟩ (.int .u64 (numS (cutB b 1 8)))).setCell ⟨w.heap.size + 1, 2, none⟩ (.int .u32 (numS (cutB b 13 4)))) fun e w' => e = .returned (.int .u64 (numS (cutB b 9 4))) ∧ ((x2.setCell ⟨w.heap.size + 1, 1, none⟩ (.int .u64 (numS (cutB b 1 8)))).setCell ⟨w.heap.size + 1, 2, none⟩ (.int .u32 (numS (cutB b 13 4)))) = w' from numR_any bv b 9 4 _ R7.out (by have := HWB.out; omega) (by decide) HZ.out)
    have hwr3 : IntKind.u32.wrap (numS (cutB b 9 4)) = numS (cutB b 9 4) := by have := cutN_bd b 9; rw [IntKind.wrap_u32]; omega
    have c3 := CM7.out.cell 3
    have f3 := CM7.out.frozen 3
    simp only [msgK, List.set_cons_succ, List.set_cons_zero, List.getElem?_cons_zero, List.getElem?_cons_succ] at c3
    have CM8 := Lib.hid (CM7.out.set_ 3 (.int .u32 (numS (cutB b 9 4))))
    have CR8 := Lib.hid (CR7.out.far (p := ⟨w.heap.size + 1, 3, none⟩) (by simp) (.int .u32 (numS (cutB b 9 4))))
    have HB8 := Lib.hid (HB7.out.setCell (p := ⟨w.heap.size + 1, 3, none⟩) (by simp) (.int .u32 (numS (cutB b 9 4))))
    have q0 := CM8.out.cell 0
    have q1 := CM8.out.cell 1
    have q2 := CM8.out.cell 2
    have q3 := CM8.out.cell 3
    have q4 := CM8.out.cell 4
    have q5 := CM8.out.cell 5
    have q6 := CM8.out.cell 6
    simp only [msgK, List.set_cons_succ, List.set_cons_zero, List.getElem?_cons_zero, List.getElem?_cons_succ] at q0 q1 q2 q3 q4 q5 q6
    go_wp2_with fail
    refine HN1.out.mono ?_
    rintro e x3 ⟨rfl, rfl⟩
    go_wp2_with fail
    refine HN2.out.mono ?_
    rintro e x4 ⟨rfl, rfl⟩
    go_wp2_with fail
    refine HN3.out.mono ?_
    rintro e x5 ⟨rfl, rfl⟩
    go_wp2_with (refine wpList_store_blk rfl _ (.tmp 4) (.tmp 146) rfl w.heap.size 0 [.int .i64 3, .int .u64 (numS (cutB b 1 8)), .int .u32 (numS (cutB b 13 4)), .int .u32 (numS (cutB b 9 4)), .string S, .string ⟨#[]⟩, .slice none 0 0] (by rfl) (by rfl) (by kernel_rfl) (by simp [Value.oneCell']) 27 _ CR8.out (by simp [msgZ]) ?_; intro w9 hC9 hg9)
    refine bodyPost_ret (readR_res (m := ⟨3, numS (cutB b 1 8), numS (cutB b 13 4), numS (cutB b 9 4), S, ⟨#[]⟩, []⟩) (dv := .slice none 0 0) (lv := .slice none 0 0) hC9 (by rfl) (by rfl)) rfl ?_
    rw [HRF.out]
    exact readR_fin HB8.out (LinksIs.nil (w.heap.size + 1) _) (Nat.lt_succ_self _) (fun _ => rfl) hg9 (RSl.nil _)
  · rw [hn] at hl
    have HRF := Lib.hid (show readS 3 b = (Msg.none, [⟨shakeL, 19, 24⟩, ⟨atomL, 0, 24⟩]) by rw [HRE2.out, if_pos (by simp [hn])]; rfl)
    have HO := Lib.hid (over08_any 19 lv ⟨atomL, 0, 24⟩ [] _ x2 hl (Nat.zero_le _))
    have hsz8 : w.heap.size < x2.heap.size := CR5.out.lt
    have HSZ := Lib.hid hsz8
    obtain ⟨sg, sn, sc, rfl⟩ := some_links hl
    clear hl hnil hn hsz8
    go_wp2_with fail
    refine HO.out.mono ?_
    rintro e w8 ⟨lv8, rfl, hl8, hb8⟩
    have HB8 := Lib.hid (HB5.out.trans (hb8.mono HB5.out.size))
    have CR8 := Lib.hid (CR5.out.below hb8)
    have HL := Lib.hid hl8
    clear hb8 hl8
    go_wp2_with (refine wpList_store_blk rfl _ (.tmp 4) (.tmp 127) rfl w.heap.size 0 msgZ (by rfl) (by rfl) (by kernel_rfl) (by simp [msgZ, Value.oneCell']) 27 _ CR8.out (by decide) ?_; intro w9 hC9 hg9)
    refine bodyPost_ret (readR_res (m := Msg.none) (dv := .slice none 0 0) (lv := lv8) hC9 (by rfl) (by rfl)) rfl ?_
    rw [HRF.out]
    exact readR_fin HB8.out HL.out HSZ.out (by simp) hg9 (RSl.nil _)
theorem readR_any (k : Int) (bv : Value) (b : List UInt8) (w : World) (hb : RSl bv b w) (hz : b.length ≤ 140737488351232) :
    Calls Tryz.prog 14 #[.int .i64 k, bv] w (RetML w (readS k b)) := by
  by_cases hk : k < 1 ∨ 5 < k
  · exact readR_bad k bv b w hk
  by_cases hh : b.head? = some (letS k)
  · have h5 : k = 1 ∨ k = 2 ∨ k = 3 ∨ k = 4 ∨ k = 5 := by omega
    rcases h5 with rfl | rfl | rfl | rfl | rfl
    · exact readR_1 bv b w hb hz hh
    · exact readR_2 bv b w hb hh
    · exact readR_3 bv b w hb hz hh
    · exact readR_4 bv b w hb hz hh
    · exact readR_5 bv b w hb hz hh
  · exact readR_head k bv b w hb (by omega) (by omega) hh
end Go.Proofs.YtokkokgdjnkbnaaGreatDoor
end
