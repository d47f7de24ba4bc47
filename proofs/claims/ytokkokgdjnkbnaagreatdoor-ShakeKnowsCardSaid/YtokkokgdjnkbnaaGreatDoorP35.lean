/- Texts laid together: PlA, PlB, PlC, PlD, SidU, SidV, SidW, Start, Ops, ShkKnows, ShkPlays. -/
import Derived.Test.YtokkokgdjnkbnaaGreatDoorP29
import Derived.Test.YtokkokgdjnkbnaaGreatDoorP30
import Derived.Test.YtokkokgdjnkbnaaGreatDoorP26
import Derived.Test.YtokkokgdjnkbnaaGreatDoorP23
import Derived.Test.YtokkokgdjnkbnaaGreatDoorP27
import Derived.Test.YtokkokgdjnkbnaaGreatDoorP17
import Derived.Deep.Slices
import Derived.Deep.Fields
import Derived.ChangeSame
import Derived.Test.YtokkokgdjnkbnaaGreatDoorP32
section
/- The reference of layer 8: the small functions of a side; two lists of messages. -/
open Go Go.RowKit
namespace Go.Proofs.YtokkokgdjnkbnaaGreatDoor

theorem digestRM_any (g : Nat) (s : Sd) (u : Nat) (w : World) (hu : u < 4294967296) (hC : Cells w g 68 s.cells) :
    Calls Tryz.prog 77 #[.pointer (some ⟨g, 0, none⟩), .int .u32 u] w fun e w' => ∃ v, e = .returned v ∧ BufIs w.heap.size v (digestS s.cookie u).1 w' ∧ Below w.heap.size w w' := by
  have HD := Lib.hid (digestR_any s.cookie u hu w)
  have c9 := hC.cell 9
  simp only [Sd.cells, List.getElem?_cons_zero, List.getElem?_cons_succ] at c9
  clear hC
  go_enter Tryz.func77, Tryz.ntmps77
  go_wp2_with fail
  refine HD.out.mono ?_
  rintro e w1 ⟨v, ev, rfl, hv, her, hb⟩
  go_wp2
  go_ret
  exact ⟨_, rfl, hv, hb⟩
theorem sendR_any (m : Msg) (dv : Value) (w : World) (hm : m.Ok) (hd : RSl dv m.digest w) :
    Calls Tryz.prog 54 #[m.val dv] w fun e w' => ∃ v, e = .returned v ∧ BBs w.heap.size v [(writeS m).1] w' ∧ Below w.heap.size w w' := by
  have HW := fun w1 (h : Below w.heap.size w w1) => Lib.hid (writeR_any m dv w1 (hd.below h) hm)
  unfold Msg.val at *
  go_enter Tryz.func54, Tryz.ntmps54
  go_wp2_with fail
  refine (HW _ ((Below.refl _ w).alloc (Nat.le_refl _) _)).out.mono ?_
  rintro e w1 ⟨v, ev, rfl, hv, her, hb⟩
  have hb1 := ((Below.refl _ w).alloc (Nat.le_refl _) _).trans (hb.mono (B' := w.heap.size) (by simp))
  have HV := Lib.hid hv
  clear hb her
  rcases hv.shape with ⟨rfl, _⟩ | ⟨g, c, rfl, _⟩
  all_goals
    clear hv
    go_wp2
    go_ret
    exact ⟨_, rfl, BBs.lit (HV.out.base (Nat.zero_le _)) hb1.size, hb1.alloc hb1.size _⟩
theorem kindR_any (g : Nat) (s : Sd) (w : World) (hC : Cells w g 68 s.cells) :
    Calls Tryz.prog 56 #[.pointer (some ⟨g, 0, none⟩)] w fun e w' => e = .returned (.int .i64 (waitK s.st)) ∧ w = w' := by
  have c0 := hC.cell 0
  simp only [Sd.cells, List.getElem?_cons_zero] at c0
  clear hC
  by_cases h1 : s.st = 1
  · rw [h1] at c0 ⊢
    go_enter Tryz.func56, Tryz.ntmps56
    go_wp2
    go_ret
    exact ⟨rfl, rfl⟩
  by_cases h2 : s.st = 2
  · rw [h2] at c0 ⊢
    go_enter Tryz.func56, Tryz.ntmps56
    go_wp2
    go_ret
    exact ⟨rfl, rfl⟩
  by_cases h3 : s.st = 3
  · rw [h3] at c0 ⊢
    go_enter Tryz.func56, Tryz.ntmps56
    go_wp2
    go_ret
    exact ⟨rfl, rfl⟩
  by_cases h4 : s.st = 4
  · rw [h4] at c0 ⊢
    go_enter Tryz.func56, Tryz.ntmps56
    go_wp2
    go_ret
    exact ⟨rfl, rfl⟩
  have q1 : (s.st == 1) = false := beq_eq_false_iff_ne.2 h1
  have q2 : (s.st == 2) = false := beq_eq_false_iff_ne.2 h2
  have q3 : (s.st == 3) = false := beq_eq_false_iff_ne.2 h3
  have q4 : (s.st == 4) = false := beq_eq_false_iff_ne.2 h4
  have hw := Lib.hid (show waitK s.st = 4 by unfold waitK; rw [if_neg h1, if_neg h2, if_neg h3, if_neg h4])
  clear h1 h2 h3 h4
  go_enter Tryz.func56, Tryz.ntmps56
  go_wp2
  go_ret
  exact ⟨by rw [hw.out]; rfl, rfl⟩

set_option maxHeartbeats 4000000 in
set_option maxRecDepth 100000 in
theorem samesR_any {b1 b2 : Nat} (l : List (List UInt8)) (v1 v2 : Value) (w : World) (h1 : BBs b1 v1 l w) (h2 : BBs b2 v2 l w) (hl : l.length ≤ 1000) :
    Calls Tryz.prog 19 #[v1, v2] w fun e w' => e = .returned (.bool true) ∧ Below w.heap.size w w' := by
  have r1 := fun w2 => run_bbs_len h1 w2
  have r2 := fun w2 => run_bbs_len h2 w2
  have hne : ((l.length : Int) != (l.length : Int)) = false := by simp
  have H1 := Lib.hid h1
  have H2 := Lib.hid h2
  rcases h1.shape with ⟨rfl, hnil⟩ | ⟨g1, c1, rfl, _, _, hc1, hm1⟩
  · have hn : l.length = 0 := by rw [hnil]; rfl
    rw [hn] at r1 r2 hne
    clear hnil hn h1 h2
    go_enter Tryz.func19, Tryz.ntmps19
    go_wp2
    refine wp_loop_rounds 1 ?_
    rw [rounds_succ]
    go_wp2
    go_ret
    exact ⟨rfl, Below.refl _ _⟩
  rcases h2.shape with ⟨rfl, hnil⟩ | ⟨g2, c2, rfl, _, _, hc2, hm2⟩
  · have hn : l.length = 0 := by rw [hnil]; rfl
    rw [hn] at r1 r2 hne ⊢
    clear hnil hn h1 h2 hc1
    go_enter Tryz.func19, Tryz.ntmps19
    go_wp2
    refine wp_loop_rounds 1 ?_
    rw [rounds_succ]
    go_wp2
    go_ret
    exact ⟨rfl, Below.refl _ _⟩
  have hN0 : w = w.drewN 0 := rfl
  have HN := Lib.hid hN0
  clear h1 h2 hN0
  go_enter Tryz.func19, Tryz.ntmps19
  go_wp2
  go_loopw [5] (fun i wr => ∃ k n : Nat, k ≤ l.length ∧ i = .int .i64 k ∧ wr = w.drewN n) (fun i _ => l.length - (intOf i).toNat)
  case atStart => exact ⟨0, 0, Nat.zero_le _, rfl, HN.out⟩
  case round =>
    obtain ⟨k, n, hk, rfl, rfl⟩ := hrel
    clear HN
    by_cases hlt : k < l.length
    · have hki : (k : Int) < (l.length : Int) := by omega
      obtain ⟨u1, e1, hu1⟩ := H1.out.at_ k hlt
      obtain ⟨u2, e2, hu2⟩ := H2.out.at_ k hlt
      have q1 := fun m => run_buf_string (hu1.drewN m)
      have q2 := fun m => run_buf_string (hu2.drewN m)
      have hbe : (((⟨(l[k]).toArray⟩ : ByteArray)).toList != ((⟨(l[k]).toArray⟩ : ByteArray)).toList) = false := by simp
      clear hu1 hu2
      go_wp2
      go_quiet (fail)
      go_wp2
      go_roundw
      case rel => exact ⟨k + 1, _, by omega, by go_num, rfl⟩
      case measure => simp [intOf]; omega
    · have hki : ¬ (k : Int) < (l.length : Int) := by omega
      go_wp2
      go_ret
      exact ⟨rfl, below_drewN (Below.refl _ _) _⟩
end Go.Proofs.YtokkokgdjnkbnaaGreatDoor
end
section
/- The reference of layer 8: what a side does with a message that was read. Printed by wip/plb.py. -/
open Go Go.RowKit
namespace Go.Proofs.YtokkokgdjnkbnaaGreatDoor
set_option linter.unusedSimpArgs false

/-- what the reference's sides hand back -/
def RetTR (g : Nat) (w : World) (r : Took) (e : Ending) (w' : World) : Prop :=
  ∃ v lv, e = .returned (.tuple #[v, lv]) ∧ BBs w.heap.size v r.2.1 w' ∧ LinksIs w.heap.size lv r.2.2 w' ∧ (r.2.2 = [] → lv = .slice none 0 0) ∧ Keep (Blk1 g) w w' ∧ Cells w' g 68 r.1.cells

set_option maxHeartbeats 8000000 in
set_option maxRecDepth 100000 in
theorem tookR_2 (g : Nat) (s : Sd) (m : Msg) (dv : Value) (w : World) (hC : Cells w g 68 s.cells) (hk : m.kind = 2) :
    Calls Tryz.prog 57 #[.pointer (some ⟨g, 0, none⟩), m.val dv] w (RetTR g w (tookS s m)) := by
  have HF := Lib.hid (fun W => no08_any 0 164 W)
  have HC := Lib.hid hC
  have hlt := hC.lt
  have hS := Lib.hid (fun h => status_ok (s := s) hk h)
  have hN := Lib.hid (fun h => status_no (s := s) hk h)
  clear hC
  obtain ⟨kd, fl, cr, chn, nm, st, dg⟩ := m
  obtain rfl : kd = 2 := hk
  unfold Msg.val
  by_cases h1 : st = okB
  · subst h1
    have HR := Lib.hid (hS.out (show okQ okB = true by decide))
    clear hS hN HF
    unfold okB at *
    go_enter Tryz.func57, Tryz.ntmps57
    go_upto_region 1 with (fail)
    have HB := Lib.hid ((Below.refl w.heap.size w).alloc (Nat.le_refl _) (.cells #[.int .i64 2, .int .u64 fl, .int .u32 cr, .int .u32 chn, .string nm, .string ⟨#[111, 107]⟩, dv] 27 (0, 0)))
    have K1 := Lib.hid (HC.out.alloc (.cells #[.int .i64 2, .int .u64 fl, .int .u32 cr, .int .u32 chn, .string nm, .string ⟨#[111, 107]⟩, dv] 27 (0, 0)))
    have M1 := Lib.hid (Cells.new w 27 [.int .i64 2, .int .u64 fl, .int .u32 cr, .int .u32 chn, .string nm, .string ⟨#[111, 107]⟩, dv])
    have hgb : w.heap.size ≠ g := Nat.ne_of_gt hlt
    generalize hW : World.alloc w _ = W1 at *
    clear hW hlt
    have c0 := K1.out.cell 0
    have f0 := K1.out.frozen 0
    have P1 := Lib.hid (K1.out.set_ 0 (.int .i64 2))
    have M2 := Lib.hid (M1.out.far (p := ⟨g, 0, none⟩) hgb (.int .i64 2))
    have d5 := M2.out.cell 5
    have b5 := M1.out.cell 5
    have b0 := M1.out.cell 0
    have c4 := P1.out.cell 4
    have f4 := P1.out.frozen 4
    have P2 := Lib.hid (P1.out.set_ 4 (.bool false))
    simp only [Sd.cells, List.set_cons_zero, List.getElem?_cons_zero, List.getElem?_cons_succ] at c0 d5 b5 b0 c4
    clear hgb
    go_wp2
    go_ret2
    rw [HR.out]
    exact ⟨_, _, rfl, BBs.nil _ _, LinksIs.nil _ _, fun _ => rfl, ((Keep.ofB HB.out).setB 0 (.int .i64 2)).setB 4 (.bool false), P2.out⟩
  by_cases h2 : st = simB
  · subst h2
    have HR := Lib.hid (hS.out (show okQ simB = true by decide))
    clear hS hN HF
    unfold simB at *
    go_enter Tryz.func57, Tryz.ntmps57
    go_upto_region 1 with (fail)
    have HB := Lib.hid ((Below.refl w.heap.size w).alloc (Nat.le_refl _) (.cells #[.int .i64 2, .int .u64 fl, .int .u32 cr, .int .u32 chn, .string nm, .string ⟨#[111, 107, 95, 115, 105, 109, 117, 108, 116, 97, 110, 101, 111, 117, 115]⟩, dv] 27 (0, 0)))
    have K1 := Lib.hid (HC.out.alloc (.cells #[.int .i64 2, .int .u64 fl, .int .u32 cr, .int .u32 chn, .string nm, .string ⟨#[111, 107, 95, 115, 105, 109, 117, 108, 116, 97, 110, 101, 111, 117, 115]⟩, dv] 27 (0, 0)))
    have M1 := Lib.hid (Cells.new w 27 [.int .i64 2, .int .u64 fl, .int .u32 cr, .int .u32 chn, .string nm, .string ⟨#[111, 107, 95, 115, 105, 109, 117, 108, 116, 97, 110, 101, 111, 117, 115]⟩, dv])
    have hgb : w.heap.size ≠ g := Nat.ne_of_gt hlt
    generalize hW : World.alloc w _ = W1 at *
    clear hW hlt
    have c0 := K1.out.cell 0
    have f0 := K1.out.frozen 0
    have P1 := Lib.hid (K1.out.set_ 0 (.int .i64 2))
    have M2 := Lib.hid (M1.out.far (p := ⟨g, 0, none⟩) hgb (.int .i64 2))
    have d5 := M2.out.cell 5
    have b5 := M1.out.cell 5
    have b0 := M1.out.cell 0
    have c4 := P1.out.cell 4
    have f4 := P1.out.frozen 4
    have P2 := Lib.hid (P1.out.set_ 4 (.bool true))
    simp only [Sd.cells, List.set_cons_zero, List.getElem?_cons_zero, List.getElem?_cons_succ] at c0 d5 b5 b0 c4
    clear hgb
    go_wp2
    go_ret2
    rw [HR.out]
    exact ⟨_, _, rfl, BBs.nil _ _, LinksIs.nil _ _, fun _ => rfl, ((Keep.ofB HB.out).setB 0 (.int .i64 2)).setB 4 (.bool true), P2.out⟩
  have HR := Lib.hid (hN.out (show okQ st = false by simp [okQ, h1, h2]))
  have hq1 : (st.toList == [111, 107]) = false := lit_ne h1
  have hq2 : (st.toList == [111, 107, 95, 115, 105, 109, 117, 108, 116, 97, 110, 101, 111, 117, 115]) = false := lit_ne h2
  clear hS hN h1 h2
  go_enter Tryz.func57, Tryz.ntmps57
  go_upto_region 1 with (fail)
  have HB := Lib.hid ((Below.refl w.heap.size w).alloc (Nat.le_refl _) (.cells #[.int .i64 2, .int .u64 fl, .int .u32 cr, .int .u32 chn, .string nm, .string st, dv] 27 (0, 0)))
  have K1 := Lib.hid (HC.out.alloc (.cells #[.int .i64 2, .int .u64 fl, .int .u32 cr, .int .u32 chn, .string nm, .string st, dv] 27 (0, 0)))
  have M1 := Lib.hid (Cells.new w 27 [.int .i64 2, .int .u64 fl, .int .u32 cr, .int .u32 chn, .string nm, .string st, dv])
  have hgb : w.heap.size ≠ g := Nat.ne_of_gt hlt
  generalize hW : World.alloc w _ = W1 at *
  clear hW hlt
  have d5 := M1.out.cell 5
  have d0 := M1.out.cell 0
  simp only [List.getElem?_cons_zero, List.getElem?_cons_succ] at d5 d0
  clear hgb
  go_wp2_with fail
  refine (HF.out _).mono ?_
  rintro e w8 ⟨lv8, rfl, hl8, hb8⟩
  have HB8 := Lib.hid (HB.out.trans (hb8.mono HB.out.size))
  have L8 := Lib.hid hl8
  clear hb8 hl8
  go_wp2
  go_ret2
  rw [HR.out]
  exact ⟨_, _, rfl, BBs.nil _ _, L8.out.base HB.out.size, (fun h => by cases h), Keep.ofB HB8.out, HC.out.below HB8.out⟩

set_option maxHeartbeats 8000000 in
set_option maxRecDepth 100000 in
theorem tookR_1 (g : Nat) (s : Sd) (m : Msg) (dv : Value) (w : World) (hC : Cells w g 68 s.cells) (hk : m.kind = 1) :
    Calls Tryz.prog 57 #[.pointer (some ⟨g, 0, none⟩), m.val dv] w (RetTR g w (tookS s m)) := by
  have HR := Lib.hid (show tookS s m = (s.now 5 m.name m.flags m.creation s.sim, [], []) by unfold tookS; rw [if_neg (by omega), if_neg (by omega), if_pos hk])
  have HC := Lib.hid hC
  have hlt := hC.lt
  clear hC
  obtain ⟨kd, fl, cr, chn, nm, st, dg⟩ := m
  obtain rfl : kd = 1 := hk
  unfold Msg.val
  go_enter Tryz.func57, Tryz.ntmps57
  go_upto_region 1 with (fail)
  have HB := Lib.hid ((Below.refl w.heap.size w).alloc (Nat.le_refl _) (.cells #[.int .i64 1, .int .u64 fl, .int .u32 cr, .int .u32 chn, .string nm, .string st, dv] 27 (0, 0)))
  have K1 := Lib.hid (HC.out.alloc (.cells #[.int .i64 1, .int .u64 fl, .int .u32 cr, .int .u32 chn, .string nm, .string st, dv] 27 (0, 0)))
  have M1 := Lib.hid (Cells.new w 27 [.int .i64 1, .int .u64 fl, .int .u32 cr, .int .u32 chn, .string nm, .string st, dv])
  have hgb : w.heap.size ≠ g := Nat.ne_of_gt hlt
  generalize hW : World.alloc w _ = W1 at *
  clear hW hlt
  have c0 := K1.out.cell 0
  have f0 := K1.out.frozen 0
  have P1 := Lib.hid (K1.out.set_ 0 (.int .i64 5))
  have M2 := Lib.hid (M1.out.far (p := ⟨g, 0, none⟩) hgb (.int .i64 5))
  have b0 := M1.out.cell 0
  have d1 := M2.out.cell 1
  have d2 := M2.out.cell 2
  have d4 := M2.out.cell 4
  have c1 := P1.out.cell 1
  have f1 := P1.out.frozen 1
  have P2 := Lib.hid (P1.out.set_ 1 (.string nm))
  have c2 := P2.out.cell 2
  have f2 := P2.out.frozen 2
  have P3 := Lib.hid (P2.out.set_ 2 (.int .u64 fl))
  have c3 := P3.out.cell 3
  have f3 := P3.out.frozen 3
  have P4 := Lib.hid (P3.out.set_ 3 (.int .u32 cr))
  simp only [Sd.cells, List.set_cons_zero, List.set_cons_succ, List.getElem?_cons_zero, List.getElem?_cons_succ] at b0 c0 c1 c2 c3 d1 d2 d4
  clear hgb
  go_wp2
  go_ret2
  rw [HR.out]
  exact ⟨_, _, rfl, BBs.nil _ _, LinksIs.nil _ _, fun _ => rfl, ((((Keep.ofB HB.out).setB 0 (.int .i64 5)).setB 1 (.string nm)).setB 2 (.int .u64 fl)).setB 3 (.int .u32 cr), P4.out⟩

set_option maxHeartbeats 8000000 in
set_option maxRecDepth 100000 in
theorem tookR_3 (g : Nat) (s : Sd) (m : Msg) (dv : Value) (w : World) (hC : Cells w g 68 s.cells) (hs : s.Ok) (hc0 : 0 ≤ m.challenge) (hc1 : m.challenge < 4294967296) (hk : m.kind = 3) :
    Calls Tryz.prog 57 #[.pointer (some ⟨g, 0, none⟩), m.val dv] w (RetTR g w (tookS s m)) := by
  have HN := Lib.hid (fun h => chal_no (s := s) hk h)
  have HY := Lib.hid (fun h h2 => chal_ok (s := s) hk h h2)
  have HF := Lib.hid (fun W => no08_any 0 162 W)
  have HC := Lib.hid hC
  have HS := Lib.hid hs
  have hlt := hC.lt
  clear hC hs
  obtain ⟨kd, fl, cr, chn, nm, st, dg⟩ := m
  obtain rfl : kd = 3 := hk
  obtain ⟨u, hu⟩ : ∃ u : Nat, chn = u := ⟨chn.toNat, by simp only at hc0; omega⟩
  have hu1 : u < 4294967296 := by simp only at hc1; omega
  subst hu
  clear hc0 hc1
  have HL := Lib.hid (fun W => (lacksR_any fl W).mono fun e w' (h : _ ∧ W = w') => (⟨h.1, h.2.symm⟩ : _ ∧ w' = W))
  unfold Msg.val
  go_enter Tryz.func57, Tryz.ntmps57
  go_upto_region 1 with (fail)
  have HB := Lib.hid ((Below.refl w.heap.size w).alloc (Nat.le_refl _) (.cells #[.int .i64 3, .int .u64 fl, .int .u32 cr, .int .u32 (u : Int), .string nm, .string st, dv] 27 (0, 0)))
  have K1 := Lib.hid (HC.out.alloc (.cells #[.int .i64 3, .int .u64 fl, .int .u32 cr, .int .u32 (u : Int), .string nm, .string st, dv] 27 (0, 0)))
  have M1 := Lib.hid (Cells.new w 27 [.int .i64 3, .int .u64 fl, .int .u32 cr, .int .u32 (u : Int), .string nm, .string st, dv])
  have hgb : w.heap.size ≠ g := Nat.ne_of_gt hlt
  generalize hW : World.alloc w _ = W1 at *
  clear hW hlt
  have c8 := K1.out.cell 8
  have d1 := M1.out.cell 1
  have d4 := M1.out.cell 4
  have d0 := M1.out.cell 0
  simp only [Sd.cells, List.getElem?_cons_zero, List.getElem?_cons_succ] at c8 d0 d1 d4
  by_cases hn : nm = s.want
  · have hq : (nm.toList == s.want.toList) = true := beqL_eq hn
    have HN2 := Lib.hid (fun h => HN.out (.inr h))
    have HY2 := Lib.hid (fun h => HY.out hn h)
    clear HN HY hn
    cases hlk : lackS fl with
    | true =>
      rw [hlk] at HL
      have HR := Lib.hid (HN2.out hlk)
      clear HN2 HY2 hlk
      go_wp2
      go_quiet ((go_at_call 53; exact Calls.quiet_of_same (HL.out _)))
      have HBD := Lib.hid (below_drewN HB.out 1)
      go_wp2_with fail
      refine (HF.out _).mono ?_
      rintro e w8 ⟨lv8, rfl, hl8, hb8⟩
      have HB8 := Lib.hid ((below_drewN HB.out _).trans (hb8.mono HB.out.size))
      have L8 := Lib.hid hl8
      clear hb8 hl8
      go_wp2
      go_ret2
      rw [HR.out]
      exact ⟨_, _, rfl, BBs.nil _ _, L8.out.base HBD.out.size, (fun h => by cases h), Keep.ofB HB8.out, HC.out.below HB8.out⟩
    | false =>
      rw [hlk] at HL
      have HR := Lib.hid (HY2.out hlk)
      clear HN2 HY2 hlk HF
      go_wp2
      go_quiet ((go_at_call 53; exact Calls.quiet_of_same (HL.out _)))
      generalize hW : World.drewN W1 _ = W2
      have K2 := Lib.hid (show Cells W2 g 68 s.cells from by rw [← hW]; exact K1.out.drewN _)
      have N2 := Lib.hid (show Cells W2 w.heap.size 27 [.int .i64 3, .int .u64 fl, .int .u32 cr, .int .u32 (u : Int), .string nm, .string st, dv] from by rw [← hW]; exact M1.out.drewN _)
      have HB2 := Lib.hid (show Below w.heap.size w W2 from by rw [← hW]; exact below_drewN HB.out _)
      clear hW c8 d0 d1 d4 K1 M1 HB
      have c0 := K2.out.cell 0
      have f0 := K2.out.frozen 0
      have P1 := Lib.hid (K2.out.set_ 0 (.int .i64 3))
      have M2 := Lib.hid (N2.out.far (p := ⟨g, 0, none⟩) hgb (.int .i64 3))
      have b0 := N2.out.cell 0
      have d1 := M2.out.cell 1
      have d2 := M2.out.cell 2
      have d4 := M2.out.cell 4
      have c1 := P1.out.cell 1
      have f1 := P1.out.frozen 1
      have P2 := Lib.hid (P1.out.set_ 1 (.string nm))
      have c2 := P2.out.cell 2
      have f2 := P2.out.frozen 2
      have P3 := Lib.hid (P2.out.set_ 2 (.int .u64 fl))
      have c3 := P3.out.cell 3
      have f3 := P3.out.frozen 3
      have P4 := Lib.hid (P3.out.set_ 3 (.int .u32 cr))
      simp only [Sd.cells, List.set_cons_zero, List.set_cons_succ, List.getElem?_cons_zero, List.getElem?_cons_succ] at b0 c0 c1 c2 c3 d1 d2 d4
      have KP := Lib.hid (((((Keep.ofB (S := Blk1 g) HB2.out).setB 0 (.int .i64 3)).setB 1 (.string nm)).setB 2 (.int .u64 fl)).setB 3 (.int .u32 cr))
      have M5 := Lib.hid ((((N2.out.far (p := ⟨g, 0, none⟩) hgb (.int .i64 3)).far (p := ⟨g, 1, none⟩) hgb (.string nm)).far (p := ⟨g, 2, none⟩) hgb (.int .u64 fl)).far (p := ⟨g, 3, none⟩) hgb (.int .u32 cr))
      have P5 := Lib.hid (show Cells _ g 68 (s.now 3 nm fl cr s.sim).cells from P4.out)
      clear P4
      go_wp2
      clear b0 c0 c1 c2 c3 d1 d2 d4 f0 f1 f2 f3 P1 P2 P3 M2 N2 K2
      generalize hW : World.setCell _ ⟨g, 3, none⟩ _ = W5 at *
      clear hW
      have c10 := P5.out.cell 10
      have d3 := M5.out.cell 3
      simp only [Sd.cells, Sd.now, List.getElem?_cons_zero, List.getElem?_cons_succ] at c10 d3
      have HD := Lib.hid (digestRM_any g (s.now 3 nm fl cr s.sim) u W5.drew hu1 P5.out.drew)
      clear hgb
      go_region_held3 (fun w' => w'.cell? ⟨g, 10, none⟩ = some (.int .u32 s.ch) ∧ w'.cell? ⟨w.heap.size, 3, none⟩ = some (.int .u32 u)) (go_keep)
        (first
          | (go_at_call 77; refine HD.out.mono ?_; rintro e w6 ⟨v, rfl, hv, hb⟩
             have hb6 : Below W5.heap.size W5 w6 := (Below.drew (Below.refl W5.heap.size W5)).trans hb
             have K6 := Lib.hid (P5.out.below hb6)
             have M6 := Lib.hid (M5.out.below hb6)
             have KP6 := Lib.hid (KP.out.below hb6)
             have e10 := K6.out.cell 10
             have e3 := M6.out.cell 3
             simp only [Sd.cells, Sd.now, List.getElem?_cons_zero, List.getElem?_cons_succ] at e10 e3
             have hl := digestS_len u HS.out.ck
             have HSE := Lib.hid (show Calls Tryz.prog 54 #[(replyM s.ch (digestS s.cookie u).1).val v] w6 _ from sendR_any (replyM s.ch (digestS s.cookie u).1) v w6 (reply_ok HS.out.ch1 hl) hv.rsl)
             obtain ⟨va, vc, rfl⟩ := dig_shape hv hl
             clear hb hb6 hv hl HD
             unfold Msg.val replyM at HSE)
          | (go_at_call 54; refine HSE.out.mono ?_; rintro e w7 ⟨v7, rfl, hv7, hb7⟩
             have K7 := Lib.hid (K6.out.below hb7)
             have KP7 := Lib.hid (KP6.out.below hb7)
             have M7 := Lib.hid (M6.out.below hb7)
             have V7 := Lib.hid hv7
             have j10 := K7.out.cell 10
             have j3 := M7.out.cell 3
             simp only [Sd.cells, Sd.now, List.getElem?_cons_zero, List.getElem?_cons_succ] at j10 j3
             clear hb7 hv7 HSE))
      go_wp2
      go_ret2
      rw [HR.out]
      exact ⟨_, _, rfl, V7.out.base KP6.out.size, LinksIs.nil _ _, fun _ => rfl, KP7.out, K7.out⟩
  · have hq : (nm.toList == s.want.toList) = false := beqL_ne hn
    have HR := Lib.hid (HN.out (.inl hn))
    have HBD := Lib.hid (below_drewN HB.out 1)
    clear HN HY hn
    go_wp2
    go_quiet (fail)
    go_wp2_with fail
    refine (HF.out _).mono ?_
    rintro e w8 ⟨lv8, rfl, hl8, hb8⟩
    have HB8 := Lib.hid ((below_drewN HB.out _).trans (hb8.mono HB.out.size))
    have L8 := Lib.hid hl8
    clear hb8 hl8
    go_wp2
    go_ret2
    rw [HR.out]
    exact ⟨_, _, rfl, BBs.nil _ _, L8.out.base HBD.out.size, (fun h => by cases h), Keep.ofB HB8.out, HC.out.below HB8.out⟩

set_option maxHeartbeats 8000000 in
set_option maxRecDepth 100000 in
theorem tookR_4 (g : Nat) (s : Sd) (m : Msg) (dv : Value) (w : World) (hC : Cells w g 68 s.cells) (hs : s.Ok) (hd : RSl dv m.digest w) (hc0 : 0 ≤ m.challenge) (hc1 : m.challenge < 4294967296) (hk : m.kind = 4) :
    Calls Tryz.prog 57 #[.pointer (some ⟨g, 0, none⟩), m.val dv] w (RetTR g w (tookS s m)) := by
  have HN := Lib.hid (fun h => done_no (s := s) (by omega : m.kind = 4 ∨ m.kind = 5) h)
  have HY := Lib.hid (fun h => done_4 (s := s) hk h)
  have HF := Lib.hid (fun W => no08_any 0 163 W)
  have HC := Lib.hid hC
  have HS := Lib.hid hs
  have hlt := hC.lt
  have HDV := Lib.hid hd
  clear hC hs hd
  obtain ⟨kd, fl, cr, chn, nm, st, dg⟩ := m
  obtain rfl : kd = 4 := hk
  obtain ⟨u, hu⟩ : ∃ u : Nat, chn = u := ⟨chn.toNat, by simp only at hc0; omega⟩
  have hu1 : u < 4294967296 := by simp only at hc1; omega
  subst hu
  clear hc0 hc1
  unfold Msg.val
  go_enter Tryz.func57, Tryz.ntmps57
  go_upto_region 1 with (fail)
  have HB := Lib.hid ((Below.refl w.heap.size w).alloc (Nat.le_refl _) (.cells #[.int .i64 4, .int .u64 fl, .int .u32 cr, .int .u32 (u : Int), .string nm, .string st, dv] 27 (0, 0)))
  have K1 := Lib.hid (HC.out.alloc (.cells #[.int .i64 4, .int .u64 fl, .int .u32 cr, .int .u32 (u : Int), .string nm, .string st, dv] 27 (0, 0)))
  have M1 := Lib.hid (Cells.new w 27 [.int .i64 4, .int .u64 fl, .int .u32 cr, .int .u32 (u : Int), .string nm, .string st, dv])
  have hgb : w.heap.size ≠ g := Nat.ne_of_gt hlt
  have D1 := Lib.hid (HDV.out.below (HB.out.mono (Nat.le_refl _)))
  generalize hW : World.alloc w _ = W1 at *
  clear hW hlt
  have c10 := K1.out.cell 10
  have d0 := M1.out.cell 0
  have d6 := M1.out.cell 6
  have q1 := run_slice_string D1.out.drew.slice
  have q0 := run_slice_string D1.out.slice
  simp only [Sd.cells, List.getElem?_cons_zero, List.getElem?_cons_succ] at c10 d0 d6
  have HD := Lib.hid (digestRM_any g s s.ch W1.drew HS.out.ch1 K1.out.drew)
  have hsame := Lib.hid (show sameS s.cookie s.ch dg = decide ((digestS s.cookie s.ch).1 = dg) from by unfold sameS digestS; rw [if_pos HS.out.ck]; simp [HS.out.ck])
  go_wp2
  refine wp_region_held_drew (S := fun w' => w'.cell? ⟨w.heap.size, 6, none⟩ = some dv ∧ w'.cell? ⟨g, 10, none⟩ = some (.int .u32 s.ch) ∧ (convert 25 9 dv).run Tryz.prog w' = .ok (.string ⟨dg.toArray⟩) w') (by kernel_rfl) (by go_keep) (fun hHeld => ?_)
  refine wpAnyH_take (i := 0) (v := (.pointer (some ⟨w.heap.size, 6, none⟩))) (by simp only [List.getElem?_toArray, List.getElem?_cons_succ, List.getElem?_cons_zero]; rfl) (by kernel_rfl) (by kernel_rfl) (by kernel_rfl) (by exact fun _ _ _ h => h) (Or.inl ⟨by rfl, fun _ _ => rfl⟩) (by assumption) ?_
  try simp only [Act.put, List.setIfInBounds_toArray, List.set_cons_zero, List.set_cons_succ]
  refine wpAnyH_take (i := 1) (v := dv) (by simp only [List.getElem?_toArray, List.getElem?_cons_succ, List.getElem?_cons_zero]; rfl) (by kernel_rfl) (by kernel_rfl) (by kernel_rfl) (by exact fun _ _ _ h => h) (Or.inl ⟨by rfl, by intro w hSw; go_simp⟩) (by assumption) ?_
  try simp only [Act.put, List.setIfInBounds_toArray, List.set_cons_zero, List.set_cons_succ]
  refine wpAnyH_take (i := 2) (v := (.string ⟨dg.toArray⟩)) (by simp only [List.getElem?_toArray, List.getElem?_cons_succ, List.getElem?_cons_zero]; rfl) (by kernel_rfl) (by kernel_rfl) (by kernel_rfl) (by exact fun _ _ _ h => h) (Or.inl ⟨by rfl, by intro w hSw; go_simp⟩) (by assumption) ?_
  try simp only [Act.put, List.setIfInBounds_toArray, List.set_cons_zero, List.set_cons_succ]
  refine wpAnyH_take (i := 3) (v := (.pointer (some ⟨g, 0, none⟩))) (by simp only [List.getElem?_toArray, List.getElem?_cons_succ, List.getElem?_cons_zero]; rfl) (by kernel_rfl) (by kernel_rfl) (by kernel_rfl) (by exact fun _ _ _ h => h) (Or.inl ⟨by rfl, fun _ _ => rfl⟩) (by assumption) ?_
  try simp only [Act.put, List.setIfInBounds_toArray, List.set_cons_zero, List.set_cons_succ]
  refine wpAnyH_take (i := 4) (v := (.pointer (some ⟨g, 0, none⟩))) (by simp only [List.getElem?_toArray, List.getElem?_cons_succ, List.getElem?_cons_zero]; rfl) (by kernel_rfl) (by kernel_rfl) (by kernel_rfl) (by exact fun _ _ _ h => h) (Or.inl ⟨by rfl, fun _ _ => rfl⟩) (by assumption) ?_
  try simp only [Act.put, List.setIfInBounds_toArray, List.set_cons_zero, List.set_cons_succ]
  refine wpAnyH_take (i := 5) (v := (.pointer (some ⟨g, 0, none⟩))) (by simp only [List.getElem?_toArray, List.getElem?_cons_succ, List.getElem?_cons_zero]; rfl) (by kernel_rfl) (by kernel_rfl) (by kernel_rfl) (by exact fun _ _ _ h => h) (Or.inl ⟨by rfl, by intro w hSw; go_simp⟩) (by assumption) ?_
  try simp only [Act.put, List.setIfInBounds_toArray, List.set_cons_zero, List.set_cons_succ]
  refine wpAnyH_take (i := 6) (v := (.pointer (some ⟨g, 10, none⟩))) (by simp only [List.getElem?_toArray, List.getElem?_cons_succ, List.getElem?_cons_zero]; rfl) (by kernel_rfl) (by kernel_rfl) (by kernel_rfl) (by exact fun _ _ _ h => h) (Or.inl ⟨by rfl, fun _ _ => rfl⟩) (by assumption) ?_
  try simp only [Act.put, List.setIfInBounds_toArray, List.set_cons_zero, List.set_cons_succ]
  refine wpAnyH_take (i := 7) (v := (.int .u32 s.ch)) (by simp only [List.getElem?_toArray, List.getElem?_cons_succ, List.getElem?_cons_zero]; rfl) (by kernel_rfl) (by kernel_rfl) (by kernel_rfl) (by exact fun _ _ _ h => h) (Or.inl ⟨by rfl, by intro w hSw; go_simp⟩) (by assumption) ?_
  try simp only [Act.put, List.setIfInBounds_toArray, List.set_cons_zero, List.set_cons_succ]
  refine wpAnyH_ready (rs := [8]) (by kernel_rfl) (by simp) ?_
  refine AllReadyH.cons rfl (fun K hK => ?_) AllReadyH.nil
  go_simp
  refine HD.out.mono ?_
  rintro e w2 ⟨v, rfl, hv, hb⟩
  have hb2 : Below W1.heap.size W1 w2 := (Below.drew (Below.refl W1.heap.size W1)).trans hb
  have K2 := Lib.hid (K1.out.below hb2)
  have M2 := Lib.hid (M1.out.below hb2)
  have HB2 := Lib.hid (HB.out.trans (hb2.mono HB.out.size))
  have e10 := K2.out.cell 10
  have e6 := M2.out.cell 6
  have q2 := run_slice_string (D1.out.below hb2).slice
  have q3 := run_buf_string hv
  simp only [Sd.cells, List.getElem?_cons_zero, List.getElem?_cons_succ] at e10 e6
  clear hb hb2 hv HD
  refine hK.out _ _ ?_ (fun hHeld => ?_)
  · go_keep
  try simp only [Act.put, List.setIfInBounds_toArray, List.set_cons_zero, List.set_cons_succ]
  refine wpAnyH_ready (rs := [9]) (by kernel_rfl) (by simp) ?_
  refine AllReadyH.cons rfl (fun K hK => ?_) AllReadyH.nil
  go_simp
  refine hK.out _ _ ?_ (fun hHeld => ?_)
  · go_keep
  try simp only [Act.put, List.setIfInBounds_toArray, List.set_cons_zero, List.set_cons_succ]
  refine wpAnyH_take (i := 10) (v := (.bool (!(dg == (digestS s.cookie s.ch).1)))) (by simp only [List.getElem?_toArray, List.getElem?_cons_succ, List.getElem?_cons_zero]; rfl) (by kernel_rfl) (by kernel_rfl) (by kernel_rfl) (by exact fun _ _ _ h => h) (Or.inl ⟨by rfl, by intro w hSw; go_simp⟩) (by assumption) ?_
  try simp only [Act.put, List.setIfInBounds_toArray, List.set_cons_zero, List.set_cons_succ]
  refine wpAnyH_done (by kernel_rfl) ?_ _
  clear c10 d0 d6 q0 q1 q2 q3 e10 e6 K1 M1 HB D1
  cases hsm : sameS s.cookie s.ch dg with
  | false =>
    have hq : (dg == (digestS s.cookie s.ch).1) = false := by
      have h := hsame.out
      rw [hsm] at h
      exact beq_eq_false_iff_ne.2 fun e => of_decide_eq_false h.symm e.symm
    rw [hq]
    simp only [Bool.not_false]
    have HR := Lib.hid (HN.out hsm)
    clear HN HY hsm hq hsame
    go_wp2_with fail
    refine (HF.out _).mono ?_
    rintro e w8 ⟨lv8, rfl, hl8, hb8⟩
    have HB8 := Lib.hid (HB2.out.trans (hb8.mono HB2.out.size))
    have L8 := Lib.hid hl8
    clear hb8 hl8
    go_wp2
    go_ret2
    rw [HR.out]
    exact ⟨_, _, rfl, BBs.nil _ _, L8.out.base HB2.out.size, (fun h => by cases h), Keep.ofB HB8.out, HC.out.below HB8.out⟩
  | true =>
    have hq : (dg == (digestS s.cookie s.ch).1) = true := by
      have h := hsame.out
      rw [hsm] at h
      rw [of_decide_eq_true h.symm]; simp
    rw [hq]
    simp only [Bool.not_true]
    have HR := Lib.hid (HY.out hsm)
    clear HN HY hsm HF hq hsame
    have c0 := K2.out.cell 0
    have f0 := K2.out.frozen 0
    simp only [Sd.cells, List.getElem?_cons_zero] at c0
    have KP := Lib.hid ((Keep.ofB (S := Blk1 g) HB2.out).setB 0 (.int .i64 7))
    have P5 := Lib.hid (show Cells _ g 68 (s.now 7 s.pn s.pf s.pc s.sim).cells from K2.out.set_ 0 (.int .i64 7))
    have M5 := Lib.hid (M2.out.far (p := ⟨g, 0, none⟩) hgb (.int .i64 7))
    have d0 := M5.out.cell 0
    have d3 := M5.out.cell 3
    simp only [List.getElem?_cons_zero, List.getElem?_cons_succ] at d0 d3
    clear hgb M2
    have HD := Lib.hid (digestRM_any g (s.now 7 s.pn s.pf s.pc s.sim) u _ hu1 P5.out)
    go_wp2_with fail
    refine HD.out.mono ?_
    rintro e w6 ⟨v, rfl, hv, hb6⟩
    have K6 := Lib.hid (P5.out.below hb6)
    have KP6 := Lib.hid (KP.out.below hb6)
    have hl := digestS_len u HS.out.ck
    have HSE := Lib.hid (show Calls Tryz.prog 54 #[(ackM (digestS s.cookie u).1).val v] w6 _ from sendR_any (ackM (digestS s.cookie u).1) v w6 (ack_ok hl) hv.rsl)
    obtain ⟨va, vc, rfl⟩ := dig_shape hv hl
    clear hb6 hv hl HD
    unfold Msg.val ackM at HSE
    go_wp2_with fail
    refine HSE.out.mono ?_
    rintro e w7 ⟨v7, rfl, hv7, hb7⟩
    have K7 := Lib.hid (K6.out.below hb7)
    have KP7 := Lib.hid (KP6.out.below hb7)
    have V7 := Lib.hid hv7
    clear hb7 hv7 HSE
    go_wp2
    go_ret2
    rw [HR.out]
    exact ⟨_, _, rfl, V7.out.base KP6.out.size, LinksIs.nil _ _, fun _ => rfl, KP7.out, K7.out⟩

set_option maxHeartbeats 8000000 in
set_option maxRecDepth 100000 in
theorem tookR_5 (g : Nat) (s : Sd) (m : Msg) (dv : Value) (w : World) (hC : Cells w g 68 s.cells) (hs : s.Ok) (hd : RSl dv m.digest w) (hc0 : 0 ≤ m.challenge) (hc1 : m.challenge < 4294967296) (hk : m.kind = 5) :
    Calls Tryz.prog 57 #[.pointer (some ⟨g, 0, none⟩), m.val dv] w (RetTR g w (tookS s m)) := by
  have HN := Lib.hid (fun h => done_no (s := s) (by omega : m.kind = 4 ∨ m.kind = 5) h)
  have HY := Lib.hid (fun h => done_5 (s := s) hk h)
  have HF := Lib.hid (fun W => no08_any 0 163 W)
  have HC := Lib.hid hC
  have HS := Lib.hid hs
  have hlt := hC.lt
  have HDV := Lib.hid hd
  clear hC hs hd
  obtain ⟨kd, fl, cr, chn, nm, st, dg⟩ := m
  obtain rfl : kd = 5 := hk
  obtain ⟨u, hu⟩ : ∃ u : Nat, chn = u := ⟨chn.toNat, by simp only at hc0; omega⟩
  have hu1 : u < 4294967296 := by simp only at hc1; omega
  subst hu
  clear hc0 hc1
  unfold Msg.val
  go_enter Tryz.func57, Tryz.ntmps57
  go_upto_region 1 with (fail)
  have HB := Lib.hid ((Below.refl w.heap.size w).alloc (Nat.le_refl _) (.cells #[.int .i64 5, .int .u64 fl, .int .u32 cr, .int .u32 (u : Int), .string nm, .string st, dv] 27 (0, 0)))
  have K1 := Lib.hid (HC.out.alloc (.cells #[.int .i64 5, .int .u64 fl, .int .u32 cr, .int .u32 (u : Int), .string nm, .string st, dv] 27 (0, 0)))
  have M1 := Lib.hid (Cells.new w 27 [.int .i64 5, .int .u64 fl, .int .u32 cr, .int .u32 (u : Int), .string nm, .string st, dv])
  have hgb : w.heap.size ≠ g := Nat.ne_of_gt hlt
  have D1 := Lib.hid (HDV.out.below (HB.out.mono (Nat.le_refl _)))
  generalize hW : World.alloc w _ = W1 at *
  clear hW hlt
  have c10 := K1.out.cell 10
  have d0 := M1.out.cell 0
  have d6 := M1.out.cell 6
  have q1 := run_slice_string D1.out.drew.slice
  have q0 := run_slice_string D1.out.slice
  simp only [Sd.cells, List.getElem?_cons_zero, List.getElem?_cons_succ] at c10 d0 d6
  have HD := Lib.hid (digestRM_any g s s.ch W1.drew HS.out.ch1 K1.out.drew)
  have hsame := Lib.hid (show sameS s.cookie s.ch dg = decide ((digestS s.cookie s.ch).1 = dg) from by unfold sameS digestS; rw [if_pos HS.out.ck]; simp [HS.out.ck])
  go_wp2
  refine wp_region_held_drew (S := fun w' => w'.cell? ⟨w.heap.size, 6, none⟩ = some dv ∧ w'.cell? ⟨g, 10, none⟩ = some (.int .u32 s.ch) ∧ (convert 25 9 dv).run Tryz.prog w' = .ok (.string ⟨dg.toArray⟩) w') (by kernel_rfl) (by go_keep) (fun hHeld => ?_)
  refine wpAnyH_take (i := 0) (v := (.pointer (some ⟨w.heap.size, 6, none⟩))) (by simp only [List.getElem?_toArray, List.getElem?_cons_succ, List.getElem?_cons_zero]; rfl) (by kernel_rfl) (by kernel_rfl) (by kernel_rfl) (by exact fun _ _ _ h => h) (Or.inl ⟨by rfl, fun _ _ => rfl⟩) (by assumption) ?_
  try simp only [Act.put, List.setIfInBounds_toArray, List.set_cons_zero, List.set_cons_succ]
  refine wpAnyH_take (i := 1) (v := dv) (by simp only [List.getElem?_toArray, List.getElem?_cons_succ, List.getElem?_cons_zero]; rfl) (by kernel_rfl) (by kernel_rfl) (by kernel_rfl) (by exact fun _ _ _ h => h) (Or.inl ⟨by rfl, by intro w hSw; go_simp⟩) (by assumption) ?_
  try simp only [Act.put, List.setIfInBounds_toArray, List.set_cons_zero, List.set_cons_succ]
  refine wpAnyH_take (i := 2) (v := (.string ⟨dg.toArray⟩)) (by simp only [List.getElem?_toArray, List.getElem?_cons_succ, List.getElem?_cons_zero]; rfl) (by kernel_rfl) (by kernel_rfl) (by kernel_rfl) (by exact fun _ _ _ h => h) (Or.inl ⟨by rfl, by intro w hSw; go_simp⟩) (by assumption) ?_
  try simp only [Act.put, List.setIfInBounds_toArray, List.set_cons_zero, List.set_cons_succ]
  refine wpAnyH_take (i := 3) (v := (.pointer (some ⟨g, 0, none⟩))) (by simp only [List.getElem?_toArray, List.getElem?_cons_succ, List.getElem?_cons_zero]; rfl) (by kernel_rfl) (by kernel_rfl) (by kernel_rfl) (by exact fun _ _ _ h => h) (Or.inl ⟨by rfl, fun _ _ => rfl⟩) (by assumption) ?_
  try simp only [Act.put, List.setIfInBounds_toArray, List.set_cons_zero, List.set_cons_succ]
  refine wpAnyH_take (i := 4) (v := (.pointer (some ⟨g, 0, none⟩))) (by simp only [List.getElem?_toArray, List.getElem?_cons_succ, List.getElem?_cons_zero]; rfl) (by kernel_rfl) (by kernel_rfl) (by kernel_rfl) (by exact fun _ _ _ h => h) (Or.inl ⟨by rfl, fun _ _ => rfl⟩) (by assumption) ?_
  try simp only [Act.put, List.setIfInBounds_toArray, List.set_cons_zero, List.set_cons_succ]
  refine wpAnyH_take (i := 5) (v := (.pointer (some ⟨g, 0, none⟩))) (by simp only [List.getElem?_toArray, List.getElem?_cons_succ, List.getElem?_cons_zero]; rfl) (by kernel_rfl) (by kernel_rfl) (by kernel_rfl) (by exact fun _ _ _ h => h) (Or.inl ⟨by rfl, by intro w hSw; go_simp⟩) (by assumption) ?_
  try simp only [Act.put, List.setIfInBounds_toArray, List.set_cons_zero, List.set_cons_succ]
  refine wpAnyH_take (i := 6) (v := (.pointer (some ⟨g, 10, none⟩))) (by simp only [List.getElem?_toArray, List.getElem?_cons_succ, List.getElem?_cons_zero]; rfl) (by kernel_rfl) (by kernel_rfl) (by kernel_rfl) (by exact fun _ _ _ h => h) (Or.inl ⟨by rfl, fun _ _ => rfl⟩) (by assumption) ?_
  try simp only [Act.put, List.setIfInBounds_toArray, List.set_cons_zero, List.set_cons_succ]
  refine wpAnyH_take (i := 7) (v := (.int .u32 s.ch)) (by simp only [List.getElem?_toArray, List.getElem?_cons_succ, List.getElem?_cons_zero]; rfl) (by kernel_rfl) (by kernel_rfl) (by kernel_rfl) (by exact fun _ _ _ h => h) (Or.inl ⟨by rfl, by intro w hSw; go_simp⟩) (by assumption) ?_
  try simp only [Act.put, List.setIfInBounds_toArray, List.set_cons_zero, List.set_cons_succ]
  refine wpAnyH_ready (rs := [8]) (by kernel_rfl) (by simp) ?_
  refine AllReadyH.cons rfl (fun K hK => ?_) AllReadyH.nil
  go_simp
  refine HD.out.mono ?_
  rintro e w2 ⟨v, rfl, hv, hb⟩
  have hb2 : Below W1.heap.size W1 w2 := (Below.drew (Below.refl W1.heap.size W1)).trans hb
  have K2 := Lib.hid (K1.out.below hb2)
  have M2 := Lib.hid (M1.out.below hb2)
  have HB2 := Lib.hid (HB.out.trans (hb2.mono HB.out.size))
  have e10 := K2.out.cell 10
  have e6 := M2.out.cell 6
  have q2 := run_slice_string (D1.out.below hb2).slice
  have q3 := run_buf_string hv
  simp only [Sd.cells, List.getElem?_cons_zero, List.getElem?_cons_succ] at e10 e6
  clear hb hb2 hv HD
  refine hK.out _ _ ?_ (fun hHeld => ?_)
  · go_keep
  try simp only [Act.put, List.setIfInBounds_toArray, List.set_cons_zero, List.set_cons_succ]
  refine wpAnyH_ready (rs := [9]) (by kernel_rfl) (by simp) ?_
  refine AllReadyH.cons rfl (fun K hK => ?_) AllReadyH.nil
  go_simp
  refine hK.out _ _ ?_ (fun hHeld => ?_)
  · go_keep
  try simp only [Act.put, List.setIfInBounds_toArray, List.set_cons_zero, List.set_cons_succ]
  refine wpAnyH_take (i := 10) (v := (.bool (!(dg == (digestS s.cookie s.ch).1)))) (by simp only [List.getElem?_toArray, List.getElem?_cons_succ, List.getElem?_cons_zero]; rfl) (by kernel_rfl) (by kernel_rfl) (by kernel_rfl) (by exact fun _ _ _ h => h) (Or.inl ⟨by rfl, by intro w hSw; go_simp⟩) (by assumption) ?_
  try simp only [Act.put, List.setIfInBounds_toArray, List.set_cons_zero, List.set_cons_succ]
  refine wpAnyH_done (by kernel_rfl) ?_ _
  clear c10 d0 d6 q0 q1 q2 q3 e10 e6 K1 M1 HB D1
  cases hsm : sameS s.cookie s.ch dg with
  | false =>
    have hq : (dg == (digestS s.cookie s.ch).1) = false := by
      have h := hsame.out
      rw [hsm] at h
      exact beq_eq_false_iff_ne.2 fun e => of_decide_eq_false h.symm e.symm
    rw [hq]
    simp only [Bool.not_false]
    have HR := Lib.hid (HN.out hsm)
    clear HN HY hsm hq hsame
    go_wp2_with fail
    refine (HF.out _).mono ?_
    rintro e w8 ⟨lv8, rfl, hl8, hb8⟩
    have HB8 := Lib.hid (HB2.out.trans (hb8.mono HB2.out.size))
    have L8 := Lib.hid hl8
    clear hb8 hl8
    go_wp2
    go_ret2
    rw [HR.out]
    exact ⟨_, _, rfl, BBs.nil _ _, L8.out.base HB2.out.size, (fun h => by cases h), Keep.ofB HB8.out, HC.out.below HB8.out⟩
  | true =>
    have hq : (dg == (digestS s.cookie s.ch).1) = true := by
      have h := hsame.out
      rw [hsm] at h
      rw [of_decide_eq_true h.symm]; simp
    rw [hq]
    simp only [Bool.not_true]
    have HR := Lib.hid (HY.out hsm)
    clear HN HY hsm HF hq hsame
    have c0 := K2.out.cell 0
    have f0 := K2.out.frozen 0
    simp only [Sd.cells, List.getElem?_cons_zero] at c0
    have KP := Lib.hid ((Keep.ofB (S := Blk1 g) HB2.out).setB 0 (.int .i64 7))
    have P5 := Lib.hid (show Cells _ g 68 (s.now 7 s.pn s.pf s.pc s.sim).cells from K2.out.set_ 0 (.int .i64 7))
    have M5 := Lib.hid (M2.out.far (p := ⟨g, 0, none⟩) hgb (.int .i64 7))
    have d0 := M5.out.cell 0
    have d3 := M5.out.cell 3
    simp only [List.getElem?_cons_zero, List.getElem?_cons_succ] at d0 d3
    clear hgb M2
    go_wp2
    go_ret2
    rw [HR.out]
    exact ⟨_, _, rfl, BBs.nil _ _, LinksIs.nil _ _, fun _ => rfl, KP.out, P5.out⟩
end Go.Proofs.YtokkokgdjnkbnaaGreatDoor
end
section
/- The reference of layer 8: Take. -/
open Go Go.RowKit
namespace Go.Proofs.YtokkokgdjnkbnaaGreatDoor

theorem tookR_any (g : Nat) (s : Sd) (m : Msg) (dv : Value) (w : World) (hC : Cells w g 68 s.cells) (hs : s.Ok) (hd : RSl dv m.digest w) (hm : m.Ok) (hk : m.kind = 1 ∨ m.kind = 2 ∨ m.kind = 3 ∨ m.kind = 4 ∨ m.kind = 5) :
    Calls Tryz.prog 57 #[.pointer (some ⟨g, 0, none⟩), m.val dv] w (RetTR g w (tookS s m)) := by
  rcases hk with h | h | h | h | h
  · exact tookR_1 g s m dv w hC h
  · exact tookR_2 g s m dv w hC h
  · exact tookR_3 g s m dv w hC hs hm.h0 hm.h1 h
  · exact tookR_4 g s m dv w hC hs hd hm.h0 hm.h1 h
  · exact tookR_5 g s m dv w hC hs hd hm.h0 hm.h1 h

def deadV : List Value := [.int .i64 8, .string ⟨#[]⟩, .int .u64 0, .int .u32 0, .bool false]
theorem tookS_sameR (s : Sd) (m : Msg) (h : (tookS s m).2.2 ≠ []) : (tookS s m).1 = s := by
  unfold tookS at h ⊢
  split
  · rename_i h1; rw [if_pos h1] at h
    split
    · rename_i h2; rw [if_pos h2] at h; exact absurd rfl h
    · rfl
  · rename_i h1; rw [if_neg h1] at h
    split
    · rename_i h2; rw [if_pos h2] at h
      split
      · rfl
      · rename_i h3; rw [if_neg h3] at h; exact absurd rfl h
    · rename_i h2; rw [if_neg h2] at h
      split
      · rename_i h3; rw [if_pos h3] at h; exact absurd rfl h
      · rename_i h3; rw [if_neg h3] at h
        split
        · rfl
        · rename_i h4; rw [if_neg h4] at h; exact absurd rfl h
set_option maxHeartbeats 4000000 in
theorem takeR_dead (g : Nat) (s : Sd) (bv : Value) (b : List UInt8) (w : World) (hC : Cells w g 68 s.cells) (h8 : s.st = 8) :
    Calls Tryz.prog 21 #[.pointer (some ⟨g, 0, none⟩), bv] w (RetTR g w (takeS s b)) := by
  have HR := Lib.hid (show takeS s b = (s, [], errK 8) by unfold takeS; rw [if_pos h8])
  have HF := Lib.hid (no08_any 0 8 w)
  have HC := Lib.hid hC
  have c0 := hC.cell 0
  simp only [Sd.cells, List.getElem?_cons_zero, h8] at c0
  clear hC h8
  go_enter Tryz.func21, Tryz.ntmps21
  go_wp2_with fail
  refine HF.out.mono ?_
  rintro e w2 ⟨lv, rfl, hl, hb⟩
  go_wp2
  go_ret2
  rw [HR.out]
  exact ⟨_, _, rfl, BBs.nil _ _, hl, (fun h => by cases h), Keep.ofB hb, HC.out.below hb⟩
set_option maxHeartbeats 4000000 in
theorem takeR_none (g : Nat) (s : Sd) (bv : Value) (b : List UInt8) (w : World) (hC : Cells w g 68 s.cells) (h8 : s.st ≠ 8) (h57 : s.st = 5 ∨ s.st = 7) :
    Calls Tryz.prog 21 #[.pointer (some ⟨g, 0, none⟩), bv] w (RetTR g w (takeS s b)) := by
  have HR := Lib.hid (show takeS s b = (s, [], errK 161) by unfold takeS; rw [if_neg h8, if_pos h57])
  have HF := Lib.hid (no08_any 0 161 w)
  have HC := Lib.hid hC
  have c0 := hC.cell 0
  simp only [Sd.cells, List.getElem?_cons_zero] at c0
  clear hC
  rcases h57 with h | h
  all_goals
    rw [h] at c0
    clear h8 h
    go_enter Tryz.func21, Tryz.ntmps21
    go_wp2_with fail
    refine HF.out.mono ?_
    rintro e w2 ⟨lv, rfl, hl, hb⟩
    go_wp2
    go_ret2
    rw [HR.out]
    exact ⟨_, _, rfl, BBs.nil _ _, hl, (fun h => by cases h), Keep.ofB hb, HC.out.below hb⟩

set_option maxHeartbeats 8000000 in
set_option maxRecDepth 100000 in
theorem takeR_step (g : Nat) (s : Sd) (bv : Value) (b : List UInt8) (w : World) (hC : Cells w g 68 s.cells) (hs : s.Ok) (hb : RSl bv b w) (hz : b.length ≤ 140737488351232) (h8 : s.st ≠ 8) (h5 : s.st ≠ 5) (h7 : s.st ≠ 7) :
    Calls Tryz.prog 21 #[.pointer (some ⟨g, 0, none⟩), bv] w (RetTR g w (takeS s b)) := by
  have hkk : waitK s.st = 1 ∨ waitK s.st = 2 ∨ waitK s.st = 3 ∨ waitK s.st = 4 ∨ waitK s.st = 5 := by
    unfold waitK
    by_cases a1 : s.st = 1
    · simp [a1]
    by_cases a2 : s.st = 2
    · simp [a2]
    by_cases a3 : s.st = 3
    · simp [a3]
    by_cases a4 : s.st = 4 <;> simp [a1, a2, a3, a4]
  have HE := Lib.hid (takeS_wait (b := b) h8 (by omega) rfl)
  have HK := Lib.hid (kindR_any g s w hC)
  have HRD := Lib.hid (fun W => readR_any (waitK s.st) bv b W)
  have HGD := Lib.hid (fun h => readS_good (waitK s.st) b hz h)
  generalize waitK s.st = k at HE HK HRD HGD hkk
  have HB0 := Lib.hid hb
  have HZ := Lib.hid hz
  have HC := Lib.hid hC
  have HS := Lib.hid hs
  have HKK := Lib.hid hkk
  have HTT := Lib.hid (fun dv W (h1 : Cells W g 68 s.cells) (h2 : RSl dv (readS k b).1.digest W) (h : (readS k b).2 = []) => tookR_any g s (readS k b).1 dv W h1 hs h2 (HGD.out h).2 (by rw [(HGD.out h).1]; exact hkk))
  have HTS := Lib.hid (tookS_sameR s (readS k b).1)
  generalize readS k b = rr at HE HRD HTT HTS
  clear HGD
  obtain ⟨⟨kd, fl, cr, chn, nm, st, dg⟩, l⟩ := rr
  have c0 := hC.cell 0
  simp only [Sd.cells, List.getElem?_cons_zero] at c0
  have q8 : (s.st == 8) = false := beq_eq_false_iff_ne.2 h8
  have q7 : (s.st == 7) = false := beq_eq_false_iff_ne.2 h7
  have q5 : (s.st == 5) = false := beq_eq_false_iff_ne.2 h5
  have hnq := fun (w : World) (a : Option Addr) (n c : Nat) => run_neq_slice_nil_any (P := Tryz.prog) w 32 98 a n c 0 0 Tryz.underlying32
  have hqq := fun (w : World) (a : Option Addr) (n c : Nat) => Lib.run_eql_slice_nil (P := Tryz.prog) w 32 98 a n c 0 0 Tryz.underlying32
  clear hC hb hz hs h8 h5 h7 hkk
  go_enter Tryz.func21, Tryz.ntmps21
  go_wp2_with fail
  refine HK.out.mono ?_
  rintro e w1 ⟨rfl, rfl⟩
  go_wp2_with fail
  refine (HRD.out w HB0.out HZ.out).mono ?_
  rintro e w2 ⟨dv, lv, rfl, hd, hl, hnil, hb2⟩
  obtain ⟨da, dc, rfl, _, _⟩ := hd.shape
  have HB2 := Lib.hid hb2
  have K2 := Lib.hid (HC.out.below hb2)
  have D2 := Lib.hid hd
  have L2 := Lib.hid hl
  have NIL := Lib.hid hnil
  have HSZ2 := Lib.hid (hb2.size : w.heap.size ≤ w2.heap.size)
  clear hd hb2 c0 HK HRD hnil
  unfold Msg.val at *
  cases l with
  | nil =>
    obtain rfl := NIL.out rfl
    clear hl NIL L2
    have HTK := Lib.hid (HTT.out (.slice da dg.length dc) (w2.alloc (.cells #[.int .i64 kd, .int .u64 fl, .int .u32 cr, .int .u32 chn, .string nm, .string st, .slice da dg.length dc] 27 (0, 0))) (K2.out.alloc _) (D2.out.alloc _) rfl)
    have HB3 := Lib.hid (HB2.out.alloc HSZ2.out (.cells #[.int .i64 kd, .int .u64 fl, .int .u32 cr, .int .u32 chn, .string nm, .string st, .slice da dg.length dc] 27 (0, 0)))
    generalize hT : tookS s _ = tk at HE HTK HTS
    clear hT HTT
    go_wp2_with fail
    refine HTK.out.mono ?_
    rintro e w4 ⟨v4, lv4, rfl, hv4, hl4, hnil4, hk4, hC4⟩
    have HV4 := Lib.hid hv4
    have HK4 := Lib.hid hk4
    have HL4 := Lib.hid hl4
    have HC4 := Lib.hid hC4
    have HNIL4 := Lib.hid hnil4
    clear hv4 hk4 hC4 hnil4 HTK
    cases htl : tk.2.2 with
    | nil =>
      obtain rfl := HNIL4.out htl
      have HR := Lib.hid (show takeS s b = tk from by rw [HE.out, if_neg (by simp), if_neg (by simp [htl])])
      have HTN := Lib.hid htl
      clear hl4 htl HNIL4 HE
      go_wp2
      go_ret2
      rw [HR.out]
      exact ⟨_, _, rfl, HV4.out.base (Nat.le_trans HSZ2.out (by simp)), HL4.out.base (Nat.le_trans HSZ2.out (by simp)), fun _ => rfl, (Keep.ofB (S := Blk1 g) HB3.out).trans HK4.out (fun _ _ h => h), HC4.out⟩
    | cons q r =>
      have HR := Lib.hid (show takeS s b = (s.dead, [], tk.2.2) from by rw [HE.out, if_neg (by simp), if_pos (by simp [htl])])
      have HSM := HTS.out (by simp [htl])
      rw [htl] at HR
      rw [htl] at hl4 HL4
      obtain ⟨sg, sn, sc, rfl⟩ := some_links hl4
      have HC5 := Lib.hid (show Cells w4 g 68 s.cells from by have := HC4.out; rwa [HSM] at this)
      clear hl4 htl HNIL4 HE HC4 HSM
      go_wp2_with (refine wpList_store_blk rfl _ (.tmp 51) (.tmp 49) rfl g 0 [.int .i64 8, .string ⟨#[]⟩, .int .u64 0, .int .u32 0, .bool false] (by rfl) (by rfl) (by kernel_rfl) (by simp [Value.oneCell']) 68 _ HC5.out (by show 0 + 5 ≤ 11; decide) ?_; intro w7 hC7 hg7)
      have HC7 := Lib.hid hC7
      have HG7 := Lib.hid hg7
      clear hC7 hg7
      go_wp2
      go_ret2
      rw [HR.out]
      refine ⟨_, _, rfl, BBs.nil _ _, ?_, (fun h => by cases h), ((Keep.ofB (S := Blk1 g) HB3.out).trans HK4.out (fun _ _ h => h)).grownB HG7.out, HC7.out⟩
      exact (HL4.out.base (Nat.le_trans HSZ2.out (by simp))).frame fun q hq => HG7.out.block q (HL4.out.block hq).2 (fun e => by
        cases e
        obtain ⟨cur, hcur⟩ := HL4.out.etype hq
        have h := HC5.out
        unfold Cells at h
        rw [h] at hcur
        injection hcur with hcur
        injection hcur with _ h2
        exact absurd h2 (by decide))
  | cons q r =>
    have HR := Lib.hid (show takeS s b = (s.dead, [], q :: r) from by rw [HE.out, if_pos (by simp)])
    have HB3 := Lib.hid (HB2.out.alloc HSZ2.out (.cells #[.int .i64 kd, .int .u64 fl, .int .u32 cr, .int .u32 chn, .string nm, .string st, .slice da dg.length dc] 27 (0, 0)))
    have K3 := Lib.hid (K2.out.alloc (.cells #[.int .i64 kd, .int .u64 fl, .int .u32 cr, .int .u32 chn, .string nm, .string st, .slice da dg.length dc] 27 (0, 0)))
    have L3 := Lib.hid (L2.out.alloc (.cells #[.int .i64 kd, .int .u64 fl, .int .u32 cr, .int .u32 chn, .string nm, .string st, .slice da dg.length dc] 27 (0, 0)))
    obtain ⟨sg, sn, sc, rfl⟩ := some_links hl
    clear hl HTT HTS NIL L2 HE
    go_wp2_with (refine wpList_store_blk rfl _ (.tmp 51) (.tmp 49) rfl g 0 [.int .i64 8, .string ⟨#[]⟩, .int .u64 0, .int .u32 0, .bool false] (by rfl) (by rfl) (by kernel_rfl) (by simp [Value.oneCell']) 68 _ K3.out (by show 0 + 5 ≤ 11; decide) ?_; intro w7 hC7 hg7)
    have HC7 := Lib.hid hC7
    have HG7 := Lib.hid hg7
    clear hC7 hg7
    go_wp2
    go_ret2
    rw [HR.out]
    refine ⟨_, _, rfl, BBs.nil _ _, ?_, (fun h => by cases h), (Keep.ofB (S := Blk1 g) HB3.out).grownB HG7.out, HC7.out⟩
    exact L3.out.frame fun q hq => HG7.out.block q (L3.out.block hq).2 (fun e => by
      cases e
      obtain ⟨cur, hcur⟩ := L3.out.etype hq
      have h := K3.out
      unfold Cells at h
      rw [h] at hcur
      injection hcur with hcur
      injection hcur with _ h2
      exact absurd h2 (by decide))
theorem takeR_any (g : Nat) (s : Sd) (bv : Value) (b : List UInt8) (w : World) (hC : Cells w g 68 s.cells) (hs : s.Ok) (hb : RSl bv b w) (hz : b.length ≤ 140737488351232) :
    Calls Tryz.prog 21 #[.pointer (some ⟨g, 0, none⟩), bv] w (RetTR g w (takeS s b)) := by
  by_cases h8 : s.st = 8
  · exact takeR_dead g s bv b w hC h8
  by_cases h57 : s.st = 5 ∨ s.st = 7
  · exact takeR_none g s bv b w hC h8 h57
  · exact takeR_step g s bv b w hC hs hb hz h8 (fun e => h57 (.inl e)) (fun e => h57 (.inr e))
end Go.Proofs.YtokkokgdjnkbnaaGreatDoor
end
section
/- The reference of layer 8: Answer. Printed by wip/pld.py. -/
open Go Go.RowKit
namespace Go.Proofs.YtokkokgdjnkbnaaGreatDoor
set_option linter.unusedSimpArgs false

set_option maxHeartbeats 4000000 in
theorem answerR_dead (g : Nat) (s : Sd) (status : ByteArray) (w : World) (hC : Cells w g 68 s.cells) (h8 : s.st = 8) :
    Calls Tryz.prog 18 #[.pointer (some ⟨g, 0, none⟩), .string status] w (RetTR g w (answerS s status)) := by
  have HR := Lib.hid (show answerS s status = (s, [], errK 8) by unfold answerS; rw [if_pos h8])
  have HF := Lib.hid (no08_any 0 8 w)
  have HC := Lib.hid hC
  have c0 := hC.cell 0
  simp only [Sd.cells, List.getElem?_cons_zero, h8] at c0
  clear hC h8
  go_enter Tryz.func18, Tryz.ntmps18
  go_wp2_with fail
  refine HF.out.mono ?_
  rintro e w2 ⟨lv, rfl, hl, hb⟩
  go_wp2
  go_ret2
  rw [HR.out]
  exact ⟨_, _, rfl, BBs.nil _ _, hl, (fun h => by cases h), Keep.ofB hb, HC.out.below hb⟩

set_option maxHeartbeats 4000000 in
theorem answerR_else (g : Nat) (s : Sd) (status : ByteArray) (w : World) (hC : Cells w g 68 s.cells) (h8 : s.st ≠ 8) (h5 : s.st ≠ 5) :
    Calls Tryz.prog 18 #[.pointer (some ⟨g, 0, none⟩), .string status] w (RetTR g w (answerS s status)) := by
  have HR := Lib.hid (show answerS s status = (s, [], errK 161) by unfold answerS; rw [if_neg h8, if_pos h5])
  have HF := Lib.hid (no08_any 0 161 w)
  have HC := Lib.hid hC
  have c0 := hC.cell 0
  simp only [Sd.cells, List.getElem?_cons_zero] at c0
  have q8 : (s.st == 8) = false := beq_eq_false_iff_ne.2 h8
  have q5 : (s.st != 5) = true := bne_iff_ne.2 h5
  clear hC h8 h5
  go_enter Tryz.func18, Tryz.ntmps18
  go_wp2_with fail
  refine HF.out.mono ?_
  rintro e w2 ⟨lv, rfl, hl, hb⟩
  go_wp2
  go_ret2
  rw [HR.out]
  exact ⟨_, _, rfl, BBs.nil _ _, hl, (fun h => by cases h), Keep.ofB hb, HC.out.below hb⟩

set_option maxHeartbeats 4000000 in
theorem answerR_bad (g : Nat) (s : Sd) (status : ByteArray) (w : World) (hC : Cells w g 68 s.cells) (h5 : s.st = 5) (hv : isSt status = false) :
    Calls Tryz.prog 18 #[.pointer (some ⟨g, 0, none⟩), .string status] w (RetTR g w (answerS s status)) := by
  have HR := Lib.hid (show answerS s status = (s, [], errK 1) by unfold answerS; rw [if_neg (by omega), if_neg (by omega), if_pos hv])
  have HI := Lib.hid ((statusR_any status w).mono fun e w' (h : e = .returned (.bool (isSt status)) ∧ w = w') => (⟨h.1, h.2 ▸ Below.refl _ _⟩ : e = .returned (.bool (isSt status)) ∧ Below w.heap.size w w'))
  rw [hv] at HI
  have HF := Lib.hid (fun W => no08_any 0 1 W)
  have HC := Lib.hid hC
  have c0 := hC.cell 0
  simp only [Sd.cells, List.getElem?_cons_zero, h5] at c0
  clear hC h5 hv
  go_enter Tryz.func18, Tryz.ntmps18
  go_wp2_with fail
  refine HI.out.mono ?_
  rintro e w2 ⟨rfl, hb2⟩
  go_wp2_with fail
  refine (HF.out _).mono ?_
  rintro e w3 ⟨ev, rfl, her, hb⟩
  have hb1 := hb2.trans (hb.mono hb2.size)
  go_wp2
  go_ret2
  rw [HR.out]
  exact ⟨_, _, rfl, BBs.nil _ _, her.base hb2.size, (fun h => by cases h), Keep.ofB hb1, HC.out.below hb1⟩

set_option maxHeartbeats 8000000 in
set_option maxRecDepth 100000 in
theorem answerR_A (g : Nat) (s : Sd) (status : ByteArray) (w : World) (hC : Cells w g 68 s.cells) (h5 : s.st = 5) (hv : isSt status = true) (hlk : lackS s.pf = true) :
    Calls Tryz.prog 18 #[.pointer (some ⟨g, 0, none⟩), .string status] w (RetTR g w (answerS s status)) := by
  have HI := Lib.hid ((statusR_any status w).mono fun e w' (h : e = .returned (.bool (isSt status)) ∧ w = w') => (⟨h.1, h.2 ▸ Below.refl _ _⟩ : e = .returned (.bool (isSt status)) ∧ Below w.heap.size w w'))
  rw [hv] at HI
  have HL := Lib.hid (fun W => (lacksR_any s.pf W).mono fun e w' (h : _ ∧ W = w') => (⟨h.1, h.2.symm⟩ : _ ∧ w' = W))
  rw [hlk] at HL
  have HR := Lib.hid (show answerS s status = (s.dead, [(writeS (statM notB)).1], []) by rw [answer_main h5 hv notB (if_pos (.inl hlk)), if_neg (by decide)])
  have HC := Lib.hid hC
  have c0 := hC.cell 0
  simp only [Sd.cells, List.getElem?_cons_zero, h5] at c0
  clear hC h5 hv hlk
  go_enter Tryz.func18, Tryz.ntmps18
  go_wp2_with fail
  refine HI.out.mono ?_
  rintro e w2 ⟨rfl, hb⟩
  have K2 := Lib.hid (HC.out.below hb)
  have HB2 := Lib.hid hb
  have c1 := K2.out.cell 1
  have c2 := K2.out.cell 2
  have c3 := K2.out.cell 3
  have c5 := K2.out.cell 5
  simp only [Sd.cells, List.getElem?_cons_zero, List.getElem?_cons_succ] at c1 c2 c3 c5
  clear hb c0 HI
  go_wp2
  go_quiet ((go_at_call 53; exact Calls.quiet_of_same (HL.out _)))
  generalize hW : World.drewN w2 _ = w3
  have K3 := Lib.hid (show Cells w3 g 68 s.cells from by rw [← hW]; exact K2.out.drewN _)
  have HB3 := Lib.hid (show Below w.heap.size w w3 from by rw [← hW]; exact below_drewN HB2.out _)
  clear hW c1 c2 c3 c5 K2 HB2 HL
  have HSE := Lib.hid (show Calls Tryz.prog 54 #[(statM notB).val (.slice none 0 0)] w3 _ from sendR_any (statM notB) (.slice none 0 0) w3 (stat_ok _ (by decide)) (RSl.nil _))
  unfold Msg.val statM at HSE
  go_wp2_with fail
  refine HSE.out.mono ?_
  rintro e w5 ⟨v5, rfl, hv5, hb5⟩
  have K5 := Lib.hid (K3.out.below hb5)
  have V5 := Lib.hid hv5
  have HB5 := Lib.hid (HB3.out.trans (hb5.mono HB3.out.size))
  clear hv5 hb5 HSE
  go_wp2_with (refine wpList_store_blk rfl _ (.tmp 67) (.tmp 65) rfl g 0 [.int .i64 8, .string ⟨#[]⟩, .int .u64 0, .int .u32 0, .bool false] (by rfl) (by rfl) (by kernel_rfl) (by simp [Value.oneCell']) 68 _ K5.out (by show 0 + 5 ≤ 11; decide) ?_; intro w7 hC7 hg7)
  have HC7 := Lib.hid hC7
  have HG7 := Lib.hid hg7
  clear hC7 hg7
  go_wp2
  go_ret2
  rw [HR.out]
  have KL := Lib.hid ((Keep.refl (Blk1 g) w5).grownB HG7.out)
  exact ⟨_, _, rfl, (V5.out.base HB3.out.size).keepC KL.out K5.out (by decide) (by decide), LinksIs.nil _ _, fun _ => rfl, (Keep.ofB HB5.out).grownB HG7.out, HC7.out⟩

set_option maxHeartbeats 8000000 in
set_option maxRecDepth 100000 in
theorem answerR_B (g : Nat) (s : Sd) (status : ByteArray) (w : World) (hC : Cells w g 68 s.cells) (h5 : s.st = 5) (hv : isSt status = true) (hlk : lackS s.pf = false) (hpc : s.pc = 0) :
    Calls Tryz.prog 18 #[.pointer (some ⟨g, 0, none⟩), .string status] w (RetTR g w (answerS s status)) := by
  have HI := Lib.hid ((statusR_any status w).mono fun e w' (h : e = .returned (.bool (isSt status)) ∧ w = w') => (⟨h.1, h.2 ▸ Below.refl _ _⟩ : e = .returned (.bool (isSt status)) ∧ Below w.heap.size w w'))
  rw [hv] at HI
  have HL := Lib.hid (fun W => (lacksR_any s.pf W).mono fun e w' (h : _ ∧ W = w') => (⟨h.1, h.2.symm⟩ : _ ∧ w' = W))
  rw [hlk] at HL
  have HR := Lib.hid (show answerS s status = (s.dead, [(writeS (statM notB)).1], []) by rw [answer_main h5 hv notB (if_pos (.inr (.inl hpc))), if_neg (by decide)])
  have hpb : (s.pc == 0) = true := beq_iff_eq.2 hpc
  clear hpc
  have HC := Lib.hid hC
  have c0 := hC.cell 0
  simp only [Sd.cells, List.getElem?_cons_zero, h5] at c0
  clear hC h5 hv hlk
  go_enter Tryz.func18, Tryz.ntmps18
  go_wp2_with fail
  refine HI.out.mono ?_
  rintro e w2 ⟨rfl, hb⟩
  have K2 := Lib.hid (HC.out.below hb)
  have HB2 := Lib.hid hb
  have c1 := K2.out.cell 1
  have c2 := K2.out.cell 2
  have c3 := K2.out.cell 3
  have c5 := K2.out.cell 5
  simp only [Sd.cells, List.getElem?_cons_zero, List.getElem?_cons_succ] at c1 c2 c3 c5
  clear hb c0 HI
  go_wp2
  go_quiet ((go_at_call 53; exact Calls.quiet_of_same (HL.out _)))
  generalize hW : World.drewN w2 _ = w3
  have K3 := Lib.hid (show Cells w3 g 68 s.cells from by rw [← hW]; exact K2.out.drewN _)
  have HB3 := Lib.hid (show Below w.heap.size w w3 from by rw [← hW]; exact below_drewN HB2.out _)
  clear hW c1 c2 c3 c5 K2 HB2 HL
  have HSE := Lib.hid (show Calls Tryz.prog 54 #[(statM notB).val (.slice none 0 0)] w3 _ from sendR_any (statM notB) (.slice none 0 0) w3 (stat_ok _ (by decide)) (RSl.nil _))
  unfold Msg.val statM at HSE
  go_wp2_with fail
  refine HSE.out.mono ?_
  rintro e w5 ⟨v5, rfl, hv5, hb5⟩
  have K5 := Lib.hid (K3.out.below hb5)
  have V5 := Lib.hid hv5
  have HB5 := Lib.hid (HB3.out.trans (hb5.mono HB3.out.size))
  clear hv5 hb5 HSE
  go_wp2_with (refine wpList_store_blk rfl _ (.tmp 67) (.tmp 65) rfl g 0 [.int .i64 8, .string ⟨#[]⟩, .int .u64 0, .int .u32 0, .bool false] (by rfl) (by rfl) (by kernel_rfl) (by simp [Value.oneCell']) 68 _ K5.out (by show 0 + 5 ≤ 11; decide) ?_; intro w7 hC7 hg7)
  have HC7 := Lib.hid hC7
  have HG7 := Lib.hid hg7
  clear hC7 hg7
  go_wp2
  go_ret2
  rw [HR.out]
  have KL := Lib.hid ((Keep.refl (Blk1 g) w5).grownB HG7.out)
  exact ⟨_, _, rfl, (V5.out.base HB3.out.size).keepC KL.out K5.out (by decide) (by decide), LinksIs.nil _ _, fun _ => rfl, (Keep.ofB HB5.out).grownB HG7.out, HC7.out⟩

set_option maxHeartbeats 8000000 in
set_option maxRecDepth 100000 in
theorem answerR_C (g : Nat) (s : Sd) (status : ByteArray) (w : World) (hC : Cells w g 68 s.cells) (hs : s.Ok) (hz : status.size ≤ 140737488351232) (h5 : s.st = 5) (hv : isSt status = true) (hlk : lackS s.pf = false) (hpc : s.pc ≠ 0) :
    Calls Tryz.prog 18 #[.pointer (some ⟨g, 0, none⟩), .string status] w (RetTR g w (answerS s status)) := by
  have HI := Lib.hid ((statusR_any status w).mono fun e w' (h : e = .returned (.bool (isSt status)) ∧ w = w') => (⟨h.1, h.2 ▸ Below.refl _ _⟩ : e = .returned (.bool (isSt status)) ∧ Below w.heap.size w w'))
  rw [hv] at HI
  have HL := Lib.hid (fun W => (lacksR_any s.pf W).mono fun e w' (h : _ ∧ W = w') => (⟨h.1, h.2.symm⟩ : _ ∧ w' = W))
  rw [hlk] at HL
  have HMn := Lib.hid (fun hn : s.pn = s.mn => show answerS s status = (s.dead, [(writeS (statM notB)).1], []) by rw [answer_main h5 hv notB (if_pos (.inr (.inr hn))), if_neg (by decide)])
  have HMd := Lib.hid (fun (hn : s.pn ≠ s.mn) (hq : okQ status = false) => show answerS s status = (s.dead, [(writeS (statM status)).1], []) by rw [answer_main h5 hv status (if_neg (by simp [hlk, hpc, hn])), if_neg (by simp [hq])])
  have HMo := Lib.hid (fun (hn : s.pn ≠ s.mn) (hq : okQ status = true) => show answerS s status = (s.now 6 s.pn s.pf s.pc (decide (status = simB)), [(writeS (statM status)).1, (writeS (chalM s.mf s.mc s.ch s.mn)).1], []) by rw [answer_main h5 hv status (if_neg (by simp [hlk, hpc, hn])), if_pos hq])
  have hpb : (s.pc == 0) = false := beq_eq_false_iff_ne.2 hpc
  have HZ := Lib.hid hz
  clear hz hpc
  have HC := Lib.hid hC
  have HS := Lib.hid hs
  have c0 := hC.cell 0
  simp only [Sd.cells, List.getElem?_cons_zero, h5] at c0
  clear hC hs h5 hv hlk
  go_enter Tryz.func18, Tryz.ntmps18
  go_wp2_with fail
  refine HI.out.mono ?_
  rintro e w2 ⟨rfl, hb⟩
  have K2 := Lib.hid (HC.out.below hb)
  have HB2 := Lib.hid hb
  have c1 := K2.out.cell 1
  have c2 := K2.out.cell 2
  have c3 := K2.out.cell 3
  have c5 := K2.out.cell 5
  simp only [Sd.cells, List.getElem?_cons_zero, List.getElem?_cons_succ] at c1 c2 c3 c5
  clear hb c0 HI
  go_wp2
  by_cases hn : s.pn = s.mn
  · have hnb : (s.pn.toList == s.mn.toList) = true := beqL_eq hn
    have HR := Lib.hid (HMn.out hn)
    clear HMn HMd HMo hn
    go_quiet ((go_at_call 53; exact Calls.quiet_of_same (HL.out _)))
    generalize hW : World.drewN w2 _ = w3
    have K3 := Lib.hid (show Cells w3 g 68 s.cells from by rw [← hW]; exact K2.out.drewN _)
    have HB3 := Lib.hid (show Below w.heap.size w w3 from by rw [← hW]; exact below_drewN HB2.out _)
    clear hW c1 c2 c3 c5 K2 HB2 HL
    have HSE := Lib.hid (show Calls Tryz.prog 54 #[(statM notB).val (.slice none 0 0)] w3 _ from sendR_any (statM notB) (.slice none 0 0) w3 (stat_ok _ (by decide)) (RSl.nil _))
    unfold Msg.val statM at HSE
    go_wp2_with fail
    refine HSE.out.mono ?_
    rintro e w5 ⟨v5, rfl, hv5, hb5⟩
    have K5 := Lib.hid (K3.out.below hb5)
    have V5 := Lib.hid hv5
    have HB5 := Lib.hid (HB3.out.trans (hb5.mono HB3.out.size))
    clear hv5 hb5 HSE
    go_wp2_with (refine wpList_store_blk rfl _ (.tmp 67) (.tmp 65) rfl g 0 [.int .i64 8, .string ⟨#[]⟩, .int .u64 0, .int .u32 0, .bool false] (by rfl) (by rfl) (by kernel_rfl) (by simp [Value.oneCell']) 68 _ K5.out (by show 0 + 5 ≤ 11; decide) ?_; intro w7 hC7 hg7)
    have HC7 := Lib.hid hC7
    have HG7 := Lib.hid hg7
    clear hC7 hg7
    go_wp2
    go_ret2
    rw [HR.out]
    have KL := Lib.hid ((Keep.refl (Blk1 g) w5).grownB HG7.out)
    exact ⟨_, _, rfl, (V5.out.base HB3.out.size).keepC KL.out K5.out (by decide) (by decide), LinksIs.nil _ _, fun _ => rfl, (Keep.ofB HB5.out).grownB HG7.out, HC7.out⟩
  have hnb : (s.pn.toList == s.mn.toList) = false := beqL_ne hn
  go_quiet ((go_at_call 53; exact Calls.quiet_of_same (HL.out _)))
  generalize hW : World.drewN w2 _ = w3
  have K3 := Lib.hid (show Cells w3 g 68 s.cells from by rw [← hW]; exact K2.out.drewN _)
  have HB3 := Lib.hid (show Below w.heap.size w w3 from by rw [← hW]; exact below_drewN HB2.out _)
  clear hW c1 c2 c3 c5 K2 HB2 HL
  clear hnb
  by_cases h1 : status = okB
  · subst h1
    have HR := Lib.hid (HMo.out hn (by decide))
    clear HMn HMd HMo hn
    unfold okB at *
    have HSE := Lib.hid (show Calls Tryz.prog 54 #[(statM ⟨#[111, 107]⟩).val (.slice none 0 0)] w3 _ from sendR_any (statM ⟨#[111, 107]⟩) (.slice none 0 0) w3 (stat_ok _ (by decide)) (RSl.nil _))
    unfold Msg.val statM at HSE
    go_wp2_with fail
    refine HSE.out.mono ?_
    rintro e w5 ⟨v5, rfl, hv5, hb5⟩
    have K5 := Lib.hid (K3.out.below hb5)
    have V5 := Lib.hid hv5
    have HB5 := Lib.hid (HB3.out.trans (hb5.mono HB3.out.size))
    clear hv5 hb5 HSE
    have c0 := K5.out.cell 0
    have f0 := K5.out.frozen 0
    have P1 := Lib.hid (K5.out.set_ 0 (.int .i64 6))
    have c4 := P1.out.cell 4
    have f4 := P1.out.frozen 4
    have P2 := Lib.hid (P1.out.set_ 4 (.bool false))
    simp only [Sd.cells, List.set_cons_zero, List.getElem?_cons_zero, List.getElem?_cons_succ] at c0 c4
    have KP := Lib.hid (((Keep.ofB (S := Blk1 g) HB5.out).setB 0 (.int .i64 6)).setB 4 (.bool false))
    have V6 := Lib.hid ((V5.out.base HB3.out.size).keepC (((Keep.refl (Blk1 g) w5).setB 0 (.int .i64 6)).setB 4 (.bool false)) K5.out (by decide) (by decide))
    clear V5
    go_wp2
    clear c0 c4 f0 f4 P1
    generalize hW : World.setCell _ ⟨g, 4, none⟩ _ = W6 at *
    clear hW
    have P6 := Lib.hid (show Cells W6 g 68 (s.now 6 s.pn s.pf s.pc false).cells from P2.out)
    have c5 := P6.out.cell 5
    have c6 := P6.out.cell 6
    have c7 := P6.out.cell 7
    have c10 := P6.out.cell 10
    simp only [Sd.cells, Sd.now, List.getElem?_cons_zero, List.getElem?_cons_succ] at c5 c6 c7 c10
    have HS2 := Lib.hid (show Calls Tryz.prog 54 #[(chalM s.mf s.mc s.ch s.mn).val (.slice none 0 0)] W6.drew _ from sendR_any (chalM s.mf s.mc s.ch s.mn) (.slice none 0 0) W6.drew (chalM_ok HS.out) (RSl.nil _))
    unfold Msg.val chalM at HS2
    go_region_held3 (fun w' => w'.cell? ⟨g, 5, none⟩ = some (.string s.mn) ∧ w'.cell? ⟨g, 6, none⟩ = some (.int .u64 s.mf) ∧ w'.cell? ⟨g, 7, none⟩ = some (.int .u32 s.mc) ∧ w'.cell? ⟨g, 10, none⟩ = some (.int .u32 s.ch)) (go_keep)
      (first
        | (go_at_call 54; refine HS2.out.mono ?_; rintro e w7 ⟨v7, rfl, hv7, hb⟩
           have hb7 : Below W6.heap.size W6 w7 := (Below.drew (Below.refl W6.heap.size W6)).trans hb
           have K7 := Lib.hid (P6.out.below hb7)
           have V7 := Lib.hid (V6.out.below hb7 (Nat.le_refl _))
           have e5 := K7.out.cell 5
           have e6 := K7.out.cell 6
           have e7 := K7.out.cell 7
           have e10 := K7.out.cell 10
           obtain ⟨v8, w8, hrun, hv8, hg8⟩ := V7.out.app hv7 (by simp) (Nat.le_trans KP.out.size hb7.size)
           have HRUN := Lib.hid hrun
           have V8 := Lib.hid hv8
           have hne8 : v5.ownBlock ≠ some g := fun e => by
             obtain ⟨_, _, cur, hcur⟩ := V7.out.block e
             have := K7.out
             unfold Cells at this
             rw [this] at hcur
             injection hcur with hcur
             injection hcur with _ h2
             exact absurd h2 (by decide)
           have K8 := Lib.hid (K7.out.grown hg8 hne8)
           have KP8 := Lib.hid ((KP.out.below hb7).grown hg8 (fun k hk hlt => absurd hlt (Nat.not_lt.2 (V7.out.block hk).1)))
           have j5 := K8.out.cell 5
           have j6 := K8.out.cell 6
           have j7 := K8.out.cell 7
           have j10 := K8.out.cell 10
           simp only [Sd.cells, Sd.now, List.getElem?_cons_zero, List.getElem?_cons_succ] at e5 e6 e7 e10 j5 j6 j7 j10
           clear hb hb7 hv7 hrun hv8 hg8 hne8 HS2)
        | (refine step_app_eq (by rfl) _ _ _ _ (by rfl) _ _ v8 w8 (by rfl) (by rfl) HRUN.out ?_))
    go_wp2
    go_ret2
    rw [HR.out]
    exact ⟨_, _, rfl, V8.out, LinksIs.nil _ _, fun _ => rfl, KP8.out, K8.out⟩
  by_cases h2 : status = simB
  · subst h2
    have HR := Lib.hid (HMo.out hn (by decide))
    clear HMn HMd HMo hn
    unfold simB at *
    have HSE := Lib.hid (show Calls Tryz.prog 54 #[(statM ⟨#[111, 107, 95, 115, 105, 109, 117, 108, 116, 97, 110, 101, 111, 117, 115]⟩).val (.slice none 0 0)] w3 _ from sendR_any (statM ⟨#[111, 107, 95, 115, 105, 109, 117, 108, 116, 97, 110, 101, 111, 117, 115]⟩) (.slice none 0 0) w3 (stat_ok _ (by decide)) (RSl.nil _))
    unfold Msg.val statM at HSE
    go_wp2_with fail
    refine HSE.out.mono ?_
    rintro e w5 ⟨v5, rfl, hv5, hb5⟩
    have K5 := Lib.hid (K3.out.below hb5)
    have V5 := Lib.hid hv5
    have HB5 := Lib.hid (HB3.out.trans (hb5.mono HB3.out.size))
    clear hv5 hb5 HSE
    have c0 := K5.out.cell 0
    have f0 := K5.out.frozen 0
    have P1 := Lib.hid (K5.out.set_ 0 (.int .i64 6))
    have c4 := P1.out.cell 4
    have f4 := P1.out.frozen 4
    have P2 := Lib.hid (P1.out.set_ 4 (.bool true))
    simp only [Sd.cells, List.set_cons_zero, List.getElem?_cons_zero, List.getElem?_cons_succ] at c0 c4
    have KP := Lib.hid (((Keep.ofB (S := Blk1 g) HB5.out).setB 0 (.int .i64 6)).setB 4 (.bool true))
    have V6 := Lib.hid ((V5.out.base HB3.out.size).keepC (((Keep.refl (Blk1 g) w5).setB 0 (.int .i64 6)).setB 4 (.bool true)) K5.out (by decide) (by decide))
    clear V5
    go_wp2
    clear c0 c4 f0 f4 P1
    generalize hW : World.setCell _ ⟨g, 4, none⟩ _ = W6 at *
    clear hW
    have P6 := Lib.hid (show Cells W6 g 68 (s.now 6 s.pn s.pf s.pc true).cells from P2.out)
    have c5 := P6.out.cell 5
    have c6 := P6.out.cell 6
    have c7 := P6.out.cell 7
    have c10 := P6.out.cell 10
    simp only [Sd.cells, Sd.now, List.getElem?_cons_zero, List.getElem?_cons_succ] at c5 c6 c7 c10
    have HS2 := Lib.hid (show Calls Tryz.prog 54 #[(chalM s.mf s.mc s.ch s.mn).val (.slice none 0 0)] W6.drew _ from sendR_any (chalM s.mf s.mc s.ch s.mn) (.slice none 0 0) W6.drew (chalM_ok HS.out) (RSl.nil _))
    unfold Msg.val chalM at HS2
    go_region_held3 (fun w' => w'.cell? ⟨g, 5, none⟩ = some (.string s.mn) ∧ w'.cell? ⟨g, 6, none⟩ = some (.int .u64 s.mf) ∧ w'.cell? ⟨g, 7, none⟩ = some (.int .u32 s.mc) ∧ w'.cell? ⟨g, 10, none⟩ = some (.int .u32 s.ch)) (go_keep)
      (first
        | (go_at_call 54; refine HS2.out.mono ?_; rintro e w7 ⟨v7, rfl, hv7, hb⟩
           have hb7 : Below W6.heap.size W6 w7 := (Below.drew (Below.refl W6.heap.size W6)).trans hb
           have K7 := Lib.hid (P6.out.below hb7)
           have V7 := Lib.hid (V6.out.below hb7 (Nat.le_refl _))
           have e5 := K7.out.cell 5
           have e6 := K7.out.cell 6
           have e7 := K7.out.cell 7
           have e10 := K7.out.cell 10
           obtain ⟨v8, w8, hrun, hv8, hg8⟩ := V7.out.app hv7 (by simp) (Nat.le_trans KP.out.size hb7.size)
           have HRUN := Lib.hid hrun
           have V8 := Lib.hid hv8
           have hne8 : v5.ownBlock ≠ some g := fun e => by
             obtain ⟨_, _, cur, hcur⟩ := V7.out.block e
             have := K7.out
             unfold Cells at this
             rw [this] at hcur
             injection hcur with hcur
             injection hcur with _ h2
             exact absurd h2 (by decide)
           have K8 := Lib.hid (K7.out.grown hg8 hne8)
           have KP8 := Lib.hid ((KP.out.below hb7).grown hg8 (fun k hk hlt => absurd hlt (Nat.not_lt.2 (V7.out.block hk).1)))
           have j5 := K8.out.cell 5
           have j6 := K8.out.cell 6
           have j7 := K8.out.cell 7
           have j10 := K8.out.cell 10
           simp only [Sd.cells, Sd.now, List.getElem?_cons_zero, List.getElem?_cons_succ] at e5 e6 e7 e10 j5 j6 j7 j10
           clear hb hb7 hv7 hrun hv8 hg8 hne8 HS2)
        | (refine step_app_eq (by rfl) _ _ _ _ (by rfl) _ _ v8 w8 (by rfl) (by rfl) HRUN.out ?_))
    go_wp2
    go_ret2
    rw [HR.out]
    exact ⟨_, _, rfl, V8.out, LinksIs.nil _ _, fun _ => rfl, KP8.out, K8.out⟩
  have HR := Lib.hid (HMd.out hn (by simp [okQ, h1, h2]))
  have hq1 : (status.toList == [111, 107]) = false := lit_ne h1
  have hq2 : (status.toList == [111, 107, 95, 115, 105, 109, 117, 108, 116, 97, 110, 101, 111, 117, 115]) = false := lit_ne h2
  clear HMn HMd HMo hn h1 h2
  have HSE := Lib.hid (show Calls Tryz.prog 54 #[(statM status).val (.slice none 0 0)] w3 _ from sendR_any (statM status) (.slice none 0 0) w3 (stat_ok _ HZ.out) (RSl.nil _))
  unfold Msg.val statM at HSE
  go_wp2_with fail
  refine HSE.out.mono ?_
  rintro e w5 ⟨v5, rfl, hv5, hb5⟩
  have K5 := Lib.hid (K3.out.below hb5)
  have V5 := Lib.hid hv5
  have HB5 := Lib.hid (HB3.out.trans (hb5.mono HB3.out.size))
  clear hv5 hb5 HSE
  go_wp2_with (refine wpList_store_blk rfl _ (.tmp 67) (.tmp 65) rfl g 0 [.int .i64 8, .string ⟨#[]⟩, .int .u64 0, .int .u32 0, .bool false] (by rfl) (by rfl) (by kernel_rfl) (by simp [Value.oneCell']) 68 _ K5.out (by show 0 + 5 ≤ 11; decide) ?_; intro w7 hC7 hg7)
  have HC7 := Lib.hid hC7
  have HG7 := Lib.hid hg7
  clear hC7 hg7
  go_wp2
  go_ret2
  rw [HR.out]
  have KL := Lib.hid ((Keep.refl (Blk1 g) w5).grownB HG7.out)
  exact ⟨_, _, rfl, (V5.out.base HB3.out.size).keepC KL.out K5.out (by decide) (by decide), LinksIs.nil _ _, fun _ => rfl, (Keep.ofB HB5.out).grownB HG7.out, HC7.out⟩

theorem answerR_any (g : Nat) (s : Sd) (status : ByteArray) (w : World) (hC : Cells w g 68 s.cells) (hs : s.Ok) (hz : status.size ≤ 140737488351232) :
    Calls Tryz.prog 18 #[.pointer (some ⟨g, 0, none⟩), .string status] w (RetTR g w (answerS s status)) := by
  by_cases h8 : s.st = 8
  · exact answerR_dead g s status w hC h8
  by_cases h5 : s.st = 5
  · cases hv : isSt status with
    | false => exact answerR_bad g s status w hC h5 hv
    | true =>
      cases hlk : lackS s.pf with
      | true => exact answerR_A g s status w hC h5 hv hlk
      | false =>
        by_cases hpc : s.pc = 0
        · exact answerR_B g s status w hC h5 hv hlk hpc
        · exact answerR_C g s status w hC hs hz h5 hv hlk hpc
  · exact answerR_else g s status w hC h8 h5
end Go.Proofs.YtokkokgdjnkbnaaGreatDoor
end
section
/- Layer 8, plain: a side is up only behind a message that bears the digest of its own cookie and challenge. -/
open Go Go.RowKit
namespace Go.Proofs.YtokkokgdjnkbnaaGreatDoor

theorem readS_45 {k : Int} {b : List UInt8} (hk : k = 4 ∨ k = 5) (h : (readS k b).2 = []) : b.length = wantS k ∧ (readS k b).1.digest = b.drop (wantS k - 16) := by
  unfold readS at h ⊢
  rw [if_neg (by omega)] at h ⊢
  split
  · rename_i h2; rw [if_pos h2] at h; cases h
  · rename_i h2
    rw [if_neg h2, if_neg (by omega)] at h
    rw [if_neg (by omega)]
    split
    · rename_i h4; rw [if_pos h4] at h; cases h
    · rename_i h4
      rw [if_neg h4, if_pos hk] at h
      split
      · rename_i h6; exact ⟨h6, rfl⟩
      · rename_i h6; rw [if_neg h6] at h; cases h
theorem up_plain {s : Sd} {b : List UInt8} (hs : s.Ok) (hz : b.length ≤ 140737488351232) (h7 : s.st ≠ 7) (hup : (takeS s b).1.st = 7) :
    (s.st = 3 ∨ s.st = 6) ∧ 17 ≤ b.length ∧ b.drop (b.length - 16) = (digestS s.cookie s.ch).1 := by
  unfold takeS at hup
  split at hup
  · exact absurd hup h7
  · rename_i h8
    split at hup
    · exact absurd hup h7
    · rename_i h57
      split at hup
      · exact absurd (show (8 : Int) = 7 from hup) (by decide)
      · rename_i hr
        have hr' : (readS (waitK s.st) b).2 = [] := by simpa using hr
        have hk := (readS_good _ b hz hr').1
        split at hup
        · exact absurd (show (8 : Int) = 7 from hup) (by decide)
        · generalize hm : (readS (waitK s.st) b).1 = m at *
          unfold tookS at hup
          split at hup
          · split at hup
            · exact absurd (show (2 : Int) = 7 from hup) (by decide)
            · exact absurd hup h7
          · rename_i n2
            split at hup
            · split at hup
              · exact absurd hup h7
              · exact absurd (show (3 : Int) = 7 from hup) (by decide)
            · rename_i n3
              split at hup
              · exact absurd (show (5 : Int) = 7 from hup) (by decide)
              · rename_i n1
                split at hup
                · exact absurd hup h7
                · rename_i hsm
                  have s0 := hs.s0
                  have s1 := hs.s1
                  have hst : s.st = 1 ∨ s.st = 2 ∨ s.st = 3 ∨ s.st = 4 ∨ s.st = 6 := by omega
                  have hw : (s.st = 3 ∧ waitK s.st = 5) ∨ (s.st = 6 ∧ waitK s.st = 4) := by
                    rcases hst with e | e | e | e | e
                    · exact absurd (by rw [hk, e]; rfl) n2
                    · exact absurd (by rw [hk, e]; rfl) n3
                    · exact .inl ⟨e, by rw [e]; rfl⟩
                    · exact absurd (by rw [hk, e]; rfl) n1
                    · exact .inr ⟨e, by rw [e]; rfl⟩
                  have h45 : waitK s.st = 4 ∨ waitK s.st = 5 := by omega
                  obtain ⟨hl, hd⟩ := readS_45 h45 hr'
                  rw [hm] at hd
                  have hdig : m.digest = (digestS s.cookie s.ch).1 := by
                    have hsm' : sameS s.cookie s.ch m.digest = true := by simpa using hsm
                    unfold sameS at hsm'
                    simp only [Bool.and_eq_true, decide_eq_true_eq] at hsm'
                    unfold digestS
                    rw [if_pos hs.ck]
                    exact hsm'.2.symm
                  have hW : wantS (waitK s.st) = 17 ∨ wantS (waitK s.st) = 21 := by
                    rcases h45 with e | e <;> rw [e]
                    · exact .inr rfl
                    · exact .inl rfl
                  exact ⟨by omega, by omega, by rw [hl, ← hdig, hd]⟩
theorem answerS_up {s : Sd} {t : ByteArray} (h : (answerS s t).1.st = 7) : s.st = 7 := by
  unfold answerS at h
  split at h
  · exact h
  · split at h
    · exact h
    · split at h
      · exact h
      · simp only at h
        generalize (if lackS s.pf = true ∨ s.pc = 0 ∨ s.pn = s.mn then notB else t) = u at h
        split at h
        · exact absurd (show (6 : Int) = 7 from h) (by decide)
        · exact absurd (show (8 : Int) = 7 from h) (by decide)
end Go.Proofs.YtokkokgdjnkbnaaGreatDoor
end
section
/- Package heddlelaw08: sides. -/
open Go Go.RowKit
namespace Go.Proofs.YtokkokgdjnkbnaaGreatDoor

def startV (bg : Bool) (mn : ByteArray) (mf mc : Int) (peer cookie : ByteArray) (ch : Nat) : Value := .agg #[.bool bg, .string mn, .int .u64 mf, .int .u32 mc, .string peer, .string cookie, .int .u32 ch]
/-- the peer that a side waits for -/
def wantOf (bg : Bool) (peer : ByteArray) : ByteArray := if bg then peer else ⟨#[]⟩
def SidesE (t t' : TypeId) (w : World) (r : List Lk) (s : Sd) (e : Ending) (w' : World) : Prop :=
  Below w.heap.size w w' ∧ ((r = [] ∧ ∃ gx gy, e = .returned (.tuple #[.pointer (some ⟨gx, 0, none⟩), .pointer (some ⟨gy, 0, none⟩), .bool true]) ∧ w.heap.size ≤ gx ∧ w.heap.size ≤ gy ∧ gx ≠ gy ∧ Cells w' gx t s.cells ∧ Cells w' gy t' s.cells) ∨
    (r ≠ [] ∧ e = .returned (.tuple #[.pointer none, .pointer none, .bool true])))
theorem madeS_len (mn : ByteArray) (mf mc : Int) (peer : ByteArray) (bg : Bool) (cookie : ByteArray) : (madeS mn mf mc peer bg cookie).length ≤ 16 := by
  have hn : ∀ s, (overS (nodeS s).2.2).length ≤ 16 := fun s => by rcases nodeS_two s with h | h <;> rw [h] <;> decide
  unfold madeS
  split
  · exact hn _
  · split
    · exact hn _
    · split
      · exact (by decide : 1 ≤ 16)
      · split
        · exact (by decide : 1 ≤ 16)
        · split
          · exact (by decide : 1 ≤ 16)
          · unfold cookieS
            split
            · exact (by decide : 2 ≤ 16)
            · split
              · exact (by decide : 2 ≤ 16)
              · exact Nat.zero_le _

set_option maxHeartbeats 8000000 in
set_option maxRecDepth 100000 in
theorem sides_wait (mn : ByteArray) (mf mc : Int) (peer cookie : ByteArray) (ch : Nat) (w : World) (hz : mn.size ≤ 140737488351232) (hG : Gl w) :
    Calls Tryz.prog 16 #[startV false mn mf mc peer cookie ch] w (SidesE 113 68 w (madeS mn mf mc ⟨#[]⟩ false cookie) (newS mn mf mc ⟨#[]⟩ false cookie ch)) := by
  have HW := Lib.hid (fun W h => wait_any mn mf mc cookie ch W hz h)
  have HR := Lib.hid (fun W => waitR_any mn mf mc cookie ch W hz)
  have hel := Lib.hid (madeS_len mn mf mc ⟨#[]⟩ false cookie)
  have HG := Lib.hid hG
  have HB0 := Lib.hid ((Below.refl _ w).alloc (Nat.le_refl _) (.cells #[.bool false, .string mn, .int .u64 mf, .int .u32 mc, .string peer, .string cookie, .int .u32 ch] 47 (0, 0)))
  have C0 := Lib.hid (Cells.new w 47 [.bool false, .string mn, .int .u64 mf, .int .u32 mc, .string peer, .string cookie, .int .u32 ch])
  have hnq := fun (w : World) (a : Option Addr) (n c : Nat) => run_neq_slice_nil_any (P := Tryz.prog) w 32 98 a n c 0 0 Tryz.underlying32
  clear hz hG
  unfold startV peerV at *
  go_enter Tryz.func16, Tryz.ntmps16
  go_wp2_with fail
  refine (HW.out _ (HG.out.below HB0.out).e).mono ?_
  rintro e w1 ⟨pv, ev, rfl, her, hb1, hcase⟩
  have HB1 := Lib.hid (HB0.out.trans (hb1.mono HB0.out.size))
  have C1 := C0.out.below hb1
  have c1 := C1.cell 1
  have c2 := C1.cell 2
  have c3 := C1.cell 3
  have c5 := C1.cell 5
  have c6 := C1.cell 6
  have clt := C1.lt
  simp only [List.getElem?_cons_zero, List.getElem?_cons_succ] at c1 c2 c3 c5 c6
  have HE1 := Lib.hid her
  have HC1 := Lib.hid hcase
  clear hb1 C1 C0 her hcase
  go_wp2_with fail
  refine (HR.out _).mono ?_
  rintro e w2 ⟨qv, lv, rfl, hl, hb2, hcase2⟩
  have HB2 := Lib.hid (HB1.out.trans (hb2.mono HB1.out.size))
  have HF := refused_links ev _ _ lv _ w2 (HE1.out.below hb2) hel.out hel.out hl (HG.out.below HB2.out).e
  rw [show decide (madeS mn mf mc ⟨#[]⟩ false cookie = madeS mn mf mc ⟨#[]⟩ false cookie) = true by simp] at HF
  replace HF := Lib.hid HF
  clear c1 c2 c3 c5 c6 clt
  rcases HC1.out with ⟨hr, gx, rfl, hgx, hCx⟩ | ⟨hr, rfl⟩
  · rcases hcase2 with ⟨_, rfl, gy, rfl, hgy, hCy⟩ | ⟨hr2, _⟩
    · have K := Lib.hid (⟨hr, Nat.le_trans HB0.out.size hgx, Nat.le_trans HB1.out.size hgy, Nat.ne_of_lt (Nat.lt_of_lt_of_le hCx.lt hgy), hCx.below hb2, hCy⟩ : madeS mn mf mc ⟨#[]⟩ false cookie = [] ∧ w.heap.size ≤ gx ∧ w.heap.size ≤ gy ∧ gx ≠ gy ∧ Cells w2 gx 113 _ ∧ Cells w2 gy 68 _)
      clear hr hgx hCx hgy hCy hl hb2 HC1
      go_wp2_with fail
      refine HF.out.mono ?_
      rintro e w3 ⟨rfl, hb3⟩
      have HB3 := Lib.hid (HB2.out.trans (hb3.mono HB2.out.size))
      have hb3' := Lib.hid hb3
      clear hb3
      go_wp2
      refine bodyPost_ret (v := .tuple #[.pointer (some ⟨gx, 0, none⟩), .pointer (some ⟨gy, 0, none⟩), .bool true]) (by simp [results, Tryz.results16, go_sem]) rfl ?_
      obtain ⟨k1, k2, k3, k4, k5, k6⟩ := K.out
      exact ⟨HB3.out, .inl ⟨k1, gx, gy, rfl, k2, k3, k4, k5.below hb3'.out, k6.below hb3'.out⟩⟩
    · exact absurd hr hr2
  · rcases hcase2 with ⟨hr2, _⟩ | ⟨_, rfl⟩
    · exact absurd hr2 hr
    · have HRR := Lib.hid hr
      cases hrr : madeS mn mf mc ⟨#[]⟩ false cookie with
      | nil => exact absurd hrr hr
      | cons k r =>
        rw [hrr] at hl
        obtain ⟨sg, sn, sc, rfl⟩ := some_links hl
        clear hrr hr hl hb2 HC1
        go_wp2_with fail
        refine HF.out.mono ?_
        rintro e w3 ⟨rfl, hb3⟩
        have HB3 := Lib.hid (HB2.out.trans (hb3.mono HB2.out.size))
        clear hb3
        go_wp2
        refine bodyPost_ret (v := .tuple #[.pointer none, .pointer none, .bool true]) (by simp [results, Tryz.results16, go_sem]) rfl ?_
        exact ⟨HB3.out, .inr ⟨HRR.out, rfl⟩⟩
end Go.Proofs.YtokkokgdjnkbnaaGreatDoor
end
section
/- Package heddlelaw08: sides of a side that begins. Turned from XSidV by a program. -/
open Go Go.RowKit
namespace Go.Proofs.YtokkokgdjnkbnaaGreatDoor

set_option maxHeartbeats 8000000 in
set_option maxRecDepth 100000 in
theorem sides_begin (mn : ByteArray) (mf mc : Int) (peer cookie : ByteArray) (ch : Nat) (w : World) (hz : mn.size ≤ 140737488351232) (hpz : peer.size ≤ 140737488351232) (f0 : 0 ≤ mf) (f1 : mf < 18446744073709551616) (r0 : 0 ≤ mc) (r1 : mc < 4294967296) (hG : Gl w) :
    Calls Tryz.prog 16 #[startV true mn mf mc peer cookie ch] w (SidesE 113 68 w (madeS mn mf mc peer true cookie) (newS mn mf mc peer true cookie ch)) := by
  have HW := Lib.hid (fun W h => begin_any mn mf mc peer cookie ch W hz hpz f0 f1 r0 r1 h)
  have HR := Lib.hid (fun W => beginR_any mn mf mc peer cookie ch W hz hpz f0 f1 r0 r1)
  have hel := Lib.hid (madeS_len mn mf mc peer true cookie)
  have HG := Lib.hid hG
  have HB0 := Lib.hid ((Below.refl _ w).alloc (Nat.le_refl _) (.cells #[.bool true, .string mn, .int .u64 mf, .int .u32 mc, .string peer, .string cookie, .int .u32 ch] 47 (0, 0)))
  have C0 := Lib.hid (Cells.new w 47 [.bool true, .string mn, .int .u64 mf, .int .u32 mc, .string peer, .string cookie, .int .u32 ch])
  have hnq := fun (w : World) (a : Option Addr) (n c : Nat) => run_neq_slice_nil_any (P := Tryz.prog) w 32 98 a n c 0 0 Tryz.underlying32
  clear hz hpz f0 f1 r0 r1 hG
  unfold startV peerV at *
  go_enter Tryz.func16, Tryz.ntmps16
  go_wp2_with fail
  refine (HW.out _ (HG.out.below HB0.out).e).mono ?_
  rintro e w1 ⟨pv, bv, ev, rfl, ⟨her, hb1, hcase⟩, hbv⟩
  have HB1 := Lib.hid (HB0.out.trans (hb1.mono HB0.out.size))
  have C1 := C0.out.below hb1
  have c1 := C1.cell 1
  have c2 := C1.cell 2
  have c3 := C1.cell 3
  have c4 := C1.cell 4
  have c5 := C1.cell 5
  have c6 := C1.cell 6
  have clt := C1.lt
  simp only [List.getElem?_cons_zero, List.getElem?_cons_succ] at c1 c2 c3 c4 c5 c6
  have HE1 := Lib.hid her
  have HC1 := Lib.hid hcase
  clear hb1 C1 C0 her hcase
  go_wp2_with fail
  refine (HR.out _).mono ?_
  rintro e w2 ⟨qv, bv2, lv, rfl, ⟨hl, hb2, hcase2⟩, hbv2⟩
  have HB2 := Lib.hid (HB1.out.trans (hb2.mono HB1.out.size))
  have HF := refused_links ev _ _ lv _ w2 (HE1.out.below hb2) hel.out hel.out hl (HG.out.below HB2.out).e
  rw [show decide (madeS mn mf mc peer true cookie = madeS mn mf mc peer true cookie) = true by simp] at HF
  replace HF := Lib.hid HF
  have s1 := run_slice_string (hbv.rsl.below hb2).slice
  have s2 := run_slice_string hbv2.rsl.slice
  generalize (if madeS mn mf mc peer true cookie = [] then (writeS (nameM mf mc mn)).1 else []) = bl at *
  clear c1 c2 c3 c4 c5 c6 clt hbv hbv2
  rcases HC1.out with ⟨hr, gx, rfl, hgx, hCx⟩ | ⟨hr, rfl⟩
  · rcases hcase2 with ⟨_, rfl, gy, rfl, hgy, hCy⟩ | ⟨hr2, _⟩
    · have K := Lib.hid (⟨hr, Nat.le_trans HB0.out.size hgx, Nat.le_trans HB1.out.size hgy, Nat.ne_of_lt (Nat.lt_of_lt_of_le hCx.lt hgy), hCx.below hb2, hCy⟩ : madeS mn mf mc peer true cookie = [] ∧ w.heap.size ≤ gx ∧ w.heap.size ≤ gy ∧ gx ≠ gy ∧ Cells w2 gx 113 _ ∧ Cells w2 gy 68 _)
      clear hr hgx hCx hgy hCy hl hb2 HC1
      go_wp2_with fail
      refine HF.out.mono ?_
      rintro e w3 ⟨rfl, hb3⟩
      have HB3 := Lib.hid (HB2.out.trans (hb3.mono HB2.out.size))
      have hb3' := Lib.hid hb3
      clear hb3
      go_wp2
      refine bodyPost_ret (v := .tuple #[.pointer (some ⟨gx, 0, none⟩), .pointer (some ⟨gy, 0, none⟩), .bool true]) (by simp [results, Tryz.results16, go_sem]) rfl ?_
      obtain ⟨k1, k2, k3, k4, k5, k6⟩ := K.out
      exact ⟨HB3.out, .inl ⟨k1, gx, gy, rfl, k2, k3, k4, k5.below hb3'.out, k6.below hb3'.out⟩⟩
    · exact absurd hr hr2
  · rcases hcase2 with ⟨hr2, _⟩ | ⟨_, rfl⟩
    · exact absurd hr2 hr
    · have HRR := Lib.hid hr
      cases hrr : madeS mn mf mc peer true cookie with
      | nil => exact absurd hrr hr
      | cons k r =>
        rw [hrr] at hl
        obtain ⟨sg, sn, sc, rfl⟩ := some_links hl
        clear hrr hr hl hb2 HC1
        go_wp2_with fail
        refine HF.out.mono ?_
        rintro e w3 ⟨rfl, hb3⟩
        have HB3 := Lib.hid (HB2.out.trans (hb3.mono HB2.out.size))
        clear hb3
        go_wp2
        refine bodyPost_ret (v := .tuple #[.pointer none, .pointer none, .bool true]) (by simp [results, Tryz.results16, go_sem]) rfl ?_
        exact ⟨HB3.out, .inr ⟨HRR.out, rfl⟩⟩
end Go.Proofs.YtokkokgdjnkbnaaGreatDoor
end
section
/- Starts handed in by value: what they give a walk. -/
open Go Go.RowKit Go.ChangeShapes Go.WideShapes Go.ChangeAt Go.Joins Go.Deep
namespace Go.Proofs.YtokkokgdjnkbnaaGreatDoor

set_option maxRecDepth 100000 in
theorem start_open {H : Type} {enc : TypeId × Value → H} {W : World} {v : Value} {d : DataW H} {ps : List MemPlace} {r : Reach} {b0 : Nat} (hval : Value.okWide Tryz.prog W r b0 47 v)
    (h : DataW.Trod enc Tryz.prog W 0 (fun _ => true) true 47 v d ps) (hsz : ∀ n ∈ d.weights Tryz.prog 47, n ≤ reachBytes) :
    (∃ (bg : Bool) (mn : ByteArray) (mf mc : Int) (peer cookie : ByteArray) (ch : Nat), v = startV bg mn mf mc peer cookie ch ∧ mn.size ≤ 140737488351232 ∧ peer.size ≤ 140737488351232 ∧ (0 ≤ mf ∧ mf < 18446744073709551616 ∧ 0 ≤ mc ∧ mc < 4294967296) ∧ ch < 4294967296) ∧ ∀ x ∈ ps, x.block < W.heap.size := by
  obtain ⟨cs, rfl, hcs⟩ := okWide_struct Tryz.underlying47 hval
  obtain ⟨fuel, hf⟩ := h
  obtain ⟨xs, m, _, hx, _, hlen, hg⟩ := DataW.trod_struct Tryz.underlying47 hf
  rw [show Tryz.prog.cellsOf 47 = 7 by kernel_rfl] at hcs
  have e4 : Tryz.prog.cellsOf 4 = 1 := by kernel_rfl
  have e45 : Tryz.prog.cellsOf 45 = 3 := by kernel_rfl
  have e9 : Tryz.prog.cellsOf 9 = 1 := by kernel_rfl
  have e24 : Tryz.prog.cellsOf 24 = 1 := by kernel_rfl
  obtain ⟨l⟩ := cs
  match l, hcs, xs, hlen with
  | [a0, a1, a2, a3, a4, a5, a6], _, [y0, y1, y2, y3, y4], _ =>
    have g0 : DataW.trod enc Tryz.prog W 0 (fun _ => true) true m 4 (([a0, a1, a2, a3, a4, a5, a6].drop 0).take (Tryz.prog.cellsOf 4)) = [y0, y1, y2, y3, y4][0]? := hg 0 _ rfl
    have g1 : DataW.trod enc Tryz.prog W 0 (fun _ => true) true m 45 (([a0, a1, a2, a3, a4, a5, a6].drop 1).take (Tryz.prog.cellsOf 45)) = [y0, y1, y2, y3, y4][1]? := hg 1 _ rfl
    have g2 : DataW.trod enc Tryz.prog W 0 (fun _ => true) true m 9 (([a0, a1, a2, a3, a4, a5, a6].drop 4).take (Tryz.prog.cellsOf 9)) = [y0, y1, y2, y3, y4][2]? := hg 2 _ rfl
    have g3 : DataW.trod enc Tryz.prog W 0 (fun _ => true) true m 9 (([a0, a1, a2, a3, a4, a5, a6].drop 5).take (Tryz.prog.cellsOf 9)) = [y0, y1, y2, y3, y4][3]? := hg 3 _ rfl
    have g4 : DataW.trod enc Tryz.prog W 0 (fun _ => true) true m 24 (([a0, a1, a2, a3, a4, a5, a6].drop 6).take (Tryz.prog.cellsOf 24)) = [y0, y1, y2, y3, y4][4]? := hg 4 _ rfl
    simp only [e4, e45, e9, e24, List.drop_zero, List.drop_succ_cons, List.take_succ_cons, List.take_zero, List.getElem?_cons_zero, List.getElem?_cons_succ] at g0 g1 g2 g3 g4
    obtain ⟨bg, h0, rfl⟩ := DataW.trod_bool Tryz.underlying4 g0
    obtain ⟨mn, mf, mc, h1, p1, f1, f2, f3, f4, w1⟩ := peer_field g1
    obtain ⟨peer, h2, rfl, _⟩ := DataW.trod_string Tryz.underlying9 g2
    obtain ⟨cookie, h3, rfl, _⟩ := DataW.trod_string Tryz.underlying9 g3
    obtain ⟨ch, h4, rfl, w4⟩ := DataW.trod_int Tryz.underlying24 g4
    simp only [List.cons.injEq, and_true] at h0 h1 h2 h3 h4
    obtain ⟨rfl, rfl, rfl⟩ := h1
    subst h0 h2 h3 h4
    simp [Lit.wf, IntKind.min, IntKind.max, IntKind.signed, IntKind.bits] at w4
    obtain ⟨c', rfl⟩ : ∃ k : Nat, ch = k := ⟨ch.toNat, by omega⟩
    simp only [Prod.mk.injEq] at hx
    obtain ⟨rfl, rfl⟩ := hx
    rw [DataW.weights, Tryz.underlying47] at hsz
    simp only [List.map_cons, List.map_nil, DataW.weightsEach, DataW.weights, List.append_nil, List.nil_append, List.mem_append] at hsz
    refine ⟨⟨bg, mn, mf, mc, peer, cookie, c', rfl, ?_, ?_, ⟨f1, f2, f3, f4⟩, by omega⟩, ?_⟩
    · exact sized_of (t := 45) (d := y1.1) (fun n hn => hsz n (.inl hn)) w1
    · have := hsz peer.data.toList.length (by simp)
      simpa [reachBytes] using this
    · intro x hx
      simp [p1] at hx
theorem start_row : 47 < Tryz.prog.types.size := by rw [show Tryz.prog.types.size = 229 by kernel_rfl]; decide
end Go.Proofs.YtokkokgdjnkbnaaGreatDoor
end
section
/- A list of calls handed in: what it gives a walk (the lemma on slices of structs is that of extra-structs.md). -/
open Go Go.RowKit Go.ChangeShapes Go.WideShapes Go.ChangeAt Go.Joins Go.Deep
namespace Go.Proofs.YtokkokgdjnkbnaaGreatDoor
section
variable {H : Type} {enc : TypeId × Value → H} {P : Program} {w : World} {base : Nat} {spare : Nat → Bool} {held : Bool}
theorem open_slice_fields {t e : TypeId} {fs : Array Field} {fuel : Nat} {cs : List Value} {x : DataW H × List MemPlace} (ht : P.underlying t = some (.slice e)) (he : P.underlying e = some (.struct fs))
    (hone : oneCellFields P fs = true) (hC : P.cellsOf e = fs.size) (h : DataW.trod enc P w base spare held fuel t cs = some x) :
    (cs = [.slice none 0 0] ∧ x = (.nil, [])) ∨
    ∃ (a : Addr) (len cap m : Nat) (D : Nat → DataW H) (Pl : Nat → List MemPlace), cs = [.slice (some a) len cap] ∧ base ≤ a.block ∧ len ≤ cap ∧ cap ≤ maxLen ∧ m = (if spare a.block then cap else len) ∧
      x = (.slice ((List.range len).map D) ((List.range (m - len)).map fun j => D (len + j)), MemPlace.row a (m * fs.size) ++ (List.range m).flatMap Pl) ∧
      ∀ i, i < m → ∃ (ys : List (DataW H × List MemPlace)) (n : Nat), D i = .agg (ys.map (·.1)) ∧ Pl i = ys.flatMap (·.2) ∧ ys.length = fs.size ∧
        ∀ (j : Nat) (f : Field), fs[j]? = some f → ∃ (v : Value) (y : DataW H × List MemPlace), w.cell? (a.add (i * fs.size + j)) = some v ∧ ys[j]? = some y ∧ DataW.trod enc P w base spare held n f.type [v] = some y := by
  rcases open_slice ht h with h0 | ⟨a, len, cap, m, n, D, Pl, hcs, hb, hl, hm, hmm, hx, hi⟩
  · exact .inl h0
  · refine .inr ⟨a, len, cap, m, D, Pl, hcs, hb, hl, hm, hmm, by rw [hC] at hx; exact hx, fun i him => ?_⟩
    obtain ⟨cs', hc, ht'⟩ := hi i him
    rw [hC] at hc
    obtain ⟨ys, n', hn', hy, hlen, hyl, hf⟩ := DataW.trod_struct he ht'
    obtain ⟨_, hcl, hat⟩ := World.cells?_some hc
    simp only [Prod.mk.injEq] at hy
    refine ⟨ys, n', hy.1, hy.2, hyl, fun j f hj => ?_⟩
    obtain ⟨ho, hk⟩ := hone_of hone j f hj
    have hjl : j < fs.size := (Array.getElem?_eq_some_iff.1 hj).1
    have hcell := hat j hjl
    have hv : cs'[j]? = some (cs'[j]'(by omega)) := List.getElem?_eq_getElem (by omega)
    have h1 := hf j f hj
    rw [ho, hk] at h1
    have hone' : (cs'.drop j).take 1 = [cs'[j]'(by omega)] := by
      rw [List.drop_eq_getElem_cons (by omega)]
      rfl
    rw [hone'] at h1
    have hys : ys[j]? = some (ys[j]'(by omega)) := List.getElem?_eq_getElem (by omega)
    refine ⟨_, _, ?_, hys, h1.trans hys⟩
    rw [← Go.Deep.add_add, hcell, hv]
end
/-- a list of calls: messages and statuses -/
def OpsIs (v : Value) (l : List (List UInt8 × ByteArray)) (w : World) : Prop := ∃ a c, v = .slice a l.length c ∧ ∀ i, (h : i < l.length) → ∃ g o u, a = some ⟨g, o, none⟩ ∧ w.cell? ⟨g, o + i * 2, none⟩ = some u ∧ RSl u l[i].1 w ∧ l[i].1.length ≤ 140737488351232 ∧ w.cell? ⟨g, o + (i * 2 + 1), none⟩ = some (.string l[i].2) ∧ l[i].2.size ≤ 140737488351232
theorem OpsIs.below {v : Value} {l : List (List UInt8 × ByteArray)} {w w' : World} (h : OpsIs v l w) (hb : Below w.heap.size w w') : OpsIs v l w' := by
  obtain ⟨a, c, rfl, hc⟩ := h
  refine ⟨a, c, rfl, fun i hi => ?_⟩
  obtain ⟨g, o, u, ha, h1, h2, h3, h4, h5⟩ := hc i hi
  exact ⟨g, o, u, ha, by rw [hb.cell (World.block_lt_of_cell? w _ h1)]; exact h1, h2.below hb, h3, by rw [hb.cell (World.block_lt_of_cell? w _ h4)]; exact h4, h5⟩
set_option maxRecDepth 100000 in
theorem ops_open {H : Type} {enc : TypeId × Value → H} {W : World} {v : Value} {d : DataW H} {ps : List MemPlace} {r : Reach} {b0 : Nat} (hval : Value.okWide Tryz.prog W r b0 48 v)
    (h : DataW.Trod enc Tryz.prog W 0 (fun _ => true) true 48 v d ps) (hsz : ∀ n ∈ d.weights Tryz.prog 48, n ≤ reachBytes) :
    (∃ l, OpsIs v l W ∧ l.length ≤ 140737488351232) ∧ ∀ x ∈ ps, x.block < W.heap.size := by
  obtain ⟨a0, len0, cap0, rfl⟩ := okWide_slice Tryz.underlying48 hval
  obtain ⟨fuel, hf⟩ := h
  rcases open_slice_fields Tryz.underlying48 Tryz.underlying54 (by kernel_rfl) (by kernel_rfl) hf with ⟨hcs, hx⟩ | ⟨a, len, cap, m, D, Pl, hcs, _, hl, hm, hmm, hx, hi⟩
  · simp [Value.cells] at hcs
    obtain ⟨rfl, rfl, rfl⟩ := hcs
    simp only [Prod.mk.injEq] at hx
    obtain ⟨rfl, rfl⟩ := hx
    exact ⟨⟨[], ⟨none, 0, rfl, fun i h => absurd h (Nat.not_lt_zero _)⟩, Nat.zero_le _⟩, fun x hx => by cases hx⟩
  simp [Value.cells] at hcs
  obtain ⟨rfl, rfl, rfl⟩ := hcs
  simp only [Prod.mk.injEq] at hx
  obtain ⟨rfl, rfl⟩ := hx
  simp only [if_true] at hmm
  subst hmm
  have hby : Tryz.prog.bytesOf 54 = 40 := by kernel_rfl
  rw [DataW.weights, Tryz.underlying48] at hsz
  simp only [hby, List.mem_cons, List.mem_append] at hsz
  have hlz := hsz _ (.inl rfl)
  simp [reachBytes] at hlz
  have hel : ∀ i, i < m → ∃ (p : List UInt8 × ByteArray) (u : Value), W.cell? (a.add (i * 2)) = some u ∧ RSl u p.1 W ∧ (p.1 ≠ [] → ∃ q ∈ (D i).weights Tryz.prog 54, p.1.length ≤ q) ∧ W.cell? (a.add (i * 2 + 1)) = some (.string p.2) ∧ p.2.data.toList.length ∈ (D i).weights Tryz.prog 54 ∧ ∀ x ∈ Pl i, x.block < W.heap.size := by
    intro i him
    obtain ⟨ys, n, hD, hP, hyl, hf⟩ := hi i him
    obtain ⟨u, y0, hc0, hy0, ht0⟩ := hf 0 _ rfl
    obtain ⟨s, y1, hc1, hy1, ht1⟩ := hf 1 _ rfl
    obtain ⟨l, hrl, hpl, hq⟩ := bytes_field (n := n) (y := y0) ht0
    obtain ⟨st, hs, rfl, _⟩ := DataW.trod_string Tryz.underlying9 ht1
    obtain rfl : s = .string st := by simpa using hs
    match ys, hyl with
    | [z0, z1], _ =>
      simp only [List.getElem?_cons_zero, List.getElem?_cons_succ, Option.some.injEq] at hy0 hy1
      subst hy0 hy1
      refine ⟨(l, st), u, hc0, hrl, fun hn => ?_, hc1, ?_, fun x hx => ?_⟩
      · obtain ⟨q, h1, h2⟩ := hq hn
        refine ⟨q, ?_, h2⟩
        rw [hD, DataW.weights, Tryz.underlying54]
        simp [DataW.weightsEach, h1]
      · rw [hD, DataW.weights, Tryz.underlying54]
        simp [DataW.weightsEach, DataW.weights]
      · rw [hP] at hx
        simp at hx
        exact hpl x hx
  obtain ⟨b, off, spot⟩ := a
  have hspot : 0 < m → spot = none := fun hm0 => by
    obtain ⟨_, _, h1, _⟩ := hel 0 hm0
    simpa [Addr.add] using World.cell?_spot h1
  have hone : ∀ i, i < m → ∃ (p : List UInt8 × ByteArray) (u : Value), W.cell? ⟨b, off + i * 2, none⟩ = some u ∧ RSl u p.1 W ∧ (p.1 ≠ [] → ∃ q ∈ (D i).weights Tryz.prog 54, p.1.length ≤ q) ∧ W.cell? ⟨b, off + (i * 2 + 1), none⟩ = some (.string p.2) ∧ p.2.data.toList.length ∈ (D i).weights Tryz.prog 54 ∧ ∀ x ∈ Pl i, x.block < W.heap.size := by
    intro i him
    have hs := hspot (by omega)
    subst hs
    obtain ⟨p, u, h1, h2, h3, h4, h5, h6⟩ := hel i him
    rw [Lib.add_plain] at h1 h4
    exact ⟨p, u, h1, h2, h3, h4, h5, h6⟩
  constructor
  · refine ⟨List.ofFn (fun i : Fin len0 => Classical.choose (hone i.1 (by have := i.2; omega))), ⟨some ⟨b, off, spot⟩, m, by rw [List.length_ofFn], fun i hi => ?_⟩, by rw [List.length_ofFn]; omega⟩
    have hi' : i < len0 := by simpa using hi
    have hget : (List.ofFn (fun i : Fin len0 => Classical.choose (hone i.1 (by have := i.2; omega))))[i] = Classical.choose (hone i (by omega)) := by simp
    rw [hget]
    have hs := hspot (by omega)
    subst hs
    obtain ⟨u, h1, h2, h3, h4, h5, _⟩ := Classical.choose_spec (hone i (by omega))
    have hmem : ∀ n ∈ (D i).weights Tryz.prog 54, n ≤ reachBytes := fun n hn => hsz n (.inr (.inl (weightsAll_mem (List.mem_map.2 ⟨i, List.mem_range.2 hi', rfl⟩) n hn)))
    refine ⟨b, off, u, rfl, h1, h2, ?_, h4, sized_of (t := 54) hmem h5⟩
    by_cases hn : (Classical.choose (hone i (by omega))).1 = []
    · rw [hn]; exact Nat.zero_le _
    · obtain ⟨q, hq1, hq2⟩ := h3 hn
      have := hmem q hq1
      simp [reachBytes] at this
      omega
  · intro x hx
    rcases List.mem_append.1 hx with hx | hx
    · obtain ⟨j, hj, rfl⟩ := MemPlace.mem_row.1 hx
      have hj' : j < m * 2 := hj
      obtain ⟨_, _, h1, _, _, h4, _⟩ := hel (j / 2) (by omega)
      have hs := hspot (by omega)
      subst hs
      rw [Lib.add_plain] at h1
      exact World.block_lt_of_cell? W ⟨b, off + j / 2 * 2, none⟩ h1
    · obtain ⟨i, hi2, hx⟩ := List.mem_flatMap.1 hx
      obtain ⟨_, _, _, _, _, _, _, h6⟩ := hone i (List.mem_range.1 hi2)
      exact h6 x hx
theorem ops_row : 48 < Tryz.prog.types.size := by rw [show Tryz.prog.types.size = 229 by kernel_rfl]; decide
end Go.Proofs.YtokkokgdjnkbnaaGreatDoor
end
section
/- Law ShakeKnows: the walk. -/
open Go Go.RowKit
namespace Go.Proofs.YtokkokgdjnkbnaaGreatDoor

theorem sides_any (bg : Bool) (mn : ByteArray) (mf mc : Int) (peer cookie : ByteArray) (ch : Nat) (w : World) (hz : mn.size ≤ 140737488351232) (hpz : peer.size ≤ 140737488351232) (f0 : 0 ≤ mf) (f1 : mf < 18446744073709551616) (r0 : 0 ≤ mc) (r1 : mc < 4294967296) (hG : Gl w) :
    Calls Tryz.prog 16 #[startV bg mn mf mc peer cookie ch] w (SidesE 113 68 w (madeS mn mf mc (wantOf bg peer) bg cookie) (newS mn mf mc (wantOf bg peer) bg cookie ch)) := by
  cases bg with
  | true => exact sides_begin mn mf mc peer cookie ch w hz hpz f0 f1 r0 r1 hG
  | false => exact sides_wait mn mf mc peer cookie ch w hz hG

theorem run_state (st : Int) (a1 a2 a3 a4 : Value) (w : World) : (Instr.field 65 (.agg #[.int .i64 st, a1, a2, a3, a4]) 0).run Tryz.prog w = .ok (.int .i64 st) w := by kernel_rfl
theorem takeS_keeps (s : Sd) (b : List UInt8) : (takeS s b).1.cookie = s.cookie ∧ (takeS s b).1.ch = s.ch := by
  have ht : ∀ m, (tookS s m).1.cookie = s.cookie ∧ (tookS s m).1.ch = s.ch := by
    intro m
    unfold tookS
    repeat' split
    all_goals exact ⟨rfl, rfl⟩
  unfold takeS
  repeat' split
  all_goals first | exact ⟨rfl, rfl⟩ | exact ht _
theorem answerS_keeps (s : Sd) (b : ByteArray) : (answerS s b).1.cookie = s.cookie ∧ (answerS s b).1.ch = s.ch := by
  unfold answerS
  simp only
  repeat' split
  all_goals exact ⟨rfl, rfl⟩

set_option maxHeartbeats 8000000 in
set_option maxRecDepth 100000 in
theorem knows8_walk (bg : Bool) (mn : ByteArray) (mf mc : Int) (peer cookie : ByteArray) (ch : Nat) (lv : Value) (l : List (List UInt8 × ByteArray)) (w : World) (hz : mn.size ≤ 140737488351232) (hpz : peer.size ≤ 140737488351232) (f0 : 0 ≤ mf) (f1 : mf < 18446744073709551616) (r0 : 0 ≤ mc) (r1 : mc < 4294967296) (hch : ch < 4294967296)
    (hl : OpsIs lv l w) (hlz : l.length ≤ 140737488351232) (hG : Gl w) :
    Calls Tryz.prog 7 #[startV bg mn mf mc peer cookie ch, lv] w fun e w' => e = .returned (.bool true) ∧ Below w.heap.size w w' := by
  have HB0 := Lib.hid ((Below.refl _ w).alloc (Nat.le_refl _) (.cells #[.bool bg, .string mn, .int .u64 mf, .int .u32 mc, .string peer, .string cookie, .int .u32 ch] 47 (0, 0)))
  have C0 := Lib.hid (Cells.new w 47 [.bool bg, .string mn, .int .u64 mf, .int .u32 mc, .string peer, .string cookie, .int .u32 ch])
  have HSD := Lib.hid (sides_any bg mn mf mc peer cookie ch _ hz hpz f0 f1 r0 r1 (hG.below HB0.out))
  have HOK := Lib.hid (fun h => newS_ok (mn := mn) (mf := mf) (mc := mc) (peer := wantOf bg peer) (begins := bg) (cookie := cookie) (ch := ch) h f0 f1 r0 r1 hch)
  have HDG := Lib.hid (fun W => digestR_any cookie ch hch W)
  have HAW := Lib.hid (fun W (h : Below w.heap.size w W) => awake_any W (hG.below h))
  have HG := Lib.hid hG
  have HLZ := Lib.hid hlz
  have HOPS := Lib.hid hl
  have hfd := run_state
  clear hz hpz f0 f1 r0 r1 hch hlz hG
  obtain ⟨la, lc, rfl, _⟩ := hl
  unfold startV at *
  go_enter Tryz.func7, Tryz.ntmps7
  go_wp2_with fail
  refine HSD.out.mono ?_
  rintro e w1 ⟨hb1, ⟨hr, gx, gy, rfl, hgx, hgy, hne, hCx, _⟩ | ⟨hr, rfl⟩⟩
  · have HB1 := Lib.hid (HB0.out.trans (hb1.mono HB0.out.size))
    have hok := HOK.out hr
    have C1 := C0.out.below hb1
    have HGX := Lib.hid (Nat.le_trans HB0.out.size hgx)
    clear hb1 hr hgx hgy hne C0 HSD
    go_wp2_with fail
    refine (HAW.out _ HB1.out).mono ?_
    rintro e w2 ⟨rfl, hb2⟩
    have HB2 := Lib.hid (HB1.out.trans (hb2.mono HB1.out.size))
    have C2 := C1.below hb2
    have c5 := C2.cell 5
    have c6 := C2.cell 6
    simp only [List.getElem?_cons_zero, List.getElem?_cons_succ] at c5 c6
    have CX2 := Lib.hid (hCx.below hb2)
    clear hCx hb2 C1 C2 HAW
    go_wp2_with fail
    refine (HDG.out _).mono ?_
    rintro e w3 ⟨dv, de, rfl, hdv, _, hb3⟩
    have HB3 := Lib.hid (HB2.out.trans (hb3.mono HB2.out.size))
    have CX3 := Lib.hid (CX2.out.below hb3)
    have HDV := Lib.hid (hdv.base (Nat.zero_le _))
    have HSO := Lib.hid hok
    clear hdv hb3 hok CX2 c5 c6
    go_wp2_with fail
    go_loopw [10] (fun i wr => ∃ (kk : Nat) (sd : Sd), kk ≤ l.length ∧ i = .int .i64 kk ∧ Cells wr gx 113 sd.cells ∧ sd.Ok ∧ sd.cookie = cookie ∧ sd.ch = ch ∧ BufIs 0 dv (digestS cookie ch).1 wr ∧ Below w.heap.size w wr) (fun i _ => l.length - (intOf i).toNat)
    case atStart => exact ⟨0, _, Nat.zero_le _, rfl, CX3.out, HSO.out, rfl, rfl, HDV.out, HB3.out⟩
    case round =>
      obtain ⟨kk, sd, hkk, rfl, hCr, hOk, hck, hchh, hD, hBr⟩ := hrel
      clear HDV HSO HB3 CX3 HDG HOK HB2 HB1 HB0
      by_cases hlt : kk < l.length
      · obtain ⟨a2, c2, hv2, hcs⟩ := HOPS.out.below hBr
        obtain ⟨g, o, u, ha2, h1, h2, h3, h4, h5⟩ := hcs kk hlt
        cases hv2
        subst ha2
        have HOK2 := Lib.hid (fun (h : (takeS sd l[kk].1).1.st = 7) (h7 : sd.st ≠ 7) => up_plain hOk h3 h7 h)
        have HAU := Lib.hid (fun (h : (answerS sd l[kk].2).1.st = 7) => answerS_up h)
        have HTO := Lib.hid (takeS_ok (b := l[kk].1) hOk h3)
        have HAO := Lib.hid (answerS_ok (t := l[kk].2) hOk)
        have HN := Lib.hid (show Calls Tryz.prog 22 #[.pointer (some ⟨gx, 0, none⟩)] wr fun e w' => e = .returned (.agg #[.int .i64 sd.st, .string sd.pn, .int .u64 sd.pf, .int .u32 sd.pc, .bool sd.sim]) ∧ Below wr.heap.size wr w' from now_any gx _ wr hCr)
        have HC := Lib.hid hCr
        have HO := Lib.hid hOk
        have HBR := Lib.hid hBr
        have HRB := Lib.hid h2
        have HDR := Lib.hid hD
        have HKL := Lib.hid (And.intro hck hchh)
        have HZ3 := Lib.hid h3
        have HZ5 := Lib.hid h5
        have hki : (kk : Int) < (l.length : Int) := by omega
        have hk0 : (0 : Int) ≤ (kk : Int) := by omega
        have hw1 : IntKind.i64.wrap ((kk : Int) + 1) = (kk : Int) + 1 := IntWalk.i64_in _ (by have := HLZ.out; omega)
        clear hCr hOk hBr h2 hD hck hchh h3 h5 hcs
        go_wp2_with fail
        refine HN.out.mono ?_
        rintro e w4 ⟨rfl, hb4⟩
        have HC4 := Lib.hid (HC.out.below hb4)
        have HB4 := Lib.hid (HBR.out.trans (hb4.mono HBR.out.size))
        have HD4 := Lib.hid (HDR.out.below hb4 (Nat.le_refl _))
        have HO4 := Lib.hid (HOPS.out.below HB4.out)
        have HRB4 := Lib.hid (HRB.out.below hb4)
        have e1 := hb4.cell (p := ⟨g, o + kk * 2, none⟩) (World.block_lt_of_cell? wr _ h1)
        have e4 := hb4.cell (p := ⟨g, o + (kk * 2 + 1), none⟩) (World.block_lt_of_cell? wr _ h4)
        rw [h1] at e1
        rw [h4, show o + (kk * 2 + 1) = o + kk * 2 + 1 by omega] at e4
        clear hb4 HN h1 h4 HC HBR HDR HRB
        by_cases hst : l[kk].2 = ⟨#[]⟩
        · rw [hst] at e4
          have HT := Lib.hid (take_any gx sd u l[kk].1 w4 HC4.out HO.out (HG.out.below HB4.out) HRB4.out HZ3.out)
          have HSO := Lib.hid HTO.out
          have HKE := Lib.hid (show (takeS sd l[kk].1).1.cookie = cookie ∧ (takeS sd l[kk].1).1.ch = ch from by rw [(takeS_keeps sd _).1, (takeS_keeps sd _).2]; exact HKL.out)
          go_wp2_with fail
          refine HT.out.mono ?_
          rintro e w5 ⟨v5, ev5, rfl, _, _, hk5, hC5⟩
          have hB5 := below_keep HB4.out hk5 HB4.out.size (fun k (hk : k = gx) => by rw [hk]; exact HGX.out)
          have HB5 := Lib.hid hB5
          have HC5 := Lib.hid hC5
          have HD5 := Lib.hid (HD4.out.keepC hk5 HC4.out (by decide))
          have HN5 := Lib.hid (show Calls Tryz.prog 22 #[.pointer (some ⟨gx, 0, none⟩)] w5 fun e w' => e = .returned (.agg #[.int .i64 (takeS sd l[kk].1).1.st, .string (takeS sd l[kk].1).1.pn, .int .u64 (takeS sd l[kk].1).1.pf, .int .u32 (takeS sd l[kk].1).1.pc, .bool (takeS sd l[kk].1).1.sim]) ∧ Below w5.heap.size w5 w' from now_any gx _ w5 hC5)
          have hc5 : Cells w5 gx 113 (takeS sd l[kk].1).1.cells := hC5
          clear hk5 hC5 hB5 e1 e4 HT HC4 HD4
          by_cases h7 : (takeS sd l[kk].1).1.st = 7
          · have q7 : ((takeS sd l[kk].1).1.st != 7) = false := by rw [h7]; rfl
            by_cases w7 : sd.st = 7
            · have q8 : (sd.st == 7) = true := by rw [w7]; rfl
              clear h7
              clear w7
              go_wp2_with fail
              refine HN5.out.mono ?_
              rintro e w6 ⟨rfl, hb6⟩
              have HB6 := Lib.hid (HB5.out.trans (hb6.mono HB5.out.size))
              have HC6 := Lib.hid (HC5.out.below hb6)
              have HD6 := Lib.hid (HD5.out.below hb6 (Nat.le_refl _))
              clear hb6 hc5 HN5
              go_wp2
              go_roundw
              case rel => exact ⟨kk + 1, (takeS sd l[kk].1).1, by omega, by go_num, HC6.out, HSO.out, HKE.out.1, HKE.out.2, HD6.out, HB6.out⟩
              case measure => simp [intOf]; omega
            · have q8 : (sd.st == 7) = false := beq_eq_false_iff_ne.2 w7
              obtain ⟨hst36, h17, hdg⟩ := HOK2.out h7 w7
              rw [HKL.out.1, HKL.out.2] at hdg
              clear h7 w7
              go_wp2_with fail
              refine HN5.out.mono ?_
              rintro e w6 ⟨rfl, hb6⟩
              have HB6 := Lib.hid (HB5.out.trans (hb6.mono HB5.out.size))
              have HD6 := Lib.hid (HD5.out.below hb6 (Nat.le_refl _))
              clear hb6 hc5 HN5
              obtain ⟨a6, c6, hv6, hcs6⟩ := HOPS.out.below HB6.out
              obtain ⟨g6, o6, u6, ha6, k1, k2, k3, k4, k5⟩ := hcs6 kk hlt
              cases hv6
              cases ha6
              rw [hst, show o + (kk * 2 + 1) = o + kk * 2 + 1 by omega] at k4
              obtain ⟨v7, r7, _, hs7, _⟩ := k2.sub (l[kk].1.length - 16) l[kk].1.length (by omega) (Nat.le_refl _)
              have hs8 := hs7 rfl
              rw [show ((l[kk].1.length - 16 : Nat) : Int) = (l[kk].1.length : Int) - 16 by omega] at hs8
              have hll : l[kk].1.length - (l[kk].1.length - 16) = 16 := by omega
              rw [hll, hdg, List.take_of_length_le (by rw [← hdg, List.length_drop]; omega)] at r7
              have hcv := fun m => run_slice_string (r7.drewN m).slice
              have hcd := fun m => run_buf_string (HD6.out.drewN m)
              obtain ⟨ua, uc, rfl, _, _⟩ := k2.shape
              have h17i : (17 : Int) ≤ (l[kk].1.length : Int) := by omega
              have hwr : IntKind.i64.wrap ((l[kk].1.length : Int) - 16) = (l[kk].1.length : Int) - 16 := IntWalk.i64_in _ (by omega)
              have hbe : ((⟨(digestS cookie ch).1.toArray⟩ : ByteArray).toList == (⟨(digestS cookie ch).1.toArray⟩ : ByteArray).toList) = true := by simp
              clear k2 k3 k5 hs7 hll hdg h17 r7 hcs6 hst
              rcases hst36 with h3 | h6
              · have q3 : (sd.st == 3) = true := by rw [h3]; rfl
                clear h3
                go_wp2
                go_quiet (fail)
                go_wp2
                go_ret
                exact ⟨rfl, below_drewN HB6.out _⟩
              · have q3 : (sd.st == 3) = false := by rw [h6]; rfl
                have q6 : (sd.st == 6) = true := by rw [h6]; rfl
                clear h6
                go_wp2
                go_quiet (fail)
                go_wp2
                go_ret
                exact ⟨rfl, below_drewN HB6.out _⟩
          · have q7 : ((takeS sd l[kk].1).1.st != 7) = true := bne_iff_ne.2 h7
            clear h7
            go_wp2_with fail
            refine HN5.out.mono ?_
            rintro e w6 ⟨rfl, hb6⟩
            have HB6 := Lib.hid (HB5.out.trans (hb6.mono HB5.out.size))
            have HC6 := Lib.hid (HC5.out.below hb6)
            have HD6 := Lib.hid (HD5.out.below hb6 (Nat.le_refl _))
            clear hb6 hc5 HN5
            go_wp2
            go_roundw
            case rel => exact ⟨kk + 1, (takeS sd l[kk].1).1, by omega, by go_num, HC6.out, HSO.out, HKE.out.1, HKE.out.2, HD6.out, HB6.out⟩
            case measure => simp [intOf]; omega
        · have hsn : l[kk].2.toList.isEmpty = false := by
            rw [toList_data]
            cases hq : l[kk].2.data.toList with
            | nil => exact absurd (eq_of_chars hq) hst
            | cons => rfl
          have hsn2 : ¬ l[kk].2.toList = [] := by
            intro e; rw [e] at hsn; cases hsn
          have HT := Lib.hid (answer_any gx sd l[kk].2 w4 HC4.out HO.out HZ5.out (HG.out.below HB4.out))
          have HSO := Lib.hid HAO.out
          have HKE := Lib.hid (show (answerS sd l[kk].2).1.cookie = cookie ∧ (answerS sd l[kk].2).1.ch = ch from by rw [(answerS_keeps sd _).1, (answerS_keeps sd _).2]; exact HKL.out)
          go_wp2_with fail
          refine HT.out.mono ?_
          rintro e w5 ⟨v5, ev5, rfl, _, _, hk5, hC5⟩
          have hB5 := below_keep HB4.out hk5 HB4.out.size (fun k (hk : k = gx) => by rw [hk]; exact HGX.out)
          have HB5 := Lib.hid hB5
          have HC5 := Lib.hid hC5
          have HD5 := Lib.hid (HD4.out.keepC hk5 HC4.out (by decide))
          have HN5 := Lib.hid (show Calls Tryz.prog 22 #[.pointer (some ⟨gx, 0, none⟩)] w5 fun e w' => e = .returned (.agg #[.int .i64 (answerS sd l[kk].2).1.st, .string (answerS sd l[kk].2).1.pn, .int .u64 (answerS sd l[kk].2).1.pf, .int .u32 (answerS sd l[kk].2).1.pc, .bool (answerS sd l[kk].2).1.sim]) ∧ Below w5.heap.size w5 w' from now_any gx _ w5 hC5)
          have hc5 : Cells w5 gx 113 (answerS sd l[kk].2).1.cells := hC5
          clear hk5 hC5 hB5 e1 e4 HT HC4 HD4
          by_cases h7 : (answerS sd l[kk].2).1.st = 7
          · have q7 : ((answerS sd l[kk].2).1.st != 7) = false := by rw [h7]; rfl
            by_cases w7 : sd.st = 7
            · have q8 : (sd.st == 7) = true := by rw [w7]; rfl
              clear h7
              clear w7
              go_wp2_with fail
              refine HN5.out.mono ?_
              rintro e w6 ⟨rfl, hb6⟩
              have HB6 := Lib.hid (HB5.out.trans (hb6.mono HB5.out.size))
              have HC6 := Lib.hid (HC5.out.below hb6)
              have HD6 := Lib.hid (HD5.out.below hb6 (Nat.le_refl _))
              clear hb6 hc5 HN5
              go_wp2
              go_roundw
              case rel => exact ⟨kk + 1, (answerS sd l[kk].2).1, by omega, by go_num, HC6.out, HSO.out, HKE.out.1, HKE.out.2, HD6.out, HB6.out⟩
              case measure => simp [intOf]; omega
            · have q8 : (sd.st == 7) = false := beq_eq_false_iff_ne.2 w7
              exact absurd (HAU.out h7) w7
          · have q7 : ((answerS sd l[kk].2).1.st != 7) = true := bne_iff_ne.2 h7
            clear h7
            go_wp2_with fail
            refine HN5.out.mono ?_
            rintro e w6 ⟨rfl, hb6⟩
            have HB6 := Lib.hid (HB5.out.trans (hb6.mono HB5.out.size))
            have HC6 := Lib.hid (HC5.out.below hb6)
            have HD6 := Lib.hid (HD5.out.below hb6 (Nat.le_refl _))
            clear hb6 hc5 HN5
            go_wp2
            go_roundw
            case rel => exact ⟨kk + 1, (answerS sd l[kk].2).1, by omega, by go_num, HC6.out, HSO.out, HKE.out.1, HKE.out.2, HD6.out, HB6.out⟩
            case measure => simp [intOf]; omega
      · have hkn : ¬ (kk : Int) < (l.length : Int) := by omega
        have HBR := Lib.hid hBr
        clear hCr hOk hck hchh hD hBr
        go_wp2
        go_ret
        exact ⟨rfl, HBR.out⟩
  · have HB1 := Lib.hid (HB0.out.trans (hb1.mono HB0.out.size))
    clear hb1 hr C0 HSD
    go_wp2_with fail
    refine (HAW.out _ HB1.out).mono ?_
    rintro e w2 ⟨rfl, hb2⟩
    have hb := HB1.out.trans (hb2.mono HB1.out.size)
    go_wp2
    go_ret
    exact ⟨rfl, hb⟩
end Go.Proofs.YtokkokgdjnkbnaaGreatDoor
end
section
/- Law ShakePlays: the walk. Printed by wip/plays.py. -/
open Go Go.RowKit
namespace Go.Proofs.YtokkokgdjnkbnaaGreatDoor

theorem takeS_errs (s : Sd) (b : List UInt8) : (takeS s b).2.2.length ≤ 16 := by
  have ht : ∀ m, (tookS s m).2.2.length ≤ 16 := by
    intro m
    unfold tookS errK
    repeat' split
    all_goals simp
  unfold takeS errK
  repeat' split
  all_goals first | exact ht _ | exact readS_errs _ _ | simp
theorem answerS_errs (s : Sd) (b : ByteArray) : (answerS s b).2.2.length ≤ 16 := by
  unfold answerS errK
  simp only
  repeat' split
  all_goals simp
theorem run_neq_shaking (st : Int) (pn : ByteArray) (pf pc : Int) (sim : Bool) (w : World) : (binOp .neq 65 (.agg #[.int .i64 st, .string pn, .int .u64 pf, .int .u32 pc, .bool sim]) (.agg #[.int .i64 st, .string pn, .int .u64 pf, .int .u32 pc, .bool sim])).run Tryz.prog w = .ok (.bool false) w := by
  have hu := Tryz.underlying65
  have hu0 := Tryz.underlying45
  have hu1 := Tryz.underlying9
  have hu2 := Tryz.underlying23
  have hu3 := Tryz.underlying24
  have hu4 := Tryz.underlying4
  have hu5 := Tryz.underlying63
  have c0 : Tryz.prog.cellsOf 65 = 5 := by kernel_rfl
  have c1 : Tryz.prog.cellsOf 45 = 3 := by kernel_rfl
  go_simp

theorem ops_at {la : Option Addr} {lc : Nat} {l : List (List UInt8 × ByteArray)} {w W : World} (h : OpsIs (.slice la l.length lc) l w) (hb : Below w.heap.size w W) (kk : Nat) (hlt : kk < l.length) :
    ∃ g o u, la = some ⟨g, o, none⟩ ∧ W.cell? ⟨g, o + kk * 2, none⟩ = some u ∧ RSl u l[kk].1 W ∧ l[kk].1.length ≤ 140737488351232 ∧ W.cell? ⟨g, o + kk * 2 + 1, none⟩ = some (.string l[kk].2) ∧ l[kk].2.size ≤ 140737488351232 := by
  obtain ⟨a2, c2, hv2, hcs⟩ := h.below hb
  obtain ⟨g, o, u, ha2, h1, h2, h3, h4, h5⟩ := hcs kk hlt
  cases hv2
  exact ⟨g, o, u, ha2, h1, h2, h3, by rw [show o + kk * 2 + 1 = o + (kk * 2 + 1) by omega]; exact h4, h5⟩
set_option maxHeartbeats 16000000 in
set_option maxRecDepth 100000 in
theorem plays8_walk (bg : Bool) (mn : ByteArray) (mf mc : Int) (peer cookie : ByteArray) (ch : Nat) (lv : Value) (l : List (List UInt8 × ByteArray)) (w : World) (hz : mn.size ≤ 140737488351232) (hpz : peer.size ≤ 140737488351232) (f0 : 0 ≤ mf) (f1 : mf < 18446744073709551616) (r0 : 0 ≤ mc) (r1 : mc < 4294967296) (hch : ch < 4294967296)
    (hl : OpsIs lv l w) (hlz : l.length ≤ 140737488351232) (hG : Gl w) :
    Calls Tryz.prog 5 #[startV bg mn mf mc peer cookie ch, lv] w fun e w' => e = .returned (.bool true) ∧ Below w.heap.size w w' := by
  have HB0 := Lib.hid ((Below.refl _ w).alloc (Nat.le_refl _) (.cells #[.bool bg, .string mn, .int .u64 mf, .int .u32 mc, .string peer, .string cookie, .int .u32 ch] 47 (0, 0)))
  have HSD := Lib.hid (sides_any bg mn mf mc peer cookie ch _ hz hpz f0 f1 r0 r1 (hG.below HB0.out))
  have HOK := Lib.hid (fun h => newS_ok (mn := mn) (mf := mf) (mc := mc) (peer := wantOf bg peer) (begins := bg) (cookie := cookie) (ch := ch) h f0 f1 r0 r1 hch)
  have HAW := Lib.hid (fun W (h : Below w.heap.size w W) => awake_any W (hG.below h))
  have HG := Lib.hid hG
  have HLZ := Lib.hid hlz
  have HOPS := Lib.hid hl
  have hne5 := run_neq_shaking
  clear hz hpz f0 f1 r0 r1 hch hlz hG
  obtain ⟨la, lc, rfl, _⟩ := hl
  unfold startV at *
  go_enter Tryz.func5, Tryz.ntmps5
  go_wp2_with fail
  refine HSD.out.mono ?_
  rintro e w1 ⟨hb1, ⟨hr, gx, gy, rfl, hgx, hgy, hne, hCx, hCy⟩ | ⟨hr, rfl⟩⟩
  · have HB1 := Lib.hid (HB0.out.trans (hb1.mono HB0.out.size))
    have hok := HOK.out hr
    have HGX := Lib.hid (Nat.le_trans HB0.out.size hgx)
    have HGY := Lib.hid (Nat.le_trans HB0.out.size hgy)
    have HNE := Lib.hid hne
    have CX1 := Lib.hid hCx
    have CY1 := Lib.hid hCy
    clear hb1 hr hgx hgy hne HSD hCx hCy
    go_wp2_with fail
    refine (HAW.out _ HB1.out).mono ?_
    rintro e w2 ⟨rfl, hb2⟩
    have HB2 := Lib.hid (HB1.out.trans (hb2.mono HB1.out.size))
    have CX2 := Lib.hid (CX1.out.below hb2)
    have CY2 := Lib.hid (CY1.out.below hb2)
    have HSO := Lib.hid hok
    clear hb2 hok HAW CX1 CY1
    go_wp2_with fail
    go_loopw [8] (fun i wr => ∃ (kk : Nat) (sd : Sd), kk ≤ l.length ∧ i = .int .i64 kk ∧ Cells wr gx 113 sd.cells ∧ Cells wr gy 68 sd.cells ∧ sd.Ok ∧ Below w.heap.size w wr) (fun i _ => l.length - (intOf i).toNat)
    case atStart => exact ⟨0, _, Nat.zero_le _, rfl, CX2.out, CY2.out, HSO.out, HB2.out⟩
    case round =>
      obtain ⟨kk, sd, hkk, rfl, hCx, hCy, hOk, hBr⟩ := hrel
      clear HSO HOK HB2 HB1 HB0 CX2 CY2
      have HBR := Lib.hid hBr
      have HX := Lib.hid hCx
      have HY := Lib.hid hCy
      have HO := Lib.hid hOk
      by_cases hlt : kk < l.length
      · obtain ⟨a2, c2, hv2, hcs⟩ := HOPS.out.below hBr
        obtain ⟨g, o, u, ha2, h1, h2, h3, h4, h5⟩ := hcs kk hlt
        cases hv2
        cases ha2
        rw [show o + (kk * 2 + 1) = o + kk * 2 + 1 by omega] at h4
        have HRB := Lib.hid h2
        have HZ3 := Lib.hid h3
        have HZ5 := Lib.hid h5
        have hki : (kk : Int) < (l.length : Int) := by omega
        have hk0 : (0 : Int) ≤ (kk : Int) := by omega
        have hw1 : IntKind.i64.wrap ((kk : Int) + 1) = (kk : Int) + 1 := IntWalk.i64_in _ (by have := HLZ.out; omega)
        clear hCx hCy hOk hBr h2 h3 h5 hcs
        by_cases hst : l[kk].2 = ⟨#[]⟩
        · rw [hst] at h4
          have HT := Lib.hid (take_any gx sd u l[kk].1 wr HX.out HO.out (HG.out.below HBR.out) HRB.out HZ3.out)
          have HTO := Lib.hid (takeS_ok (b := l[kk].1) HO.out HZ3.out)
          have HTF := Lib.hid (takeS_few (b := l[kk].1) HO.out)
          have HTE := Lib.hid (takeS_errs sd l[kk].1)
          go_wp2_with fail
          refine HT.out.mono ?_
          rintro e w3 ⟨v3, ev3, rfl, hv3, her3, hk3, hC3⟩
          have hb3 := below_keep HBR.out hk3 HBR.out.size (fun k (hk : k = gx) => by rw [hk]; exact HGX.out)
          have HB3 := Lib.hid hb3
          have HX3 := Lib.hid hC3
          have HY3 := Lib.hid (HY.out.keep hk3 (fun e => HNE.out (show gy = gx from e).symm))
          have V3 := Lib.hid hv3
          have E3 := Lib.hid her3
          clear hb3 hC3 hv3 her3 hk3 h1 h4 HT HX HY HRB
          obtain ⟨g3, o3, u3, ha3, k1, k2, k3, k4, k5⟩ := ops_at HOPS.out HB3.out kk hlt
          cases ha3
          rw [hst] at k4
          have HT2 := Lib.hid (takeR_any gy sd u3 l[kk].1 w3 HY3.out HO.out k2 k3)
          clear k2 k3 k5
          go_wp2_with fail
          refine HT2.out.mono ?_
          rintro e w4 ⟨v4, lv4, rfl, hv4, hl4, _, hk4, hC4⟩
          have HB4 := Lib.hid (below_keep HB3.out hk4 HB3.out.size (fun k (hk : k = gy) => by rw [hk]; exact HGY.out))
          have HX4 := Lib.hid (HX3.out.keep hk4 (fun e => HNE.out (show gx = gy from e)))
          have HY4 := Lib.hid hC4
          have V34 := Lib.hid (V3.out.keepC hk4 HY3.out (by decide) (by decide))
          have E34 := Lib.hid (E3.out.keep hk4 (fun b (hb : b = gy) => by rw [hb]; exact NF.cells HY3.out (by decide)))
          have HL4 := Lib.hid hl4
          have HSA := Lib.hid (samesR_any _ v3 v4 w4 V34.out hv4 (Nat.le_trans HTF.out.1 (by decide)))
          clear hv4 hl4 hk4 hC4 k1 k4 HT2 V3 E3 HX3 HY3
          go_wp2_with fail
          refine HSA.out.mono ?_
          rintro e w5 ⟨rfl, hb5⟩
          have HB5 := Lib.hid (HB4.out.trans (hb5.mono HB4.out.size))
          have HF := refused_links ev3 _ _ lv4 _ w5 (E34.out.below hb5) HTE.out HTE.out (HL4.out.below hb5 (Nat.le_refl _)) (HG.out.below HB5.out).e
          rw [show decide ((takeS sd l[kk].1).2.2 = (takeS sd l[kk].1).2.2) = true by simp] at HF
          replace HF := Lib.hid HF
          have HX5 := Lib.hid (HX4.out.below hb5)
          have HY5 := Lib.hid (HY4.out.below hb5)
          clear hb5 HSA V34 E34 HL4 HX4 HY4
          go_wp2_with fail
          refine HF.out.mono ?_
          rintro e w6 ⟨rfl, hb6⟩
          have HB6 := Lib.hid (HB5.out.trans (hb6.mono HB5.out.size))
          have HX6 := Lib.hid (HX5.out.below hb6)
          have HY6 := Lib.hid (HY5.out.below hb6)
          have HSO := Lib.hid HTO.out
          clear hb6 HF HX5 HY5 HTO HTF HTE
          generalize (takeS sd l[kk].1).1 = sn at *
          have HN := Lib.hid (show Calls Tryz.prog 22 #[.pointer (some ⟨gx, 0, none⟩)] w6.drew fun e w' => e = .returned (.agg #[.int .i64 sn.st, .string sn.pn, .int .u64 sn.pf, .int .u32 sn.pc, .bool sn.sim]) ∧ Below w6.drew.heap.size w6.drew w' from now_any gx _ w6.drew HX6.out.drew)
          have y0 := HY6.out.cell 0
          have y1 := HY6.out.cell 1
          have y2 := HY6.out.cell 2
          have y3 := HY6.out.cell 3
          have y4 := HY6.out.cell 4
          simp only [Sd.cells, List.getElem?_cons_zero, List.getElem?_cons_succ] at y0 y1 y2 y3 y4
          go_wp2_with fail
          go_region_held3 (fun w' => w'.cell? ⟨gy, 0, none⟩ = some (.int .i64 sn.st) ∧ w'.cell? ⟨gy, 1, none⟩ = some (.string sn.pn) ∧ w'.cell? ⟨gy, 2, none⟩ = some (.int .u64 sn.pf) ∧ w'.cell? ⟨gy, 3, none⟩ = some (.int .u32 sn.pc) ∧ w'.cell? ⟨gy, 4, none⟩ = some (.bool sn.sim)) (go_keep)
            ((go_at_call 22; refine HN.out.mono ?_; rintro e w7 ⟨rfl, hb7⟩
              have hb8 : Below w6.heap.size w6 w7 := (Below.drew (Below.refl w6.heap.size w6)).trans hb7
              have HB7 := Lib.hid (HB6.out.trans (hb8.mono HB6.out.size))
              have HX7 := Lib.hid (HX6.out.below hb8)
              have HY7 := Lib.hid (HY6.out.below hb8)
              have z0 := HY7.out.cell 0
              have z1 := HY7.out.cell 1
              have z2 := HY7.out.cell 2
              have z3 := HY7.out.cell 3
              have z4 := HY7.out.cell 4
              simp only [Sd.cells, List.getElem?_cons_zero, List.getElem?_cons_succ] at z0 z1 z2 z3 z4
              clear hb7 hb8 HN))
          go_wp2
          go_roundw
          case rel => exact ⟨kk + 1, sn, by omega, by go_num, HX7.out, HY7.out, HSO.out, HB7.out⟩
          case measure => simp [intOf]; omega
        · have hsn : l[kk].2.toList.isEmpty = false := by
            rw [toList_data]
            cases hq : l[kk].2.data.toList with
            | nil => exact absurd (eq_of_chars hq) hst
            | cons => rfl
          have hsn2 : ¬ l[kk].2.toList = [] := by
            intro e; rw [e] at hsn; cases hsn
          have HT := Lib.hid (answer_any gx sd l[kk].2 wr HX.out HO.out HZ5.out (HG.out.below HBR.out))
          have HTO := Lib.hid (answerS_ok (t := l[kk].2) HO.out)
          have HTF := Lib.hid (answerS_few (s := sd) (t := l[kk].2))
          have HTE := Lib.hid (answerS_errs sd l[kk].2)
          go_wp2_with fail
          refine HT.out.mono ?_
          rintro e w3 ⟨v3, ev3, rfl, hv3, her3, hk3, hC3⟩
          have hb3 := below_keep HBR.out hk3 HBR.out.size (fun k (hk : k = gx) => by rw [hk]; exact HGX.out)
          have HB3 := Lib.hid hb3
          have HX3 := Lib.hid hC3
          have HY3 := Lib.hid (HY.out.keep hk3 (fun e => HNE.out (show gy = gx from e).symm))
          have V3 := Lib.hid hv3
          have E3 := Lib.hid her3
          clear hb3 hC3 hv3 her3 hk3 h1 h4 HT HX HY HRB
          obtain ⟨g3, o3, u3, ha3, k1, k2, k3, k4, k5⟩ := ops_at HOPS.out HB3.out kk hlt
          cases ha3
          have HT2 := Lib.hid (answerR_any gy sd l[kk].2 w3 HY3.out HO.out HZ5.out)
          clear k2 k3 k5
          go_wp2_with fail
          refine HT2.out.mono ?_
          rintro e w4 ⟨v4, lv4, rfl, hv4, hl4, _, hk4, hC4⟩
          have HB4 := Lib.hid (below_keep HB3.out hk4 HB3.out.size (fun k (hk : k = gy) => by rw [hk]; exact HGY.out))
          have HX4 := Lib.hid (HX3.out.keep hk4 (fun e => HNE.out (show gx = gy from e)))
          have HY4 := Lib.hid hC4
          have V34 := Lib.hid (V3.out.keepC hk4 HY3.out (by decide) (by decide))
          have E34 := Lib.hid (E3.out.keep hk4 (fun b (hb : b = gy) => by rw [hb]; exact NF.cells HY3.out (by decide)))
          have HL4 := Lib.hid hl4
          have HSA := Lib.hid (samesR_any _ v3 v4 w4 V34.out hv4 (Nat.le_trans HTF.out.1 (by decide)))
          clear hv4 hl4 hk4 hC4 k1 k4 HT2 V3 E3 HX3 HY3
          go_wp2_with fail
          refine HSA.out.mono ?_
          rintro e w5 ⟨rfl, hb5⟩
          have HB5 := Lib.hid (HB4.out.trans (hb5.mono HB4.out.size))
          have HF := refused_links ev3 _ _ lv4 _ w5 (E34.out.below hb5) HTE.out HTE.out (HL4.out.below hb5 (Nat.le_refl _)) (HG.out.below HB5.out).e
          rw [show decide ((answerS sd l[kk].2).2.2 = (answerS sd l[kk].2).2.2) = true by simp] at HF
          replace HF := Lib.hid HF
          have HX5 := Lib.hid (HX4.out.below hb5)
          have HY5 := Lib.hid (HY4.out.below hb5)
          clear hb5 HSA V34 E34 HL4 HX4 HY4
          go_wp2_with fail
          refine HF.out.mono ?_
          rintro e w6 ⟨rfl, hb6⟩
          have HB6 := Lib.hid (HB5.out.trans (hb6.mono HB5.out.size))
          have HX6 := Lib.hid (HX5.out.below hb6)
          have HY6 := Lib.hid (HY5.out.below hb6)
          have HSO := Lib.hid HTO.out
          clear hb6 HF HX5 HY5 HTO HTF HTE
          generalize (answerS sd l[kk].2).1 = sn at *
          have HN := Lib.hid (show Calls Tryz.prog 22 #[.pointer (some ⟨gx, 0, none⟩)] w6.drew fun e w' => e = .returned (.agg #[.int .i64 sn.st, .string sn.pn, .int .u64 sn.pf, .int .u32 sn.pc, .bool sn.sim]) ∧ Below w6.drew.heap.size w6.drew w' from now_any gx _ w6.drew HX6.out.drew)
          have y0 := HY6.out.cell 0
          have y1 := HY6.out.cell 1
          have y2 := HY6.out.cell 2
          have y3 := HY6.out.cell 3
          have y4 := HY6.out.cell 4
          simp only [Sd.cells, List.getElem?_cons_zero, List.getElem?_cons_succ] at y0 y1 y2 y3 y4
          go_wp2_with fail
          go_region_held3 (fun w' => w'.cell? ⟨gy, 0, none⟩ = some (.int .i64 sn.st) ∧ w'.cell? ⟨gy, 1, none⟩ = some (.string sn.pn) ∧ w'.cell? ⟨gy, 2, none⟩ = some (.int .u64 sn.pf) ∧ w'.cell? ⟨gy, 3, none⟩ = some (.int .u32 sn.pc) ∧ w'.cell? ⟨gy, 4, none⟩ = some (.bool sn.sim)) (go_keep)
            ((go_at_call 22; refine HN.out.mono ?_; rintro e w7 ⟨rfl, hb7⟩
              have hb8 : Below w6.heap.size w6 w7 := (Below.drew (Below.refl w6.heap.size w6)).trans hb7
              have HB7 := Lib.hid (HB6.out.trans (hb8.mono HB6.out.size))
              have HX7 := Lib.hid (HX6.out.below hb8)
              have HY7 := Lib.hid (HY6.out.below hb8)
              have z0 := HY7.out.cell 0
              have z1 := HY7.out.cell 1
              have z2 := HY7.out.cell 2
              have z3 := HY7.out.cell 3
              have z4 := HY7.out.cell 4
              simp only [Sd.cells, List.getElem?_cons_zero, List.getElem?_cons_succ] at z0 z1 z2 z3 z4
              clear hb7 hb8 HN))
          go_wp2
          go_roundw
          case rel => exact ⟨kk + 1, sn, by omega, by go_num, HX7.out, HY7.out, HSO.out, HB7.out⟩
          case measure => simp [intOf]; omega
      · have hkn : ¬ (kk : Int) < (l.length : Int) := by omega
        clear hCx hCy hOk hBr
        go_wp2
        go_ret
        exact ⟨rfl, HBR.out⟩
  · have HB1 := Lib.hid (HB0.out.trans (hb1.mono HB0.out.size))
    clear hb1 hr HSD HOPS
    go_wp2_with fail
    refine (HAW.out _ HB1.out).mono ?_
    rintro e w2 ⟨rfl, hb2⟩
    have hb := HB1.out.trans (hb2.mono HB1.out.size)
    go_wp2
    refine wp_loop_rounds 1 ?_
    rw [rounds_succ]
    by_cases hl0 : 0 < l.length
    · go_wp2
      go_ret
      exact ⟨rfl, hb⟩
    · go_wp2
      go_ret
      exact ⟨rfl, hb⟩
end Go.Proofs.YtokkokgdjnkbnaaGreatDoor
end
