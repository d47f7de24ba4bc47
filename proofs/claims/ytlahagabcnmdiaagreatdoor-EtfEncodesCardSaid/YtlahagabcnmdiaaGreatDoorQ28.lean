/- Texts laid together: TrC. -/
import Derived.Test.YtlahagabcnmdiaaGreatDoorQ21
import Derived.Test.YtlahagabcnmdiaaGreatDoorQ27
import Derived.Test.YtlahagabcnmdiaaGreatDoorQ17
import Derived.Test.YtlahagabcnmdiaaGreatDoorQ11
section
/- The reference of layer 2: parts, Check. Printed by wip/trc.py. -/
open Go Go.RowKit
namespace Go.Proofs.YtlahagabcnmdiaaGreatDoor
set_option linter.unusedSimpArgs false
set_option linter.unusedVariables false

def RetLT (w : World) (l : List Lk) (e : Ending) (w' : World) : Prop := ∃ v, e = .returned v ∧ LinksIs w.heap.size v l w' ∧ Below w.heap.size w w'
theorem no02_any (at_ code : Int) (w : World) :
    Calls Tryz.prog 88 #[.int .i64 at_, .int .i64 code] w (RetLT w [⟨termL, at_, code⟩]) := by
  go_enter Tryz.func88, Tryz.ntmps88
  go_wp2_with (go_at_call 16; refine (one_any _ _ _ _).mono ?_; rintro e w' ⟨rfl, rfl⟩)
  go_ret
  exact ⟨_, rfl, LinksIs.lit ⟨termL, at_, code⟩ (Nat.le_refl _), (Below.refl _ _).alloc (Nat.le_refl _) _⟩
theorem over02_any (at_ : Int) (lv : Value) (k : Lk) (l : List Lk) (base : Nat) (w : World) (hlk : LinksIs base lv (k :: l) w) (hl : l.length ≤ 50) :
    Calls Tryz.prog 91 #[.int .i64 at_, lv] w (RetLT w (⟨termL, at_, k.code⟩ :: k :: l)) := by
  have HO := Lib.hid (mOver_any termL at_ k.code lv (k :: l) base w hlk (by simp; omega))
  obtain ⟨_, hn⟩ | ⟨g, c, rfl, hbg, hgw, hgc, hgm⟩ := hlk.shape
  · cases hn
  have c2 := hlk.cells 0 (by simp) 2 (by omega)
  simp only [lkV, List.getElem_cons_zero, List.getElem?_cons_zero, List.getElem?_cons_succ, Nat.zero_mul, Nat.zero_add] at c2
  have hlen : (0 : Int) < ((k :: l).length : Int) := by simp
  clear hlk
  go_enter Tryz.func91, Tryz.ntmps91
  go_wp2_with fail
  refine HO.out.mono ?_
  rintro e w1 ⟨v, rfl, h1, hb1⟩
  go_wp2
  go_ret
  exact ⟨_, rfl, h1, hb1⟩
theorem someL {base : Nat} {v : Value} {k : Lk} {l : List Lk} {w : World} (h : LinksIs base v (k :: l) w) : ∃ g n c, v = .slice (some ⟨g, 0, none⟩) n c := by
  rcases h.shape with ⟨_, hn⟩ | ⟨g, c, rfl, _⟩
  · cases hn
  · exact ⟨g, _, c, rfl⟩
/-- what part leaves behind -/
def RetPt (g : Nat) (w : World) (R : List Lk × Nat × Nat) (e : Ending) (w' : World) : Prop :=
  ∃ (n' dm' : Int) (bv : Value), e = .returned (.tuple #[]) ∧ Cells w' g 108 [.int .i64 n', .int .i64 dm', bv] ∧ LinksIs (g + 1) bv R.1 w' ∧ (R.1 = [] → bv = .slice none 0 0 ∧ n' = (R.2.1 : Int) ∧ dm' = (R.2.2 : Int)) ∧ Keep (Blk1 g) w w'
/-- a link laid into a walker -/
theorem bad_laid {g : Nat} {w wX w9 : World} {n1 d1 : Int} {lv : Value} {L : List Lk} (hC : Cells wX g 108 [.int .i64 n1, .int .i64 d1, .slice none 0 0]) (hK : Keep (Blk1 g) w wX) (hb : Below wX.heap.size wX w9) (hl : LinksIs wX.heap.size lv L w9) :
    Cells (w9.setCell ⟨g, 2, none⟩ lv) g 108 [.int .i64 n1, .int .i64 d1, lv] ∧ LinksIs (g + 1) lv L (w9.setCell ⟨g, 2, none⟩ lv) ∧ Keep (Blk1 g) w (w9.setCell ⟨g, 2, none⟩ lv) ∧ w9.cell? ⟨g, 2, none⟩ = some (.slice none 0 0) ∧ w9.frozen? ⟨g, 2, none⟩ = false := by
  have h1 := hC.below hb
  refine ⟨h1.set_ 2 lv, ?_, keepSet (hK.trans (keepB (S := Blk1 g) hb) (fun _ _ h => h)) 2 lv, h1.cell 2, h1.frozen 2⟩
  exact (hl.base hC.lt).frame fun k hk => Below.heap_setCell _ _ _ _ (by have := (hl.block hk).1; have := hC.lt; show k ≠ g; omega)

set_option maxHeartbeats 16000000 in
set_option maxRecDepth 100000 in
theorem part_ind (S : Nat → Prop) (g : Nat) (hg : ¬ S g) : ∀ (N : Nat) (t : Tm) (vs : List Value) (n dm d : Nat) (w : World), SizeOf.sizeOf t ≤ N → TmAt S t vs w → Cells w g 108 [.int .i64 n, .int .i64 dm, .slice none 0 0] → n ≤ 4096 → dm ≤ 256 → d ≤ 257 →
    Calls Tryz.prog 49 #[.pointer (some ⟨g, 0, none⟩), .agg vs.toArray, .int .i64 d] w (RetPt g w (walkS t n dm d)) := by
  intro N
  induction N with
  | zero => intro t vs n dm d w h; cases t; simp at h
  | succ N ih =>
    intro t vs n dm d w hN ht hC hn hdm hd
    have HIH := Lib.hid ih
    have HNN := Lib.hid hN
    have HW := Lib.hid (walkS_eq t n dm d)
    have HNO := Lib.hid (fun code W => no02_any n code W)
    have HT := Lib.hid ht
    obtain ⟨hp, nv, a, cap, rfl, hnn, hc, hcap, ha⟩ := ht.parts
    obtain ⟨na, nc, rfl, _, _⟩ := hnn.slice
    have HSZ := Lib.hid hp.sz
    have HB := Lib.hid ((Below.refl _ w).alloc (Nat.le_refl _) (.cells #[.int .i64 t.kind, .int .i64 t.int, .string t.text, .int .u32 t.cr, .slice na t.nums.length nc, .slice a t.args.length cap] 35 (0, 0)))
    have HA := Lib.hid ha
    have HBD := Lib.hid (And.intro hn (And.intro hdm hd))
    have K1 := Lib.hid (hC.alloc (.cells #[.int .i64 t.kind, .int .i64 t.int, .string t.text, .int .u32 t.cr, .slice na t.nums.length nc, .slice a t.args.length cap] 35 (0, 0)))
    have M1 := Lib.hid (Cells.new w 35 [.int .i64 t.kind, .int .i64 t.int, .string t.text, .int .u32 t.cr, .slice na t.nums.length nc, .slice a t.args.length cap])
    have hlt := hC.lt
    have hne : w.heap.size ≠ g := Nat.ne_of_gt hlt
    have HNE := Lib.hid hne
    have hcl : t.args.length ≤ 140737488351232 := by omega
    have HCL := Lib.hid hcl
    have hnq := fun (w : World) (a : Option Addr) (n c : Nat) => run_neq_slice_nil_any (P := Tryz.prog) w 45 112 a n c 0 0 Tryz.underlying45
    have hqq := fun (w : World) (a : Option Addr) (n c : Nat) => Lib.run_eql_slice_nil (P := Tryz.prog) w 45 112 a n c 0 0 Tryz.underlying45
    have hn0 : (n : Int) ≤ 4096 := by omega
    have hn0' : (0 : Int) ≤ (n : Int) := by omega
    have hd0 : (d : Int) ≤ 257 := by omega
    have hd0' : (0 : Int) ≤ (d : Int) := by omega
    clear ih hN ht hC hnn hc hcap ha hp hlt hne hn hdm hd
    go_enter Tryz.func49, Tryz.ntmps49
    go_upto_region 1 with (fail)
    generalize hW1 : World.alloc w _ = W1 at *
    clear hW1
    have c0 := K1.out.cell 0
    have c2 := K1.out.cell 2
    have f0 := K1.out.frozen 0
    have P1 := Lib.hid (show Cells _ g 108 [.int .i64 ((n : Int) + 1), .int .i64 dm, .slice none 0 0] from K1.out.set_ 0 (.int .i64 ((n : Int) + 1)))
    have c1 := P1.out.cell 1
    have f1 := P1.out.frozen 1
    have P2 := Lib.hid (show Cells _ g 108 [.int .i64 ((n : Int) + 1), .int .i64 (max (dm : Int) (d : Int)), .slice none 0 0] from P1.out.set_ 1 (.int .i64 (max (dm : Int) (d : Int))))
    have M3 := Lib.hid ((M1.out.far (p := ⟨g, 0, none⟩) HNE.out (.int .i64 ((n : Int) + 1))).far (p := ⟨g, 1, none⟩) HNE.out (.int .i64 (max (dm : Int) (d : Int))))
    have KP := Lib.hid (keepSet (keepSet (keepB (S := Blk1 g) HB.out) 0 (.int .i64 ((n : Int) + 1))) 1 (.int .i64 (max (dm : Int) (d : Int))))
    simp only [List.getElem?_cons_zero, List.getElem?_cons_succ] at c0 c1 c2
    go_upto_region 5 with (fail)
    clear c0 c1 c2 f0 f1 P1 K1 M1
    generalize hW3 : World.setCell _ ⟨g, 1, none⟩ _ = W3 at *
    clear hW3
    have m0 := M3.out.cell 0
    have m1 := M3.out.cell 1
    have m2 := M3.out.cell 2
    have m3 := M3.out.cell 3
    have m4 := M3.out.cell 4
    have m5 := M3.out.cell 5
    simp only [List.getElem?_cons_zero, List.getElem?_cons_succ] at m0 m1 m2 m3 m4 m5
    by_cases h1 : n = 4096
    · have q1 : (4096 : Int) ≤ (n : Int) := by omega
      have HR := Lib.hid (show walkS t n dm d = ([⟨termL, n, 5⟩], n, dm) by rw [HW.out, if_pos h1])
      clear h1 m0 m1 m2 m3 m4 m5
      go_wp2_with fail
      refine (HNO.out _ _).mono ?_
      rintro e w9 ⟨lv, rfl, hl, hb9⟩
      obtain ⟨hC10, hL10, hK10, c2, f2⟩ := bad_laid P2.out KP.out hb9 hl
      obtain ⟨sg, sn, sc, rfl⟩ := someL hl
      have HC10 := Lib.hid hC10
      have HL10 := Lib.hid hL10
      have HK10 := Lib.hid hK10
      have M9 := Lib.hid ((M3.out.below hb9).far (p := ⟨g, 2, none⟩) HNE.out (.slice (some ⟨sg, 0, none⟩) sn sc))
      have m5 := M9.out.cell 5
      have b2 := hC10.cell 2
      simp only [List.getElem?_cons_zero, List.getElem?_cons_succ] at m5 b2
      clear hb9 hl hC10 hL10 hK10
      go_wp2_with fail
      refine wp_loop_rounds 1 ?_
      rw [rounds_succ]
      rcases Nat.eq_zero_or_pos t.args.length with h0 | h0
      · have h0i : ¬ (0 : Int) < (t.args.length : Int) := by omega
        clear h0
        go_wp2
        go_end0
        rw [HR.out]
        exact ⟨_, _, _, rfl, HC10.out, HL10.out, (fun h => by cases h), HK10.out⟩
      · have h0i : (0 : Int) < (t.args.length : Int) := by omega
        clear h0
        go_wp2
        go_end0
        rw [HR.out]
        exact ⟨_, _, _, rfl, HC10.out, HL10.out, (fun h => by cases h), HK10.out⟩
    have q1 : ¬ (4096 : Int) ≤ (n : Int) := by have := HBD.out.1; omega
    by_cases h2 : 256 < d
    · have h2i : (256 : Int) < (d : Int) := by omega
      have HR := Lib.hid (show walkS t n dm d = ([⟨termL, n, 9⟩], n, dm) by rw [HW.out, if_neg h1, if_pos h2])
      clear h1 h2 m0 m1 m2 m3 m4 m5
      go_wp2_with fail
      refine (HNO.out _ _).mono ?_
      rintro e w9 ⟨lv, rfl, hl, hb9⟩
      obtain ⟨hC10, hL10, hK10, c2, f2⟩ := bad_laid P2.out KP.out hb9 hl
      obtain ⟨sg, sn, sc, rfl⟩ := someL hl
      have HC10 := Lib.hid hC10
      have HL10 := Lib.hid hL10
      have HK10 := Lib.hid hK10
      have M9 := Lib.hid ((M3.out.below hb9).far (p := ⟨g, 2, none⟩) HNE.out (.slice (some ⟨sg, 0, none⟩) sn sc))
      have m5 := M9.out.cell 5
      have b2 := hC10.cell 2
      simp only [List.getElem?_cons_zero, List.getElem?_cons_succ] at m5 b2
      clear hb9 hl hC10 hL10 hK10
      go_wp2_with fail
      refine wp_loop_rounds 1 ?_
      rw [rounds_succ]
      rcases Nat.eq_zero_or_pos t.args.length with h0 | h0
      · have h0i : ¬ (0 : Int) < (t.args.length : Int) := by omega
        clear h0
        go_wp2
        go_end0
        rw [HR.out]
        exact ⟨_, _, _, rfl, HC10.out, HL10.out, (fun h => by cases h), HK10.out⟩
      · have h0i : (0 : Int) < (t.args.length : Int) := by omega
        clear h0
        go_wp2
        go_end0
        rw [HR.out]
        exact ⟨_, _, _, rfl, HC10.out, HL10.out, (fun h => by cases h), HK10.out⟩
    have h2i : ¬ (256 : Int) < (d : Int) := by omega
    have HW2 := Lib.hid (show walkS t n dm d = if partS t n ≠ [] then (partS t n, n, dm) else walkLS t.args (n + 1) (max dm d) (d + 1) by rw [HW.out, if_neg h1, if_neg h2])
    have HN1 := Lib.hid h1
    have HD2 := Lib.hid h2
    have HF := Lib.hid (fun W h => formR_any S t [.int .i64 t.kind, .int .i64 t.int, .string t.text, .int .u32 t.cr, .slice na t.nums.length nc, .slice a t.args.length cap] W h)
    have HT3 := HT.out.keep KP.out (fun b _ hS e => hg (by rw [← (show b = g from e)]; exact hS))
    clear h1 h2
    go_wp2_with fail
    refine (HF.out W3 HT3).mono ?_
    rintro e w4 ⟨rfl, hb4⟩
    have P4 := Lib.hid (P2.out.below hb4)
    have M4 := Lib.hid (M3.out.below hb4)
    have KP4 := Lib.hid (KP.out.trans (keepB (S := Blk1 g) hb4) (fun _ _ h => h))
    clear hb4 HT3 HF m0 m1 m2 m3 m4 m5 P2 M3 KP
    have m0 := M4.out.cell 0
    have m1 := M4.out.cell 1
    have m2 := M4.out.cell 2
    have m5 := M4.out.cell 5
    simp only [List.getElem?_cons_zero, List.getElem?_cons_succ] at m0 m1 m2 m5
    cases hf : formS t with
    | false =>
      have hps : partS t n = [⟨termL, n, 40⟩] := by unfold partS; rw [if_pos hf]
      have HR := Lib.hid (show walkS t n dm d = ([⟨termL, n, 40⟩], n, dm) by rw [HW2.out, if_pos (by simp [hps]), hps])
      clear hf hps m0 m1 m2 m5
      go_wp2_with fail
      refine (HNO.out _ _).mono ?_
      rintro e w9 ⟨lv, rfl, hl, hb9⟩
      obtain ⟨hC10, hL10, hK10, c2, f2⟩ := bad_laid P4.out KP4.out hb9 hl
      obtain ⟨sg, sn, sc, rfl⟩ := someL hl
      have HC10 := Lib.hid hC10
      have HL10 := Lib.hid hL10
      have HK10 := Lib.hid hK10
      have M9 := Lib.hid ((M4.out.below hb9).far (p := ⟨g, 2, none⟩) HNE.out (.slice (some ⟨sg, 0, none⟩) sn sc))
      have m5 := M9.out.cell 5
      have b2 := hC10.cell 2
      simp only [List.getElem?_cons_zero, List.getElem?_cons_succ] at m5 b2
      clear hb9 hl hC10 hL10 hK10
      go_wp2_with fail
      refine wp_loop_rounds 1 ?_
      rw [rounds_succ]
      rcases Nat.eq_zero_or_pos t.args.length with h0 | h0
      · have h0i : ¬ (0 : Int) < (t.args.length : Int) := by omega
        clear h0
        go_wp2
        go_end0
        rw [HR.out]
        exact ⟨_, _, _, rfl, HC10.out, HL10.out, (fun h => by cases h), HK10.out⟩
      · have h0i : (0 : Int) < (t.args.length : Int) := by omega
        clear h0
        go_wp2
        go_end0
        rw [HR.out]
        exact ⟨_, _, _, rfl, HC10.out, HL10.out, (fun h => by cases h), HK10.out⟩
    | true =>
      by_cases k1 : t.kind = 1
      · have qk1 : (t.kind == 1) = true := beq_iff_eq.2 k1
        have qk2 : (t.kind == 2) = false := beq_eq_false_iff_ne.2 (by omega)
        have qk3 : (t.kind == 3) = false := beq_eq_false_iff_ne.2 (by omega)
        have qk4 : (t.kind == 4) = false := beq_eq_false_iff_ne.2 (by omega)
        by_cases r1 : t.int < -576460752303423488
        · have hps : partS t n = [⟨termL, n, 2⟩] := by unfold partS; rw [if_neg (by simp [hf]), if_pos k1, if_pos (.inl r1)]
          have HR := Lib.hid (show walkS t n dm d = ([⟨termL, n, 2⟩], n, dm) by rw [HW2.out, if_pos (by simp [hps]), hps])
          clear hf hps k1
          go_wp2_with fail
          refine (HNO.out _ _).mono ?_
          rintro e w9 ⟨lv, rfl, hl, hb9⟩
          obtain ⟨hC10, hL10, hK10, c2, f2⟩ := bad_laid P4.out KP4.out hb9 hl
          obtain ⟨sg, sn, sc, rfl⟩ := someL hl
          have HC10 := Lib.hid hC10
          have HL10 := Lib.hid hL10
          have HK10 := Lib.hid hK10
          have M9 := Lib.hid ((M4.out.below hb9).far (p := ⟨g, 2, none⟩) HNE.out (.slice (some ⟨sg, 0, none⟩) sn sc))
          have m5 := M9.out.cell 5
          have b2 := hC10.cell 2
          simp only [List.getElem?_cons_zero, List.getElem?_cons_succ] at m5 b2
          clear hb9 hl hC10 hL10 hK10
          go_wp2_with fail
          refine wp_loop_rounds 1 ?_
          rw [rounds_succ]
          rcases Nat.eq_zero_or_pos t.args.length with h0 | h0
          · have h0i : ¬ (0 : Int) < (t.args.length : Int) := by omega
            clear h0
            go_wp2
            go_end0
            rw [HR.out]
            exact ⟨_, _, _, rfl, HC10.out, HL10.out, (fun h => by cases h), HK10.out⟩
          · have h0i : (0 : Int) < (t.args.length : Int) := by omega
            clear h0
            go_wp2
            go_end0
            rw [HR.out]
            exact ⟨_, _, _, rfl, HC10.out, HL10.out, (fun h => by cases h), HK10.out⟩
        by_cases r2 : 576460752303423487 < t.int
        · have hps : partS t n = [⟨termL, n, 2⟩] := by unfold partS; rw [if_neg (by simp [hf]), if_pos k1, if_pos (.inr r2)]
          have HR := Lib.hid (show walkS t n dm d = ([⟨termL, n, 2⟩], n, dm) by rw [HW2.out, if_pos (by simp [hps]), hps])
          clear hf hps k1
          go_wp2_with fail
          refine (HNO.out _ _).mono ?_
          rintro e w9 ⟨lv, rfl, hl, hb9⟩
          obtain ⟨hC10, hL10, hK10, c2, f2⟩ := bad_laid P4.out KP4.out hb9 hl
          obtain ⟨sg, sn, sc, rfl⟩ := someL hl
          have HC10 := Lib.hid hC10
          have HL10 := Lib.hid hL10
          have HK10 := Lib.hid hK10
          have M9 := Lib.hid ((M4.out.below hb9).far (p := ⟨g, 2, none⟩) HNE.out (.slice (some ⟨sg, 0, none⟩) sn sc))
          have m5 := M9.out.cell 5
          have b2 := hC10.cell 2
          simp only [List.getElem?_cons_zero, List.getElem?_cons_succ] at m5 b2
          clear hb9 hl hC10 hL10 hK10
          go_wp2_with fail
          refine wp_loop_rounds 1 ?_
          rw [rounds_succ]
          rcases Nat.eq_zero_or_pos t.args.length with h0 | h0
          · have h0i : ¬ (0 : Int) < (t.args.length : Int) := by omega
            clear h0
            go_wp2
            go_end0
            rw [HR.out]
            exact ⟨_, _, _, rfl, HC10.out, HL10.out, (fun h => by cases h), HK10.out⟩
          · have h0i : (0 : Int) < (t.args.length : Int) := by omega
            clear h0
            go_wp2
            go_end0
            rw [HR.out]
            exact ⟨_, _, _, rfl, HC10.out, HL10.out, (fun h => by cases h), HK10.out⟩
        have hps : partS t n = [] := by unfold partS; rw [if_neg (by simp [hf]), if_pos k1, if_neg (by omega)]
        have HRL := Lib.hid (show walkS t n dm d = walkLS t.args (n + 1) (max dm d) (d + 1) by rw [HW2.out, if_neg (by simp [hps])])
        clear hf hps k1
        have P9 := Lib.hid (show Cells _ g 108 [.int .i64 ((n + 1 : Nat) : Int), .int .i64 ((max dm d : Nat) : Int), .slice none 0 0] from by
          have := P4.out
          rwa [show ((n + 1 : Nat) : Int) = (n : Int) + 1 by omega, show ((max dm d : Nat) : Int) = max (dm : Int) (d : Int) by omega])
        have MK := Lib.hid M4.out
        have KK := Lib.hid KP4.out
        go_wp2_with fail
        generalize hWX : w4 = WX at *
        clear hWX
        clear m0 m1 m2 m5 P4 M4 KP4
        go_loopw [12] (fun i wr => ∃ (kk : Nat), kk ≤ t.args.length ∧ i = .int .i64 kk ∧ Keep (Blk1 g) WX wr ∧ ((∃ n' dm' : Nat, walkLS (t.args.drop kk) n' dm' (d + 1) = walkLS t.args (n + 1) (max dm d) (d + 1) ∧ n' ≤ 4096 ∧ dm' ≤ 256 ∧ Cells wr g 108 [.int .i64 n', .int .i64 dm', .slice none 0 0]) ∨
          (∃ (n' dm' : Int) (sg sn sc : Nat), (walkLS t.args (n + 1) (max dm d) (d + 1)).1 ≠ [] ∧ Cells wr g 108 [.int .i64 n', .int .i64 dm', .slice (some ⟨sg, 0, none⟩) sn sc] ∧ LinksIs (g + 1) (.slice (some ⟨sg, 0, none⟩) sn sc) (walkLS t.args (n + 1) (max dm d) (d + 1)).1 wr))) (fun i _ => t.args.length - (intOf i).toNat)
        case atStart => exact ⟨0, Nat.zero_le _, rfl, Keep.refl _ _, .inl ⟨n + 1, max dm d, rfl, by have := HN1.out; have := HBD.out; omega, by have := HD2.out; have := HBD.out; omega, P9.out⟩⟩
        case round =>
          obtain ⟨kk, hkk, rfl, hKr, hst⟩ := hrel
          have HKR := Lib.hid hKr
          have HKW := Lib.hid (KK.out.trans hKr (fun _ _ h => h))
          have MR := Lib.hid (MK.out.keep hKr (fun e => HNE.out e))
          have m5 := MR.out.cell 5
          simp only [List.getElem?_cons_zero, List.getElem?_cons_succ] at m5
          have HST := Lib.hid hst
          clear hKr hst P9
          by_cases hk : kk < t.args.length
          · have hki : (kk : Int) < (t.args.length : Int) := by omega
            have hk0 : (0 : Int) ≤ (kk : Int) := by omega
            rcases HST.out with ⟨n', dm', hR, hn', hdm', hCr⟩ | ⟨n', dm', sg, sn, sc, hne2, hCr, hLr⟩
            · have HRR := Lib.hid hR
              have HB' := Lib.hid (And.intro hn' hdm')
              have b2 := hCr.cell 2
              simp only [List.getElem?_cons_zero, List.getElem?_cons_succ] at b2
              obtain ⟨g2, o2, vs2, hae, _, hcs, ht2⟩ := (HA.out.keep HKW.out (fun b _ hS e => hg (by rw [← (show b = g from e)]; exact hS))).get kk hk
              subst hae
              have HT2 := Lib.hid ht2
              obtain ⟨_, nv2, a2, cap2, hv2, hnn2, _⟩ := ht2.parts
              obtain ⟨na2, nc2, hnv2, _, _⟩ := hnn2.slice
              subst hv2
              subst hnv2
              have e0 := hcs 0 (by decide)
              have e1 := hcs 1 (by decide)
              have e2 := hcs 2 (by decide)
              have e3 := hcs 3 (by decide)
              have e4 := hcs 4 (by decide)
              have e5 := hcs 5 (by decide)
              simp only [List.getElem?_cons_zero, List.getElem?_cons_succ, ← Nat.add_assoc, Nat.add_zero] at e0 e1 e2 e3 e4 e5
              have HD := Lib.hid (walkLS_drop hk n' dm' (d + 1))
              have HCALL := Lib.hid (HIH.out t.args[kk] _ n' dm' (d + 1) _ (by have := Tm.arg_lt hk; have := HNN.out; omega) HT2.out hCr HB'.out.1 HB'.out.2 (by have := HD2.out; omega))
              rw [show ((d + 1 : Nat) : Int) = (d : Int) + 1 by omega] at HCALL
              clear hcs ht2 hnn2 hCr hR hn' hdm' HST
              go_wp2_with fail
              refine HCALL.out.mono ?_
              rintro e w5 ⟨n5, dm5, bv5, rfl, hC5, hL5, hok5, hk5⟩
              have HK5 := Lib.hid (HKR.out.trans hk5 (fun _ _ h => h))
              have HC5 := Lib.hid hC5
              have HL5 := Lib.hid hL5
              have HOK5 := Lib.hid hok5
              have HLE := Lib.hid (walkS_le t.args[kk] n' dm' (d + 1) HB'.out.1 (by have := HD2.out; omega) HB'.out.2)
              clear hk5 hC5 hok5 e0 e1 e2 e3 e4 e5 HCALL b2 m5
              generalize walkS t.args[kk] n' dm' (d + 1) = R1 at *
              obtain ⟨r1, n1, dm1⟩ := R1
              cases r1 with
              | cons q r =>
                obtain ⟨sg, sn, sc, rfl⟩ := someL hL5
                have HR2 := Lib.hid (show walkLS t.args (n + 1) (max dm d) (d + 1) = (q :: r, n1, dm1) by rw [← HRR.out, HD.out, if_pos (by simp)])
                clear hL5
                go_wp2
                go_roundw
                case rel => exact ⟨kk + 1, by omega, by go_num, HK5.out, .inr ⟨n5, dm5, sg, sn, sc, by rw [HR2.out]; simp, HC5.out, by rw [HR2.out]; exact HL5.out⟩⟩
                case measure => simp [intOf]; omega
              | nil =>
                obtain ⟨rfl, rfl, rfl⟩ := HOK5.out rfl
                have HR2 := Lib.hid (show walkLS (t.args.drop (kk + 1)) n1 dm1 (d + 1) = walkLS t.args (n + 1) (max dm d) (d + 1) by rw [← HRR.out, HD.out, if_neg (by simp)])
                clear hL5
                go_wp2
                go_roundw
                case rel => exact ⟨kk + 1, by omega, by go_num, HK5.out, .inl ⟨n1, dm1, HR2.out, HLE.out.1, HLE.out.2, HC5.out⟩⟩
                case measure => simp [intOf]; omega
            · have b2 := hCr.cell 2
              simp only [List.getElem?_cons_zero, List.getElem?_cons_succ] at b2
              have HCR := Lib.hid hCr
              have HLR := Lib.hid hLr
              have HNE2 := Lib.hid hne2
              clear hCr hLr hne2 HST
              go_wp2
              go_end0
              rw [HRL.out]
              exact ⟨_, _, _, rfl, HCR.out, HLR.out, (fun h => absurd h HNE2.out), HKW.out⟩
          · have hki : ¬ (kk : Int) < (t.args.length : Int) := by omega
            have hdr : t.args.drop kk = [] := List.drop_eq_nil_of_le (by omega)
            clear hkk
            go_wp2
            go_end0
            rw [HRL.out]
            rcases HST.out with ⟨n', dm', hR, hn', hdm', hCr⟩ | ⟨n', dm', sg, sn, sc, hne2, hCr, hLr⟩
            · rw [hdr, walkLS] at hR
              rw [← hR]
              exact ⟨_, _, _, rfl, hCr, LinksIs.nil _ _, (fun _ => ⟨rfl, rfl, rfl⟩), HKW.out⟩
            · exact ⟨_, _, _, rfl, hCr, hLr, (fun h => absurd h hne2), HKW.out⟩
      by_cases k2 : t.kind = 2
      · have qk1 : (t.kind == 1) = false := beq_eq_false_iff_ne.2 k1
        have qk2 : (t.kind == 2) = true := beq_iff_eq.2 k2
        have HPS := Lib.hid (show partS t n = overL n (quoteS t.text).2 by unfold partS; rw [if_neg (by simp [hf]), if_neg k1, if_pos k2])
        clear m1 hf k1 k2
        have HQ := Lib.hid (quoteR_nil t.text w4 HSZ.out)
        go_wp2_with fail
        refine HQ.out.mono ?_
        rintro e w5 ⟨lv5, rfl, hl5, hb5, hnil5⟩
        have P5 := Lib.hid (P4.out.below hb5)
        have M5 := Lib.hid (M4.out.below hb5)
        have KP5 := Lib.hid (KP4.out.trans (keepB (S := Blk1 g) hb5) (fun _ _ h => h))
        have HL5 := Lib.hid hl5
        have m5 := M5.out.cell 5
        simp only [List.getElem?_cons_zero, List.getElem?_cons_succ] at m5
        clear hb5
        cases hl : (quoteS t.text).2 with
        | nil =>
          obtain rfl := hnil5 hl
          have hps : partS t n = [] := HPS.out.trans (by rw [hl]; rfl)
          have HRL := Lib.hid (show walkS t n dm d = walkLS t.args (n + 1) (max dm d) (d + 1) by rw [HW2.out, if_neg (by simp [hps])])
          clear hps hl hl5 hnil5
          have P9 := Lib.hid (show Cells _ g 108 [.int .i64 ((n + 1 : Nat) : Int), .int .i64 ((max dm d : Nat) : Int), .slice none 0 0] from by
            have := P5.out
            rwa [show ((n + 1 : Nat) : Int) = (n : Int) + 1 by omega, show ((max dm d : Nat) : Int) = max (dm : Int) (d : Int) by omega])
          have MK := Lib.hid M5.out
          have KK := Lib.hid KP5.out
          go_wp2_with fail
          generalize hWX : w5 = WX at *
          clear hWX
          clear m5 P5 M5 KP5
          go_loopw [12] (fun i wr => ∃ (kk : Nat), kk ≤ t.args.length ∧ i = .int .i64 kk ∧ Keep (Blk1 g) WX wr ∧ ((∃ n' dm' : Nat, walkLS (t.args.drop kk) n' dm' (d + 1) = walkLS t.args (n + 1) (max dm d) (d + 1) ∧ n' ≤ 4096 ∧ dm' ≤ 256 ∧ Cells wr g 108 [.int .i64 n', .int .i64 dm', .slice none 0 0]) ∨
            (∃ (n' dm' : Int) (sg sn sc : Nat), (walkLS t.args (n + 1) (max dm d) (d + 1)).1 ≠ [] ∧ Cells wr g 108 [.int .i64 n', .int .i64 dm', .slice (some ⟨sg, 0, none⟩) sn sc] ∧ LinksIs (g + 1) (.slice (some ⟨sg, 0, none⟩) sn sc) (walkLS t.args (n + 1) (max dm d) (d + 1)).1 wr))) (fun i _ => t.args.length - (intOf i).toNat)
          case atStart => exact ⟨0, Nat.zero_le _, rfl, Keep.refl _ _, .inl ⟨n + 1, max dm d, rfl, by have := HN1.out; have := HBD.out; omega, by have := HD2.out; have := HBD.out; omega, P9.out⟩⟩
          case round =>
            obtain ⟨kk, hkk, rfl, hKr, hst⟩ := hrel
            have HKR := Lib.hid hKr
            have HKW := Lib.hid (KK.out.trans hKr (fun _ _ h => h))
            have MR := Lib.hid (MK.out.keep hKr (fun e => HNE.out e))
            have m5 := MR.out.cell 5
            simp only [List.getElem?_cons_zero, List.getElem?_cons_succ] at m5
            have HST := Lib.hid hst
            clear hKr hst P9
            by_cases hk : kk < t.args.length
            · have hki : (kk : Int) < (t.args.length : Int) := by omega
              have hk0 : (0 : Int) ≤ (kk : Int) := by omega
              rcases HST.out with ⟨n', dm', hR, hn', hdm', hCr⟩ | ⟨n', dm', sg, sn, sc, hne2, hCr, hLr⟩
              · have HRR := Lib.hid hR
                have HB' := Lib.hid (And.intro hn' hdm')
                have b2 := hCr.cell 2
                simp only [List.getElem?_cons_zero, List.getElem?_cons_succ] at b2
                obtain ⟨g2, o2, vs2, hae, _, hcs, ht2⟩ := (HA.out.keep HKW.out (fun b _ hS e => hg (by rw [← (show b = g from e)]; exact hS))).get kk hk
                subst hae
                have HT2 := Lib.hid ht2
                obtain ⟨_, nv2, a2, cap2, hv2, hnn2, _⟩ := ht2.parts
                obtain ⟨na2, nc2, hnv2, _, _⟩ := hnn2.slice
                subst hv2
                subst hnv2
                have e0 := hcs 0 (by decide)
                have e1 := hcs 1 (by decide)
                have e2 := hcs 2 (by decide)
                have e3 := hcs 3 (by decide)
                have e4 := hcs 4 (by decide)
                have e5 := hcs 5 (by decide)
                simp only [List.getElem?_cons_zero, List.getElem?_cons_succ, ← Nat.add_assoc, Nat.add_zero] at e0 e1 e2 e3 e4 e5
                have HD := Lib.hid (walkLS_drop hk n' dm' (d + 1))
                have HCALL := Lib.hid (HIH.out t.args[kk] _ n' dm' (d + 1) _ (by have := Tm.arg_lt hk; have := HNN.out; omega) HT2.out hCr HB'.out.1 HB'.out.2 (by have := HD2.out; omega))
                rw [show ((d + 1 : Nat) : Int) = (d : Int) + 1 by omega] at HCALL
                clear hcs ht2 hnn2 hCr hR hn' hdm' HST
                go_wp2_with fail
                refine HCALL.out.mono ?_
                rintro e w5 ⟨n5, dm5, bv5, rfl, hC5, hL5, hok5, hk5⟩
                have HK5 := Lib.hid (HKR.out.trans hk5 (fun _ _ h => h))
                have HC5 := Lib.hid hC5
                have HL5 := Lib.hid hL5
                have HOK5 := Lib.hid hok5
                have HLE := Lib.hid (walkS_le t.args[kk] n' dm' (d + 1) HB'.out.1 (by have := HD2.out; omega) HB'.out.2)
                clear hk5 hC5 hok5 e0 e1 e2 e3 e4 e5 HCALL b2 m5
                generalize walkS t.args[kk] n' dm' (d + 1) = R1 at *
                obtain ⟨r1, n1, dm1⟩ := R1
                cases r1 with
                | cons q r =>
                  obtain ⟨sg, sn, sc, rfl⟩ := someL hL5
                  have HR2 := Lib.hid (show walkLS t.args (n + 1) (max dm d) (d + 1) = (q :: r, n1, dm1) by rw [← HRR.out, HD.out, if_pos (by simp)])
                  clear hL5
                  go_wp2
                  go_roundw
                  case rel => exact ⟨kk + 1, by omega, by go_num, HK5.out, .inr ⟨n5, dm5, sg, sn, sc, by rw [HR2.out]; simp, HC5.out, by rw [HR2.out]; exact HL5.out⟩⟩
                  case measure => simp [intOf]; omega
                | nil =>
                  obtain ⟨rfl, rfl, rfl⟩ := HOK5.out rfl
                  have HR2 := Lib.hid (show walkLS (t.args.drop (kk + 1)) n1 dm1 (d + 1) = walkLS t.args (n + 1) (max dm d) (d + 1) by rw [← HRR.out, HD.out, if_neg (by simp)])
                  clear hL5
                  go_wp2
                  go_roundw
                  case rel => exact ⟨kk + 1, by omega, by go_num, HK5.out, .inl ⟨n1, dm1, HR2.out, HLE.out.1, HLE.out.2, HC5.out⟩⟩
                  case measure => simp [intOf]; omega
              · have b2 := hCr.cell 2
                simp only [List.getElem?_cons_zero, List.getElem?_cons_succ] at b2
                have HCR := Lib.hid hCr
                have HLR := Lib.hid hLr
                have HNE2 := Lib.hid hne2
                clear hCr hLr hne2 HST
                go_wp2
                go_end0
                rw [HRL.out]
                exact ⟨_, _, _, rfl, HCR.out, HLR.out, (fun h => absurd h HNE2.out), HKW.out⟩
            · have hki : ¬ (kk : Int) < (t.args.length : Int) := by omega
              have hdr : t.args.drop kk = [] := List.drop_eq_nil_of_le (by omega)
              clear hkk
              go_wp2
              go_end0
              rw [HRL.out]
              rcases HST.out with ⟨n', dm', hR, hn', hdm', hCr⟩ | ⟨n', dm', sg, sn, sc, hne2, hCr, hLr⟩
              · rw [hdr, walkLS] at hR
                rw [← hR]
                exact ⟨_, _, _, rfl, hCr, LinksIs.nil _ _, (fun _ => ⟨rfl, rfl, rfl⟩), HKW.out⟩
              · exact ⟨_, _, _, rfl, hCr, hLr, (fun h => absurd h hne2), HKW.out⟩
        | cons q r =>
          rw [hl] at hl5 HL5
          have hps : partS t n = ⟨termL, n, q.code⟩ :: q :: r := HPS.out.trans (by rw [hl]; rfl)
          have HR := Lib.hid (show walkS t n dm d = (⟨termL, n, q.code⟩ :: q :: r, n, dm) by rw [HW2.out, if_pos (by simp [hps]), hps])
          have HLR := Lib.hid (show r.length ≤ 50 from by have h1 : ((quoteS t.text).2).length ≤ 1 := quoteS_len t.text; rw [hl] at h1; simp at h1; simp [h1])
          have HOV := Lib.hid (over02_any n lv5 q r _ w5 HL5.out HLR.out)
          obtain ⟨sg5, sn5, sc5, rfl⟩ := someL hl5
          clear hps hl hl5 hnil5 m5
          go_wp2_with fail
          refine HOV.out.mono ?_
          rintro e w9 ⟨lv, rfl, hl, hb9⟩
          obtain ⟨hC10, hL10, hK10, c2, f2⟩ := bad_laid P5.out KP5.out hb9 hl
          obtain ⟨sg, sn, sc, rfl⟩ := someL hl
          have HC10 := Lib.hid hC10
          have HL10 := Lib.hid hL10
          have HK10 := Lib.hid hK10
          have M9 := Lib.hid ((M5.out.below hb9).far (p := ⟨g, 2, none⟩) HNE.out (.slice (some ⟨sg, 0, none⟩) sn sc))
          have m5 := M9.out.cell 5
          have b2 := hC10.cell 2
          simp only [List.getElem?_cons_zero, List.getElem?_cons_succ] at m5 b2
          clear hb9 hl hC10 hL10 hK10
          go_wp2_with fail
          refine wp_loop_rounds 1 ?_
          rw [rounds_succ]
          rcases Nat.eq_zero_or_pos t.args.length with h0 | h0
          · have h0i : ¬ (0 : Int) < (t.args.length : Int) := by omega
            clear h0
            go_wp2
            go_end0
            rw [HR.out]
            exact ⟨_, _, _, rfl, HC10.out, HL10.out, (fun h => by cases h), HK10.out⟩
          · have h0i : (0 : Int) < (t.args.length : Int) := by omega
            clear h0
            go_wp2
            go_end0
            rw [HR.out]
            exact ⟨_, _, _, rfl, HC10.out, HL10.out, (fun h => by cases h), HK10.out⟩
      by_cases k34 : t.kind = 3 ∨ t.kind = 4
      · have qk1 : (t.kind == 1) = false := beq_eq_false_iff_ne.2 k1
        have qk2 : (t.kind == 2) = false := beq_eq_false_iff_ne.2 k2
        have HPS := Lib.hid (show partS t n = overL n (nodeS t.text).2.2 by unfold partS; rw [if_neg (by simp [hf]), if_neg k1, if_neg k2, if_pos k34])
        have HQ := Lib.hid (nodeR_nil t.text w4 HSZ.out)
        rw [nodeRS_eq] at HQ
        clear m1 hf k1 k2
        rcases k34 with k3 | k3
        · have qk3 : (t.kind == 3) = true := beq_iff_eq.2 k3
          clear k3
          go_wp2_with fail
          refine HQ.out.mono ?_
          rintro e w5 ⟨lv5, rfl, hl5, hb5, hnil5⟩
          have P5 := Lib.hid (P4.out.below hb5)
          have M5 := Lib.hid (M4.out.below hb5)
          have KP5 := Lib.hid (KP4.out.trans (keepB (S := Blk1 g) hb5) (fun _ _ h => h))
          have HL5 := Lib.hid hl5
          have m5 := M5.out.cell 5
          simp only [List.getElem?_cons_zero, List.getElem?_cons_succ] at m5
          clear hb5
          cases hl : (nodeS t.text).2.2 with
          | nil =>
            obtain rfl := hnil5 hl
            have hps : partS t n = [] := HPS.out.trans (by rw [hl]; rfl)
            have HRL := Lib.hid (show walkS t n dm d = walkLS t.args (n + 1) (max dm d) (d + 1) by rw [HW2.out, if_neg (by simp [hps])])
            clear hps hl hl5 hnil5
            have P9 := Lib.hid (show Cells _ g 108 [.int .i64 ((n + 1 : Nat) : Int), .int .i64 ((max dm d : Nat) : Int), .slice none 0 0] from by
              have := P5.out
              rwa [show ((n + 1 : Nat) : Int) = (n : Int) + 1 by omega, show ((max dm d : Nat) : Int) = max (dm : Int) (d : Int) by omega])
            have MK := Lib.hid M5.out
            have KK := Lib.hid KP5.out
            go_wp2_with fail
            generalize hWX : w5 = WX at *
            clear hWX
            clear m5 P5 M5 KP5
            go_loopw [12] (fun i wr => ∃ (kk : Nat), kk ≤ t.args.length ∧ i = .int .i64 kk ∧ Keep (Blk1 g) WX wr ∧ ((∃ n' dm' : Nat, walkLS (t.args.drop kk) n' dm' (d + 1) = walkLS t.args (n + 1) (max dm d) (d + 1) ∧ n' ≤ 4096 ∧ dm' ≤ 256 ∧ Cells wr g 108 [.int .i64 n', .int .i64 dm', .slice none 0 0]) ∨
              (∃ (n' dm' : Int) (sg sn sc : Nat), (walkLS t.args (n + 1) (max dm d) (d + 1)).1 ≠ [] ∧ Cells wr g 108 [.int .i64 n', .int .i64 dm', .slice (some ⟨sg, 0, none⟩) sn sc] ∧ LinksIs (g + 1) (.slice (some ⟨sg, 0, none⟩) sn sc) (walkLS t.args (n + 1) (max dm d) (d + 1)).1 wr))) (fun i _ => t.args.length - (intOf i).toNat)
            case atStart => exact ⟨0, Nat.zero_le _, rfl, Keep.refl _ _, .inl ⟨n + 1, max dm d, rfl, by have := HN1.out; have := HBD.out; omega, by have := HD2.out; have := HBD.out; omega, P9.out⟩⟩
            case round =>
              obtain ⟨kk, hkk, rfl, hKr, hst⟩ := hrel
              have HKR := Lib.hid hKr
              have HKW := Lib.hid (KK.out.trans hKr (fun _ _ h => h))
              have MR := Lib.hid (MK.out.keep hKr (fun e => HNE.out e))
              have m5 := MR.out.cell 5
              simp only [List.getElem?_cons_zero, List.getElem?_cons_succ] at m5
              have HST := Lib.hid hst
              clear hKr hst P9
              by_cases hk : kk < t.args.length
              · have hki : (kk : Int) < (t.args.length : Int) := by omega
                have hk0 : (0 : Int) ≤ (kk : Int) := by omega
                rcases HST.out with ⟨n', dm', hR, hn', hdm', hCr⟩ | ⟨n', dm', sg, sn, sc, hne2, hCr, hLr⟩
                · have HRR := Lib.hid hR
                  have HB' := Lib.hid (And.intro hn' hdm')
                  have b2 := hCr.cell 2
                  simp only [List.getElem?_cons_zero, List.getElem?_cons_succ] at b2
                  obtain ⟨g2, o2, vs2, hae, _, hcs, ht2⟩ := (HA.out.keep HKW.out (fun b _ hS e => hg (by rw [← (show b = g from e)]; exact hS))).get kk hk
                  subst hae
                  have HT2 := Lib.hid ht2
                  obtain ⟨_, nv2, a2, cap2, hv2, hnn2, _⟩ := ht2.parts
                  obtain ⟨na2, nc2, hnv2, _, _⟩ := hnn2.slice
                  subst hv2
                  subst hnv2
                  have e0 := hcs 0 (by decide)
                  have e1 := hcs 1 (by decide)
                  have e2 := hcs 2 (by decide)
                  have e3 := hcs 3 (by decide)
                  have e4 := hcs 4 (by decide)
                  have e5 := hcs 5 (by decide)
                  simp only [List.getElem?_cons_zero, List.getElem?_cons_succ, ← Nat.add_assoc, Nat.add_zero] at e0 e1 e2 e3 e4 e5
                  have HD := Lib.hid (walkLS_drop hk n' dm' (d + 1))
                  have HCALL := Lib.hid (HIH.out t.args[kk] _ n' dm' (d + 1) _ (by have := Tm.arg_lt hk; have := HNN.out; omega) HT2.out hCr HB'.out.1 HB'.out.2 (by have := HD2.out; omega))
                  rw [show ((d + 1 : Nat) : Int) = (d : Int) + 1 by omega] at HCALL
                  clear hcs ht2 hnn2 hCr hR hn' hdm' HST
                  go_wp2_with fail
                  refine HCALL.out.mono ?_
                  rintro e w5 ⟨n5, dm5, bv5, rfl, hC5, hL5, hok5, hk5⟩
                  have HK5 := Lib.hid (HKR.out.trans hk5 (fun _ _ h => h))
                  have HC5 := Lib.hid hC5
                  have HL5 := Lib.hid hL5
                  have HOK5 := Lib.hid hok5
                  have HLE := Lib.hid (walkS_le t.args[kk] n' dm' (d + 1) HB'.out.1 (by have := HD2.out; omega) HB'.out.2)
                  clear hk5 hC5 hok5 e0 e1 e2 e3 e4 e5 HCALL b2 m5
                  generalize walkS t.args[kk] n' dm' (d + 1) = R1 at *
                  obtain ⟨r1, n1, dm1⟩ := R1
                  cases r1 with
                  | cons q r =>
                    obtain ⟨sg, sn, sc, rfl⟩ := someL hL5
                    have HR2 := Lib.hid (show walkLS t.args (n + 1) (max dm d) (d + 1) = (q :: r, n1, dm1) by rw [← HRR.out, HD.out, if_pos (by simp)])
                    clear hL5
                    go_wp2
                    go_roundw
                    case rel => exact ⟨kk + 1, by omega, by go_num, HK5.out, .inr ⟨n5, dm5, sg, sn, sc, by rw [HR2.out]; simp, HC5.out, by rw [HR2.out]; exact HL5.out⟩⟩
                    case measure => simp [intOf]; omega
                  | nil =>
                    obtain ⟨rfl, rfl, rfl⟩ := HOK5.out rfl
                    have HR2 := Lib.hid (show walkLS (t.args.drop (kk + 1)) n1 dm1 (d + 1) = walkLS t.args (n + 1) (max dm d) (d + 1) by rw [← HRR.out, HD.out, if_neg (by simp)])
                    clear hL5
                    go_wp2
                    go_roundw
                    case rel => exact ⟨kk + 1, by omega, by go_num, HK5.out, .inl ⟨n1, dm1, HR2.out, HLE.out.1, HLE.out.2, HC5.out⟩⟩
                    case measure => simp [intOf]; omega
                · have b2 := hCr.cell 2
                  simp only [List.getElem?_cons_zero, List.getElem?_cons_succ] at b2
                  have HCR := Lib.hid hCr
                  have HLR := Lib.hid hLr
                  have HNE2 := Lib.hid hne2
                  clear hCr hLr hne2 HST
                  go_wp2
                  go_end0
                  rw [HRL.out]
                  exact ⟨_, _, _, rfl, HCR.out, HLR.out, (fun h => absurd h HNE2.out), HKW.out⟩
              · have hki : ¬ (kk : Int) < (t.args.length : Int) := by omega
                have hdr : t.args.drop kk = [] := List.drop_eq_nil_of_le (by omega)
                clear hkk
                go_wp2
                go_end0
                rw [HRL.out]
                rcases HST.out with ⟨n', dm', hR, hn', hdm', hCr⟩ | ⟨n', dm', sg, sn, sc, hne2, hCr, hLr⟩
                · rw [hdr, walkLS] at hR
                  rw [← hR]
                  exact ⟨_, _, _, rfl, hCr, LinksIs.nil _ _, (fun _ => ⟨rfl, rfl, rfl⟩), HKW.out⟩
                · exact ⟨_, _, _, rfl, hCr, hLr, (fun h => absurd h hne2), HKW.out⟩
          | cons q r =>
            rw [hl] at hl5 HL5
            have hps : partS t n = ⟨termL, n, q.code⟩ :: q :: r := HPS.out.trans (by rw [hl]; rfl)
            have HR := Lib.hid (show walkS t n dm d = (⟨termL, n, q.code⟩ :: q :: r, n, dm) by rw [HW2.out, if_pos (by simp [hps]), hps])
            have HLR := Lib.hid (show r.length ≤ 50 from by have h1 : ((nodeS t.text).2.2).length ≤ 1 := (by unfold nodeS; split <;> simp); rw [hl] at h1; simp at h1; simp [h1])
            have HOV := Lib.hid (over02_any n lv5 q r _ w5 HL5.out HLR.out)
            obtain ⟨sg5, sn5, sc5, rfl⟩ := someL hl5
            clear hps hl hl5 hnil5 m5
            go_wp2_with fail
            refine HOV.out.mono ?_
            rintro e w9 ⟨lv, rfl, hl, hb9⟩
            obtain ⟨hC10, hL10, hK10, c2, f2⟩ := bad_laid P5.out KP5.out hb9 hl
            obtain ⟨sg, sn, sc, rfl⟩ := someL hl
            have HC10 := Lib.hid hC10
            have HL10 := Lib.hid hL10
            have HK10 := Lib.hid hK10
            have M9 := Lib.hid ((M5.out.below hb9).far (p := ⟨g, 2, none⟩) HNE.out (.slice (some ⟨sg, 0, none⟩) sn sc))
            have m5 := M9.out.cell 5
            have b2 := hC10.cell 2
            simp only [List.getElem?_cons_zero, List.getElem?_cons_succ] at m5 b2
            clear hb9 hl hC10 hL10 hK10
            go_wp2_with fail
            refine wp_loop_rounds 1 ?_
            rw [rounds_succ]
            rcases Nat.eq_zero_or_pos t.args.length with h0 | h0
            · have h0i : ¬ (0 : Int) < (t.args.length : Int) := by omega
              clear h0
              go_wp2
              go_end0
              rw [HR.out]
              exact ⟨_, _, _, rfl, HC10.out, HL10.out, (fun h => by cases h), HK10.out⟩
            · have h0i : (0 : Int) < (t.args.length : Int) := by omega
              clear h0
              go_wp2
              go_end0
              rw [HR.out]
              exact ⟨_, _, _, rfl, HC10.out, HL10.out, (fun h => by cases h), HK10.out⟩
        · have qk3 : (t.kind == 3) = false := beq_eq_false_iff_ne.2 (by omega)
          have qk4 : (t.kind == 4) = true := beq_iff_eq.2 k3
          clear k3
          go_wp2_with fail
          refine HQ.out.mono ?_
          rintro e w5 ⟨lv5, rfl, hl5, hb5, hnil5⟩
          have P5 := Lib.hid (P4.out.below hb5)
          have M5 := Lib.hid (M4.out.below hb5)
          have KP5 := Lib.hid (KP4.out.trans (keepB (S := Blk1 g) hb5) (fun _ _ h => h))
          have HL5 := Lib.hid hl5
          have m5 := M5.out.cell 5
          simp only [List.getElem?_cons_zero, List.getElem?_cons_succ] at m5
          clear hb5
          cases hl : (nodeS t.text).2.2 with
          | nil =>
            obtain rfl := hnil5 hl
            have hps : partS t n = [] := HPS.out.trans (by rw [hl]; rfl)
            have HRL := Lib.hid (show walkS t n dm d = walkLS t.args (n + 1) (max dm d) (d + 1) by rw [HW2.out, if_neg (by simp [hps])])
            clear hps hl hl5 hnil5
            have P9 := Lib.hid (show Cells _ g 108 [.int .i64 ((n + 1 : Nat) : Int), .int .i64 ((max dm d : Nat) : Int), .slice none 0 0] from by
              have := P5.out
              rwa [show ((n + 1 : Nat) : Int) = (n : Int) + 1 by omega, show ((max dm d : Nat) : Int) = max (dm : Int) (d : Int) by omega])
            have MK := Lib.hid M5.out
            have KK := Lib.hid KP5.out
            go_wp2_with fail
            generalize hWX : w5 = WX at *
            clear hWX
            clear m5 P5 M5 KP5
            go_loopw [12] (fun i wr => ∃ (kk : Nat), kk ≤ t.args.length ∧ i = .int .i64 kk ∧ Keep (Blk1 g) WX wr ∧ ((∃ n' dm' : Nat, walkLS (t.args.drop kk) n' dm' (d + 1) = walkLS t.args (n + 1) (max dm d) (d + 1) ∧ n' ≤ 4096 ∧ dm' ≤ 256 ∧ Cells wr g 108 [.int .i64 n', .int .i64 dm', .slice none 0 0]) ∨
              (∃ (n' dm' : Int) (sg sn sc : Nat), (walkLS t.args (n + 1) (max dm d) (d + 1)).1 ≠ [] ∧ Cells wr g 108 [.int .i64 n', .int .i64 dm', .slice (some ⟨sg, 0, none⟩) sn sc] ∧ LinksIs (g + 1) (.slice (some ⟨sg, 0, none⟩) sn sc) (walkLS t.args (n + 1) (max dm d) (d + 1)).1 wr))) (fun i _ => t.args.length - (intOf i).toNat)
            case atStart => exact ⟨0, Nat.zero_le _, rfl, Keep.refl _ _, .inl ⟨n + 1, max dm d, rfl, by have := HN1.out; have := HBD.out; omega, by have := HD2.out; have := HBD.out; omega, P9.out⟩⟩
            case round =>
              obtain ⟨kk, hkk, rfl, hKr, hst⟩ := hrel
              have HKR := Lib.hid hKr
              have HKW := Lib.hid (KK.out.trans hKr (fun _ _ h => h))
              have MR := Lib.hid (MK.out.keep hKr (fun e => HNE.out e))
              have m5 := MR.out.cell 5
              simp only [List.getElem?_cons_zero, List.getElem?_cons_succ] at m5
              have HST := Lib.hid hst
              clear hKr hst P9
              by_cases hk : kk < t.args.length
              · have hki : (kk : Int) < (t.args.length : Int) := by omega
                have hk0 : (0 : Int) ≤ (kk : Int) := by omega
                rcases HST.out with ⟨n', dm', hR, hn', hdm', hCr⟩ | ⟨n', dm', sg, sn, sc, hne2, hCr, hLr⟩
                · have HRR := Lib.hid hR
                  have HB' := Lib.hid (And.intro hn' hdm')
                  have b2 := hCr.cell 2
                  simp only [List.getElem?_cons_zero, List.getElem?_cons_succ] at b2
                  obtain ⟨g2, o2, vs2, hae, _, hcs, ht2⟩ := (HA.out.keep HKW.out (fun b _ hS e => hg (by rw [← (show b = g from e)]; exact hS))).get kk hk
                  subst hae
                  have HT2 := Lib.hid ht2
                  obtain ⟨_, nv2, a2, cap2, hv2, hnn2, _⟩ := ht2.parts
                  obtain ⟨na2, nc2, hnv2, _, _⟩ := hnn2.slice
                  subst hv2
                  subst hnv2
                  have e0 := hcs 0 (by decide)
                  have e1 := hcs 1 (by decide)
                  have e2 := hcs 2 (by decide)
                  have e3 := hcs 3 (by decide)
                  have e4 := hcs 4 (by decide)
                  have e5 := hcs 5 (by decide)
                  simp only [List.getElem?_cons_zero, List.getElem?_cons_succ, ← Nat.add_assoc, Nat.add_zero] at e0 e1 e2 e3 e4 e5
                  have HD := Lib.hid (walkLS_drop hk n' dm' (d + 1))
                  have HCALL := Lib.hid (HIH.out t.args[kk] _ n' dm' (d + 1) _ (by have := Tm.arg_lt hk; have := HNN.out; omega) HT2.out hCr HB'.out.1 HB'.out.2 (by have := HD2.out; omega))
                  rw [show ((d + 1 : Nat) : Int) = (d : Int) + 1 by omega] at HCALL
                  clear hcs ht2 hnn2 hCr hR hn' hdm' HST
                  go_wp2_with fail
                  refine HCALL.out.mono ?_
                  rintro e w5 ⟨n5, dm5, bv5, rfl, hC5, hL5, hok5, hk5⟩
                  have HK5 := Lib.hid (HKR.out.trans hk5 (fun _ _ h => h))
                  have HC5 := Lib.hid hC5
                  have HL5 := Lib.hid hL5
                  have HOK5 := Lib.hid hok5
                  have HLE := Lib.hid (walkS_le t.args[kk] n' dm' (d + 1) HB'.out.1 (by have := HD2.out; omega) HB'.out.2)
                  clear hk5 hC5 hok5 e0 e1 e2 e3 e4 e5 HCALL b2 m5
                  generalize walkS t.args[kk] n' dm' (d + 1) = R1 at *
                  obtain ⟨r1, n1, dm1⟩ := R1
                  cases r1 with
                  | cons q r =>
                    obtain ⟨sg, sn, sc, rfl⟩ := someL hL5
                    have HR2 := Lib.hid (show walkLS t.args (n + 1) (max dm d) (d + 1) = (q :: r, n1, dm1) by rw [← HRR.out, HD.out, if_pos (by simp)])
                    clear hL5
                    go_wp2
                    go_roundw
                    case rel => exact ⟨kk + 1, by omega, by go_num, HK5.out, .inr ⟨n5, dm5, sg, sn, sc, by rw [HR2.out]; simp, HC5.out, by rw [HR2.out]; exact HL5.out⟩⟩
                    case measure => simp [intOf]; omega
                  | nil =>
                    obtain ⟨rfl, rfl, rfl⟩ := HOK5.out rfl
                    have HR2 := Lib.hid (show walkLS (t.args.drop (kk + 1)) n1 dm1 (d + 1) = walkLS t.args (n + 1) (max dm d) (d + 1) by rw [← HRR.out, HD.out, if_neg (by simp)])
                    clear hL5
                    go_wp2
                    go_roundw
                    case rel => exact ⟨kk + 1, by omega, by go_num, HK5.out, .inl ⟨n1, dm1, HR2.out, HLE.out.1, HLE.out.2, HC5.out⟩⟩
                    case measure => simp [intOf]; omega
                · have b2 := hCr.cell 2
                  simp only [List.getElem?_cons_zero, List.getElem?_cons_succ] at b2
                  have HCR := Lib.hid hCr
                  have HLR := Lib.hid hLr
                  have HNE2 := Lib.hid hne2
                  clear hCr hLr hne2 HST
                  go_wp2
                  go_end0
                  rw [HRL.out]
                  exact ⟨_, _, _, rfl, HCR.out, HLR.out, (fun h => absurd h HNE2.out), HKW.out⟩
              · have hki : ¬ (kk : Int) < (t.args.length : Int) := by omega
                have hdr : t.args.drop kk = [] := List.drop_eq_nil_of_le (by omega)
                clear hkk
                go_wp2
                go_end0
                rw [HRL.out]
                rcases HST.out with ⟨n', dm', hR, hn', hdm', hCr⟩ | ⟨n', dm', sg, sn, sc, hne2, hCr, hLr⟩
                · rw [hdr, walkLS] at hR
                  rw [← hR]
                  exact ⟨_, _, _, rfl, hCr, LinksIs.nil _ _, (fun _ => ⟨rfl, rfl, rfl⟩), HKW.out⟩
                · exact ⟨_, _, _, rfl, hCr, hLr, (fun h => absurd h hne2), HKW.out⟩
          | cons q r =>
            rw [hl] at hl5 HL5
            have hps : partS t n = ⟨termL, n, q.code⟩ :: q :: r := HPS.out.trans (by rw [hl]; rfl)
            have HR := Lib.hid (show walkS t n dm d = (⟨termL, n, q.code⟩ :: q :: r, n, dm) by rw [HW2.out, if_pos (by simp [hps]), hps])
            have HLR := Lib.hid (show r.length ≤ 50 from by have h1 : ((nodeS t.text).2.2).length ≤ 1 := (by unfold nodeS; split <;> simp); rw [hl] at h1; simp at h1; simp [h1])
            have HOV := Lib.hid (over02_any n lv5 q r _ w5 HL5.out HLR.out)
            obtain ⟨sg5, sn5, sc5, rfl⟩ := someL hl5
            clear hps hl hl5 hnil5 m5
            go_wp2_with fail
            refine HOV.out.mono ?_
            rintro e w9 ⟨lv, rfl, hl, hb9⟩
            obtain ⟨hC10, hL10, hK10, c2, f2⟩ := bad_laid P5.out KP5.out hb9 hl
            obtain ⟨sg, sn, sc, rfl⟩ := someL hl
            have HC10 := Lib.hid hC10
            have HL10 := Lib.hid hL10
            have HK10 := Lib.hid hK10
            have M9 := Lib.hid ((M5.out.below hb9).far (p := ⟨g, 2, none⟩) HNE.out (.slice (some ⟨sg, 0, none⟩) sn sc))
            have m5 := M9.out.cell 5
            have b2 := hC10.cell 2
            simp only [List.getElem?_cons_zero, List.getElem?_cons_succ] at m5 b2
            clear hb9 hl hC10 hL10 hK10
            go_wp2_with fail
            refine wp_loop_rounds 1 ?_
            rw [rounds_succ]
            rcases Nat.eq_zero_or_pos t.args.length with h0 | h0
            · have h0i : ¬ (0 : Int) < (t.args.length : Int) := by omega
              clear h0
              go_wp2
              go_end0
              rw [HR.out]
              exact ⟨_, _, _, rfl, HC10.out, HL10.out, (fun h => by cases h), HK10.out⟩
            · have h0i : (0 : Int) < (t.args.length : Int) := by omega
              clear h0
              go_wp2
              go_end0
              rw [HR.out]
              exact ⟨_, _, _, rfl, HC10.out, HL10.out, (fun h => by cases h), HK10.out⟩
      have qk1 : (t.kind == 1) = false := beq_eq_false_iff_ne.2 k1
      have qk2 : (t.kind == 2) = false := beq_eq_false_iff_ne.2 k2
      have qk3 : (t.kind == 3) = false := beq_eq_false_iff_ne.2 (fun e => k34 (.inl e))
      have qk4 : (t.kind == 4) = false := beq_eq_false_iff_ne.2 (fun e => k34 (.inr e))
      have hps : partS t n = [] := by unfold partS; rw [if_neg (by simp [hf]), if_neg k1, if_neg k2, if_neg k34]
      have HRL := Lib.hid (show walkS t n dm d = walkLS t.args (n + 1) (max dm d) (d + 1) by rw [HW2.out, if_neg (by simp [hps])])
      clear hf hps k1 k2 k34
      have P9 := Lib.hid (show Cells _ g 108 [.int .i64 ((n + 1 : Nat) : Int), .int .i64 ((max dm d : Nat) : Int), .slice none 0 0] from by
        have := P4.out
        rwa [show ((n + 1 : Nat) : Int) = (n : Int) + 1 by omega, show ((max dm d : Nat) : Int) = max (dm : Int) (d : Int) by omega])
      have MK := Lib.hid M4.out
      have KK := Lib.hid KP4.out
      go_wp2_with fail
      generalize hWX : w4 = WX at *
      clear hWX
      clear m0 m1 m2 m5 P4 M4 KP4
      go_loopw [12] (fun i wr => ∃ (kk : Nat), kk ≤ t.args.length ∧ i = .int .i64 kk ∧ Keep (Blk1 g) WX wr ∧ ((∃ n' dm' : Nat, walkLS (t.args.drop kk) n' dm' (d + 1) = walkLS t.args (n + 1) (max dm d) (d + 1) ∧ n' ≤ 4096 ∧ dm' ≤ 256 ∧ Cells wr g 108 [.int .i64 n', .int .i64 dm', .slice none 0 0]) ∨
        (∃ (n' dm' : Int) (sg sn sc : Nat), (walkLS t.args (n + 1) (max dm d) (d + 1)).1 ≠ [] ∧ Cells wr g 108 [.int .i64 n', .int .i64 dm', .slice (some ⟨sg, 0, none⟩) sn sc] ∧ LinksIs (g + 1) (.slice (some ⟨sg, 0, none⟩) sn sc) (walkLS t.args (n + 1) (max dm d) (d + 1)).1 wr))) (fun i _ => t.args.length - (intOf i).toNat)
      case atStart => exact ⟨0, Nat.zero_le _, rfl, Keep.refl _ _, .inl ⟨n + 1, max dm d, rfl, by have := HN1.out; have := HBD.out; omega, by have := HD2.out; have := HBD.out; omega, P9.out⟩⟩
      case round =>
        obtain ⟨kk, hkk, rfl, hKr, hst⟩ := hrel
        have HKR := Lib.hid hKr
        have HKW := Lib.hid (KK.out.trans hKr (fun _ _ h => h))
        have MR := Lib.hid (MK.out.keep hKr (fun e => HNE.out e))
        have m5 := MR.out.cell 5
        simp only [List.getElem?_cons_zero, List.getElem?_cons_succ] at m5
        have HST := Lib.hid hst
        clear hKr hst P9
        by_cases hk : kk < t.args.length
        · have hki : (kk : Int) < (t.args.length : Int) := by omega
          have hk0 : (0 : Int) ≤ (kk : Int) := by omega
          rcases HST.out with ⟨n', dm', hR, hn', hdm', hCr⟩ | ⟨n', dm', sg, sn, sc, hne2, hCr, hLr⟩
          · have HRR := Lib.hid hR
            have HB' := Lib.hid (And.intro hn' hdm')
            have b2 := hCr.cell 2
            simp only [List.getElem?_cons_zero, List.getElem?_cons_succ] at b2
            obtain ⟨g2, o2, vs2, hae, _, hcs, ht2⟩ := (HA.out.keep HKW.out (fun b _ hS e => hg (by rw [← (show b = g from e)]; exact hS))).get kk hk
            subst hae
            have HT2 := Lib.hid ht2
            obtain ⟨_, nv2, a2, cap2, hv2, hnn2, _⟩ := ht2.parts
            obtain ⟨na2, nc2, hnv2, _, _⟩ := hnn2.slice
            subst hv2
            subst hnv2
            have e0 := hcs 0 (by decide)
            have e1 := hcs 1 (by decide)
            have e2 := hcs 2 (by decide)
            have e3 := hcs 3 (by decide)
            have e4 := hcs 4 (by decide)
            have e5 := hcs 5 (by decide)
            simp only [List.getElem?_cons_zero, List.getElem?_cons_succ, ← Nat.add_assoc, Nat.add_zero] at e0 e1 e2 e3 e4 e5
            have HD := Lib.hid (walkLS_drop hk n' dm' (d + 1))
            have HCALL := Lib.hid (HIH.out t.args[kk] _ n' dm' (d + 1) _ (by have := Tm.arg_lt hk; have := HNN.out; omega) HT2.out hCr HB'.out.1 HB'.out.2 (by have := HD2.out; omega))
            rw [show ((d + 1 : Nat) : Int) = (d : Int) + 1 by omega] at HCALL
            clear hcs ht2 hnn2 hCr hR hn' hdm' HST
            go_wp2_with fail
            refine HCALL.out.mono ?_
            rintro e w5 ⟨n5, dm5, bv5, rfl, hC5, hL5, hok5, hk5⟩
            have HK5 := Lib.hid (HKR.out.trans hk5 (fun _ _ h => h))
            have HC5 := Lib.hid hC5
            have HL5 := Lib.hid hL5
            have HOK5 := Lib.hid hok5
            have HLE := Lib.hid (walkS_le t.args[kk] n' dm' (d + 1) HB'.out.1 (by have := HD2.out; omega) HB'.out.2)
            clear hk5 hC5 hok5 e0 e1 e2 e3 e4 e5 HCALL b2 m5
            generalize walkS t.args[kk] n' dm' (d + 1) = R1 at *
            obtain ⟨r1, n1, dm1⟩ := R1
            cases r1 with
            | cons q r =>
              obtain ⟨sg, sn, sc, rfl⟩ := someL hL5
              have HR2 := Lib.hid (show walkLS t.args (n + 1) (max dm d) (d + 1) = (q :: r, n1, dm1) by rw [← HRR.out, HD.out, if_pos (by simp)])
              clear hL5
              go_wp2
              go_roundw
              case rel => exact ⟨kk + 1, by omega, by go_num, HK5.out, .inr ⟨n5, dm5, sg, sn, sc, by rw [HR2.out]; simp, HC5.out, by rw [HR2.out]; exact HL5.out⟩⟩
              case measure => simp [intOf]; omega
            | nil =>
              obtain ⟨rfl, rfl, rfl⟩ := HOK5.out rfl
              have HR2 := Lib.hid (show walkLS (t.args.drop (kk + 1)) n1 dm1 (d + 1) = walkLS t.args (n + 1) (max dm d) (d + 1) by rw [← HRR.out, HD.out, if_neg (by simp)])
              clear hL5
              go_wp2
              go_roundw
              case rel => exact ⟨kk + 1, by omega, by go_num, HK5.out, .inl ⟨n1, dm1, HR2.out, HLE.out.1, HLE.out.2, HC5.out⟩⟩
              case measure => simp [intOf]; omega
          · have b2 := hCr.cell 2
            simp only [List.getElem?_cons_zero, List.getElem?_cons_succ] at b2
            have HCR := Lib.hid hCr
            have HLR := Lib.hid hLr
            have HNE2 := Lib.hid hne2
            clear hCr hLr hne2 HST
            go_wp2
            go_end0
            rw [HRL.out]
            exact ⟨_, _, _, rfl, HCR.out, HLR.out, (fun h => absurd h HNE2.out), HKW.out⟩
        · have hki : ¬ (kk : Int) < (t.args.length : Int) := by omega
          have hdr : t.args.drop kk = [] := List.drop_eq_nil_of_le (by omega)
          clear hkk
          go_wp2
          go_end0
          rw [HRL.out]
          rcases HST.out with ⟨n', dm', hR, hn', hdm', hCr⟩ | ⟨n', dm', sg, sn, sc, hne2, hCr, hLr⟩
          · rw [hdr, walkLS] at hR
            rw [← hR]
            exact ⟨_, _, _, rfl, hCr, LinksIs.nil _ _, (fun _ => ⟨rfl, rfl, rfl⟩), HKW.out⟩
          · exact ⟨_, _, _, rfl, hCr, hLr, (fun h => absurd h hne2), HKW.out⟩

set_option maxHeartbeats 4000000 in
theorem checkR_any (S : Nat → Prop) (t : Tm) (vs : List Value) (w : World) (ht : TmAt S t vs w) (hS : ∀ b, S b → b < w.heap.size) :
    Calls Tryz.prog 14 #[.agg vs.toArray] w fun e w' => ∃ lv, e = .returned lv ∧ LinksIs w.heap.size lv (checkS t) w' ∧ (checkS t = [] → lv = .slice none 0 0) ∧ Below w.heap.size w w' := by
  have HT := Lib.hid ht
  obtain ⟨hp, nv, a, cap, rfl, hnn, -⟩ := ht.parts
  obtain ⟨na, nc, rfl, _, _⟩ := hnn.slice
  have HB := Lib.hid (((Below.refl _ w).alloc (Nat.le_refl _) (.cells #[.int .i64 t.kind, .int .i64 t.int, .string t.text, .int .u32 t.cr, .slice na t.nums.length nc, .slice a t.args.length cap] 35 (0, 0))).alloc (by simp) (.cells #[.int .i64 0, .int .i64 0, .slice none 0 0] 108 (0, 0)))
  have HW := Lib.hid (part_ind S (w.heap.size + 1) (fun h => by have := hS _ h; omega) _ t _ 0 0 1 _ (Nat.le_refl _) (ht.below HB.out) (show Cells ((w.alloc (.cells #[.int .i64 t.kind, .int .i64 t.int, .string t.text, .int .u32 t.cr, .slice na t.nums.length nc, .slice a t.args.length cap] 35 (0, 0))).alloc (.cells #[.int .i64 0, .int .i64 0, .slice none 0 0] 108 (0, 0))) (w.heap.size + 1) 108 [.int .i64 (0 : Nat), .int .i64 (0 : Nat), .slice none 0 0] from by
    have := Cells.new (w.alloc (.cells #[.int .i64 t.kind, .int .i64 t.int, .string t.text, .int .u32 t.cr, .slice na t.nums.length nc, .slice a t.args.length cap] 35 (0, 0))) 108 [.int .i64 0, .int .i64 0, .slice none 0 0]
    rwa [World.size_alloc] at this) (by decide) (by decide) (by decide))
  rw [show ((1 : Nat) : Int) = 1 from rfl] at HW
  have HCK := Lib.hid (show (walkS t 0 0 1).1 = checkS t from rfl)
  clear ht hp hnn hS
  go_enter Tryz.func14, Tryz.ntmps14
  go_wp2_with fail
  refine HW.out.mono ?_
  rintro e w2 ⟨n, d, bv, rfl, hC, hl, hok, hk⟩
  have HB2 := Lib.hid (below_keep HB.out hk (by simp; omega) (fun k (hk : k = w.heap.size + 1) => by omega))
  have c2 := hC.cell 2
  simp only [List.getElem?_cons_zero, List.getElem?_cons_succ] at c2
  rw [HCK.out] at hl hok
  have HL := Lib.hid hl
  have HOK := Lib.hid (fun h => (hok h).1)
  clear hk hC HW HT HCK hok
  obtain ⟨ba, bn, bc, rfl⟩ : ∃ a n c, bv = .slice a n c := by
    rcases hl.shape with ⟨rfl, _⟩ | ⟨g, c, rfl, _⟩
    · exact ⟨_, _, _, rfl⟩
    · exact ⟨_, _, _, rfl⟩
  clear hl
  go_wp2
  go_ret
  exact ⟨_, rfl, HL.out.base (by omega), HOK.out, HB2.out⟩
end Go.Proofs.YtlahagabcnmdiaaGreatDoor
end
