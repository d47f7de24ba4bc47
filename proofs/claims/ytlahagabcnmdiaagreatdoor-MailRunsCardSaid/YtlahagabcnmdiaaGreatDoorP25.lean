/- Texts laid together: TrC, MaL, RxC, RxD, RxE, RxW. -/
import Derived.Test.YtlahagabcnmdiaaGreatDoorP22
import Derived.Test.YtlahagabcnmdiaaGreatDoorP24
import Derived.Test.YtlahagabcnmdiaaGreatDoorP16
import Derived.Test.YtlahagabcnmdiaaGreatDoorP10
section
/- The reference of layer 2: parts, Check. Printed by wip/trc.py. -/
open Go Go.RowKit
namespace Go.Proofs.YtlahagabcnmdiaaGreatDoor
set_option linter.unusedSimpArgs false
set_option linter.unusedVariables false

def RetLT (w : World) (l : List Lk) (e : Ending) (w' : World) : Prop := ∃ v, e = .returned v ∧ LinksIs w.heap.size v l w' ∧ Below w.heap.size w w'
theorem no02_any (at_ code : Int) (w : World) :
    Calls Tryz.prog 88 #[.int .i64 at_, .int .i64 code] w (RetLT w [⟨termL, at_, code⟩]) := by
  go_enter Tryz.func88, Tryz.ntmps88
  go_wp2_with (go_at_call 16; refine (one_any _ _ _ _).mono ?_; rintro e w' ⟨rfl, rfl⟩)
  go_ret
  exact ⟨_, rfl, LinksIs.lit ⟨termL, at_, code⟩ (Nat.le_refl _), (Below.refl _ _).alloc (Nat.le_refl _) _⟩
theorem over02_any (at_ : Int) (lv : Value) (k : Lk) (l : List Lk) (base : Nat) (w : World) (hlk : LinksIs base lv (k :: l) w) (hl : l.length ≤ 50) :
    Calls Tryz.prog 91 #[.int .i64 at_, lv] w (RetLT w (⟨termL, at_, k.code⟩ :: k :: l)) := by
  have HO := Lib.hid (mOver_any termL at_ k.code lv (k :: l) base w hlk (by simp; omega))
  obtain ⟨_, hn⟩ | ⟨g, c, rfl, hbg, hgw, hgc, hgm⟩ := hlk.shape
  · cases hn
  have c2 := hlk.cells 0 (by simp) 2 (by omega)
  simp only [lkV, List.getElem_cons_zero, List.getElem?_cons_zero, List.getElem?_cons_succ, Nat.zero_mul, Nat.zero_add] at c2
  have hlen : (0 : Int) < ((k :: l).length : Int) := by simp
  clear hlk
  go_enter Tryz.func91, Tryz.ntmps91
  go_wp2_with fail
  refine HO.out.mono ?_
  rintro e w1 ⟨v, rfl, h1, hb1⟩
  go_wp2
  go_ret
  exact ⟨_, rfl, h1, hb1⟩
theorem someL {base : Nat} {v : Value} {k : Lk} {l : List Lk} {w : World} (h : LinksIs base v (k :: l) w) : ∃ g n c, v = .slice (some ⟨g, 0, none⟩) n c := by
  rcases h.shape with ⟨_, hn⟩ | ⟨g, c, rfl, _⟩
  · cases hn
  · exact ⟨g, _, c, rfl⟩
/-- what part leaves behind -/
def RetPt (g : Nat) (w : World) (R : List Lk × Nat × Nat) (e : Ending) (w' : World) : Prop :=
  ∃ (n' dm' : Int) (bv : Value), e = .returned (.tuple #[]) ∧ Cells w' g 108 [.int .i64 n', .int .i64 dm', bv] ∧ LinksIs (g + 1) bv R.1 w' ∧ (R.1 = [] → bv = .slice none 0 0 ∧ n' = (R.2.1 : Int) ∧ dm' = (R.2.2 : Int)) ∧ Keep (Blk1 g) w w'
/-- a link laid into a walker -/
theorem bad_laid {g : Nat} {w wX w9 : World} {n1 d1 : Int} {lv : Value} {L : List Lk} (hC : Cells wX g 108 [.int .i64 n1, .int .i64 d1, .slice none 0 0]) (hK : Keep (Blk1 g) w wX) (hb : Below wX.heap.size wX w9) (hl : LinksIs wX.heap.size lv L w9) :
    Cells (w9.setCell ⟨g, 2, none⟩ lv) g 108 [.int .i64 n1, .int .i64 d1, lv] ∧ LinksIs (g + 1) lv L (w9.setCell ⟨g, 2, none⟩ lv) ∧ Keep (Blk1 g) w (w9.setCell ⟨g, 2, none⟩ lv) ∧ w9.cell? ⟨g, 2, none⟩ = some (.slice none 0 0) ∧ w9.frozen? ⟨g, 2, none⟩ = false := by
  have h1 := hC.below hb
  refine ⟨h1.set_ 2 lv, ?_, keepSet (hK.trans (keepB (S := Blk1 g) hb) (fun _ _ h => h)) 2 lv, h1.cell 2, h1.frozen 2⟩
  exact (hl.base hC.lt).frame fun k hk => Below.heap_setCell _ _ _ _ (by have := (hl.block hk).1; have := hC.lt; show k ≠ g; omega)

set_option maxHeartbeats 16000000 in
set_option maxRecDepth 100000 in
theorem part_ind (S : Nat → Prop) (g : Nat) (hg : ¬ S g) : ∀ (N : Nat) (t : Tm) (vs : List Value) (n dm d : Nat) (w : World), SizeOf.sizeOf t ≤ N → TmAt S t vs w → Cells w g 108 [.int .i64 n, .int .i64 dm, .slice none 0 0] → n ≤ 4096 → dm ≤ 256 → d ≤ 257 →
    Calls Tryz.prog 49 #[.pointer (some ⟨g, 0, none⟩), .agg vs.toArray, .int .i64 d] w (RetPt g w (walkS t n dm d)) := by
  intro N
  induction N with
  | zero => intro t vs n dm d w h; cases t; simp at h
  | succ N ih =>
    intro t vs n dm d w hN ht hC hn hdm hd
    have HIH := Lib.hid ih
    have HNN := Lib.hid hN
    have HW := Lib.hid (walkS_eq t n dm d)
    have HNO := Lib.hid (fun code W => no02_any n code W)
    have HT := Lib.hid ht
    obtain ⟨hp, nv, a, cap, rfl, hnn, hc, hcap, ha⟩ := ht.parts
    obtain ⟨na, nc, rfl, _, _⟩ := hnn.slice
    have HSZ := Lib.hid hp.sz
    have HB := Lib.hid ((Below.refl _ w).alloc (Nat.le_refl _) (.cells #[.int .i64 t.kind, .int .i64 t.int, .string t.text, .int .u32 t.cr, .slice na t.nums.length nc, .slice a t.args.length cap] 35 (0, 0)))
    have HA := Lib.hid ha
    have HBD := Lib.hid (And.intro hn (And.intro hdm hd))
    have K1 := Lib.hid (hC.alloc (.cells #[.int .i64 t.kind, .int .i64 t.int, .string t.text, .int .u32 t.cr, .slice na t.nums.length nc, .slice a t.args.length cap] 35 (0, 0)))
    have M1 := Lib.hid (Cells.new w 35 [.int .i64 t.kind, .int .i64 t.int, .string t.text, .int .u32 t.cr, .slice na t.nums.length nc, .slice a t.args.length cap])
    have hlt := hC.lt
    have hne : w.heap.size ≠ g := Nat.ne_of_gt hlt
    have HNE := Lib.hid hne
    have hcl : t.args.length ≤ 140737488351232 := by omega
    have HCL := Lib.hid hcl
    have hnq := fun (w : World) (a : Option Addr) (n c : Nat) => run_neq_slice_nil_any (P := Tryz.prog) w 45 112 a n c 0 0 Tryz.underlying45
    have hqq := fun (w : World) (a : Option Addr) (n c : Nat) => Lib.run_eql_slice_nil (P := Tryz.prog) w 45 112 a n c 0 0 Tryz.underlying45
    have hn0 : (n : Int) ≤ 4096 := by omega
    have hn0' : (0 : Int) ≤ (n : Int) := by omega
    have hd0 : (d : Int) ≤ 257 := by omega
    have hd0' : (0 : Int) ≤ (d : Int) := by omega
    clear ih hN ht hC hnn hc hcap ha hp hlt hne hn hdm hd
    go_enter Tryz.func49, Tryz.ntmps49
    go_upto_region 1 with (fail)
    generalize hW1 : World.alloc w _ = W1 at *
    clear hW1
    have c0 := K1.out.cell 0
    have c2 := K1.out.cell 2
    have f0 := K1.out.frozen 0
    have P1 := Lib.hid (show Cells _ g 108 [.int .i64 ((n : Int) + 1), .int .i64 dm, .slice none 0 0] from K1.out.set_ 0 (.int .i64 ((n : Int) + 1)))
    have c1 := P1.out.cell 1
    have f1 := P1.out.frozen 1
    have P2 := Lib.hid (show Cells _ g 108 [.int .i64 ((n : Int) + 1), .int .i64 (max (dm : Int) (d : Int)), .slice none 0 0] from P1.out.set_ 1 (.int .i64 (max (dm : Int) (d : Int))))
    have M3 := Lib.hid ((M1.out.far (p := ⟨g, 0, none⟩) HNE.out (.int .i64 ((n : Int) + 1))).far (p := ⟨g, 1, none⟩) HNE.out (.int .i64 (max (dm : Int) (d : Int))))
    have KP := Lib.hid (keepSet (keepSet (keepB (S := Blk1 g) HB.out) 0 (.int .i64 ((n : Int) + 1))) 1 (.int .i64 (max (dm : Int) (d : Int))))
    simp only [List.getElem?_cons_zero, List.getElem?_cons_succ] at c0 c1 c2
    go_upto_region 5 with (fail)
    clear c0 c1 c2 f0 f1 P1 K1 M1
    generalize hW3 : World.setCell _ ⟨g, 1, none⟩ _ = W3 at *
    clear hW3
    have m0 := M3.out.cell 0
    have m1 := M3.out.cell 1
    have m2 := M3.out.cell 2
    have m3 := M3.out.cell 3
    have m4 := M3.out.cell 4
    have m5 := M3.out.cell 5
    simp only [List.getElem?_cons_zero, List.getElem?_cons_succ] at m0 m1 m2 m3 m4 m5
    by_cases h1 : n = 4096
    · have q1 : (4096 : Int) ≤ (n : Int) := by omega
      have HR := Lib.hid (show walkS t n dm d = ([⟨termL, n, 5⟩], n, dm) by rw [HW.out, if_pos h1])
      clear h1 m0 m1 m2 m3 m4 m5
      go_wp2_with fail
      refine (HNO.out _ _).mono ?_
      rintro e w9 ⟨lv, rfl, hl, hb9⟩
      obtain ⟨hC10, hL10, hK10, c2, f2⟩ := bad_laid P2.out KP.out hb9 hl
      obtain ⟨sg, sn, sc, rfl⟩ := someL hl
      have HC10 := Lib.hid hC10
      have HL10 := Lib.hid hL10
      have HK10 := Lib.hid hK10
      have M9 := Lib.hid ((M3.out.below hb9).far (p := ⟨g, 2, none⟩) HNE.out (.slice (some ⟨sg, 0, none⟩) sn sc))
      have m5 := M9.out.cell 5
      have b2 := hC10.cell 2
      simp only [List.getElem?_cons_zero, List.getElem?_cons_succ] at m5 b2
      clear hb9 hl hC10 hL10 hK10
      go_wp2_with fail
      refine wp_loop_rounds 1 ?_
      rw [rounds_succ]
      rcases Nat.eq_zero_or_pos t.args.length with h0 | h0
      · have h0i : ¬ (0 : Int) < (t.args.length : Int) := by omega
        clear h0
        go_wp2
        go_end0
        rw [HR.out]
        exact ⟨_, _, _, rfl, HC10.out, HL10.out, (fun h => by cases h), HK10.out⟩
      · have h0i : (0 : Int) < (t.args.length : Int) := by omega
        clear h0
        go_wp2
        go_end0
        rw [HR.out]
        exact ⟨_, _, _, rfl, HC10.out, HL10.out, (fun h => by cases h), HK10.out⟩
    have q1 : ¬ (4096 : Int) ≤ (n : Int) := by have := HBD.out.1; omega
    by_cases h2 : 256 < d
    · have h2i : (256 : Int) < (d : Int) := by omega
      have HR := Lib.hid (show walkS t n dm d = ([⟨termL, n, 9⟩], n, dm) by rw [HW.out, if_neg h1, if_pos h2])
      clear h1 h2 m0 m1 m2 m3 m4 m5
      go_wp2_with fail
      refine (HNO.out _ _).mono ?_
      rintro e w9 ⟨lv, rfl, hl, hb9⟩
      obtain ⟨hC10, hL10, hK10, c2, f2⟩ := bad_laid P2.out KP.out hb9 hl
      obtain ⟨sg, sn, sc, rfl⟩ := someL hl
      have HC10 := Lib.hid hC10
      have HL10 := Lib.hid hL10
      have HK10 := Lib.hid hK10
      have M9 := Lib.hid ((M3.out.below hb9).far (p := ⟨g, 2, none⟩) HNE.out (.slice (some ⟨sg, 0, none⟩) sn sc))
      have m5 := M9.out.cell 5
      have b2 := hC10.cell 2
      simp only [List.getElem?_cons_zero, List.getElem?_cons_succ] at m5 b2
      clear hb9 hl hC10 hL10 hK10
      go_wp2_with fail
      refine wp_loop_rounds 1 ?_
      rw [rounds_succ]
      rcases Nat.eq_zero_or_pos t.args.length with h0 | h0
      · have h0i : ¬ (0 : Int) < (t.args.length : Int) := by omega
        clear h0
        go_wp2
        go_end0
        rw [HR.out]
        exact ⟨_, _, _, rfl, HC10.out, HL10.out, (fun h => by cases h), HK10.out⟩
      · have h0i : (0 : Int) < (t.args.length : Int) := by omega
        clear h0
        go_wp2
        go_end0
        rw [HR.out]
        exact ⟨_, _, _, rfl, HC10.out, HL10.out, (fun h => by cases h), HK10.out⟩
    have h2i : ¬ (256 : Int) < (d : Int) := by omega
    have HW2 := Lib.hid (show walkS t n dm d = if partS t n ≠ [] then (partS t n, n, dm) else walkLS t.args (n + 1) (max dm d) (d + 1) by rw [HW.out, if_neg h1, if_neg h2])
    have HN1 := Lib.hid h1
    have HD2 := Lib.hid h2
    have HF := Lib.hid (fun W h => formR_any S t [.int .i64 t.kind, .int .i64 t.int, .string t.text, .int .u32 t.cr, .slice na t.nums.length nc, .slice a t.args.length cap] W h)
    have HT3 := HT.out.keep KP.out (fun b _ hS e => hg (by rw [← (show b = g from e)]; exact hS))
    clear h1 h2
    go_wp2_with fail
    refine (HF.out W3 HT3).mono ?_
    rintro e w4 ⟨rfl, hb4⟩
    have P4 := Lib.hid (P2.out.below hb4)
    have M4 := Lib.hid (M3.out.below hb4)
    have KP4 := Lib.hid (KP.out.trans (keepB (S := Blk1 g) hb4) (fun _ _ h => h))
    clear hb4 HT3 HF m0 m1 m2 m3 m4 m5 P2 M3 KP
    have m0 := M4.out.cell 0
    have m1 := M4.out.cell 1
    have m2 := M4.out.cell 2
    have m5 := M4.out.cell 5
    simp only [List.getElem?_cons_zero, List.getElem?_cons_succ] at m0 m1 m2 m5
    cases hf : formS t with
    | false =>
      have hps : partS t n = [⟨termL, n, 40⟩] := by unfold partS; rw [if_pos hf]
      have HR := Lib.hid (show walkS t n dm d = ([⟨termL, n, 40⟩], n, dm) by rw [HW2.out, if_pos (by simp [hps]), hps])
      clear hf hps m0 m1 m2 m5
      go_wp2_with fail
      refine (HNO.out _ _).mono ?_
      rintro e w9 ⟨lv, rfl, hl, hb9⟩
      obtain ⟨hC10, hL10, hK10, c2, f2⟩ := bad_laid P4.out KP4.out hb9 hl
      obtain ⟨sg, sn, sc, rfl⟩ := someL hl
      have HC10 := Lib.hid hC10
      have HL10 := Lib.hid hL10
      have HK10 := Lib.hid hK10
      have M9 := Lib.hid ((M4.out.below hb9).far (p := ⟨g, 2, none⟩) HNE.out (.slice (some ⟨sg, 0, none⟩) sn sc))
      have m5 := M9.out.cell 5
      have b2 := hC10.cell 2
      simp only [List.getElem?_cons_zero, List.getElem?_cons_succ] at m5 b2
      clear hb9 hl hC10 hL10 hK10
      go_wp2_with fail
      refine wp_loop_rounds 1 ?_
      rw [rounds_succ]
      rcases Nat.eq_zero_or_pos t.args.length with h0 | h0
      · have h0i : ¬ (0 : Int) < (t.args.length : Int) := by omega
        clear h0
        go_wp2
        go_end0
        rw [HR.out]
        exact ⟨_, _, _, rfl, HC10.out, HL10.out, (fun h => by cases h), HK10.out⟩
      · have h0i : (0 : Int) < (t.args.length : Int) := by omega
        clear h0
        go_wp2
        go_end0
        rw [HR.out]
        exact ⟨_, _, _, rfl, HC10.out, HL10.out, (fun h => by cases h), HK10.out⟩
    | true =>
      by_cases k1 : t.kind = 1
      · have qk1 : (t.kind == 1) = true := beq_iff_eq.2 k1
        have qk2 : (t.kind == 2) = false := beq_eq_false_iff_ne.2 (by omega)
        have qk3 : (t.kind == 3) = false := beq_eq_false_iff_ne.2 (by omega)
        have qk4 : (t.kind == 4) = false := beq_eq_false_iff_ne.2 (by omega)
        by_cases r1 : t.int < -576460752303423488
        · have hps : partS t n = [⟨termL, n, 2⟩] := by unfold partS; rw [if_neg (by simp [hf]), if_pos k1, if_pos (.inl r1)]
          have HR := Lib.hid (show walkS t n dm d = ([⟨termL, n, 2⟩], n, dm) by rw [HW2.out, if_pos (by simp [hps]), hps])
          clear hf hps k1
          go_wp2_with fail
          refine (HNO.out _ _).mono ?_
          rintro e w9 ⟨lv, rfl, hl, hb9⟩
          obtain ⟨hC10, hL10, hK10, c2, f2⟩ := bad_laid P4.out KP4.out hb9 hl
          obtain ⟨sg, sn, sc, rfl⟩ := someL hl
          have HC10 := Lib.hid hC10
          have HL10 := Lib.hid hL10
          have HK10 := Lib.hid hK10
          have M9 := Lib.hid ((M4.out.below hb9).far (p := ⟨g, 2, none⟩) HNE.out (.slice (some ⟨sg, 0, none⟩) sn sc))
          have m5 := M9.out.cell 5
          have b2 := hC10.cell 2
          simp only [List.getElem?_cons_zero, List.getElem?_cons_succ] at m5 b2
          clear hb9 hl hC10 hL10 hK10
          go_wp2_with fail
          refine wp_loop_rounds 1 ?_
          rw [rounds_succ]
          rcases Nat.eq_zero_or_pos t.args.length with h0 | h0
          · have h0i : ¬ (0 : Int) < (t.args.length : Int) := by omega
            clear h0
            go_wp2
            go_end0
            rw [HR.out]
            exact ⟨_, _, _, rfl, HC10.out, HL10.out, (fun h => by cases h), HK10.out⟩
          · have h0i : (0 : Int) < (t.args.length : Int) := by omega
            clear h0
            go_wp2
            go_end0
            rw [HR.out]
            exact ⟨_, _, _, rfl, HC10.out, HL10.out, (fun h => by cases h), HK10.out⟩
        by_cases r2 : 576460752303423487 < t.int
        · have hps : partS t n = [⟨termL, n, 2⟩] := by unfold partS; rw [if_neg (by simp [hf]), if_pos k1, if_pos (.inr r2)]
          have HR := Lib.hid (show walkS t n dm d = ([⟨termL, n, 2⟩], n, dm) by rw [HW2.out, if_pos (by simp [hps]), hps])
          clear hf hps k1
          go_wp2_with fail
          refine (HNO.out _ _).mono ?_
          rintro e w9 ⟨lv, rfl, hl, hb9⟩
          obtain ⟨hC10, hL10, hK10, c2, f2⟩ := bad_laid P4.out KP4.out hb9 hl
          obtain ⟨sg, sn, sc, rfl⟩ := someL hl
          have HC10 := Lib.hid hC10
          have HL10 := Lib.hid hL10
          have HK10 := Lib.hid hK10
          have M9 := Lib.hid ((M4.out.below hb9).far (p := ⟨g, 2, none⟩) HNE.out (.slice (some ⟨sg, 0, none⟩) sn sc))
          have m5 := M9.out.cell 5
          have b2 := hC10.cell 2
          simp only [List.getElem?_cons_zero, List.getElem?_cons_succ] at m5 b2
          clear hb9 hl hC10 hL10 hK10
          go_wp2_with fail
          refine wp_loop_rounds 1 ?_
          rw [rounds_succ]
          rcases Nat.eq_zero_or_pos t.args.length with h0 | h0
          · have h0i : ¬ (0 : Int) < (t.args.length : Int) := by omega
            clear h0
            go_wp2
            go_end0
            rw [HR.out]
            exact ⟨_, _, _, rfl, HC10.out, HL10.out, (fun h => by cases h), HK10.out⟩
          · have h0i : (0 : Int) < (t.args.length : Int) := by omega
            clear h0
            go_wp2
            go_end0
            rw [HR.out]
            exact ⟨_, _, _, rfl, HC10.out, HL10.out, (fun h => by cases h), HK10.out⟩
        have hps : partS t n = [] := by unfold partS; rw [if_neg (by simp [hf]), if_pos k1, if_neg (by omega)]
        have HRL := Lib.hid (show walkS t n dm d = walkLS t.args (n + 1) (max dm d) (d + 1) by rw [HW2.out, if_neg (by simp [hps])])
        clear hf hps k1
        have P9 := Lib.hid (show Cells _ g 108 [.int .i64 ((n + 1 : Nat) : Int), .int .i64 ((max dm d : Nat) : Int), .slice none 0 0] from by
          have := P4.out
          rwa [show ((n + 1 : Nat) : Int) = (n : Int) + 1 by omega, show ((max dm d : Nat) : Int) = max (dm : Int) (d : Int) by omega])
        have MK := Lib.hid M4.out
        have KK := Lib.hid KP4.out
        go_wp2_with fail
        generalize hWX : w4 = WX at *
        clear hWX
        clear m0 m1 m2 m5 P4 M4 KP4
        go_loopw [12] (fun i wr => ∃ (kk : Nat), kk ≤ t.args.length ∧ i = .int .i64 kk ∧ Keep (Blk1 g) WX wr ∧ ((∃ n' dm' : Nat, walkLS (t.args.drop kk) n' dm' (d + 1) = walkLS t.args (n + 1) (max dm d) (d + 1) ∧ n' ≤ 4096 ∧ dm' ≤ 256 ∧ Cells wr g 108 [.int .i64 n', .int .i64 dm', .slice none 0 0]) ∨
          (∃ (n' dm' : Int) (sg sn sc : Nat), (walkLS t.args (n + 1) (max dm d) (d + 1)).1 ≠ [] ∧ Cells wr g 108 [.int .i64 n', .int .i64 dm', .slice (some ⟨sg, 0, none⟩) sn sc] ∧ LinksIs (g + 1) (.slice (some ⟨sg, 0, none⟩) sn sc) (walkLS t.args (n + 1) (max dm d) (d + 1)).1 wr))) (fun i _ => t.args.length - (intOf i).toNat)
        case atStart => exact ⟨0, Nat.zero_le _, rfl, Keep.refl _ _, .inl ⟨n + 1, max dm d, rfl, by have := HN1.out; have := HBD.out; omega, by have := HD2.out; have := HBD.out; omega, P9.out⟩⟩
        case round =>
          obtain ⟨kk, hkk, rfl, hKr, hst⟩ := hrel
          have HKR := Lib.hid hKr
          have HKW := Lib.hid (KK.out.trans hKr (fun _ _ h => h))
          have MR := Lib.hid (MK.out.keep hKr (fun e => HNE.out e))
          have m5 := MR.out.cell 5
          simp only [List.getElem?_cons_zero, List.getElem?_cons_succ] at m5
          have HST := Lib.hid hst
          clear hKr hst P9
          by_cases hk : kk < t.args.length
          · have hki : (kk : Int) < (t.args.length : Int) := by omega
            have hk0 : (0 : Int) ≤ (kk : Int) := by omega
            rcases HST.out with ⟨n', dm', hR, hn', hdm', hCr⟩ | ⟨n', dm', sg, sn, sc, hne2, hCr, hLr⟩
            · have HRR := Lib.hid hR
              have HB' := Lib.hid (And.intro hn' hdm')
              have b2 := hCr.cell 2
              simp only [List.getElem?_cons_zero, List.getElem?_cons_succ] at b2
              obtain ⟨g2, o2, vs2, hae, _, hcs, ht2⟩ := (HA.out.keep HKW.out (fun b _ hS e => hg (by rw [← (show b = g from e)]; exact hS))).get kk hk
              subst hae
              have HT2 := Lib.hid ht2
              obtain ⟨_, nv2, a2, cap2, hv2, hnn2, _⟩ := ht2.parts
              obtain ⟨na2, nc2, hnv2, _, _⟩ := hnn2.slice
              subst hv2
              subst hnv2
              have e0 := hcs 0 (by decide)
              have e1 := hcs 1 (by decide)
              have e2 := hcs 2 (by decide)
              have e3 := hcs 3 (by decide)
              have e4 := hcs 4 (by decide)
              have e5 := hcs 5 (by decide)
              simp only [List.getElem?_cons_zero, List.getElem?_cons_succ, ← Nat.add_assoc, Nat.add_zero] at e0 e1 e2 e3 e4 e5
              have HD := Lib.hid (walkLS_drop hk n' dm' (d + 1))
              have HCALL := Lib.hid (HIH.out t.args[kk] _ n' dm' (d + 1) _ (by have := Tm.arg_lt hk; have := HNN.out; omega) HT2.out hCr HB'.out.1 HB'.out.2 (by have := HD2.out; omega))
              rw [show ((d + 1 : Nat) : Int) = (d : Int) + 1 by omega] at HCALL
              clear hcs ht2 hnn2 hCr hR hn' hdm' HST
              go_wp2_with fail
              refine HCALL.out.mono ?_
              rintro e w5 ⟨n5, dm5, bv5, rfl, hC5, hL5, hok5, hk5⟩
              have HK5 := Lib.hid (HKR.out.trans hk5 (fun _ _ h => h))
              have HC5 := Lib.hid hC5
              have HL5 := Lib.hid hL5
              have HOK5 := Lib.hid hok5
              have HLE := Lib.hid (walkS_le t.args[kk] n' dm' (d + 1) HB'.out.1 (by have := HD2.out; omega) HB'.out.2)
              clear hk5 hC5 hok5 e0 e1 e2 e3 e4 e5 HCALL b2 m5
              generalize walkS t.args[kk] n' dm' (d + 1) = R1 at *
              obtain ⟨r1, n1, dm1⟩ := R1
              cases r1 with
              | cons q r =>
                obtain ⟨sg, sn, sc, rfl⟩ := someL hL5
                have HR2 := Lib.hid (show walkLS t.args (n + 1) (max dm d) (d + 1) = (q :: r, n1, dm1) by rw [← HRR.out, HD.out, if_pos (by simp)])
                clear hL5
                go_wp2
                go_roundw
                case rel => exact ⟨kk + 1, by omega, by go_num, HK5.out, .inr ⟨n5, dm5, sg, sn, sc, by rw [HR2.out]; simp, HC5.out, by rw [HR2.out]; exact HL5.out⟩⟩
                case measure => simp [intOf]; omega
              | nil =>
                obtain ⟨rfl, rfl, rfl⟩ := HOK5.out rfl
                have HR2 := Lib.hid (show walkLS (t.args.drop (kk + 1)) n1 dm1 (d + 1) = walkLS t.args (n + 1) (max dm d) (d + 1) by rw [← HRR.out, HD.out, if_neg (by simp)])
                clear hL5
                go_wp2
                go_roundw
                case rel => exact ⟨kk + 1, by omega, by go_num, HK5.out, .inl ⟨n1, dm1, HR2.out, HLE.out.1, HLE.out.2, HC5.out⟩⟩
                case measure => simp [intOf]; omega
            · have b2 := hCr.cell 2
              simp only [List.getElem?_cons_zero, List.getElem?_cons_succ] at b2
              have HCR := Lib.hid hCr
              have HLR := Lib.hid hLr
              have HNE2 := Lib.hid hne2
              clear hCr hLr hne2 HST
              go_wp2
              go_end0
              rw [HRL.out]
              exact ⟨_, _, _, rfl, HCR.out, HLR.out, (fun h => absurd h HNE2.out), HKW.out⟩
          · have hki : ¬ (kk : Int) < (t.args.length : Int) := by omega
            have hdr : t.args.drop kk = [] := List.drop_eq_nil_of_le (by omega)
            clear hkk
            go_wp2
            go_end0
            rw [HRL.out]
            rcases HST.out with ⟨n', dm', hR, hn', hdm', hCr⟩ | ⟨n', dm', sg, sn, sc, hne2, hCr, hLr⟩
            · rw [hdr, walkLS] at hR
              rw [← hR]
              exact ⟨_, _, _, rfl, hCr, LinksIs.nil _ _, (fun _ => ⟨rfl, rfl, rfl⟩), HKW.out⟩
            · exact ⟨_, _, _, rfl, hCr, hLr, (fun h => absurd h hne2), HKW.out⟩
      by_cases k2 : t.kind = 2
      · have qk1 : (t.kind == 1) = false := beq_eq_false_iff_ne.2 k1
        have qk2 : (t.kind == 2) = true := beq_iff_eq.2 k2
        have HPS := Lib.hid (show partS t n = overL n (quoteS t.text).2 by unfold partS; rw [if_neg (by simp [hf]), if_neg k1, if_pos k2])
        clear m1 hf k1 k2
        have HQ := Lib.hid (quoteR_nil t.text w4 HSZ.out)
        go_wp2_with fail
        refine HQ.out.mono ?_
        rintro e w5 ⟨lv5, rfl, hl5, hb5, hnil5⟩
        have P5 := Lib.hid (P4.out.below hb5)
        have M5 := Lib.hid (M4.out.below hb5)
        have KP5 := Lib.hid (KP4.out.trans (keepB (S := Blk1 g) hb5) (fun _ _ h => h))
        have HL5 := Lib.hid hl5
        have m5 := M5.out.cell 5
        simp only [List.getElem?_cons_zero, List.getElem?_cons_succ] at m5
        clear hb5
        cases hl : (quoteS t.text).2 with
        | nil =>
          obtain rfl := hnil5 hl
          have hps : partS t n = [] := HPS.out.trans (by rw [hl]; rfl)
          have HRL := Lib.hid (show walkS t n dm d = walkLS t.args (n + 1) (max dm d) (d + 1) by rw [HW2.out, if_neg (by simp [hps])])
          clear hps hl hl5 hnil5
          have P9 := Lib.hid (show Cells _ g 108 [.int .i64 ((n + 1 : Nat) : Int), .int .i64 ((max dm d : Nat) : Int), .slice none 0 0] from by
            have := P5.out
            rwa [show ((n + 1 : Nat) : Int) = (n : Int) + 1 by omega, show ((max dm d : Nat) : Int) = max (dm : Int) (d : Int) by omega])
          have MK := Lib.hid M5.out
          have KK := Lib.hid KP5.out
          go_wp2_with fail
          generalize hWX : w5 = WX at *
          clear hWX
          clear m5 P5 M5 KP5
          go_loopw [12] (fun i wr => ∃ (kk : Nat), kk ≤ t.args.length ∧ i = .int .i64 kk ∧ Keep (Blk1 g) WX wr ∧ ((∃ n' dm' : Nat, walkLS (t.args.drop kk) n' dm' (d + 1) = walkLS t.args (n + 1) (max dm d) (d + 1) ∧ n' ≤ 4096 ∧ dm' ≤ 256 ∧ Cells wr g 108 [.int .i64 n', .int .i64 dm', .slice none 0 0]) ∨
            (∃ (n' dm' : Int) (sg sn sc : Nat), (walkLS t.args (n + 1) (max dm d) (d + 1)).1 ≠ [] ∧ Cells wr g 108 [.int .i64 n', .int .i64 dm', .slice (some ⟨sg, 0, none⟩) sn sc] ∧ LinksIs (g + 1) (.slice (some ⟨sg, 0, none⟩) sn sc) (walkLS t.args (n + 1) (max dm d) (d + 1)).1 wr))) (fun i _ => t.args.length - (intOf i).toNat)
          case atStart => exact ⟨0, Nat.zero_le _, rfl, Keep.refl _ _, .inl ⟨n + 1, max dm d, rfl, by have := HN1.out; have := HBD.out; omega, by have := HD2.out; have := HBD.out; omega, P9.out⟩⟩
          case round =>
            obtain ⟨kk, hkk, rfl, hKr, hst⟩ := hrel
            have HKR := Lib.hid hKr
            have HKW := Lib.hid (KK.out.trans hKr (fun _ _ h => h))
            have MR := Lib.hid (MK.out.keep hKr (fun e => HNE.out e))
            have m5 := MR.out.cell 5
            simp only [List.getElem?_cons_zero, List.getElem?_cons_succ] at m5
            have HST := Lib.hid hst
            clear hKr hst P9
            by_cases hk : kk < t.args.length
            · have hki : (kk : Int) < (t.args.length : Int) := by omega
              have hk0 : (0 : Int) ≤ (kk : Int) := by omega
              rcases HST.out with ⟨n', dm', hR, hn', hdm', hCr⟩ | ⟨n', dm', sg, sn, sc, hne2, hCr, hLr⟩
              · have HRR := Lib.hid hR
                have HB' := Lib.hid (And.intro hn' hdm')
                have b2 := hCr.cell 2
                simp only [List.getElem?_cons_zero, List.getElem?_cons_succ] at b2
                obtain ⟨g2, o2, vs2, hae, _, hcs, ht2⟩ := (HA.out.keep HKW.out (fun b _ hS e => hg (by rw [← (show b = g from e)]; exact hS))).get kk hk
                subst hae
                have HT2 := Lib.hid ht2
                obtain ⟨_, nv2, a2, cap2, hv2, hnn2, _⟩ := ht2.parts
                obtain ⟨na2, nc2, hnv2, _, _⟩ := hnn2.slice
                subst hv2
                subst hnv2
                have e0 := hcs 0 (by decide)
                have e1 := hcs 1 (by decide)
                have e2 := hcs 2 (by decide)
                have e3 := hcs 3 (by decide)
                have e4 := hcs 4 (by decide)
                have e5 := hcs 5 (by decide)
                simp only [List.getElem?_cons_zero, List.getElem?_cons_succ, ← Nat.add_assoc, Nat.add_zero] at e0 e1 e2 e3 e4 e5
                have HD := Lib.hid (walkLS_drop hk n' dm' (d + 1))
                have HCALL := Lib.hid (HIH.out t.args[kk] _ n' dm' (d + 1) _ (by have := Tm.arg_lt hk; have := HNN.out; omega) HT2.out hCr HB'.out.1 HB'.out.2 (by have := HD2.out; omega))
                rw [show ((d + 1 : Nat) : Int) = (d : Int) + 1 by omega] at HCALL
                clear hcs ht2 hnn2 hCr hR hn' hdm' HST
                go_wp2_with fail
                refine HCALL.out.mono ?_
                rintro e w5 ⟨n5, dm5, bv5, rfl, hC5, hL5, hok5, hk5⟩
                have HK5 := Lib.hid (HKR.out.trans hk5 (fun _ _ h => h))
                have HC5 := Lib.hid hC5
                have HL5 := Lib.hid hL5
                have HOK5 := Lib.hid hok5
                have HLE := Lib.hid (walkS_le t.args[kk] n' dm' (d + 1) HB'.out.1 (by have := HD2.out; omega) HB'.out.2)
                clear hk5 hC5 hok5 e0 e1 e2 e3 e4 e5 HCALL b2 m5
                generalize walkS t.args[kk] n' dm' (d + 1) = R1 at *
                obtain ⟨r1, n1, dm1⟩ := R1
                cases r1 with
                | cons q r =>
                  obtain ⟨sg, sn, sc, rfl⟩ := someL hL5
                  have HR2 := Lib.hid (show walkLS t.args (n + 1) (max dm d) (d + 1) = (q :: r, n1, dm1) by rw [← HRR.out, HD.out, if_pos (by simp)])
                  clear hL5
                  go_wp2
                  go_roundw
                  case rel => exact ⟨kk + 1, by omega, by go_num, HK5.out, .inr ⟨n5, dm5, sg, sn, sc, by rw [HR2.out]; simp, HC5.out, by rw [HR2.out]; exact HL5.out⟩⟩
                  case measure => simp [intOf]; omega
                | nil =>
                  obtain ⟨rfl, rfl, rfl⟩ := HOK5.out rfl
                  have HR2 := Lib.hid (show walkLS (t.args.drop (kk + 1)) n1 dm1 (d + 1) = walkLS t.args (n + 1) (max dm d) (d + 1) by rw [← HRR.out, HD.out, if_neg (by simp)])
                  clear hL5
                  go_wp2
                  go_roundw
                  case rel => exact ⟨kk + 1, by omega, by go_num, HK5.out, .inl ⟨n1, dm1, HR2.out, HLE.out.1, HLE.out.2, HC5.out⟩⟩
                  case measure => simp [intOf]; omega
              · have b2 := hCr.cell 2
                simp only [List.getElem?_cons_zero, List.getElem?_cons_succ] at b2
                have HCR := Lib.hid hCr
                have HLR := Lib.hid hLr
                have HNE2 := Lib.hid hne2
                clear hCr hLr hne2 HST
                go_wp2
                go_end0
                rw [HRL.out]
                exact ⟨_, _, _, rfl, HCR.out, HLR.out, (fun h => absurd h HNE2.out), HKW.out⟩
            · have hki : ¬ (kk : Int) < (t.args.length : Int) := by omega
              have hdr : t.args.drop kk = [] := List.drop_eq_nil_of_le (by omega)
              clear hkk
              go_wp2
              go_end0
              rw [HRL.out]
              rcases HST.out with ⟨n', dm', hR, hn', hdm', hCr⟩ | ⟨n', dm', sg, sn, sc, hne2, hCr, hLr⟩
              · rw [hdr, walkLS] at hR
                rw [← hR]
                exact ⟨_, _, _, rfl, hCr, LinksIs.nil _ _, (fun _ => ⟨rfl, rfl, rfl⟩), HKW.out⟩
              · exact ⟨_, _, _, rfl, hCr, hLr, (fun h => absurd h hne2), HKW.out⟩
        | cons q r =>
          rw [hl] at hl5 HL5
          have hps : partS t n = ⟨termL, n, q.code⟩ :: q :: r := HPS.out.trans (by rw [hl]; rfl)
          have HR := Lib.hid (show walkS t n dm d = (⟨termL, n, q.code⟩ :: q :: r, n, dm) by rw [HW2.out, if_pos (by simp [hps]), hps])
          have HLR := Lib.hid (show r.length ≤ 50 from by have h1 : ((quoteS t.text).2).length ≤ 1 := quoteS_len t.text; rw [hl] at h1; simp at h1; simp [h1])
          have HOV := Lib.hid (over02_any n lv5 q r _ w5 HL5.out HLR.out)
          obtain ⟨sg5, sn5, sc5, rfl⟩ := someL hl5
          clear hps hl hl5 hnil5 m5
          go_wp2_with fail
          refine HOV.out.mono ?_
          rintro e w9 ⟨lv, rfl, hl, hb9⟩
          obtain ⟨hC10, hL10, hK10, c2, f2⟩ := bad_laid P5.out KP5.out hb9 hl
          obtain ⟨sg, sn, sc, rfl⟩ := someL hl
          have HC10 := Lib.hid hC10
          have HL10 := Lib.hid hL10
          have HK10 := Lib.hid hK10
          have M9 := Lib.hid ((M5.out.below hb9).far (p := ⟨g, 2, none⟩) HNE.out (.slice (some ⟨sg, 0, none⟩) sn sc))
          have m5 := M9.out.cell 5
          have b2 := hC10.cell 2
          simp only [List.getElem?_cons_zero, List.getElem?_cons_succ] at m5 b2
          clear hb9 hl hC10 hL10 hK10
          go_wp2_with fail
          refine wp_loop_rounds 1 ?_
          rw [rounds_succ]
          rcases Nat.eq_zero_or_pos t.args.length with h0 | h0
          · have h0i : ¬ (0 : Int) < (t.args.length : Int) := by omega
            clear h0
            go_wp2
            go_end0
            rw [HR.out]
            exact ⟨_, _, _, rfl, HC10.out, HL10.out, (fun h => by cases h), HK10.out⟩
          · have h0i : (0 : Int) < (t.args.length : Int) := by omega
            clear h0
            go_wp2
            go_end0
            rw [HR.out]
            exact ⟨_, _, _, rfl, HC10.out, HL10.out, (fun h => by cases h), HK10.out⟩
      by_cases k34 : t.kind = 3 ∨ t.kind = 4
      · have qk1 : (t.kind == 1) = false := beq_eq_false_iff_ne.2 k1
        have qk2 : (t.kind == 2) = false := beq_eq_false_iff_ne.2 k2
        have HPS := Lib.hid (show partS t n = overL n (nodeS t.text).2.2 by unfold partS; rw [if_neg (by simp [hf]), if_neg k1, if_neg k2, if_pos k34])
        have HQ := Lib.hid (nodeR_nil t.text w4 HSZ.out)
        rw [nodeRS_eq] at HQ
        clear m1 hf k1 k2
        rcases k34 with k3 | k3
        · have qk3 : (t.kind == 3) = true := beq_iff_eq.2 k3
          clear k3
          go_wp2_with fail
          refine HQ.out.mono ?_
          rintro e w5 ⟨lv5, rfl, hl5, hb5, hnil5⟩
          have P5 := Lib.hid (P4.out.below hb5)
          have M5 := Lib.hid (M4.out.below hb5)
          have KP5 := Lib.hid (KP4.out.trans (keepB (S := Blk1 g) hb5) (fun _ _ h => h))
          have HL5 := Lib.hid hl5
          have m5 := M5.out.cell 5
          simp only [List.getElem?_cons_zero, List.getElem?_cons_succ] at m5
          clear hb5
          cases hl : (nodeS t.text).2.2 with
          | nil =>
            obtain rfl := hnil5 hl
            have hps : partS t n = [] := HPS.out.trans (by rw [hl]; rfl)
            have HRL := Lib.hid (show walkS t n dm d = walkLS t.args (n + 1) (max dm d) (d + 1) by rw [HW2.out, if_neg (by simp [hps])])
            clear hps hl hl5 hnil5
            have P9 := Lib.hid (show Cells _ g 108 [.int .i64 ((n + 1 : Nat) : Int), .int .i64 ((max dm d : Nat) : Int), .slice none 0 0] from by
              have := P5.out
              rwa [show ((n + 1 : Nat) : Int) = (n : Int) + 1 by omega, show ((max dm d : Nat) : Int) = max (dm : Int) (d : Int) by omega])
            have MK := Lib.hid M5.out
            have KK := Lib.hid KP5.out
            go_wp2_with fail
            generalize hWX : w5 = WX at *
            clear hWX
            clear m5 P5 M5 KP5
            go_loopw [12] (fun i wr => ∃ (kk : Nat), kk ≤ t.args.length ∧ i = .int .i64 kk ∧ Keep (Blk1 g) WX wr ∧ ((∃ n' dm' : Nat, walkLS (t.args.drop kk) n' dm' (d + 1) = walkLS t.args (n + 1) (max dm d) (d + 1) ∧ n' ≤ 4096 ∧ dm' ≤ 256 ∧ Cells wr g 108 [.int .i64 n', .int .i64 dm', .slice none 0 0]) ∨
              (∃ (n' dm' : Int) (sg sn sc : Nat), (walkLS t.args (n + 1) (max dm d) (d + 1)).1 ≠ [] ∧ Cells wr g 108 [.int .i64 n', .int .i64 dm', .slice (some ⟨sg, 0, none⟩) sn sc] ∧ LinksIs (g + 1) (.slice (some ⟨sg, 0, none⟩) sn sc) (walkLS t.args (n + 1) (max dm d) (d + 1)).1 wr))) (fun i _ => t.args.length - (intOf i).toNat)
            case atStart => exact ⟨0, Nat.zero_le _, rfl, Keep.refl _ _, .inl ⟨n + 1, max dm d, rfl, by have := HN1.out; have := HBD.out; omega, by have := HD2.out; have := HBD.out; omega, P9.out⟩⟩
            case round =>
              obtain ⟨kk, hkk, rfl, hKr, hst⟩ := hrel
              have HKR := Lib.hid hKr
              have HKW := Lib.hid (KK.out.trans hKr (fun _ _ h => h))
              have MR := Lib.hid (MK.out.keep hKr (fun e => HNE.out e))
              have m5 := MR.out.cell 5
              simp only [List.getElem?_cons_zero, List.getElem?_cons_succ] at m5
              have HST := Lib.hid hst
              clear hKr hst P9
              by_cases hk : kk < t.args.length
              · have hki : (kk : Int) < (t.args.length : Int) := by omega
                have hk0 : (0 : Int) ≤ (kk : Int) := by omega
                rcases HST.out with ⟨n', dm', hR, hn', hdm', hCr⟩ | ⟨n', dm', sg, sn, sc, hne2, hCr, hLr⟩
                · have HRR := Lib.hid hR
                  have HB' := Lib.hid (And.intro hn' hdm')
                  have b2 := hCr.cell 2
                  simp only [List.getElem?_cons_zero, List.getElem?_cons_succ] at b2
                  obtain ⟨g2, o2, vs2, hae, _, hcs, ht2⟩ := (HA.out.keep HKW.out (fun b _ hS e => hg (by rw [← (show b = g from e)]; exact hS))).get kk hk
                  subst hae
                  have HT2 := Lib.hid ht2
                  obtain ⟨_, nv2, a2, cap2, hv2, hnn2, _⟩ := ht2.parts
                  obtain ⟨na2, nc2, hnv2, _, _⟩ := hnn2.slice
                  subst hv2
                  subst hnv2
                  have e0 := hcs 0 (by decide)
                  have e1 := hcs 1 (by decide)
                  have e2 := hcs 2 (by decide)
                  have e3 := hcs 3 (by decide)
                  have e4 := hcs 4 (by decide)
                  have e5 := hcs 5 (by decide)
                  simp only [List.getElem?_cons_zero, List.getElem?_cons_succ, ← Nat.add_assoc, Nat.add_zero] at e0 e1 e2 e3 e4 e5
                  have HD := Lib.hid (walkLS_drop hk n' dm' (d + 1))
                  have HCALL := Lib.hid (HIH.out t.args[kk] _ n' dm' (d + 1) _ (by have := Tm.arg_lt hk; have := HNN.out; omega) HT2.out hCr HB'.out.1 HB'.out.2 (by have := HD2.out; omega))
                  rw [show ((d + 1 : Nat) : Int) = (d : Int) + 1 by omega] at HCALL
                  clear hcs ht2 hnn2 hCr hR hn' hdm' HST
                  go_wp2_with fail
                  refine HCALL.out.mono ?_
                  rintro e w5 ⟨n5, dm5, bv5, rfl, hC5, hL5, hok5, hk5⟩
                  have HK5 := Lib.hid (HKR.out.trans hk5 (fun _ _ h => h))
                  have HC5 := Lib.hid hC5
                  have HL5 := Lib.hid hL5
                  have HOK5 := Lib.hid hok5
                  have HLE := Lib.hid (walkS_le t.args[kk] n' dm' (d + 1) HB'.out.1 (by have := HD2.out; omega) HB'.out.2)
                  clear hk5 hC5 hok5 e0 e1 e2 e3 e4 e5 HCALL b2 m5
                  generalize walkS t.args[kk] n' dm' (d + 1) = R1 at *
                  obtain ⟨r1, n1, dm1⟩ := R1
                  cases r1 with
                  | cons q r =>
                    obtain ⟨sg, sn, sc, rfl⟩ := someL hL5
                    have HR2 := Lib.hid (show walkLS t.args (n + 1) (max dm d) (d + 1) = (q :: r, n1, dm1) by rw [← HRR.out, HD.out, if_pos (by simp)])
                    clear hL5
                    go_wp2
                    go_roundw
                    case rel => exact ⟨kk + 1, by omega, by go_num, HK5.out, .inr ⟨n5, dm5, sg, sn, sc, by rw [HR2.out]; simp, HC5.out, by rw [HR2.out]; exact HL5.out⟩⟩
                    case measure => simp [intOf]; omega
                  | nil =>
                    obtain ⟨rfl, rfl, rfl⟩ := HOK5.out rfl
                    have HR2 := Lib.hid (show walkLS (t.args.drop (kk + 1)) n1 dm1 (d + 1) = walkLS t.args (n + 1) (max dm d) (d + 1) by rw [← HRR.out, HD.out, if_neg (by simp)])
                    clear hL5
                    go_wp2
                    go_roundw
                    case rel => exact ⟨kk + 1, by omega, by go_num, HK5.out, .inl ⟨n1, dm1, HR2.out, HLE.out.1, HLE.out.2, HC5.out⟩⟩
                    case measure => simp [intOf]; omega
                · have b2 := hCr.cell 2
                  simp only [List.getElem?_cons_zero, List.getElem?_cons_succ] at b2
                  have HCR := Lib.hid hCr
                  have HLR := Lib.hid hLr
                  have HNE2 := Lib.hid hne2
                  clear hCr hLr hne2 HST
                  go_wp2
                  go_end0
                  rw [HRL.out]
                  exact ⟨_, _, _, rfl, HCR.out, HLR.out, (fun h => absurd h HNE2.out), HKW.out⟩
              · have hki : ¬ (kk : Int) < (t.args.length : Int) := by omega
                have hdr : t.args.drop kk = [] := List.drop_eq_nil_of_le (by omega)
                clear hkk
                go_wp2
                go_end0
                rw [HRL.out]
                rcases HST.out with ⟨n', dm', hR, hn', hdm', hCr⟩ | ⟨n', dm', sg, sn, sc, hne2, hCr, hLr⟩
                · rw [hdr, walkLS] at hR
                  rw [← hR]
                  exact ⟨_, _, _, rfl, hCr, LinksIs.nil _ _, (fun _ => ⟨rfl, rfl, rfl⟩), HKW.out⟩
                · exact ⟨_, _, _, rfl, hCr, hLr, (fun h => absurd h hne2), HKW.out⟩
          | cons q r =>
            rw [hl] at hl5 HL5
            have hps : partS t n = ⟨termL, n, q.code⟩ :: q :: r := HPS.out.trans (by rw [hl]; rfl)
            have HR := Lib.hid (show walkS t n dm d = (⟨termL, n, q.code⟩ :: q :: r, n, dm) by rw [HW2.out, if_pos (by simp [hps]), hps])
            have HLR := Lib.hid (show r.length ≤ 50 from by have h1 : ((nodeS t.text).2.2).length ≤ 1 := (by unfold nodeS; split <;> simp); rw [hl] at h1; simp at h1; simp [h1])
            have HOV := Lib.hid (over02_any n lv5 q r _ w5 HL5.out HLR.out)
            obtain ⟨sg5, sn5, sc5, rfl⟩ := someL hl5
            clear hps hl hl5 hnil5 m5
            go_wp2_with fail
            refine HOV.out.mono ?_
            rintro e w9 ⟨lv, rfl, hl, hb9⟩
            obtain ⟨hC10, hL10, hK10, c2, f2⟩ := bad_laid P5.out KP5.out hb9 hl
            obtain ⟨sg, sn, sc, rfl⟩ := someL hl
            have HC10 := Lib.hid hC10
            have HL10 := Lib.hid hL10
            have HK10 := Lib.hid hK10
            have M9 := Lib.hid ((M5.out.below hb9).far (p := ⟨g, 2, none⟩) HNE.out (.slice (some ⟨sg, 0, none⟩) sn sc))
            have m5 := M9.out.cell 5
            have b2 := hC10.cell 2
            simp only [List.getElem?_cons_zero, List.getElem?_cons_succ] at m5 b2
            clear hb9 hl hC10 hL10 hK10
            go_wp2_with fail
            refine wp_loop_rounds 1 ?_
            rw [rounds_succ]
            rcases Nat.eq_zero_or_pos t.args.length with h0 | h0
            · have h0i : ¬ (0 : Int) < (t.args.length : Int) := by omega
              clear h0
              go_wp2
              go_end0
              rw [HR.out]
              exact ⟨_, _, _, rfl, HC10.out, HL10.out, (fun h => by cases h), HK10.out⟩
            · have h0i : (0 : Int) < (t.args.length : Int) := by omega
              clear h0
              go_wp2
              go_end0
              rw [HR.out]
              exact ⟨_, _, _, rfl, HC10.out, HL10.out, (fun h => by cases h), HK10.out⟩
        · have qk3 : (t.kind == 3) = false := beq_eq_false_iff_ne.2 (by omega)
          have qk4 : (t.kind == 4) = true := beq_iff_eq.2 k3
          clear k3
          go_wp2_with fail
          refine HQ.out.mono ?_
          rintro e w5 ⟨lv5, rfl, hl5, hb5, hnil5⟩
          have P5 := Lib.hid (P4.out.below hb5)
          have M5 := Lib.hid (M4.out.below hb5)
          have KP5 := Lib.hid (KP4.out.trans (keepB (S := Blk1 g) hb5) (fun _ _ h => h))
          have HL5 := Lib.hid hl5
          have m5 := M5.out.cell 5
          simp only [List.getElem?_cons_zero, List.getElem?_cons_succ] at m5
          clear hb5
          cases hl : (nodeS t.text).2.2 with
          | nil =>
            obtain rfl := hnil5 hl
            have hps : partS t n = [] := HPS.out.trans (by rw [hl]; rfl)
            have HRL := Lib.hid (show walkS t n dm d = walkLS t.args (n + 1) (max dm d) (d + 1) by rw [HW2.out, if_neg (by simp [hps])])
            clear hps hl hl5 hnil5
            have P9 := Lib.hid (show Cells _ g 108 [.int .i64 ((n + 1 : Nat) : Int), .int .i64 ((max dm d : Nat) : Int), .slice none 0 0] from by
              have := P5.out
              rwa [show ((n + 1 : Nat) : Int) = (n : Int) + 1 by omega, show ((max dm d : Nat) : Int) = max (dm : Int) (d : Int) by omega])
            have MK := Lib.hid M5.out
            have KK := Lib.hid KP5.out
            go_wp2_with fail
            generalize hWX : w5 = WX at *
            clear hWX
            clear m5 P5 M5 KP5
            go_loopw [12] (fun i wr => ∃ (kk : Nat), kk ≤ t.args.length ∧ i = .int .i64 kk ∧ Keep (Blk1 g) WX wr ∧ ((∃ n' dm' : Nat, walkLS (t.args.drop kk) n' dm' (d + 1) = walkLS t.args (n + 1) (max dm d) (d + 1) ∧ n' ≤ 4096 ∧ dm' ≤ 256 ∧ Cells wr g 108 [.int .i64 n', .int .i64 dm', .slice none 0 0]) ∨
              (∃ (n' dm' : Int) (sg sn sc : Nat), (walkLS t.args (n + 1) (max dm d) (d + 1)).1 ≠ [] ∧ Cells wr g 108 [.int .i64 n', .int .i64 dm', .slice (some ⟨sg, 0, none⟩) sn sc] ∧ LinksIs (g + 1) (.slice (some ⟨sg, 0, none⟩) sn sc) (walkLS t.args (n + 1) (max dm d) (d + 1)).1 wr))) (fun i _ => t.args.length - (intOf i).toNat)
            case atStart => exact ⟨0, Nat.zero_le _, rfl, Keep.refl _ _, .inl ⟨n + 1, max dm d, rfl, by have := HN1.out; have := HBD.out; omega, by have := HD2.out; have := HBD.out; omega, P9.out⟩⟩
            case round =>
              obtain ⟨kk, hkk, rfl, hKr, hst⟩ := hrel
              have HKR := Lib.hid hKr
              have HKW := Lib.hid (KK.out.trans hKr (fun _ _ h => h))
              have MR := Lib.hid (MK.out.keep hKr (fun e => HNE.out e))
              have m5 := MR.out.cell 5
              simp only [List.getElem?_cons_zero, List.getElem?_cons_succ] at m5
              have HST := Lib.hid hst
              clear hKr hst P9
              by_cases hk : kk < t.args.length
              · have hki : (kk : Int) < (t.args.length : Int) := by omega
                have hk0 : (0 : Int) ≤ (kk : Int) := by omega
                rcases HST.out with ⟨n', dm', hR, hn', hdm', hCr⟩ | ⟨n', dm', sg, sn, sc, hne2, hCr, hLr⟩
                · have HRR := Lib.hid hR
                  have HB' := Lib.hid (And.intro hn' hdm')
                  have b2 := hCr.cell 2
                  simp only [List.getElem?_cons_zero, List.getElem?_cons_succ] at b2
                  obtain ⟨g2, o2, vs2, hae, _, hcs, ht2⟩ := (HA.out.keep HKW.out (fun b _ hS e => hg (by rw [← (show b = g from e)]; exact hS))).get kk hk
                  subst hae
                  have HT2 := Lib.hid ht2
                  obtain ⟨_, nv2, a2, cap2, hv2, hnn2, _⟩ := ht2.parts
                  obtain ⟨na2, nc2, hnv2, _, _⟩ := hnn2.slice
                  subst hv2
                  subst hnv2
                  have e0 := hcs 0 (by decide)
                  have e1 := hcs 1 (by decide)
                  have e2 := hcs 2 (by decide)
                  have e3 := hcs 3 (by decide)
                  have e4 := hcs 4 (by decide)
                  have e5 := hcs 5 (by decide)
                  simp only [List.getElem?_cons_zero, List.getElem?_cons_succ, ← Nat.add_assoc, Nat.add_zero] at e0 e1 e2 e3 e4 e5
                  have HD := Lib.hid (walkLS_drop hk n' dm' (d + 1))
                  have HCALL := Lib.hid (HIH.out t.args[kk] _ n' dm' (d + 1) _ (by have := Tm.arg_lt hk; have := HNN.out; omega) HT2.out hCr HB'.out.1 HB'.out.2 (by have := HD2.out; omega))
                  rw [show ((d + 1 : Nat) : Int) = (d : Int) + 1 by omega] at HCALL
                  clear hcs ht2 hnn2 hCr hR hn' hdm' HST
                  go_wp2_with fail
                  refine HCALL.out.mono ?_
                  rintro e w5 ⟨n5, dm5, bv5, rfl, hC5, hL5, hok5, hk5⟩
                  have HK5 := Lib.hid (HKR.out.trans hk5 (fun _ _ h => h))
                  have HC5 := Lib.hid hC5
                  have HL5 := Lib.hid hL5
                  have HOK5 := Lib.hid hok5
                  have HLE := Lib.hid (walkS_le t.args[kk] n' dm' (d + 1) HB'.out.1 (by have := HD2.out; omega) HB'.out.2)
                  clear hk5 hC5 hok5 e0 e1 e2 e3 e4 e5 HCALL b2 m5
                  generalize walkS t.args[kk] n' dm' (d + 1) = R1 at *
                  obtain ⟨r1, n1, dm1⟩ := R1
                  cases r1 with
                  | cons q r =>
                    obtain ⟨sg, sn, sc, rfl⟩ := someL hL5
                    have HR2 := Lib.hid (show walkLS t.args (n + 1) (max dm d) (d + 1) = (q :: r, n1, dm1) by rw [← HRR.out, HD.out, if_pos (by simp)])
                    clear hL5
                    go_wp2
                    go_roundw
                    case rel => exact ⟨kk + 1, by omega, by go_num, HK5.out, .inr ⟨n5, dm5, sg, sn, sc, by rw [HR2.out]; simp, HC5.out, by rw [HR2.out]; exact HL5.out⟩⟩
                    case measure => simp [intOf]; omega
                  | nil =>
                    obtain ⟨rfl, rfl, rfl⟩ := HOK5.out rfl
                    have HR2 := Lib.hid (show walkLS (t.args.drop (kk + 1)) n1 dm1 (d + 1) = walkLS t.args (n + 1) (max dm d) (d + 1) by rw [← HRR.out, HD.out, if_neg (by simp)])
                    clear hL5
                    go_wp2
                    go_roundw
                    case rel => exact ⟨kk + 1, by omega, by go_num, HK5.out, .inl ⟨n1, dm1, HR2.out, HLE.out.1, HLE.out.2, HC5.out⟩⟩
                    case measure => simp [intOf]; omega
                · have b2 := hCr.cell 2
                  simp only [List.getElem?_cons_zero, List.getElem?_cons_succ] at b2
                  have HCR := Lib.hid hCr
                  have HLR := Lib.hid hLr
                  have HNE2 := Lib.hid hne2
                  clear hCr hLr hne2 HST
                  go_wp2
                  go_end0
                  rw [HRL.out]
                  exact ⟨_, _, _, rfl, HCR.out, HLR.out, (fun h => absurd h HNE2.out), HKW.out⟩
              · have hki : ¬ (kk : Int) < (t.args.length : Int) := by omega
                have hdr : t.args.drop kk = [] := List.drop_eq_nil_of_le (by omega)
                clear hkk
                go_wp2
                go_end0
                rw [HRL.out]
                rcases HST.out with ⟨n', dm', hR, hn', hdm', hCr⟩ | ⟨n', dm', sg, sn, sc, hne2, hCr, hLr⟩
                · rw [hdr, walkLS] at hR
                  rw [← hR]
                  exact ⟨_, _, _, rfl, hCr, LinksIs.nil _ _, (fun _ => ⟨rfl, rfl, rfl⟩), HKW.out⟩
                · exact ⟨_, _, _, rfl, hCr, hLr, (fun h => absurd h hne2), HKW.out⟩
          | cons q r =>
            rw [hl] at hl5 HL5
            have hps : partS t n = ⟨termL, n, q.code⟩ :: q :: r := HPS.out.trans (by rw [hl]; rfl)
            have HR := Lib.hid (show walkS t n dm d = (⟨termL, n, q.code⟩ :: q :: r, n, dm) by rw [HW2.out, if_pos (by simp [hps]), hps])
            have HLR := Lib.hid (show r.length ≤ 50 from by have h1 : ((nodeS t.text).2.2).length ≤ 1 := (by unfold nodeS; split <;> simp); rw [hl] at h1; simp at h1; simp [h1])
            have HOV := Lib.hid (over02_any n lv5 q r _ w5 HL5.out HLR.out)
            obtain ⟨sg5, sn5, sc5, rfl⟩ := someL hl5
            clear hps hl hl5 hnil5 m5
            go_wp2_with fail
            refine HOV.out.mono ?_
            rintro e w9 ⟨lv, rfl, hl, hb9⟩
            obtain ⟨hC10, hL10, hK10, c2, f2⟩ := bad_laid P5.out KP5.out hb9 hl
            obtain ⟨sg, sn, sc, rfl⟩ := someL hl
            have HC10 := Lib.hid hC10
            have HL10 := Lib.hid hL10
            have HK10 := Lib.hid hK10
            have M9 := Lib.hid ((M5.out.below hb9).far (p := ⟨g, 2, none⟩) HNE.out (.slice (some ⟨sg, 0, none⟩) sn sc))
            have m5 := M9.out.cell 5
            have b2 := hC10.cell 2
            simp only [List.getElem?_cons_zero, List.getElem?_cons_succ] at m5 b2
            clear hb9 hl hC10 hL10 hK10
            go_wp2_with fail
            refine wp_loop_rounds 1 ?_
            rw [rounds_succ]
            rcases Nat.eq_zero_or_pos t.args.length with h0 | h0
            · have h0i : ¬ (0 : Int) < (t.args.length : Int) := by omega
              clear h0
              go_wp2
              go_end0
              rw [HR.out]
              exact ⟨_, _, _, rfl, HC10.out, HL10.out, (fun h => by cases h), HK10.out⟩
            · have h0i : (0 : Int) < (t.args.length : Int) := by omega
              clear h0
              go_wp2
              go_end0
              rw [HR.out]
              exact ⟨_, _, _, rfl, HC10.out, HL10.out, (fun h => by cases h), HK10.out⟩
      have qk1 : (t.kind == 1) = false := beq_eq_false_iff_ne.2 k1
      have qk2 : (t.kind == 2) = false := beq_eq_false_iff_ne.2 k2
      have qk3 : (t.kind == 3) = false := beq_eq_false_iff_ne.2 (fun e => k34 (.inl e))
      have qk4 : (t.kind == 4) = false := beq_eq_false_iff_ne.2 (fun e => k34 (.inr e))
      have hps : partS t n = [] := by unfold partS; rw [if_neg (by simp [hf]), if_neg k1, if_neg k2, if_neg k34]
      have HRL := Lib.hid (show walkS t n dm d = walkLS t.args (n + 1) (max dm d) (d + 1) by rw [HW2.out, if_neg (by simp [hps])])
      clear hf hps k1 k2 k34
      have P9 := Lib.hid (show Cells _ g 108 [.int .i64 ((n + 1 : Nat) : Int), .int .i64 ((max dm d : Nat) : Int), .slice none 0 0] from by
        have := P4.out
        rwa [show ((n + 1 : Nat) : Int) = (n : Int) + 1 by omega, show ((max dm d : Nat) : Int) = max (dm : Int) (d : Int) by omega])
      have MK := Lib.hid M4.out
      have KK := Lib.hid KP4.out
      go_wp2_with fail
      generalize hWX : w4 = WX at *
      clear hWX
      clear m0 m1 m2 m5 P4 M4 KP4
      go_loopw [12] (fun i wr => ∃ (kk : Nat), kk ≤ t.args.length ∧ i = .int .i64 kk ∧ Keep (Blk1 g) WX wr ∧ ((∃ n' dm' : Nat, walkLS (t.args.drop kk) n' dm' (d + 1) = walkLS t.args (n + 1) (max dm d) (d + 1) ∧ n' ≤ 4096 ∧ dm' ≤ 256 ∧ Cells wr g 108 [.int .i64 n', .int .i64 dm', .slice none 0 0]) ∨
        (∃ (n' dm' : Int) (sg sn sc : Nat), (walkLS t.args (n + 1) (max dm d) (d + 1)).1 ≠ [] ∧ Cells wr g 108 [.int .i64 n', .int .i64 dm', .slice (some ⟨sg, 0, none⟩) sn sc] ∧ LinksIs (g + 1) (.slice (some ⟨sg, 0, none⟩) sn sc) (walkLS t.args (n + 1) (max dm d) (d + 1)).1 wr))) (fun i _ => t.args.length - (intOf i).toNat)
      case atStart => exact ⟨0, Nat.zero_le _, rfl, Keep.refl _ _, .inl ⟨n + 1, max dm d, rfl, by have := HN1.out; have := HBD.out; omega, by have := HD2.out; have := HBD.out; omega, P9.out⟩⟩
      case round =>
        obtain ⟨kk, hkk, rfl, hKr, hst⟩ := hrel
        have HKR := Lib.hid hKr
        have HKW := Lib.hid (KK.out.trans hKr (fun _ _ h => h))
        have MR := Lib.hid (MK.out.keep hKr (fun e => HNE.out e))
        have m5 := MR.out.cell 5
        simp only [List.getElem?_cons_zero, List.getElem?_cons_succ] at m5
        have HST := Lib.hid hst
        clear hKr hst P9
        by_cases hk : kk < t.args.length
        · have hki : (kk : Int) < (t.args.length : Int) := by omega
          have hk0 : (0 : Int) ≤ (kk : Int) := by omega
          rcases HST.out with ⟨n', dm', hR, hn', hdm', hCr⟩ | ⟨n', dm', sg, sn, sc, hne2, hCr, hLr⟩
          · have HRR := Lib.hid hR
            have HB' := Lib.hid (And.intro hn' hdm')
            have b2 := hCr.cell 2
            simp only [List.getElem?_cons_zero, List.getElem?_cons_succ] at b2
            obtain ⟨g2, o2, vs2, hae, _, hcs, ht2⟩ := (HA.out.keep HKW.out (fun b _ hS e => hg (by rw [← (show b = g from e)]; exact hS))).get kk hk
            subst hae
            have HT2 := Lib.hid ht2
            obtain ⟨_, nv2, a2, cap2, hv2, hnn2, _⟩ := ht2.parts
            obtain ⟨na2, nc2, hnv2, _, _⟩ := hnn2.slice
            subst hv2
            subst hnv2
            have e0 := hcs 0 (by decide)
            have e1 := hcs 1 (by decide)
            have e2 := hcs 2 (by decide)
            have e3 := hcs 3 (by decide)
            have e4 := hcs 4 (by decide)
            have e5 := hcs 5 (by decide)
            simp only [List.getElem?_cons_zero, List.getElem?_cons_succ, ← Nat.add_assoc, Nat.add_zero] at e0 e1 e2 e3 e4 e5
            have HD := Lib.hid (walkLS_drop hk n' dm' (d + 1))
            have HCALL := Lib.hid (HIH.out t.args[kk] _ n' dm' (d + 1) _ (by have := Tm.arg_lt hk; have := HNN.out; omega) HT2.out hCr HB'.out.1 HB'.out.2 (by have := HD2.out; omega))
            rw [show ((d + 1 : Nat) : Int) = (d : Int) + 1 by omega] at HCALL
            clear hcs ht2 hnn2 hCr hR hn' hdm' HST
            go_wp2_with fail
            refine HCALL.out.mono ?_
            rintro e w5 ⟨n5, dm5, bv5, rfl, hC5, hL5, hok5, hk5⟩
            have HK5 := Lib.hid (HKR.out.trans hk5 (fun _ _ h => h))
            have HC5 := Lib.hid hC5
            have HL5 := Lib.hid hL5
            have HOK5 := Lib.hid hok5
            have HLE := Lib.hid (walkS_le t.args[kk] n' dm' (d + 1) HB'.out.1 (by have := HD2.out; omega) HB'.out.2)
            clear hk5 hC5 hok5 e0 e1 e2 e3 e4 e5 HCALL b2 m5
            generalize walkS t.args[kk] n' dm' (d + 1) = R1 at *
            obtain ⟨r1, n1, dm1⟩ := R1
            cases r1 with
            | cons q r =>
              obtain ⟨sg, sn, sc, rfl⟩ := someL hL5
              have HR2 := Lib.hid (show walkLS t.args (n + 1) (max dm d) (d + 1) = (q :: r, n1, dm1) by rw [← HRR.out, HD.out, if_pos (by simp)])
              clear hL5
              go_wp2
              go_roundw
              case rel => exact ⟨kk + 1, by omega, by go_num, HK5.out, .inr ⟨n5, dm5, sg, sn, sc, by rw [HR2.out]; simp, HC5.out, by rw [HR2.out]; exact HL5.out⟩⟩
              case measure => simp [intOf]; omega
            | nil =>
              obtain ⟨rfl, rfl, rfl⟩ := HOK5.out rfl
              have HR2 := Lib.hid (show walkLS (t.args.drop (kk + 1)) n1 dm1 (d + 1) = walkLS t.args (n + 1) (max dm d) (d + 1) by rw [← HRR.out, HD.out, if_neg (by simp)])
              clear hL5
              go_wp2
              go_roundw
              case rel => exact ⟨kk + 1, by omega, by go_num, HK5.out, .inl ⟨n1, dm1, HR2.out, HLE.out.1, HLE.out.2, HC5.out⟩⟩
              case measure => simp [intOf]; omega
          · have b2 := hCr.cell 2
            simp only [List.getElem?_cons_zero, List.getElem?_cons_succ] at b2
            have HCR := Lib.hid hCr
            have HLR := Lib.hid hLr
            have HNE2 := Lib.hid hne2
            clear hCr hLr hne2 HST
            go_wp2
            go_end0
            rw [HRL.out]
            exact ⟨_, _, _, rfl, HCR.out, HLR.out, (fun h => absurd h HNE2.out), HKW.out⟩
        · have hki : ¬ (kk : Int) < (t.args.length : Int) := by omega
          have hdr : t.args.drop kk = [] := List.drop_eq_nil_of_le (by omega)
          clear hkk
          go_wp2
          go_end0
          rw [HRL.out]
          rcases HST.out with ⟨n', dm', hR, hn', hdm', hCr⟩ | ⟨n', dm', sg, sn, sc, hne2, hCr, hLr⟩
          · rw [hdr, walkLS] at hR
            rw [← hR]
            exact ⟨_, _, _, rfl, hCr, LinksIs.nil _ _, (fun _ => ⟨rfl, rfl, rfl⟩), HKW.out⟩
          · exact ⟨_, _, _, rfl, hCr, hLr, (fun h => absurd h hne2), HKW.out⟩

set_option maxHeartbeats 4000000 in
theorem checkR_any (S : Nat → Prop) (t : Tm) (vs : List Value) (w : World) (ht : TmAt S t vs w) (hS : ∀ b, S b → b < w.heap.size) :
    Calls Tryz.prog 14 #[.agg vs.toArray] w fun e w' => ∃ lv, e = .returned lv ∧ LinksIs w.heap.size lv (checkS t) w' ∧ (checkS t = [] → lv = .slice none 0 0) ∧ Below w.heap.size w w' := by
  have HT := Lib.hid ht
  obtain ⟨hp, nv, a, cap, rfl, hnn, -⟩ := ht.parts
  obtain ⟨na, nc, rfl, _, _⟩ := hnn.slice
  have HB := Lib.hid (((Below.refl _ w).alloc (Nat.le_refl _) (.cells #[.int .i64 t.kind, .int .i64 t.int, .string t.text, .int .u32 t.cr, .slice na t.nums.length nc, .slice a t.args.length cap] 35 (0, 0))).alloc (by simp) (.cells #[.int .i64 0, .int .i64 0, .slice none 0 0] 108 (0, 0)))
  have HW := Lib.hid (part_ind S (w.heap.size + 1) (fun h => by have := hS _ h; omega) _ t _ 0 0 1 _ (Nat.le_refl _) (ht.below HB.out) (show Cells ((w.alloc (.cells #[.int .i64 t.kind, .int .i64 t.int, .string t.text, .int .u32 t.cr, .slice na t.nums.length nc, .slice a t.args.length cap] 35 (0, 0))).alloc (.cells #[.int .i64 0, .int .i64 0, .slice none 0 0] 108 (0, 0))) (w.heap.size + 1) 108 [.int .i64 (0 : Nat), .int .i64 (0 : Nat), .slice none 0 0] from by
    have := Cells.new (w.alloc (.cells #[.int .i64 t.kind, .int .i64 t.int, .string t.text, .int .u32 t.cr, .slice na t.nums.length nc, .slice a t.args.length cap] 35 (0, 0))) 108 [.int .i64 0, .int .i64 0, .slice none 0 0]
    rwa [World.size_alloc] at this) (by decide) (by decide) (by decide))
  rw [show ((1 : Nat) : Int) = 1 from rfl] at HW
  have HCK := Lib.hid (show (walkS t 0 0 1).1 = checkS t from rfl)
  clear ht hp hnn hS
  go_enter Tryz.func14, Tryz.ntmps14
  go_wp2_with fail
  refine HW.out.mono ?_
  rintro e w2 ⟨n, d, bv, rfl, hC, hl, hok, hk⟩
  have HB2 := Lib.hid (below_keep HB.out hk (by simp; omega) (fun k (hk : k = w.heap.size + 1) => by omega))
  have c2 := hC.cell 2
  simp only [List.getElem?_cons_zero, List.getElem?_cons_succ] at c2
  rw [HCK.out] at hl hok
  have HL := Lib.hid hl
  have HOK := Lib.hid (fun h => (hok h).1)
  clear hk hC HW HT HCK hok
  obtain ⟨ba, bn, bc, rfl⟩ : ∃ a n c, bv = .slice a n c := by
    rcases hl.shape with ⟨rfl, _⟩ | ⟨g, c, rfl, _⟩
    · exact ⟨_, _, _, rfl⟩
    · exact ⟨_, _, _, rfl⟩
  clear hl
  go_wp2
  go_ret
  exact ⟨_, rfl, HL.out.base (by omega), HOK.out, HB2.out⟩
end Go.Proofs.YtlahagabcnmdiaaGreatDoor
end
section
/- heddlelaw17: MailFull. -/
open Go Go.RowKit
namespace Go.Proofs.YtlahagabcnmdiaaGreatDoor
set_option linter.unusedVariables false
set_option linter.unusedSimpArgs false

theorem put_bad (b : Bx) (t : Tm) (h : checkS t ≠ []) : ∃ k r, putM b t = (k :: r, b) := by
  unfold putM
  rw [if_pos h]
  cases hc : checkS t with
  | nil => exact absurd hc h
  | cons k r => exact ⟨_, _, rfl⟩
theorem put_full (b : Bx) (t : Tm) (h : checkS t = []) (hl : b.l.length = 4096) : putM b t = (errM 5, b) := by
  unfold putM
  rw [if_neg (by simp [h]), if_pos (by omega)]
theorem put_rep (k : Nat) (hk : k < 4096) : putM ⟨List.replicate k (atomT aL), 0, false, 0⟩ (atomT aL) = ([], ⟨List.replicate (k + 1) (atomT aL), 0, false, 0⟩) := by
  unfold putM
  rw [checkS_atom (by rfl), if_neg (by simp), if_neg (by simp; omega)]
  rw [List.replicate_succ']
theorem len_box {F : Nat → Prop} {g : Nat} {b : Bx} {w : World} (h : BxIs F g b w) : Calls Tryz.prog 31 #[.pointer (some ⟨g, 0, none⟩)] w fun e w' => e = .returned (.int .i64 b.l.length) ∧ w = w' := by
  obtain ⟨lv, hC, hT, _⟩ := h.upd
  obtain ⟨a, c, rfl⟩ := hT.form
  exact mLen_live w hC
end Go.Proofs.YtlahagabcnmdiaaGreatDoor
end
section
/- The reference of layer 17: Put. Printed by wip/rxc.py. -/
open Go Go.RowKit
namespace Go.Proofs.YtlahagabcnmdiaaGreatDoor
set_option linter.unusedVariables false
set_option linter.unusedSimpArgs false

theorem partS_len (t : Tm) (n : Int) : (partS t n).length ≤ 2 := by
  unfold partS
  split
  · simp
  · split
    · split <;> simp
    · split
      · have := @overL_len n (quoteS t.text).2; have := quoteS_len t.text; omega
      · split
        · have h1 := @overL_len n (nodeS t.text).2.2
          have h2 : (nodeS t.text).2.2.length ≤ 1 := by unfold nodeS; split <;> simp
          omega
        · simp
mutual
theorem walkS_len : ∀ (t : Tm) (n dm d : Nat), (walkS t n dm d).1.length ≤ 2
  | .mk k i s c ns al, n, dm, d => by
    rw [walkS]
    split
    · simp
    · split
      · simp
      · split
        · exact partS_len _ _
        · exact walkLS_len al _ _ _
theorem walkLS_len : ∀ (l : List Tm) (n dm d : Nat), (walkLS l n dm d).1.length ≤ 2
  | [], n, dm, d => by rw [walkLS]; simp
  | t :: r, n, dm, d => by
    rw [walkLS]
    split
    · exact walkS_len t n dm d
    · exact walkLS_len r _ _ d
end
theorem checkS_len (t : Tm) : (checkS t).length ≤ 2 := walkS_len t 0 0 1
theorem putM_errs (b : Bx) (t : Tm) : (putM b t).1.length ≤ 3 := by
  unfold putM
  split
  · have h := checkS_len t
    cases hc : checkS t with
    | nil => simp [overM]
    | cons k r => rw [hc] at h; simp only [overM, List.length_cons] at h ⊢; omega
  · split <;> simp [errM]
theorem Rx.put {base g : Nat} {b : Bx} {lv v2 : Value} {S2 : Nat → Prop} {t : Tm} {w w' : World} (h : Rx base g b lv w) (hl : b.l.length < 4096) (hv : ∀ q, v2.ownBlock = some q → lv.ownBlock = some q ∨ w.heap.size ≤ q) (k : Keep (LsK g lv) w w')
    (h2 : LgAt base g 28 ((rxV b lv).set 0 v2) 0 v2 S2 (b.l ++ [t]) w') (hS2 : ∀ q, S2 q → q < base) : RxRes base g lv w { b with l := b.l ++ [t] } w' := by
  refine ⟨v2, ⟨h.hg, by show (b.l ++ [t]).length ≤ 4096; simp; omega, h.cur, ⟨h2.cells, rfl, h2.rows.mono (Nat.le_refl _) (fun q _ hq => hS2 q hq), fun q hq => ?_, fun q hq => ⟨(h2.hv q hq).1, (h2.hv q hq).2.1, fun hb => ?_⟩⟩⟩, k, hv⟩
  · have h1 := h2.cells.lt
    have h3 := h.hg
    have hq : q < base := hq
    exact ⟨by omega, by omega⟩
  · have h4 := (h2.hv q hq).1
    have hb : q < base := hb
    omega
set_option maxHeartbeats 8000000 in
set_option maxRecDepth 100000 in
theorem put17_any {base g : Nat} {b : Bx} {lv : Value} (t : Tm) (vs : List Value) (w : World) (h : Rx base g b lv w) (ht : TmAt (fun q => q < base) t vs w) :
    Calls Tryz.prog 32 #[.pointer (some ⟨g, 0, none⟩), .agg vs.toArray] w (RetRN base g lv w (putM b t)) := by
  have HX := Lib.hid h
  have HTM := Lib.hid ht
  obtain ⟨a, c, rfl, -, -⟩ := h.form
  obtain ⟨_, nv, a2, cap2, rfl, hnn, _⟩ := ht.parts
  obtain ⟨na2, nc2, rfl, _, _⟩ := hnn.slice
  have hl46 := h.len
  have hgw := h.at_.cells.lt
  have HBS := Lib.hid (show base ≤ w.heap.size from Nat.le_of_lt (Nat.lt_of_le_of_lt h.hg hgw))
  have HGB := Lib.hid h.hg
  have HGW := Lib.hid hgw
  have HC := Lib.hid h.at_.cells
  have HB0 := Lib.hid ((Below.refl w.heap.size w).alloc (Nat.le_refl _) (.cells #[.int .i64 t.kind, .int .i64 t.int, .string t.text, .int .u32 t.cr, .slice na2 t.nums.length nc2, .slice a2 t.args.length cap2] 35 (0, 0)))
  have R0 := Lib.hid (show Cells (w.alloc (.cells #[.int .i64 t.kind, .int .i64 t.int, .string t.text, .int .u32 t.cr, .slice na2 t.nums.length nc2, .slice a2 t.args.length cap2] 35 (0, 0))) w.heap.size 35 [.int .i64 t.kind, .int .i64 t.int, .string t.text, .int .u32 t.cr, .slice na2 t.nums.length nc2, .slice a2 t.args.length cap2] from Cells.new w 35 [.int .i64 t.kind, .int .i64 t.int, .string t.text, .int .u32 t.cr, .slice na2 t.nums.length nc2, .slice a2 t.args.length cap2])
  have HCH := Lib.hid (checkR_any (fun q => q < base) t _ _ (ht.below HB0.out) (fun q hq => Nat.lt_of_lt_of_le (Nat.lt_of_lt_of_le hq HBS.out) HB0.out.size))
  have HLT := Lib.hid (show putM b t = if checkS t ≠ [] then (overM (checkS t), b) else if 4096 ≤ b.l.length then (errM 5, b) else ([], { b with l := b.l ++ [t] }) from rfl)
  have HLN := Lib.hid (checkS_len t)
  clear h ht hnn hgw
  go_enter Tryz.func32, Tryz.ntmps32
  have q0 := R0.out.cell 0
  have q1 := R0.out.cell 1
  have q2 := R0.out.cell 2
  have q3 := R0.out.cell 3
  have q4 := R0.out.cell 4
  have q5 := R0.out.cell 5
  simp only [List.getElem?_cons_zero, List.getElem?_cons_succ] at q0 q1 q2 q3 q4 q5
  go_wp2_with fail
  refine HCH.out.mono ?_
  rintro e w2 ⟨lv2, rfl, hlk, hln, hb2⟩
  have HB2 := Lib.hid (HB0.out.trans (hb2.mono HB0.out.size))
  have R2 := Lib.hid (R0.out.below hb2)
  clear q0 q1 q2 q3 q4 q5
  cases hck : checkS t with
  | cons kk rr =>
    have HR := Lib.hid (show putM b t = (⟨mailL, 0, kk.code⟩ :: kk :: rr, b) from by rw [HLT.out, if_pos (by simp [hck]), hck]; rfl)
    rw [hck] at hlk HLN
    obtain ⟨_, hn⟩ | ⟨g2, c2, rfl, -, -, -, -⟩ := hlk.shape
    · cases hn
    have x2 := hlk.cells 0 (by simp) 2 (by decide)
    simp only [lkV, List.getElem?_cons_zero, List.getElem?_cons_succ, Nat.zero_mul, Nat.zero_add, List.getElem_cons_zero] at x2
    have HOV := Lib.hid (mOver_any mailL 0 kk.code (.slice (some ⟨g2, 0, none⟩) (kk :: rr).length c2) (kk :: rr) _ w2 hlk (by have := HLN.out; omega))
    have hpos : (0 : Int) < ((kk :: rr).length : Int) := by simp <;> omega
    unfold mailL at HOV
    generalize (kk :: rr).length = nn at *
    clear hlk hln hb2 hck
    go_wp2_with fail
    refine HOV.out.mono ?_
    rintro e w3 ⟨v3, rfl, hl3, hb3⟩
    have HL3 := Lib.hid hl3
    have HB3 := Lib.hid (HB2.out.trans (hb3.mono HB2.out.size))
    have HSZ := Lib.hid HB2.out.size
    clear hl3 hb3
    go_wp2
    go_ret
    rw [HR.out]
    exact ⟨_, rfl, HL3.out.base HSZ.out, HX.out.same HB3.out⟩
  | nil =>
    have hlv := hln hck
    subst hlv
    have C2 := Lib.hid (HC.out.below HB2.out)
    have c0 := C2.out.cell 0
    simp only [rxV, List.getElem?_cons_zero] at c0
    clear hlk hln hb2
    by_cases hfull : 4096 ≤ b.l.length
    · have HR := Lib.hid (show putM b t = (errM 5, b) from by rw [HLT.out, if_neg (by simp [hck]), if_pos hfull])
      clear hck
      have hfi : (4096 : Int) ≤ (b.l.length : Int) := by omega
      go_wp2_with fail
      refine (no17_any 5 _).mono ?_
      rintro e w3 ⟨v3, rfl, hl3, hb3⟩
      have HL3 := Lib.hid hl3
      have HB3 := Lib.hid (HB2.out.trans (hb3.mono HB2.out.size))
      have HSZ := Lib.hid HB2.out.size
      clear hl3 hb3
      go_wp2
      go_ret
      rw [HR.out]
      exact ⟨_, rfl, HL3.out.base HSZ.out, HX.out.same HB3.out⟩
    · have HR := Lib.hid (show putM b t = ([], { b with l := b.l ++ [t] }) from by rw [HLT.out, if_neg (by simp [hck]), if_neg hfull])
      clear hck
      have hfi : ¬ (4096 : Int) ≤ (b.l.length : Int) := by omega
      have hx0 : (0 : Int) ≤ (b.l.length : Int) := by omega
      have hx1 : (b.l.length : Int) < (b.l.length : Int) + 1 := by omega
      go_wp2
      clear c0
      have BWX := Lib.hid (HB2.out.drew)
      have R3 := Lib.hid R2.out.drew
      refine wp_region_L (S := fun W => Below w.heap.size w W ∧ Cells W w.heap.size 35 [.int .i64 t.kind, .int .i64 t.int, .string t.text, .int .u32 t.cr, .slice na2 t.nums.length nc2, .slice a2 t.args.length cap2]) (F := [7, 9, 12]) (by kernel_rfl) (⟨BWX.out, R3.out⟩) (fun hHeld => ?_)
      refine wpAnyL_easy (i := 0) (v := (.pointer (some ⟨g, 0, none⟩))) (by simp only [List.getElem?_toArray, List.getElem?_cons_succ, List.getElem?_cons_zero]; rfl) (by kernel_rfl) (by kernel_rfl) (by kernel_rfl) (by exact fun _ _ _ h => h) (Or.inl ⟨by rfl, fun _ _ => rfl⟩) ?_
      try simp only [Act.put, List.setIfInBounds_toArray, List.set_cons_zero, List.set_cons_succ]
      refine wpAnyL_easy (i := 1) (v := (.pointer (some ⟨g, 0, none⟩))) (by simp only [List.getElem?_toArray, List.getElem?_cons_succ, List.getElem?_cons_zero]; rfl) (by kernel_rfl) (by kernel_rfl) (by kernel_rfl) (by exact fun _ _ _ h => h) (Or.inl ⟨by rfl, by intro W _; go_simp; all_goals first | rfl | exact ⟨rfl, rfl, rfl, rfl, rfl, rfl⟩⟩) ?_
      try simp only [Act.put, List.setIfInBounds_toArray, List.set_cons_zero, List.set_cons_succ]
      refine wpAnyL_easy (i := 2) (v := (.pointer (some ⟨g, 0, none⟩))) (by simp only [List.getElem?_toArray, List.getElem?_cons_succ, List.getElem?_cons_zero]; rfl) (by kernel_rfl) (by kernel_rfl) (by kernel_rfl) (by exact fun _ _ _ h => h) (Or.inl ⟨by rfl, fun _ _ => rfl⟩) ?_
      try simp only [Act.put, List.setIfInBounds_toArray, List.set_cons_zero, List.set_cons_succ]
      refine wpAnyL_take (i := 3) (v := (.slice a b.l.length c)) (by simp only [List.getElem?_toArray, List.getElem?_cons_succ, List.getElem?_cons_zero]; rfl) (by kernel_rfl) (by kernel_rfl) (by kernel_rfl) (by kernel_rfl) (by exact fun _ _ _ h => h) (Or.inl ⟨by rfl, by intro W hSw; have x0 := show W.cell? ⟨g, 0, none⟩ = some (.slice a b.l.length c) from (HC.out.below hSw.1).cell 0; go_simp; all_goals first | rfl | exact ⟨rfl, rfl, rfl, rfl, rfl, rfl⟩⟩) (by assumption) ?_
      try simp only [Act.put, List.setIfInBounds_toArray, List.set_cons_zero, List.set_cons_succ]
      refine wpAnyL_take (i := 4) (v := (.agg #[.int .i64 t.kind, .int .i64 t.int, .string t.text, .int .u32 t.cr, .slice na2 t.nums.length nc2, .slice a2 t.args.length cap2])) (by simp only [List.getElem?_toArray, List.getElem?_cons_succ, List.getElem?_cons_zero]; rfl) (by kernel_rfl) (by kernel_rfl) (by kernel_rfl) (by kernel_rfl) (by exact fun _ _ _ h => h) (Or.inl ⟨by rfl, by intro W hSw; have x0 := hSw.2.cell 0; have x1 := hSw.2.cell 1; have x2 := hSw.2.cell 2; have x3 := hSw.2.cell 3; have x4 := hSw.2.cell 4; have x5 := hSw.2.cell 5; go_simp; all_goals first | rfl | exact ⟨rfl, rfl, rfl, rfl, rfl, rfl⟩⟩) (by assumption) ?_
      try simp only [Act.put, List.setIfInBounds_toArray, List.set_cons_zero, List.set_cons_succ]
      refine wpAnyL_easy (i := 5) (v := (.int .i64 b.l.length)) (by simp only [List.getElem?_toArray, List.getElem?_cons_succ, List.getElem?_cons_zero]; rfl) (by kernel_rfl) (by kernel_rfl) (by kernel_rfl) (by exact fun _ _ _ h => h) (Or.inl ⟨by rfl, by intro W _; go_simp; all_goals first | rfl | exact ⟨rfl, rfl, rfl, rfl, rfl, rfl⟩⟩) ?_
      try simp only [Act.put, List.setIfInBounds_toArray, List.set_cons_zero, List.set_cons_succ]
      generalize w2.drew = w3 at *
      refine wpAnyL_ready (rs := [6]) (by kernel_rfl) (by simp) ?_
      refine AllReadyL.cons (by simp only [List.getElem?_toArray, List.getElem?_cons_succ, List.getElem?_cons_zero]; rfl) (fun K hK => ?_) AllReadyL.nil
      go_simp
      have ZW := Lib.hid (show Cells (w3.alloc (.cells #[.int .i64 0, .int .i64 0, .string ⟨#[]⟩, .int .u32 0, .slice none 0 0, .slice none 0 0] 35)) w3.heap.size 35 termZ from Cells.new w3 35 termZ)
      have BA := Lib.hid ((Below.refl _ _).alloc (Nat.le_refl w3.heap.size) (.cells #[.int .i64 0, .int .i64 0, .string ⟨#[]⟩, .int .u32 0, .slice none 0 0, .slice none 0 0] 35 (0, 0)))
      refine hK.out _ _ (⟨hHeld.1.trans (BA.out.mono hHeld.1.size), hHeld.2.below BA.out⟩) (fun hHeld => ?_)
      try simp only [Act.put, List.setIfInBounds_toArray, List.set_cons_zero, List.set_cons_succ]
      have BW := Lib.hid (hHeld.1)
      clear BA
      generalize w3.alloc (.cells #[.int .i64 0, .int .i64 0, .string ⟨#[]⟩, .int .u32 0, .slice none 0 0, .slice none 0 0] 35) = w4 at *
      obtain ⟨kk, cc, W2, hrun, hcc, hcm, ⟨hkb, hkg, hkc⟩, hK2, hC2, HA, HBB⟩ := lg_app (SC := fun q => q < base) (t := t) (vs3 := [.int .i64 t.kind, .int .i64 t.int, .string t.text, .int .u32 t.cr, .slice na2 t.nums.length nc2, .slice a2 t.args.length cap2]) (HX.out.at_.below BW.out) (by have := hl46; omega) (Nat.le_trans HBS.out BW.out.size) ZW.out (HTM.out.below BW.out) (fun q hq => ⟨Nat.lt_of_lt_of_le (Nat.lt_of_lt_of_le hq HBS.out) BW.out.size, fun e => by have := HGB.out; omega, fun e => by have := (HX.out.at_.hv q e).1; have hq : q < base := hq; omega⟩)
      have HRUN := Lib.hid hrun
      have HA := Lib.hid HA
      have HBB := Lib.hid HBB
      have KW := Lib.hid (Keep.of_below (B := w.heap.size) BW.out (Nat.le_refl _) (LsK g (.slice a b.l.length c)))
      have C2 := Lib.hid hC2
      have HNB := Lib.hid (show ¬ LsK g (.slice a b.l.length c) w.heap.size from fun e => by
        rcases e with e | e
        · have := HGW.out; omega
        · exact Nat.lt_irrefl _ (HX.out.at_.rows.block e).2.1)
      have HVN := Lib.hid (show ∀ q, (Value.slice (some ⟨kk, 0, none⟩) (b.l.length + 1) cc).ownBlock = some q → (Value.slice a b.l.length c).ownBlock = some q ∨ w.heap.size ≤ q from fun q hq => (by
        cases hq
        rcases hkc with h | h
        · exact .inl h
        · right; rw [h]; exact BW.out.size))
      clear hrun hC2 hK2
      refine wpAnyL_ready (rs := [7]) (by kernel_rfl) (by simp) ?_
      refine AllReadyL.last (by simp only [List.getElem?_toArray, List.getElem?_cons_succ, List.getElem?_cons_zero]; rfl) (by kernel_rfl) (fun K hK => ?_) AllReadyL.nil
      refine step_app_eq (by rfl) _ _ _ _ (by rfl) _ _ (.slice (some ⟨kk, 0, none⟩) (b.l.length + 1) cc) W2 (by rfl) (by rfl) HRUN.out ?_
      refine hK.out _ _ ?_
      try simp only [Act.put, List.setIfInBounds_toArray, List.set_cons_zero, List.set_cons_succ]
      refine wpAnyL_easy (i := 8) (v := (.pointer (some ⟨kk, b.l.length * 6, none⟩))) (by simp only [List.getElem?_toArray, List.getElem?_cons_succ, List.getElem?_cons_zero]; rfl) (by kernel_rfl) (by kernel_rfl) (by kernel_rfl) (by exact fun _ _ _ h => h) (Or.inl ⟨by rfl, by intro W _; go_simp; all_goals first | rfl | exact ⟨rfl, rfl, rfl, rfl, rfl, rfl⟩⟩) ?_
      try simp only [Act.put, List.setIfInBounds_toArray, List.set_cons_zero, List.set_cons_succ]
      refine wpAnyL_easy (i := 10) (v := (.pointer (some ⟨g, 0, none⟩))) (by simp only [List.getElem?_toArray, List.getElem?_cons_succ, List.getElem?_cons_zero]; rfl) (by kernel_rfl) (by kernel_rfl) (by kernel_rfl) (by exact fun _ _ _ h => h) (Or.inl ⟨by rfl, by intro W _; go_simp; all_goals first | rfl | exact ⟨rfl, rfl, rfl, rfl, rfl, rfl⟩⟩) ?_
      try simp only [Act.put, List.setIfInBounds_toArray, List.set_cons_zero, List.set_cons_succ]
      refine wpAnyL_easy (i := 11) (v := (.pointer (some ⟨g, 0, none⟩))) (by simp only [List.getElem?_toArray, List.getElem?_cons_succ, List.getElem?_cons_zero]; rfl) (by kernel_rfl) (by kernel_rfl) (by kernel_rfl) (by exact fun _ _ _ h => h) (Or.inl ⟨by rfl, fun _ _ => rfl⟩) ?_
      try simp only [Act.put, List.setIfInBounds_toArray, List.set_cons_zero, List.set_cons_succ]
      refine wpAnyL_ready (rs := [9, 12]) (by kernel_rfl) (by simp) ?_
      refine AllReadyL.last (by simp only [List.getElem?_toArray, List.getElem?_cons_succ, List.getElem?_cons_zero]; rfl) (by kernel_rfl) (fun K hK => ?_) ?_
      · obtain ⟨cs, hcs, hcl, hf⟩ := HA.out
        refine step_store_blk (by rfl) _ (.tmp 32) (.tmp 28) (by rfl) kk (b.l.length * 6) [.int .i64 t.kind, .int .i64 t.int, .string t.text, .int .u32 t.cr, .slice na2 t.nums.length nc2, .slice a2 t.args.length cap2] (by rfl) (by rfl) (by kernel_rfl) (by simp [Value.oneCell']) 35 cs hcs hcl ?_
        intro w30 hC30 hg30
        obtain ⟨K5, C5, K6, S2, hS2, L6⟩ := hf w30 hC30 hg30
        have K6 := Lib.hid (KW.out.trans K6 (fun _ _ h => h))
        have L6 := Lib.hid L6
        have HS2 := Lib.hid hS2
        have C5 := Lib.hid C5
        clear hC30 hg30 hcs hcl hf hS2 K5
        refine hK.out _ _ ?_
        try simp only [Act.put, List.setIfInBounds_toArray, List.set_cons_zero, List.set_cons_succ]
        have c1 : w30.cell? ⟨g, 0, none⟩ = some (.slice a b.l.length c) := by rw [C5.out.cell 0]; rfl
        have f1 := C5.out.frozen 0
        refine wpAnyL_ready (rs := [12]) (by kernel_rfl) (by simp) ?_
        refine AllReadyL.last (by simp only [List.getElem?_toArray, List.getElem?_cons_succ, List.getElem?_cons_zero]; rfl) (by kernel_rfl) (fun K hK => ?_) AllReadyL.nil
        go_simp
        refine hK.out _ _ ?_
        try simp only [Act.put, List.setIfInBounds_toArray, List.set_cons_zero, List.set_cons_succ]
        refine wpAnyL_done (by kernel_rfl) ?_ _
        go_wp2
        go_ret
        rw [HR.out]
        exact ⟨_, rfl, LinksIs.nil _ _, HX.out.put (by omega) HVN.out K6.out L6.out (fun q hq => by rcases HS2.out q hq with h | h <;> exact h)⟩
      refine AllReadyL.last (by simp only [List.getElem?_toArray, List.getElem?_cons_succ, List.getElem?_cons_zero]; rfl) (by kernel_rfl) (fun K hK => ?_) ?_
      · obtain ⟨K4, cs, hcs, hcl, hf⟩ := HBB.out
        have c1 : W2.cell? ⟨g, 0, none⟩ = some (.slice a b.l.length c) := by rw [C2.out.cell 0]; rfl
        have f1 := C2.out.frozen 0
        have HCS := Lib.hid hcs
        have HF := Lib.hid hf
        clear hcs hf
        go_simp
        clear c1 f1
        refine hK.out _ _ ?_
        try simp only [Act.put, List.setIfInBounds_toArray, List.set_cons_zero, List.set_cons_succ]
        refine wpAnyL_ready (rs := [9]) (by kernel_rfl) (by simp) ?_
        refine AllReadyL.last (by simp only [List.getElem?_toArray, List.getElem?_cons_succ, List.getElem?_cons_zero]; rfl) (by kernel_rfl) (fun K hK => ?_) AllReadyL.nil
        refine step_store_blk (by rfl) _ (.tmp 32) (.tmp 28) (by rfl) kk (b.l.length * 6) [.int .i64 t.kind, .int .i64 t.int, .string t.text, .int .u32 t.cr, .slice na2 t.nums.length nc2, .slice a2 t.args.length cap2] (by rfl) (by rfl) (by kernel_rfl) (by simp [Value.oneCell']) 35 cs HCS.out hcl ?_
        intro w30 hC30 hg30
        obtain ⟨K5, S2, hS2, L6⟩ := HF.out w30 hC30 hg30
        have K6 := Lib.hid (KW.out.trans K5 (fun _ _ h => h))
        have L6 := Lib.hid L6
        have HS2 := Lib.hid hS2
        clear hC30 hg30 hcl HF HCS K5 hS2
        refine hK.out _ _ ?_
        try simp only [Act.put, List.setIfInBounds_toArray, List.set_cons_zero, List.set_cons_succ]
        refine wpAnyL_done (by kernel_rfl) ?_ _
        go_wp2
        go_ret
        rw [HR.out]
        exact ⟨_, rfl, LinksIs.nil _ _, HX.out.put (by omega) HVN.out K6.out L6.out (fun q hq => by rcases HS2.out q hq with h | h <;> exact h)⟩
      exact AllReadyL.nil
end Go.Proofs.YtlahagabcnmdiaaGreatDoor
end
section
/- A row of terms, and all of another behind it. No function of the program is looked at here. -/
open Go Go.RowKit
namespace Go.Proofs.YtlahagabcnmdiaaGreatDoor
set_option linter.unusedVariables false

/-- an empty row that is not nil -/
theorem TsIs.empty {base z : Nat} {S : Nat → Prop} {w : World} (hz : base ≤ z) (h : Cells w z 35 []) : TsIs base S (.slice (some ⟨z, 0, none⟩) 0 0) [] w :=
  ⟨[], rfl, ⟨rfl, .inr ⟨z, 0, #[], rfl, hz, h, Nat.le_refl _, Nat.zero_le _, rfl, rfl⟩⟩, fun _ h => absurd h (Nat.not_lt_zero _)⟩
/-- the terms of a row that lies at a place -/
def RowAt (S : Nat → Prop) (g o : Nat) (d : List Tm) (w : World) : Prop := ∀ i (h : i < d.length), ∃ vs, (∀ j, j < 6 → w.cell? ⟨g, o + (i * 6 + j), none⟩ = vs[j]?) ∧ TmAt S d[i] vs w
theorem RowAt.tail {S : Nat → Prop} {g o : Nat} {t : Tm} {d : List Tm} {w : World} (h : RowAt S g o (t :: d) w) : RowAt S g (o + 6) d w := fun i hi => by
  obtain ⟨vs, h1, h2⟩ := h (i + 1) (by simpa using hi)
  exact ⟨vs, fun j hj => by have := h1 j hj; rwa [show o + ((i + 1) * 6 + j) = o + 6 + (i * 6 + j) by omega] at this, h2⟩
/-- the cells of such a row -/
theorem RowAt.cells {S : Nat → Prop} {g : Nat} {w : World} : ∀ {d : List Tm} {o : Nat}, RowAt S g o d w → ∃ css : List (List Value), css.length = d.length ∧ (∀ cs ∈ css, cs.length = 6) ∧ (∀ i (h : i < css.length) (h2 : i < d.length), TmAt S d[i] css[i] w) ∧ ∀ j u, css.flatten[j]? = some u → w.cell? ⟨g, o + j, none⟩ = some u
  | [], o, _ => ⟨[], rfl, (fun _ h => absurd h List.not_mem_nil), fun _ h => absurd h (Nat.not_lt_zero _), fun j u h => by simp at h⟩
  | t :: d, o, h => by
    obtain ⟨vs, h1, h2⟩ := h 0 (Nat.zero_lt_succ _)
    obtain ⟨css, k1, k2, k3, k4⟩ := RowAt.cells h.tail
    have h6 := h2.six
    refine ⟨vs :: css, by simp [k1], fun cs hcs => ?_, fun i hi hi2 => ?_, fun j u hj => ?_⟩
    · rcases List.mem_cons.1 hcs with rfl | hcs
      · exact h6
      · exact k2 cs hcs
    · cases i with
      | zero => exact h2
      | succ i => exact k3 i (by simpa using hi) (by simpa using hi2)
    · rw [List.flatten_cons] at hj
      by_cases e : j < 6
      · rw [List.getElem?_append_left (by omega)] at hj
        have := h1 j e
        rw [show o + (0 * 6 + j) = o + j by omega] at this
        rw [this]; exact hj
      · rw [List.getElem?_append_right (by omega), h6] at hj
        have := k4 _ _ hj
        rwa [show o + 6 + (j - 6) = o + j by omega] at this
theorem TsIs.appAll {base : Nat} {S : Nat → Prop} {v : Value} {l d : List Tm} {w : World} (h : TsIs base S v l w) (g o c : Nat) (hd : RowAt S g o d w)
    (hl : (l.length + d.length) * 88 ≤ 140737488355328) (hB : base ≤ w.heap.size) (hv : ∀ k, v.ownBlock = some k → ¬ S k) :
    ∃ v' w', (Builtin.append_ #[26, 26] 26 #[v, .slice (some ⟨g, o, none⟩) d.length c]).run Tryz.prog w = .ok v' w' ∧ TsIs base S v' (l ++ d) w' ∧ w.grownBy w' v.ownBlock ∧ (v'.ownBlock = v.ownBlock ∨ v'.ownBlock = some w.heap.size) := by
  obtain ⟨i0, hi, hz0, hz1, hz2⟩ := info_parts Tryz.infoTerm
  obtain ⟨css, hlen, hown, hts⟩ := h
  obtain ⟨dss, k1, k2, k3, k4⟩ := hd.cells
  obtain ⟨v', w', hr, h2, h3, _, h4⟩ := run_append_own_at (P := Tryz.prog) w base 26 26 35 i0 _ 6 88 Tryz.underlying26 hi hz0 hz1 hz2 rfl (by decide) v l.length css.flatten hown ⟨g, o, none⟩ d.length c dss.flatten (by rw [flat_len dss k2, k1]) (fun j u hj => by
    rw [Lib.add_plain]; exact k4 j u hj) (fun u hu => by
      obtain ⟨cs, hcs, hu⟩ := List.mem_flatten.1 hu
      obtain ⟨i, hi, rfl⟩ := List.getElem_of_mem hcs
      exact (k3 i hi (by omega)).one u hu) (by unfold maxLen; omega) hl hB
  refine ⟨v', w', hr, ⟨css ++ dss, by simp [hlen, k1], ?_, fun i hi hi2 => ?_⟩, h3, h4⟩
  · rw [List.length_append, List.flatten_append]
    exact h2
  · have hkeep : ∀ {t : Tm} {cs : List Value}, TmAt S t cs w → TmAt S t cs w' := fun h => by
      have h1 : TmAt (fun b => b < w.heap.size ∧ S b) _ _ w := h.mono fun b hb hS => ⟨hb, hS⟩
      exact (h1.frame (w' := w') fun b hb => h3.block b hb.1 (fun e => hv b e.symm hb.2)).mono fun _ _ hS => hS.2
    by_cases e : i < l.length
    · have e1 : (css ++ dss)[i] = css[i]'(by omega) := List.getElem_append_left (by omega)
      have e2 : (l ++ d)[i] = l[i] := List.getElem_append_left e
      rw [e1, e2]
      exact hkeep (hts i (by omega) e)
    · have e1 : (css ++ dss)[i] = dss[i - css.length]'(by simp at hi; omega) := List.getElem_append_right (by omega)
      have e2 : (l ++ d)[i] = d[i - l.length]'(by simp at hi2; omega) := List.getElem_append_right (by omega)
      rw [e1, e2]
      have := hkeep (k3 (i - l.length) (by simp at hi2; omega) (by simp at hi2; omega))
      simpa [hlen] using this
/-- a part of a row, where it lies -/
theorem TsIs.rowAt {base : Nat} {S : Nat → Prop} {l : List Tm} {w : World} {g n c : Nat} (h : TsIs base S (.slice (some ⟨g, 0, none⟩) n c) l w) (a m : Nat) (hm : a + m ≤ l.length) : RowAt S g (a * 6) ((l.drop a).take m) w := fun i hi => by
  have hi2 : i < m := by simp at hi; omega
  obtain ⟨vs, h1, h2⟩ := h.at_ (a + i) (by omega)
  refine ⟨vs, fun j hj => by have := h1 j hj; rwa [show (a + i) * 6 + j = a * 6 + (i * 6 + j) by omega] at this, ?_⟩
  have e : ((l.drop a).take m)[i] = l[a + i] := by simp
  rw [e]; exact h2
theorem RowAt.frame {S : Nat → Prop} {g o : Nat} {d : List Tm} {w w' : World} (h : RowAt S g o d w) (hg : w'.heap[g]? = w.heap[g]?) (hb : ∀ b, S b → w'.heap[b]? = w.heap[b]?) : RowAt S g o d w' := fun i hi => by
  obtain ⟨vs, h1, h2⟩ := h i hi
  exact ⟨vs, fun j hj => by rw [← h1 j hj]; unfold World.cell?; rw [hg], h2.frame hb⟩
end Go.Proofs.YtlahagabcnmdiaaGreatDoor
end
section
/- The reference of layer 17: Take. Printed by wip/rxe.py. -/
open Go Go.RowKit
namespace Go.Proofs.YtlahagabcnmdiaaGreatDoor
set_option linter.unusedVariables false
set_option linter.unusedSimpArgs false

theorem RowAt.nil {S : Nat → Prop} {g o : Nat} {w : World} : RowAt S g o [] w := fun i h => absurd h (Nat.not_lt_zero _)
/-- what the reference's Take hands back -/
def RetTK (base g : Nat) (lv : Value) (w : World) (r : Option Tm × List Lk × Bx) (e : Ending) (w' : World) : Prop := ∃ vs v, e = .returned (.tuple #[.agg vs.toArray, v]) ∧ LinksIs w.heap.size v r.2.1 w' ∧ RxRes base g lv w r.2.2 w' ∧
  match r.1 with | some t => TmAt (fun q => q < base) t vs w' ∧ v = .slice none 0 0 | none => vs = termZ
set_option maxHeartbeats 16000000 in
set_option maxRecDepth 100000 in
theorem take17_any {base g : Nat} {b : Bx} {lv : Value} (w : World) (h : Rx base g b lv w) :
    Calls Tryz.prog 35 #[.pointer (some ⟨g, 0, none⟩)] w (RetTK base g lv w (takeM b)) := by
  have HX := Lib.hid h
  obtain ⟨a, c, rfl, hlc, -⟩ := h.form
  have hl46 := h.len
  have hc46 := h.cur
  have HC := Lib.hid h.at_.cells
  have HGW := Lib.hid h.at_.cells.lt
  have HBS := Lib.hid (show base ≤ w.heap.size from Nat.le_of_lt (Nat.lt_of_le_of_lt h.hg h.at_.cells.lt))
  have HB0 := Lib.hid ((Below.refl w.heap.size w).alloc (Nat.le_refl _) (.cells termZ.toArray 35 (0, 0)))
  have R0 := Lib.hid (Cells.new w 35 termZ)
  have C0 := Lib.hid (HC.out.below HB0.out)
  unfold termZ at *
  have c0 := C0.out.cell 0
  have c1 := C0.out.cell 1
  simp only [rxV, List.getElem?_cons_zero, List.getElem?_cons_succ] at c0 c1
  by_cases hlt : b.cur < b.l.length
  · have HR := Lib.hid (show takeM b = (some b.l[b.cur], [], ⟨b.l.eraseIdx b.cur, 0, false, 0⟩) from by unfold takeM; rw [List.getElem?_eq_getElem hlt])
    obtain ⟨k, c', vs, hv, hcs, ht⟩ := h.at_.rows.elem b.cur hlt
    cases hv
    have HTM := Lib.hid ht
    obtain ⟨_, nv, a2, cap2, rfl, hnn, _⟩ := ht.parts
    obtain ⟨na2, nc2, rfl, _, _⟩ := hnn.slice
    have HCS := Lib.hid hcs
    have hci : (b.cur : Int) < (b.l.length : Int) := by omega
    have hc0 : (0 : Int) ≤ (b.cur : Int) := by omega
    have hc1 : (b.cur : Int) ≤ 4096 := by omega
    have hlt2 : ¬ b.l.length ≤ b.cur := by omega
    have HLC := Lib.hid hlc
    clear h hcs ht hnn hlc
    go_enter Tryz.func35, Tryz.ntmps35
    go_wp2
    go_quiet (fail)
    go_wp2
    have hk : k < w.heap.size := World.block_lt_of_cell? w _ (HCS.out 0 (by decide))
    clear c0 c1
    have HB1 := Lib.hid (below_drewN HB0.out nq)
    have R1 := Lib.hid (R0.out.drewN nq)
    clear HB0 R0 C0
    generalize World.drewN _ nq = w1 at *
    have HL0 := Lib.hid (fun W (h : Below w1.heap.size w1 W) => show W.cell? ⟨g, 0, none⟩ = some (.slice (some ⟨k, 0, none⟩) b.l.length c) from ((HC.out.below HB1.out).below h).cell 0)
    have HL1 := Lib.hid (fun W (h : Below w1.heap.size w1 W) => show W.cell? ⟨g, 1, none⟩ = some (.int .i64 b.cur) from ((HC.out.below HB1.out).below h).cell 1)
    have HE := Lib.hid (fun W (h : Below w1.heap.size w1 W) j (hj : j < 6) => ((HB1.out.trans (h.mono HB1.out.size)).cell (p := ⟨k, b.cur * 6 + j, none⟩) hk).trans (HCS.out j hj))
    have HK := Lib.hid hk
    clear hk
    refine wp_region_L (S := fun W => Below w1.heap.size w1 W) (F := [11]) (by kernel_rfl) (Below.drew (Below.refl _ _)) (fun hHeld => ?_)
    refine wpAnyL_easy (i := 0) (v := (.pointer (some ⟨g, 0, none⟩))) (by simp only [List.getElem?_toArray, List.getElem?_cons_succ, List.getElem?_cons_zero]; rfl) (by kernel_rfl) (by kernel_rfl) (by kernel_rfl) (by exact fun _ _ _ h => h) (Or.inl ⟨by rfl, fun _ _ => rfl⟩) ?_
    try simp only [Act.put, List.setIfInBounds_toArray, List.set_cons_zero, List.set_cons_succ]
    refine wpAnyL_easy (i := 1) (v := (.pointer (some ⟨g, 0, none⟩))) (by simp only [List.getElem?_toArray, List.getElem?_cons_succ, List.getElem?_cons_zero]; rfl) (by kernel_rfl) (by kernel_rfl) (by kernel_rfl) (by exact fun _ _ _ h => h) (Or.inl ⟨by rfl, by intro W _; go_simp; all_goals first | rfl | exact ⟨rfl, rfl, rfl, rfl, rfl, rfl⟩⟩) ?_
    try simp only [Act.put, List.setIfInBounds_toArray, List.set_cons_zero, List.set_cons_succ]
    refine wpAnyL_easy (i := 2) (v := (.pointer (some ⟨g, 0, none⟩))) (by simp only [List.getElem?_toArray, List.getElem?_cons_succ, List.getElem?_cons_zero]; rfl) (by kernel_rfl) (by kernel_rfl) (by kernel_rfl) (by exact fun _ _ _ h => h) (Or.inl ⟨by rfl, fun _ _ => rfl⟩) ?_
    try simp only [Act.put, List.setIfInBounds_toArray, List.set_cons_zero, List.set_cons_succ]
    refine wpAnyL_take (i := 3) (v := (.slice (some ⟨k, 0, none⟩) b.l.length c)) (by simp only [List.getElem?_toArray, List.getElem?_cons_succ, List.getElem?_cons_zero]; rfl) (by kernel_rfl) (by kernel_rfl) (by kernel_rfl) (by kernel_rfl) (by exact fun _ _ _ h => h) (Or.inl ⟨by rfl, by intro W hSw; have x0 := HL0.out W hSw; go_simp; all_goals first | rfl | exact ⟨rfl, rfl, rfl, rfl, rfl, rfl⟩⟩) (by assumption) ?_
    try simp only [Act.put, List.setIfInBounds_toArray, List.set_cons_zero, List.set_cons_succ]
    refine wpAnyL_easy (i := 4) (v := (.pointer (some ⟨g, 0, none⟩))) (by simp only [List.getElem?_toArray, List.getElem?_cons_succ, List.getElem?_cons_zero]; rfl) (by kernel_rfl) (by kernel_rfl) (by kernel_rfl) (by exact fun _ _ _ h => h) (Or.inl ⟨by rfl, fun _ _ => rfl⟩) ?_
    try simp only [Act.put, List.setIfInBounds_toArray, List.set_cons_zero, List.set_cons_succ]
    refine wpAnyL_easy (i := 5) (v := (.pointer (some ⟨g, 0, none⟩))) (by simp only [List.getElem?_toArray, List.getElem?_cons_succ, List.getElem?_cons_zero]; rfl) (by kernel_rfl) (by kernel_rfl) (by kernel_rfl) (by exact fun _ _ _ h => h) (Or.inl ⟨by rfl, by intro W _; go_simp; all_goals first | rfl | exact ⟨rfl, rfl, rfl, rfl, rfl, rfl⟩⟩) ?_
    try simp only [Act.put, List.setIfInBounds_toArray, List.set_cons_zero, List.set_cons_succ]
    refine wpAnyL_easy (i := 6) (v := (.pointer (some ⟨g, 1, none⟩))) (by simp only [List.getElem?_toArray, List.getElem?_cons_succ, List.getElem?_cons_zero]; rfl) (by kernel_rfl) (by kernel_rfl) (by kernel_rfl) (by exact fun _ _ _ h => h) (Or.inl ⟨by rfl, fun _ _ => rfl⟩) ?_
    try simp only [Act.put, List.setIfInBounds_toArray, List.set_cons_zero, List.set_cons_succ]
    refine wpAnyL_take (i := 7) (v := (.int .i64 b.cur)) (by simp only [List.getElem?_toArray, List.getElem?_cons_succ, List.getElem?_cons_zero]; rfl) (by kernel_rfl) (by kernel_rfl) (by kernel_rfl) (by kernel_rfl) (by exact fun _ _ _ h => h) (Or.inl ⟨by rfl, by intro W hSw; have x0 := HL1.out W hSw; go_simp; all_goals first | rfl | exact ⟨rfl, rfl, rfl, rfl, rfl, rfl⟩⟩) (by assumption) ?_
    try simp only [Act.put, List.setIfInBounds_toArray, List.set_cons_zero, List.set_cons_succ]
    refine wpAnyL_easy (i := 8) (v := (.pointer (some ⟨k, b.cur * 6, none⟩))) (by simp only [List.getElem?_toArray, List.getElem?_cons_succ, List.getElem?_cons_zero]; rfl) (by kernel_rfl) (by kernel_rfl) (by kernel_rfl) (by exact fun _ _ _ h => h) (Or.inl ⟨by rfl, by intro W _; go_simp; all_goals first | rfl | exact ⟨rfl, rfl, rfl, rfl, rfl, rfl⟩⟩) ?_
    try simp only [Act.put, List.setIfInBounds_toArray, List.set_cons_zero, List.set_cons_succ]
    refine wpAnyL_take (i := 9) (v := (.agg #[.int .i64 b.l[b.cur].kind, .int .i64 b.l[b.cur].int, .string b.l[b.cur].text, .int .u32 b.l[b.cur].cr, .slice na2 b.l[b.cur].nums.length nc2, .slice a2 b.l[b.cur].args.length cap2])) (by simp only [List.getElem?_toArray, List.getElem?_cons_succ, List.getElem?_cons_zero]; rfl) (by kernel_rfl) (by kernel_rfl) (by kernel_rfl) (by kernel_rfl) (by exact fun _ _ _ h => h) (Or.inl ⟨by rfl, by intro W hSw; have x0 := HE.out W hSw 0 (by decide); have x1 := HE.out W hSw 1 (by decide); have x2 := HE.out W hSw 2 (by decide); have x3 := HE.out W hSw 3 (by decide); have x4 := HE.out W hSw 4 (by decide); have x5 := HE.out W hSw 5 (by decide); simp only [List.getElem?_cons_zero, List.getElem?_cons_succ, ← Nat.add_assoc, Nat.add_zero] at x0 x1 x2 x3 x4 x5; go_simp; all_goals first | rfl | exact ⟨rfl, rfl, rfl, rfl, rfl, rfl⟩⟩) (by assumption) ?_
    try simp only [Act.put, List.setIfInBounds_toArray, List.set_cons_zero, List.set_cons_succ]
    have B2 := Lib.hid hHeld
    generalize w1.drew = w2 at *
    refine wpAnyL_ready (rs := [10]) (by kernel_rfl) (by simp) ?_
    refine AllReadyL.cons (by simp only [List.getElem?_toArray, List.getElem?_cons_succ, List.getElem?_cons_zero]; rfl) (fun K hK => ?_) AllReadyL.nil
    go_simp
    have R3 := Lib.hid (show Cells (w2.alloc (.cells #[.int .i64 0, .int .i64 0, .string ⟨#[]⟩, .int .u32 0, .slice none 0 0, .slice none 0 0] 35)) w2.heap.size 35 termZ from Cells.new w2 35 termZ)
    have B23 := Lib.hid ((Below.refl w2.heap.size w2).alloc (Nat.le_refl _) (.cells #[.int .i64 0, .int .i64 0, .string ⟨#[]⟩, .int .u32 0, .slice none 0 0, .slice none 0 0] 35 (0, 0)))
    have B3 := Lib.hid (B2.out.trans (B23.out.mono B2.out.size))
    refine hK.out _ _ (B3.out) (fun hHeld => ?_)
    try simp only [Act.put, List.setIfInBounds_toArray, List.set_cons_zero, List.set_cons_succ]
    generalize w2.alloc (.cells #[.int .i64 0, .int .i64 0, .string ⟨#[]⟩, .int .u32 0, .slice none 0 0, .slice none 0 0] 35) = w3 at *
    refine wpAnyL_ready (rs := [11]) (by kernel_rfl) (by simp) ?_
    refine AllReadyL.last (by simp only [List.getElem?_toArray, List.getElem?_cons_succ, List.getElem?_cons_zero]; rfl) (by kernel_rfl) (fun K hK => ?_) AllReadyL.nil
    refine step_store_blk (by rfl) _ (.tmp 4) (.tmp 26) (by rfl) w2.heap.size 0 [.int .i64 b.l[b.cur].kind, .int .i64 b.l[b.cur].int, .string b.l[b.cur].text, .int .u32 b.l[b.cur].cr, .slice na2 b.l[b.cur].nums.length nc2, .slice a2 b.l[b.cur].args.length cap2] (by rfl) (by rfl) (by kernel_rfl) (by simp [Value.oneCell']) 35 _ R3.out (by show 0 + 6 ≤ 6; decide) ?_
    intro w4 hC4 hg4
    have C4 := Lib.hid (show Cells w4 w2.heap.size 35 [.int .i64 b.l[b.cur].kind, .int .i64 b.l[b.cur].int, .string b.l[b.cur].text, .int .u32 b.l[b.cur].cr, .slice na2 b.l[b.cur].nums.length nc2, .slice a2 b.l[b.cur].args.length cap2] from hC4)
    have B4 := Lib.hid (B2.out.trans (B23.out.grown hg4 B23.out.size (fun q hq => by cases hq; exact Nat.le_refl _) |>.mono B2.out.size))
    have HSZ2 := Lib.hid (show w.heap.size + 1 ≤ w2.heap.size from Nat.le_trans R1.out.lt B2.out.size)
    have HSZ4 := Lib.hid (show w2.heap.size < w4.heap.size from C4.out.lt)
    clear hC4 hg4
    refine hK.out _ _ ?_
    try simp only [Act.put, List.setIfInBounds_toArray, List.set_cons_zero, List.set_cons_succ]
    refine wpAnyL_done (by kernel_rfl) ?_ _
    clear hHeld
    have HB4 := Lib.hid (HB1.out.trans (B4.out.mono HB1.out.size))
    have R4 := Lib.hid (R1.out.below B4.out)
    clear B2 B23 B3 R3
    obtain ⟨o2, hs21, ho2⟩ : ∃ o2, (if c = b.cur + 1 then some (⟨k, 0, none⟩ : Addr) else some ⟨k, (b.cur + 1) * 6, none⟩) = some ⟨k, o2, none⟩ ∧ (b.cur + 1 < b.l.length → o2 = (b.cur + 1) * 6) := by
      by_cases hx : c = b.cur + 1
      · exact ⟨0, by rw [if_pos hx], fun h => by have := HLC.out; omega⟩
      · exact ⟨_, by rw [if_neg hx], fun _ => rfl⟩
    have hs10 : (b.cur : Int) ≤ (c : Int) := by have := HLC.out; omega
    have hcw : IntKind.i64.wrap ((b.cur : Int) + 1) = (b.cur : Int) + 1 := IntWalk.i64_in _ (by omega)
    have hcx : (0 : Int) ≤ (b.cur : Int) + 1 := by omega
    have hcy : (b.cur : Int) + 1 ≤ (b.l.length : Int) := by omega
    have HO2 := Lib.hid ho2
    have HX4 := Lib.hid (HX.out.below HB4.out)
    clear ho2
    go_wp2
    refine wp_region_L (S := fun W => Below w4.heap.size w4 W) (F := [25]) (by kernel_rfl) (Below.drew (Below.refl _ _)) (fun hHeld => ?_)
    refine wpAnyL_easy (i := 0) (v := (.pointer (some ⟨g, 0, none⟩))) (by simp only [List.getElem?_toArray, List.getElem?_cons_succ, List.getElem?_cons_zero]; rfl) (by kernel_rfl) (by kernel_rfl) (by kernel_rfl) (by exact fun _ _ _ h => h) (Or.inl ⟨by rfl, fun _ _ => rfl⟩) ?_
    try simp only [Act.put, List.setIfInBounds_toArray, List.set_cons_zero, List.set_cons_succ]
    refine wpAnyL_easy (i := 2) (v := (.pointer (some ⟨g, 0, none⟩))) (by simp only [List.getElem?_toArray, List.getElem?_cons_succ, List.getElem?_cons_zero]; rfl) (by kernel_rfl) (by kernel_rfl) (by kernel_rfl) (by exact fun _ _ _ h => h) (Or.inl ⟨by rfl, fun _ _ => rfl⟩) ?_
    try simp only [Act.put, List.setIfInBounds_toArray, List.set_cons_zero, List.set_cons_succ]
    refine wpAnyL_easy (i := 3) (v := (.pointer (some ⟨g, 0, none⟩))) (by simp only [List.getElem?_toArray, List.getElem?_cons_succ, List.getElem?_cons_zero]; rfl) (by kernel_rfl) (by kernel_rfl) (by kernel_rfl) (by exact fun _ _ _ h => h) (Or.inl ⟨by rfl, by intro W _; go_simp; all_goals first | rfl | exact ⟨rfl, rfl, rfl, rfl, rfl, rfl⟩⟩) ?_
    try simp only [Act.put, List.setIfInBounds_toArray, List.set_cons_zero, List.set_cons_succ]
    refine wpAnyL_easy (i := 4) (v := (.pointer (some ⟨g, 0, none⟩))) (by simp only [List.getElem?_toArray, List.getElem?_cons_succ, List.getElem?_cons_zero]; rfl) (by kernel_rfl) (by kernel_rfl) (by kernel_rfl) (by exact fun _ _ _ h => h) (Or.inl ⟨by rfl, fun _ _ => rfl⟩) ?_
    try simp only [Act.put, List.setIfInBounds_toArray, List.set_cons_zero, List.set_cons_succ]
    refine wpAnyL_take (i := 5) (v := (.slice (some ⟨k, 0, none⟩) b.l.length c)) (by simp only [List.getElem?_toArray, List.getElem?_cons_succ, List.getElem?_cons_zero]; rfl) (by kernel_rfl) (by kernel_rfl) (by kernel_rfl) (by kernel_rfl) (by exact fun _ _ _ h => h) (Or.inl ⟨by rfl, by intro W hSw; have x0 := show W.cell? ⟨g, 0, none⟩ = some (.slice (some ⟨k, 0, none⟩) b.l.length c) from (HX4.out.at_.cells.below hSw).cell 0; go_simp; all_goals first | rfl | exact ⟨rfl, rfl, rfl, rfl, rfl, rfl⟩⟩) (by assumption) ?_
    try simp only [Act.put, List.setIfInBounds_toArray, List.set_cons_zero, List.set_cons_succ]
    refine wpAnyL_easy (i := 6) (v := (.pointer (some ⟨g, 0, none⟩))) (by simp only [List.getElem?_toArray, List.getElem?_cons_succ, List.getElem?_cons_zero]; rfl) (by kernel_rfl) (by kernel_rfl) (by kernel_rfl) (by exact fun _ _ _ h => h) (Or.inl ⟨by rfl, fun _ _ => rfl⟩) ?_
    try simp only [Act.put, List.setIfInBounds_toArray, List.set_cons_zero, List.set_cons_succ]
    refine wpAnyL_easy (i := 7) (v := (.pointer (some ⟨g, 0, none⟩))) (by simp only [List.getElem?_toArray, List.getElem?_cons_succ, List.getElem?_cons_zero]; rfl) (by kernel_rfl) (by kernel_rfl) (by kernel_rfl) (by exact fun _ _ _ h => h) (Or.inl ⟨by rfl, by intro W _; go_simp; all_goals first | rfl | exact ⟨rfl, rfl, rfl, rfl, rfl, rfl⟩⟩) ?_
    try simp only [Act.put, List.setIfInBounds_toArray, List.set_cons_zero, List.set_cons_succ]
    refine wpAnyL_easy (i := 8) (v := (.pointer (some ⟨g, 1, none⟩))) (by simp only [List.getElem?_toArray, List.getElem?_cons_succ, List.getElem?_cons_zero]; rfl) (by kernel_rfl) (by kernel_rfl) (by kernel_rfl) (by exact fun _ _ _ h => h) (Or.inl ⟨by rfl, fun _ _ => rfl⟩) ?_
    try simp only [Act.put, List.setIfInBounds_toArray, List.set_cons_zero, List.set_cons_succ]
    refine wpAnyL_take (i := 9) (v := (.int .i64 b.cur)) (by simp only [List.getElem?_toArray, List.getElem?_cons_succ, List.getElem?_cons_zero]; rfl) (by kernel_rfl) (by kernel_rfl) (by kernel_rfl) (by kernel_rfl) (by exact fun _ _ _ h => h) (Or.inl ⟨by rfl, by intro W hSw; have x0 := show W.cell? ⟨g, 1, none⟩ = some (.int .i64 b.cur) from (HX4.out.at_.cells.below hSw).cell 1; go_simp; all_goals first | rfl | exact ⟨rfl, rfl, rfl, rfl, rfl, rfl⟩⟩) (by assumption) ?_
    try simp only [Act.put, List.setIfInBounds_toArray, List.set_cons_zero, List.set_cons_succ]
    refine wpAnyL_easy (i := 10) (v := (.slice (some ⟨k, 0, none⟩) b.cur c)) (by simp only [List.getElem?_toArray, List.getElem?_cons_succ, List.getElem?_cons_zero]; rfl) (by kernel_rfl) (by kernel_rfl) (by kernel_rfl) (by exact fun _ _ _ h => h) (Or.inl ⟨by rfl, by intro W _; go_simp; all_goals first | rfl | exact ⟨rfl, rfl, rfl, rfl, rfl, rfl⟩⟩) ?_
    try simp only [Act.put, List.setIfInBounds_toArray, List.set_cons_zero, List.set_cons_succ]
    refine wpAnyL_easy (i := 12) (v := (.pointer (some ⟨g, 0, none⟩))) (by simp only [List.getElem?_toArray, List.getElem?_cons_succ, List.getElem?_cons_zero]; rfl) (by kernel_rfl) (by kernel_rfl) (by kernel_rfl) (by exact fun _ _ _ h => h) (Or.inl ⟨by rfl, fun _ _ => rfl⟩) ?_
    try simp only [Act.put, List.setIfInBounds_toArray, List.set_cons_zero, List.set_cons_succ]
    refine wpAnyL_easy (i := 13) (v := (.pointer (some ⟨g, 0, none⟩))) (by simp only [List.getElem?_toArray, List.getElem?_cons_succ, List.getElem?_cons_zero]; rfl) (by kernel_rfl) (by kernel_rfl) (by kernel_rfl) (by exact fun _ _ _ h => h) (Or.inl ⟨by rfl, by intro W _; go_simp; all_goals first | rfl | exact ⟨rfl, rfl, rfl, rfl, rfl, rfl⟩⟩) ?_
    try simp only [Act.put, List.setIfInBounds_toArray, List.set_cons_zero, List.set_cons_succ]
    refine wpAnyL_easy (i := 14) (v := (.pointer (some ⟨g, 0, none⟩))) (by simp only [List.getElem?_toArray, List.getElem?_cons_succ, List.getElem?_cons_zero]; rfl) (by kernel_rfl) (by kernel_rfl) (by kernel_rfl) (by exact fun _ _ _ h => h) (Or.inl ⟨by rfl, fun _ _ => rfl⟩) ?_
    try simp only [Act.put, List.setIfInBounds_toArray, List.set_cons_zero, List.set_cons_succ]
    refine wpAnyL_take (i := 15) (v := (.slice (some ⟨k, 0, none⟩) b.l.length c)) (by simp only [List.getElem?_toArray, List.getElem?_cons_succ, List.getElem?_cons_zero]; rfl) (by kernel_rfl) (by kernel_rfl) (by kernel_rfl) (by kernel_rfl) (by exact fun _ _ _ h => h) (Or.inl ⟨by rfl, by intro W hSw; have x0 := show W.cell? ⟨g, 0, none⟩ = some (.slice (some ⟨k, 0, none⟩) b.l.length c) from (HX4.out.at_.cells.below hSw).cell 0; go_simp; all_goals first | rfl | exact ⟨rfl, rfl, rfl, rfl, rfl, rfl⟩⟩) (by assumption) ?_
    try simp only [Act.put, List.setIfInBounds_toArray, List.set_cons_zero, List.set_cons_succ]
    refine wpAnyL_easy (i := 16) (v := (.pointer (some ⟨g, 0, none⟩))) (by simp only [List.getElem?_toArray, List.getElem?_cons_succ, List.getElem?_cons_zero]; rfl) (by kernel_rfl) (by kernel_rfl) (by kernel_rfl) (by exact fun _ _ _ h => h) (Or.inl ⟨by rfl, fun _ _ => rfl⟩) ?_
    try simp only [Act.put, List.setIfInBounds_toArray, List.set_cons_zero, List.set_cons_succ]
    refine wpAnyL_easy (i := 17) (v := (.pointer (some ⟨g, 0, none⟩))) (by simp only [List.getElem?_toArray, List.getElem?_cons_succ, List.getElem?_cons_zero]; rfl) (by kernel_rfl) (by kernel_rfl) (by kernel_rfl) (by exact fun _ _ _ h => h) (Or.inl ⟨by rfl, by intro W _; go_simp; all_goals first | rfl | exact ⟨rfl, rfl, rfl, rfl, rfl, rfl⟩⟩) ?_
    try simp only [Act.put, List.setIfInBounds_toArray, List.set_cons_zero, List.set_cons_succ]
    refine wpAnyL_easy (i := 18) (v := (.pointer (some ⟨g, 1, none⟩))) (by simp only [List.getElem?_toArray, List.getElem?_cons_succ, List.getElem?_cons_zero]; rfl) (by kernel_rfl) (by kernel_rfl) (by kernel_rfl) (by exact fun _ _ _ h => h) (Or.inl ⟨by rfl, fun _ _ => rfl⟩) ?_
    try simp only [Act.put, List.setIfInBounds_toArray, List.set_cons_zero, List.set_cons_succ]
    refine wpAnyL_take (i := 19) (v := (.int .i64 b.cur)) (by simp only [List.getElem?_toArray, List.getElem?_cons_succ, List.getElem?_cons_zero]; rfl) (by kernel_rfl) (by kernel_rfl) (by kernel_rfl) (by kernel_rfl) (by exact fun _ _ _ h => h) (Or.inl ⟨by rfl, by intro W hSw; have x0 := show W.cell? ⟨g, 1, none⟩ = some (.int .i64 b.cur) from (HX4.out.at_.cells.below hSw).cell 1; go_simp; all_goals first | rfl | exact ⟨rfl, rfl, rfl, rfl, rfl, rfl⟩⟩) (by assumption) ?_
    try simp only [Act.put, List.setIfInBounds_toArray, List.set_cons_zero, List.set_cons_succ]
    refine wpAnyL_easy (i := 20) (v := (.int .i64 ((b.cur : Int) + 1))) (by simp only [List.getElem?_toArray, List.getElem?_cons_succ, List.getElem?_cons_zero]; rfl) (by kernel_rfl) (by kernel_rfl) (by kernel_rfl) (by exact fun _ _ _ h => h) (Or.inl ⟨by rfl, by intro W _; go_simp; all_goals first | rfl | exact ⟨rfl, rfl, rfl, rfl, rfl, rfl⟩⟩) ?_
    try simp only [Act.put, List.setIfInBounds_toArray, List.set_cons_zero, List.set_cons_succ]
    refine wpAnyL_easy (i := 21) (v := (.slice (some ⟨k, o2, none⟩) (b.l.length - (b.cur + 1)) (c - (b.cur + 1)))) (by simp only [List.getElem?_toArray, List.getElem?_cons_succ, List.getElem?_cons_zero]; rfl) (by kernel_rfl) (by kernel_rfl) (by kernel_rfl) (by exact fun _ _ _ h => h) (Or.inl ⟨by rfl, by intro W _; go_simp; all_goals first | rfl | exact ⟨rfl, rfl, rfl, rfl, rfl, rfl⟩⟩) ?_
    try simp only [Act.put, List.setIfInBounds_toArray, List.set_cons_zero, List.set_cons_succ]
    clear hs10 hs21 hcw hcx hcy
    have B5 := Lib.hid hHeld
    generalize w4.drew = w5 at *
    refine wpAnyL_ready (rs := [1]) (by kernel_rfl) (by simp) ?_
    refine AllReadyL.cons (by simp only [List.getElem?_toArray, List.getElem?_cons_succ, List.getElem?_cons_zero]; rfl) (fun K hK => ?_) AllReadyL.nil
    go_simp
    have EZ := Lib.hid (show Cells (w5.alloc (.cells #[] 35)) w5.heap.size 35 [] from Cells.new w5 35 [])
    have B6 := Lib.hid (B5.out.alloc B5.out.size (.cells #[] 35 (0, 0)))
    refine hK.out _ _ (B6.out) (fun hHeld => ?_)
    try simp only [Act.put, List.setIfInBounds_toArray, List.set_cons_zero, List.set_cons_succ]
    generalize w5.alloc (.cells #[] 35) = w6 at *
    have HSZ5 := Lib.hid B5.out.size
    have X6 := Lib.hid (HX4.out.below B6.out)
    obtain ⟨v7, w7, hrun7, ht7, hg7, hob7⟩ := (TsIs.empty (S := fun q => q < base) (Nat.le_trans HBS.out (Nat.le_trans HB4.out.size HSZ5.out)) EZ.out).appAll k 0 c (d := b.l.take b.cur) (by have := X6.out.at_.rows.rowAt 0 b.cur (by omega); simpa using this) (by simp; omega) (Nat.le_trans HBS.out (Nat.le_trans HB4.out.size B6.out.size)) (fun q hq hb => by cases hq; have := HBS.out; have := HB4.out.size; have := HSZ5.out; have hb : w5.heap.size < base := hb; omega)
    have B7 := Lib.hid (B6.out.grown hg7 B6.out.size (fun q hq => by cases hq; exact HSZ5.out))
    have hv7 : ∀ q, v7.ownBlock = some q → w4.heap.size ≤ q := fun q hq => by
      rcases hob7 with e | e
      · rw [e] at hq; cases hq; exact HSZ5.out
      · rw [e] at hq; cases hq; exact B6.out.size
    have hl7 : (b.l.take b.cur).length = b.cur := by rw [List.length_take]; omega
    rw [hl7] at hrun7
    have HR7 := Lib.hid hrun7
    have HT7 := Lib.hid ht7
    have HV7 := Lib.hid hv7
    have X7 := Lib.hid (HX4.out.below B7.out)
    clear hrun7 ht7 hg7 hob7 hv7
    have hd8 : RowAt (fun q => q < base) k o2 (b.l.drop (b.cur + 1)) w7 := by
      by_cases hx : b.cur + 1 < b.l.length
      · rw [HO2.out hx]
        have := X7.out.at_.rows.rowAt (b.cur + 1) (b.l.length - (b.cur + 1)) (by omega)
        rwa [List.take_of_length_le (by rw [List.length_drop]; exact Nat.le_refl _)] at this
      · rw [List.drop_of_length_le (by omega)]; exact RowAt.nil
    obtain ⟨v8, w8, hrun8, ht8, hg8, hob8⟩ := HT7.out.appAll k o2 (c - (b.cur + 1)) hd8 (by simp; omega) (Nat.le_trans HBS.out (Nat.le_trans HB4.out.size B7.out.size)) (fun q hq hb => by have := HV7.out q hq; have := HBS.out; have := HB4.out.size; have hb : q < base := hb; omega)
    have B8 := Lib.hid (B7.out.grown hg8 B7.out.size (fun q hq => HV7.out q hq))
    have HV8 := Lib.hid (show ∀ q, v8.ownBlock = some q → w4.heap.size ≤ q from fun q hq => by
      rcases hob8 with e | e
      · rw [e] at hq; exact HV7.out q hq
      · rw [e] at hq; cases hq; exact B7.out.size)
    have HT8 := Lib.hid (show TsIs base (fun q => q < base) v8 (b.l.eraseIdx b.cur) w8 from by rw [List.eraseIdx_eq_take_drop_succ]; exact ht8)
    rw [List.length_drop] at hrun8
    have HR8 := Lib.hid hrun8
    have X8 := Lib.hid (HX4.out.below B8.out)
    clear hrun8 ht8 hg8 hob8 hd8
    refine wpAnyL_ready (rs := [11]) (by kernel_rfl) (by simp) ?_
    refine AllReadyL.cons (by simp only [List.getElem?_toArray, List.getElem?_cons_succ, List.getElem?_cons_zero]; rfl) (fun K hK => ?_) AllReadyL.nil
    refine step_app_eq (by rfl) _ _ _ _ (by rfl) _ _ v7 w7 (by rfl) (by rfl) HR7.out ?_
    refine hK.out _ _ (B7.out) (fun hHeld => ?_)
    try simp only [Act.put, List.setIfInBounds_toArray, List.set_cons_zero, List.set_cons_succ]
    refine wpAnyL_ready (rs := [22]) (by kernel_rfl) (by simp) ?_
    refine AllReadyL.cons (by simp only [List.getElem?_toArray, List.getElem?_cons_succ, List.getElem?_cons_zero]; rfl) (fun K hK => ?_) AllReadyL.nil
    refine step_app_eq (by rfl) _ _ _ _ (by rfl) _ _ v8 w8 (by rfl) (by rfl) HR8.out ?_
    refine hK.out _ _ (B8.out) (fun hHeld => ?_)
    try simp only [Act.put, List.setIfInBounds_toArray, List.set_cons_zero, List.set_cons_succ]
    refine wpAnyL_easy (i := 23) (v := (.pointer (some ⟨g, 0, none⟩))) (by simp only [List.getElem?_toArray, List.getElem?_cons_succ, List.getElem?_cons_zero]; rfl) (by kernel_rfl) (by kernel_rfl) (by kernel_rfl) (by exact fun _ _ _ h => h) (Or.inl ⟨by rfl, by intro W _; go_simp; all_goals first | rfl | exact ⟨rfl, rfl, rfl, rfl, rfl, rfl⟩⟩) ?_
    try simp only [Act.put, List.setIfInBounds_toArray, List.set_cons_zero, List.set_cons_succ]
    refine wpAnyL_easy (i := 24) (v := (.pointer (some ⟨g, 0, none⟩))) (by simp only [List.getElem?_toArray, List.getElem?_cons_succ, List.getElem?_cons_zero]; rfl) (by kernel_rfl) (by kernel_rfl) (by kernel_rfl) (by exact fun _ _ _ h => h) (Or.inl ⟨by rfl, fun _ _ => rfl⟩) ?_
    try simp only [Act.put, List.setIfInBounds_toArray, List.set_cons_zero, List.set_cons_succ]
    refine wpAnyL_ready (rs := [25]) (by kernel_rfl) (by simp) ?_
    refine AllReadyL.last (by simp only [List.getElem?_toArray, List.getElem?_cons_succ, List.getElem?_cons_zero]; rfl) (by kernel_rfl) (fun K hK => ?_) AllReadyL.nil
    have d0 := X8.out.at_.cells.cell 0
    have f0 := X8.out.at_.cells.frozen 0
    simp only [rxV, List.getElem?_cons_zero] at d0
    obtain ⟨a8, n8, cc8, rfl⟩ : ∃ a n c, v8 = .slice a n c := by obtain ⟨a, c, h⟩ := HT8.out.form; exact ⟨_, _, _, h⟩
    go_simp
    refine hK.out _ _ ?_
    try simp only [Act.put, List.setIfInBounds_toArray, List.set_cons_zero, List.set_cons_succ]
    refine wpAnyL_done (by kernel_rfl) ?_ _
    clear d0 f0
    have C9 := Lib.hid (show Cells (w8.setCell ⟨g, 0, none⟩ (.slice a8 n8 cc8)) g 28 (rxV ⟨b.l.eraseIdx b.cur, b.cur, b.set, b.due⟩ (.slice a8 n8 cc8)) from X8.out.at_.cells.set_ 0 _)
    have K9 := Lib.hid (keepSet ((keepB (S := Blk1 g) HB4.out).trans (keepB (S := Blk1 g) B8.out) (fun _ _ h => h)) 0 (.slice a8 n8 cc8))
    have HGN := Lib.hid (show ∀ q, (Value.slice a8 n8 cc8).ownBlock = some q → q ≠ g from fun q hq e => by have := HV8.out q hq; have := HGW.out; have := HB4.out.size; omega)
    have T9 := Lib.hid (HT8.out.keep (keepSet (Keep.refl (Blk1 g) w8) 0 (.slice a8 n8 cc8)) (fun q hq e => HGN.out q hq e) (fun q _ hq e => by have := HX.out.hg; have e : q = g := e; have hq : q < base := hq; omega))
    have D9 := Lib.hid ((C4.out.below B8.out).far (p := ⟨g, 0, none⟩) (by show w2.heap.size ≠ g; have := HGW.out; have := HSZ2.out; omega) (.slice a8 n8 cc8))
    have R9 := Lib.hid ((R4.out.below B8.out).far (p := ⟨g, 0, none⟩) (by show w.heap.size ≠ g; have := HGW.out; omega) (.slice a8 n8 cc8))
    generalize w8.setCell ⟨g, 0, none⟩ (.slice a8 n8 cc8) = w9 at *
    go_wp2_with fail
    refine (reset17_any _ C9.out).mono ?_
    rintro e w10 ⟨rfl, hC10, hk10⟩
    have K10 := Lib.hid (K9.out.trans hk10 (fun _ _ h => h))
    have HGW2 := Lib.hid HGW.out
    have T10 := Lib.hid (T9.out.keep hk10 (fun q hq e => HGN.out q hq e) (fun q _ hq e => by have := HX.out.hg; have e : q = g := e; have hq : q < base := hq; omega))
    have D10 := D9.out.keep hk10 (fun e => by have e : w2.heap.size = g := e; have := HGW.out; have := HSZ2.out; omega)
    have R10 := Lib.hid (R9.out.keep hk10 (fun e => by have e : w.heap.size = g := e; have := HGW.out; omega))
    have C10 := Lib.hid (show Cells w10 g 28 (rxV ⟨b.l.eraseIdx b.cur, 0, false, 0⟩ (.slice a8 n8 cc8)) from hC10)
    have q0 := D10.cell 0
    have q1 := D10.cell 1
    have q2 := D10.cell 2
    have q3 := D10.cell 3
    have q4 := D10.cell 4
    have q5 := D10.cell 5
    simp only [List.getElem?_cons_zero, List.getElem?_cons_succ] at q0 q1 q2 q3 q4 q5
    clear hC10 hk10 D10
    go_wp2_with (refine wpList_store_blk rfl _ (.tmp 2) (.tmp 54) rfl w.heap.size 0 [.int .i64 b.l[b.cur].kind, .int .i64 b.l[b.cur].int, .string b.l[b.cur].text, .int .u32 b.l[b.cur].cr, .slice na2 b.l[b.cur].nums.length nc2, .slice a2 b.l[b.cur].args.length cap2] (by rfl) (by rfl) (by kernel_rfl) (by simp [Value.oneCell']) 35 _ R10.out (by show 0 + 6 ≤ 6; decide) ?_; intro w11 hC11 hg11)
    have hC11' : Cells w11 w.heap.size 35 [.int .i64 b.l[b.cur].kind, .int .i64 b.l[b.cur].int, .string b.l[b.cur].text, .int .u32 b.l[b.cur].cr, .slice na2 b.l[b.cur].nums.length nc2, .slice a2 b.l[b.cur].args.length cap2] := hC11
    clear q0 q1 q2 q3 q4 q5
    have K11 := Lib.hid (show Keep (Blk1 g) w w11 from K10.out.grown hg11 (fun q hq hlt => by cases hq; exact absurd hlt (Nat.lt_irrefl _)))
    have HGW3 := HGW.out
    have HHG := HX.out.hg
    have HBS3 := HBS.out
    have HFIN := Lib.hid (show RxRes base g (.slice (some ⟨k, 0, none⟩) b.l.length c) w ⟨b.l.eraseIdx b.cur, 0, false, 0⟩ w11 from ⟨.slice a8 n8 cc8, ⟨HHG, by
        show (b.l.eraseIdx b.cur).length ≤ 4096
        rw [List.length_eraseIdx_of_lt hlt]; omega, Nat.zero_le _, ⟨C10.out.grown hg11 (fun e => by have := Option.some.inj e; omega), rfl,
        T10.out.frame (fun q hq => hg11.block q (T10.out.block hq).2.1 (fun e => by have := Option.some.inj e; have := HV8.out q hq; have := HB4.out.size; have := HSZ4.out; have := HSZ2.out; omega)) (fun q hlt hq => hg11.block q hlt (fun e => by have := Option.some.inj e; have hq : q < base := hq; omega)),
        fun q hq => ⟨by have hq : q < base := hq; have := K11.out.size; omega, fun e => by have hq : q < base := hq; omega⟩,
        fun q hq => ⟨by have := HV8.out q hq; have := HB4.out.size; omega, HGN.out q hq, fun hb => by have hb : q < base := hb; have := HV8.out q hq; have := HB4.out.size; omega⟩⟩⟩,
        K11.out.more (fun q _ hq => .inl hq), fun q hq => .inr (by have := HV8.out q hq; have := HB4.out.size; omega)⟩)
    have HTF := Lib.hid (show TmAt (fun q => q < base) b.l[b.cur] [.int .i64 b.l[b.cur].kind, .int .i64 b.l[b.cur].int, .string b.l[b.cur].text, .int .u32 b.l[b.cur].cr, .slice na2 b.l[b.cur].nums.length nc2, .slice a2 b.l[b.cur].args.length cap2] w11 from HTM.out.keep K11.out (fun q _ hq e => by have e : q = g := e; have hq : q < base := hq; omega))
    have q0 := hC11'.cell 0
    have q1 := hC11'.cell 1
    have q2 := hC11'.cell 2
    have q3 := hC11'.cell 3
    have q4 := hC11'.cell 4
    have q5 := hC11'.cell 5
    simp only [List.getElem?_cons_zero, List.getElem?_cons_succ] at q0 q1 q2 q3 q4 q5
    clear hC11 hC11' hg11 HGW3 HHG HBS3
    go_wp2
    refine bodyPost_ret (v := .tuple #[.agg #[.int .i64 b.l[b.cur].kind, .int .i64 b.l[b.cur].int, .string b.l[b.cur].text, .int .u32 b.l[b.cur].cr, .slice na2 b.l[b.cur].nums.length nc2, .slice a2 b.l[b.cur].args.length cap2], .slice none 0 0]) (by simp [results, Tryz.results35, go_sem, q0, q1, q2, q3, q4, q5]) rfl ?_
    rw [HR.out]
    exact ⟨_, _, rfl, LinksIs.nil _ _, HFIN.out, HTF.out, rfl⟩
  · have HR := Lib.hid (show takeM b = (none, errM 7, b) from by unfold takeM; rw [List.getElem?_eq_none (by omega)])
    have hlt2 : b.l.length ≤ b.cur := by omega
    clear h hlt
    go_enter Tryz.func35, Tryz.ntmps35
    go_wp2
    go_quiet (fail)
    have HB1 := Lib.hid (below_drewN HB0.out nq)
    have R1 := Lib.hid (R0.out.drewN nq)
    clear HB0 R0 C0 c0 c1
    generalize World.drewN _ nq = w1 at *
    go_wp2_with fail
    refine (no17_any 7 _).mono ?_
    rintro e w3 ⟨v3, rfl, hl3, hb3⟩
    have HL3 := Lib.hid (LinksIs.base hl3 HB1.out.size)
    have HB3 := Lib.hid (HB1.out.trans (hb3.mono HB1.out.size))
    have R3 := Lib.hid (R1.out.below hb3)
    have HSZ := Lib.hid (show w1.heap.size ≤ w3.heap.size from hb3.size)
    have HL1 := Lib.hid hl3
    clear hl3 hb3
    go_wp2_with (refine wpList_store_blk rfl _ (.tmp 2) (.tmp 15) rfl w.heap.size 0 [.int .i64 0, .int .i64 0, .string ⟨#[]⟩, .int .u32 0, .slice none 0 0, .slice none 0 0] (by rfl) (by rfl) (by kernel_rfl) (by simp [Value.oneCell']) 35 _ R3.out (by show 0 + 6 ≤ 6; decide) ?_; intro w4 hC4 hg4)
    have hC4' : Cells w4 w.heap.size 35 [.int .i64 0, .int .i64 0, .string ⟨#[]⟩, .int .u32 0, .slice none 0 0, .slice none 0 0] := hC4
    have HB4 := Lib.hid (HB3.out.grown hg4 HB3.out.size (fun q hq => by cases hq; exact Nat.le_refl _))
    have HL4 := Lib.hid (show LinksIs w.heap.size v3 (errM 7) w4 from HL3.out.frame (fun q hq => hg4.block q (HL3.out.block hq).2 (fun e => by cases e; have := (HL1.out.block hq).1; have := R1.out.lt; omega)))
    have q0 := hC4'.cell 0
    have q1 := hC4'.cell 1
    have q2 := hC4'.cell 2
    have q3 := hC4'.cell 3
    have q4 := hC4'.cell 4
    have q5 := hC4'.cell 5
    simp only [List.getElem?_cons_zero, List.getElem?_cons_succ] at q0 q1 q2 q3 q4 q5
    clear hC4 hC4' hg4
    go_wp2
    refine bodyPost_ret (v := .tuple #[.agg #[.int .i64 0, .int .i64 0, .string ⟨#[]⟩, .int .u32 0, .slice none 0 0, .slice none 0 0], v3]) (by simp [results, Tryz.results35, go_sem, q0, q1, q2, q3, q4, q5]) rfl ?_
    rw [HR.out]
    exact ⟨_, _, rfl, HL4.out, HX.out.same HB4.out, rfl⟩
end Go.Proofs.YtlahagabcnmdiaaGreatDoor
end
section
/- The reference of layer 17: Wait. Printed by wip/rxw.py. -/
open Go Go.RowKit
namespace Go.Proofs.YtlahagabcnmdiaaGreatDoor
set_option linter.unusedVariables false
set_option linter.unusedSimpArgs false

theorem lm_bad {t : Tm} (h : checkS t ≠ []) : longM t = none := by unfold longM; rw [if_pos h]
theorem lm_num {t : Tm} (h : checkS t = []) (k : t.kind = 1) (h0 : 0 ≤ t.int) (h1 : t.int ≤ 1099511627776) : longM t = some (some t.int) := by unfold longM; rw [if_neg (by simp [h]), if_pos k, if_pos ⟨h0, h1⟩]
theorem lm_no1 {t : Tm} (k : t.kind = 1) (h0 : ¬ (0 ≤ t.int ∧ t.int ≤ 1099511627776)) : longM t = none := by
  unfold longM
  by_cases h : checkS t ≠ []
  · rw [if_pos h]
  · rw [if_neg h, if_pos k, if_neg h0]
theorem lm_inf {t : Tm} (h : checkS t = []) (k : t.kind = 2) (x : t.text = infL) : longM t = some none := by unfold longM; rw [if_neg (by simp [h]), if_neg (by omega), if_pos ⟨k, x⟩]
theorem lm_no2 {t : Tm} (k : t.kind ≠ 1) (h0 : ¬ (t.kind = 2 ∧ t.text = infL)) : longM t = none := by
  unfold longM
  by_cases h : checkS t ≠ []
  · rw [if_pos h]
  · rw [if_neg h, if_neg k, if_neg h0]
theorem wait_of {b : Bx} {now : Int} {t : Tm} (h : clockM now = true) : waitM b now t = waitR b now (longM t) := by unfold waitM; rw [if_neg (by simp [h])]
theorem RxRes.after {base g : Nat} {b b' : Bx} {lv : Value} {w w1 w' : World} (h : Rx base g b lv w) (hb : Below w.heap.size w w1) (hr : RxRes base g lv w1 b' w') : RxRes base g lv w b' w' := by
  obtain ⟨lv', h1, h2, h3⟩ := hr
  exact ⟨lv', h1, (keepB hb).trans h2 (fun _ _ h => h), fun q hq => (h3 q hq).imp_right (fun h => Nat.le_trans hb.size h)⟩
set_option maxHeartbeats 16000000 in
set_option maxRecDepth 100000 in
theorem wait17_any {base g : Nat} {b : Bx} {lv : Value} (now : Int) (t : Tm) (vs : List Value) (w : World) (h : Rx base g b lv w) (ht : TmAt (fun q => q < base) t vs w) :
    Calls Tryz.prog 37 #[.pointer (some ⟨g, 0, none⟩), .int .i64 now, .agg vs.toArray] w (RetRW base g lv w (waitM b now t)) := by
  have HX := Lib.hid h
  obtain ⟨_, nv, a2, cap2, rfl, hnn, _⟩ := ht.parts
  obtain ⟨na2, nc2, rfl, _, _⟩ := hnn.slice
  have HBS := Lib.hid (show base ≤ w.heap.size from Nat.le_of_lt (Nat.lt_of_le_of_lt h.hg h.at_.cells.lt))
  have HGW := Lib.hid h.at_.cells.lt
  have HC := Lib.hid h.at_.cells
  have HB0 := Lib.hid ((Below.refl w.heap.size w).alloc (Nat.le_refl _) (.cells #[.int .i64 t.kind, .int .i64 t.int, .string t.text, .int .u32 t.cr, .slice na2 t.nums.length nc2, .slice a2 t.args.length cap2] 35 (0, 0)))
  have R0 := Lib.hid (show Cells (w.alloc (.cells #[.int .i64 t.kind, .int .i64 t.int, .string t.text, .int .u32 t.cr, .slice na2 t.nums.length nc2, .slice a2 t.args.length cap2] 35 (0, 0))) w.heap.size 35 [.int .i64 t.kind, .int .i64 t.int, .string t.text, .int .u32 t.cr, .slice na2 t.nums.length nc2, .slice a2 t.args.length cap2] from Cells.new w 35 [.int .i64 t.kind, .int .i64 t.int, .string t.text, .int .u32 t.cr, .slice na2 t.nums.length nc2, .slice a2 t.args.length cap2])
  have HCL := Lib.hid (clock17_any now (w.alloc (.cells #[.int .i64 t.kind, .int .i64 t.int, .string t.text, .int .u32 t.cr, .slice na2 t.nums.length nc2, .slice a2 t.args.length cap2] 35 (0, 0))))
  have HCK := Lib.hid (checkR_any (fun q => q < base) t [.int .i64 t.kind, .int .i64 t.int, .string t.text, .int .u32 t.cr, .slice na2 t.nums.length nc2, .slice a2 t.args.length cap2] _ (ht.below HB0.out) (fun q hq => Nat.lt_of_lt_of_le (Nat.lt_of_lt_of_le hq HBS.out) HB0.out.size))
  have q0 := R0.out.cell 0
  have q1 := R0.out.cell 1
  simp only [List.getElem?_cons_zero, List.getElem?_cons_succ] at q0 q1
  clear h ht hnn
  cases hcl : clockM now with
  | false =>
    have HR := Lib.hid (show waitM b now t = (false, errM 2, b) by unfold waitM; rw [if_pos hcl])
    rw [hcl] at HCL
    clear hcl
    go_enter Tryz.func37, Tryz.ntmps37
    go_wp2_with fail
    refine HCL.out.mono ?_
    rintro e w2 ⟨rfl, rfl⟩
    have HB3 := HB0
    go_wp2_with fail
    refine (no17_any 2 _).mono ?_
    rintro e w9 ⟨v9, rfl, hl9, hb9⟩
    have HL9 := Lib.hid hl9
    have HB9 := Lib.hid (HB3.out.trans (hb9.mono HB3.out.size))
    have HSZ := Lib.hid HB3.out.size
    clear hl9 hb9
    go_wp2
    go_ret2
    rw [HR.out]
    exact ⟨_, rfl, HL9.out.base HSZ.out, HX.out.same HB9.out⟩
  | true =>
    have HW := Lib.hid (wait_of (b := b) (t := t) hcl)
    have hnw : 0 ≤ now ∧ now ≤ 1099511627776 := by
      unfold clockM at hcl
      simp only [Bool.and_eq_true, decide_eq_true_eq] at hcl
      exact hcl
    obtain ⟨hn0, hn1⟩ := hnw
    rw [hcl] at HCL
    clear hcl
    by_cases k1 : t.kind = 1
    · have e1 : (t.kind == 1) = true := beq_iff_eq.2 k1
      have e2 : (t.kind != 2) = true := bne_iff_ne.2 (by omega)
      by_cases hr : 0 ≤ t.int ∧ t.int ≤ 1099511627776
      · obtain ⟨hr1, hr2⟩ := hr
        cases hck : checkS t with
        | cons kk rr =>
          have HCE := Lib.hid hck
          have HR := Lib.hid (show waitM b now t = (false, errM 340, b) by rw [HW.out, lm_bad (by simp [hck])]; rfl)
          clear hck k1
          go_enter Tryz.func37, Tryz.ntmps37
          go_wp2_with fail
          refine HCL.out.mono ?_
          rintro e w2 ⟨rfl, rfl⟩
          go_wp2_with fail
          refine HCK.out.mono ?_
          rintro e w3 ⟨lv3, rfl, hlk, hln, hb3⟩
          have HB3 := Lib.hid (HB0.out.trans (hb3.mono HB0.out.size))
          have M3 := R0.out.below hb3
          have m0 := M3.cell 0
          have m1 := M3.cell 1
          have m2 := M3.cell 2
          have C3 := Lib.hid (HC.out.below HB3.out)
          have c2 := C3.out.cell 2
          have c3 := C3.out.cell 3
          simp only [rxV, List.getElem?_cons_zero, List.getElem?_cons_succ] at m0 m1 m2 c2 c3
          rw [HCE.out] at hlk
          obtain ⟨_, hn⟩ | ⟨g2, cc2, rfl, -, -, -, -⟩ := hlk.shape
          · cases hn
          have hpos : (0 : Int) < ((kk :: rr).length : Int) := by simp <;> omega
          generalize (kk :: rr).length = nn at hpos ⊢
          clear hlk hln hb3 M3 q0 q1
          go_wp2_with fail
          refine (no17_any 340 _).mono ?_
          rintro e w9 ⟨v9, rfl, hl9, hb9⟩
          have HL9 := Lib.hid hl9
          have HB9 := Lib.hid (HB3.out.trans (hb9.mono HB3.out.size))
          have HSZ := Lib.hid HB3.out.size
          clear hl9 hb9
          go_wp2
          go_ret2
          rw [HR.out]
          exact ⟨_, rfl, HL9.out.base HSZ.out, HX.out.same HB9.out⟩
        | nil =>
          have HCE := Lib.hid hck
          by_cases hz : t.int = 0
          · have qz : (t.int == 0) = true := beq_iff_eq.2 hz
            have HR := Lib.hid (show waitM b now t = (false, [], resetM b) by rw [HW.out, lm_num hck k1 hr1 hr2]; simp [waitR, hz])
            clear hck k1 hz
            go_enter Tryz.func37, Tryz.ntmps37
            go_wp2_with fail
            refine HCL.out.mono ?_
            rintro e w2 ⟨rfl, rfl⟩
            go_wp2_with fail
            refine HCK.out.mono ?_
            rintro e w3 ⟨lv3, rfl, hlk, hln, hb3⟩
            have HB3 := Lib.hid (HB0.out.trans (hb3.mono HB0.out.size))
            have M3 := R0.out.below hb3
            have m0 := M3.cell 0
            have m1 := M3.cell 1
            have m2 := M3.cell 2
            have C3 := Lib.hid (HC.out.below HB3.out)
            have c2 := C3.out.cell 2
            have c3 := C3.out.cell 3
            simp only [rxV, List.getElem?_cons_zero, List.getElem?_cons_succ] at m0 m1 m2 c2 c3
            have hlv := hln HCE.out
            subst hlv
            clear hlk hln hb3 M3 q0 q1
            go_wp2_with fail
            refine (reset17_any _ C3.out).mono ?_
            rintro e w9 ⟨rfl, hC9, hk9⟩
            have HT := Lib.hid ((HX.out.below HB3.out).turn (b' := resetM b) rfl (Nat.zero_le _) hC9 hk9)
            have HT2 := Lib.hid (RxRes.after HX.out HB3.out HT.out)
            clear hC9 hk9
            go_wp2
            go_ret2
            rw [HR.out]
            exact ⟨_, rfl, LinksIs.nil _ _, HT2.out⟩
          · have qz : (t.int == 0) = false := beq_eq_false_iff_ne.2 hz
            cases hs : b.set with
            | false =>
              have HS := Lib.hid hs
              have HR := Lib.hid (show waitM b now t = (true, [], ⟨b.l, b.cur, true, now + t.int⟩) by rw [HW.out, lm_num hck k1 hr1 hr2]; simp [waitR, comeM, hs, hz])
              clear hck k1 hz hs
              go_enter Tryz.func37, Tryz.ntmps37
              go_wp2_with fail
              refine HCL.out.mono ?_
              rintro e w2 ⟨rfl, rfl⟩
              go_wp2_with fail
              refine HCK.out.mono ?_
              rintro e w3 ⟨lv3, rfl, hlk, hln, hb3⟩
              have HB3 := Lib.hid (HB0.out.trans (hb3.mono HB0.out.size))
              have M3 := R0.out.below hb3
              have m0 := M3.cell 0
              have m1 := M3.cell 1
              have m2 := M3.cell 2
              have C3 := Lib.hid (HC.out.below HB3.out)
              have c2 := C3.out.cell 2
              have c3 := C3.out.cell 3
              simp only [rxV, List.getElem?_cons_zero, List.getElem?_cons_succ] at m0 m1 m2 c2 c3
              have hlv := hln HCE.out
              subst hlv
              clear hlk hln hb3 M3 q0 q1
              rw [HS.out] at c2
              have HM1 := Lib.hid m1
              have hw2 : IntKind.i64.wrap (now + t.int) = now + t.int := IntWalk.i64_in _ (by omega)
              go_wp2
              clear m0 m1 m2 c3
              refine wp_region_L (S := fun W => W.cell? ⟨w.heap.size, 1, none⟩ = some (.int .i64 t.int)) (F := []) (by kernel_rfl) (HM1.out) (fun hHeld => ?_)
              refine wpAnyL_easy (i := 0) (v := (.pointer (some ⟨g, 0, none⟩))) (by simp only [List.getElem?_toArray, List.getElem?_cons_succ, List.getElem?_cons_zero]; rfl) (by kernel_rfl) (by kernel_rfl) (by kernel_rfl) (by exact fun _ _ _ h => h) (Or.inl ⟨by rfl, fun _ _ => rfl⟩) ?_
              try simp only [Act.put, List.setIfInBounds_toArray, List.set_cons_zero, List.set_cons_succ]
              refine wpAnyL_easy (i := 1) (v := (.pointer (some ⟨g, 0, none⟩))) (by simp only [List.getElem?_toArray, List.getElem?_cons_succ, List.getElem?_cons_zero]; rfl) (by kernel_rfl) (by kernel_rfl) (by kernel_rfl) (by exact fun _ _ _ h => h) (Or.inl ⟨by rfl, fun _ _ => rfl⟩) ?_
              try simp only [Act.put, List.setIfInBounds_toArray, List.set_cons_zero, List.set_cons_succ]
              refine wpAnyL_easy (i := 2) (v := (.int .i64 now)) (by simp only [List.getElem?_toArray, List.getElem?_cons_succ, List.getElem?_cons_zero]; rfl) (by kernel_rfl) (by kernel_rfl) (by kernel_rfl) (by exact fun _ _ _ h => h) (Or.inl ⟨by rfl, fun _ _ => rfl⟩) ?_
              try simp only [Act.put, List.setIfInBounds_toArray, List.set_cons_zero, List.set_cons_succ]
              refine wpAnyL_easy (i := 3) (v := (.pointer (some ⟨w.heap.size, 1, none⟩))) (by simp only [List.getElem?_toArray, List.getElem?_cons_succ, List.getElem?_cons_zero]; rfl) (by kernel_rfl) (by kernel_rfl) (by kernel_rfl) (by exact fun _ _ _ h => h) (Or.inl ⟨by rfl, fun _ _ => rfl⟩) ?_
              try simp only [Act.put, List.setIfInBounds_toArray, List.set_cons_zero, List.set_cons_succ]
              refine wpAnyL_take (i := 4) (v := (.int .i64 t.int)) (by simp only [List.getElem?_toArray, List.getElem?_cons_succ, List.getElem?_cons_zero]; rfl) (by kernel_rfl) (by kernel_rfl) (by kernel_rfl) (by kernel_rfl) (by exact fun _ _ _ h => h) (Or.inl ⟨by rfl, by intro W hSw; have x0 := hSw; go_simp; all_goals first | rfl | exact ⟨rfl, rfl, rfl, rfl, rfl, rfl⟩⟩) (by assumption) ?_
              try simp only [Act.put, List.setIfInBounds_toArray, List.set_cons_zero, List.set_cons_succ]
              refine wpAnyL_easy (i := 5) (v := (.int .i64 (now + t.int))) (by simp only [List.getElem?_toArray, List.getElem?_cons_succ, List.getElem?_cons_zero]; rfl) (by kernel_rfl) (by kernel_rfl) (by kernel_rfl) (by exact fun _ _ _ h => h) (Or.inl ⟨by rfl, by intro W _; go_simp; all_goals first | rfl | exact ⟨rfl, rfl, rfl, rfl, rfl, rfl⟩⟩) ?_
              try simp only [Act.put, List.setIfInBounds_toArray, List.set_cons_zero, List.set_cons_succ]
              refine wpAnyL_easy (i := 6) (v := (.pointer (some ⟨g, 0, none⟩))) (by simp only [List.getElem?_toArray, List.getElem?_cons_succ, List.getElem?_cons_zero]; rfl) (by kernel_rfl) (by kernel_rfl) (by kernel_rfl) (by exact fun _ _ _ h => h) (Or.inl ⟨by rfl, by intro W _; go_simp; all_goals first | rfl | exact ⟨rfl, rfl, rfl, rfl, rfl, rfl⟩⟩) ?_
              try simp only [Act.put, List.setIfInBounds_toArray, List.set_cons_zero, List.set_cons_succ]
              refine wpAnyL_easy (i := 7) (v := (.pointer (some ⟨g, 2, none⟩))) (by simp only [List.getElem?_toArray, List.getElem?_cons_succ, List.getElem?_cons_zero]; rfl) (by kernel_rfl) (by kernel_rfl) (by kernel_rfl) (by exact fun _ _ _ h => h) (Or.inl ⟨by rfl, fun _ _ => rfl⟩) ?_
              try simp only [Act.put, List.setIfInBounds_toArray, List.set_cons_zero, List.set_cons_succ]
              have B4 := Lib.hid (Below.drew (Below.refl w3.heap.size w3))
              have C4 := Lib.hid (show Cells w3.drew g 28 (rxV b lv) from C3.out.drew)
              clear c2
              generalize w3.drew = w4 at *
              have HG1 := Lib.hid (show g ≠ w.heap.size by have := HGW.out; omega)
              have K0 := Lib.hid (keepB (S := Blk1 g) B4.out)
              refine wpAnyL_ready (rs := [8]) (by kernel_rfl) (by simp) ?_
              refine AllReadyL.cons (by simp only [List.getElem?_toArray, List.getElem?_cons_succ, List.getElem?_cons_zero]; rfl) (fun K hK => ?_) AllReadyL.nil
              have d1 := C4.out.cell 2
              have f1 := C4.out.frozen 2
              have P1 := Lib.hid (C4.out.set_ 2 (.bool true))
              have d2 := P1.out.cell 3
              have f2 := P1.out.frozen 3
              have P2 := Lib.hid (show Cells _ g 28 (rxV ⟨b.l, b.cur, true, now + t.int⟩ lv) from P1.out.set_ 3 (.int .i64 (now + t.int)))
              have K2 := Lib.hid (keepSet (keepSet K0.out 2 (.bool true)) 3 (.int .i64 (now + t.int)))
              simp only [rxV, HS.out, List.set_cons_zero, List.set_cons_succ, List.getElem?_cons_zero, List.getElem?_cons_succ] at d1 d2
              have HT2 := Lib.hid (RxRes.after HX.out HB3.out ((HX.out.below HB3.out).turn (b' := ⟨b.l, b.cur, true, now + t.int⟩) rfl HX.out.cur P2.out K2.out))
              have HS1 := Lib.hid ((World.cell?_setCell_far w4 ⟨g, 2, none⟩ ⟨w.heap.size, 1, none⟩ (.bool true) HG1.out).trans hHeld)
              have HS2 := Lib.hid ((World.cell?_setCell_far (w4.setCell ⟨g, 2, none⟩ (.bool true)) ⟨g, 3, none⟩ ⟨w.heap.size, 1, none⟩ (.int .i64 (now + t.int)) HG1.out).trans HS1.out)
              clear hHeld
              go_simp
              refine hK.out _ _ (HS1.out) (fun hHeld => ?_)
              try simp only [Act.put, List.setIfInBounds_toArray, List.set_cons_zero, List.set_cons_succ]
              refine wpAnyL_easy (i := 9) (v := (.pointer (some ⟨g, 0, none⟩))) (by simp only [List.getElem?_toArray, List.getElem?_cons_succ, List.getElem?_cons_zero]; rfl) (by kernel_rfl) (by kernel_rfl) (by kernel_rfl) (by exact fun _ _ _ h => h) (Or.inl ⟨by rfl, by intro W _; go_simp; all_goals first | rfl | exact ⟨rfl, rfl, rfl, rfl, rfl, rfl⟩⟩) ?_
              try simp only [Act.put, List.setIfInBounds_toArray, List.set_cons_zero, List.set_cons_succ]
              refine wpAnyL_easy (i := 10) (v := (.pointer (some ⟨g, 3, none⟩))) (by simp only [List.getElem?_toArray, List.getElem?_cons_succ, List.getElem?_cons_zero]; rfl) (by kernel_rfl) (by kernel_rfl) (by kernel_rfl) (by exact fun _ _ _ h => h) (Or.inl ⟨by rfl, fun _ _ => rfl⟩) ?_
              try simp only [Act.put, List.setIfInBounds_toArray, List.set_cons_zero, List.set_cons_succ]
              refine wpAnyL_ready (rs := [11]) (by kernel_rfl) (by simp) ?_
              refine AllReadyL.cons (by simp only [List.getElem?_toArray, List.getElem?_cons_succ, List.getElem?_cons_zero]; rfl) (fun K hK => ?_) AllReadyL.nil
              clear hHeld
              go_simp
              refine hK.out _ _ (HS2.out) (fun hHeld => ?_)
              try simp only [Act.put, List.setIfInBounds_toArray, List.set_cons_zero, List.set_cons_succ]
              refine wpAnyL_done (by kernel_rfl) ?_ _
              go_wp2
              go_ret2
              rw [HR.out]
              exact ⟨_, rfl, LinksIs.nil _ _, HT2.out⟩
            | true =>
              have HS := Lib.hid hs
              by_cases hd : b.due ≤ now
              · have HR := Lib.hid (show waitM b now t = (false, [], resetM b) by rw [HW.out, lm_num hck k1 hr1 hr2]; simp [waitR, comeM, hs, hd])
                clear hck k1 hz hs
                go_enter Tryz.func37, Tryz.ntmps37
                go_wp2_with fail
                refine HCL.out.mono ?_
                rintro e w2 ⟨rfl, rfl⟩
                go_wp2_with fail
                refine HCK.out.mono ?_
                rintro e w3 ⟨lv3, rfl, hlk, hln, hb3⟩
                have HB3 := Lib.hid (HB0.out.trans (hb3.mono HB0.out.size))
                have M3 := R0.out.below hb3
                have m0 := M3.cell 0
                have m1 := M3.cell 1
                have m2 := M3.cell 2
                have C3 := Lib.hid (HC.out.below HB3.out)
                have c2 := C3.out.cell 2
                have c3 := C3.out.cell 3
                simp only [rxV, List.getElem?_cons_zero, List.getElem?_cons_succ] at m0 m1 m2 c2 c3
                have hlv := hln HCE.out
                subst hlv
                clear hlk hln hb3 M3 q0 q1
                rw [HS.out] at c2
                go_wp2_with fail
                refine (reset17_any _ C3.out).mono ?_
                rintro e w9 ⟨rfl, hC9, hk9⟩
                have HT := Lib.hid ((HX.out.below HB3.out).turn (b' := resetM b) rfl (Nat.zero_le _) hC9 hk9)
                have HT2 := Lib.hid (RxRes.after HX.out HB3.out HT.out)
                clear hC9 hk9
                go_wp2
                go_ret2
                rw [HR.out]
                exact ⟨_, rfl, LinksIs.nil _ _, HT2.out⟩
              · have HR := Lib.hid (show waitM b now t = (true, [], b) by rw [HW.out, lm_num hck k1 hr1 hr2]; simp [waitR, comeM, hs, hd, hz])
                clear hck k1 hz hs
                go_enter Tryz.func37, Tryz.ntmps37
                go_wp2_with fail
                refine HCL.out.mono ?_
                rintro e w2 ⟨rfl, rfl⟩
                go_wp2_with fail
                refine HCK.out.mono ?_
                rintro e w3 ⟨lv3, rfl, hlk, hln, hb3⟩
                have HB3 := Lib.hid (HB0.out.trans (hb3.mono HB0.out.size))
                have M3 := R0.out.below hb3
                have m0 := M3.cell 0
                have m1 := M3.cell 1
                have m2 := M3.cell 2
                have C3 := Lib.hid (HC.out.below HB3.out)
                have c2 := C3.out.cell 2
                have c3 := C3.out.cell 3
                simp only [rxV, List.getElem?_cons_zero, List.getElem?_cons_succ] at m0 m1 m2 c2 c3
                have hlv := hln HCE.out
                subst hlv
                clear hlk hln hb3 M3 q0 q1
                rw [HS.out] at c2
                go_wp2
                go_ret2
                rw [HR.out]
                exact ⟨_, rfl, LinksIs.nil _ _, HX.out.same HB3.out⟩
      · by_cases hr1 : 0 ≤ t.int
        · have hr2 : ¬ t.int ≤ 1099511627776 := fun h => hr ⟨hr1, h⟩
          have dr2 : decide (t.int ≤ 1099511627776) = false := decide_eq_false hr2
          have dr3 : 1099511627776 < t.int := by omega
          cases hck : checkS t with
          | cons kk rr =>
            have HCE := Lib.hid hck
            have HR := Lib.hid (show waitM b now t = (false, errM 340, b) by rw [HW.out, lm_no1 k1 hr]; rfl)
            clear hck k1 hr
            go_enter Tryz.func37, Tryz.ntmps37
            go_wp2_with fail
            refine HCL.out.mono ?_
            rintro e w2 ⟨rfl, rfl⟩
            go_wp2_with fail
            refine HCK.out.mono ?_
            rintro e w3 ⟨lv3, rfl, hlk, hln, hb3⟩
            have HB3 := Lib.hid (HB0.out.trans (hb3.mono HB0.out.size))
            have M3 := R0.out.below hb3
            have m0 := M3.cell 0
            have m1 := M3.cell 1
            have m2 := M3.cell 2
            have C3 := Lib.hid (HC.out.below HB3.out)
            have c2 := C3.out.cell 2
            have c3 := C3.out.cell 3
            simp only [rxV, List.getElem?_cons_zero, List.getElem?_cons_succ] at m0 m1 m2 c2 c3
            rw [HCE.out] at hlk
            obtain ⟨_, hn⟩ | ⟨g2, cc2, rfl, -, -, -, -⟩ := hlk.shape
            · cases hn
            have hpos : (0 : Int) < ((kk :: rr).length : Int) := by simp <;> omega
            generalize (kk :: rr).length = nn at hpos ⊢
            clear hlk hln hb3 M3 q0 q1
            go_wp2_with fail
            refine (no17_any 340 _).mono ?_
            rintro e w9 ⟨v9, rfl, hl9, hb9⟩
            have HL9 := Lib.hid hl9
            have HB9 := Lib.hid (HB3.out.trans (hb9.mono HB3.out.size))
            have HSZ := Lib.hid HB3.out.size
            clear hl9 hb9
            go_wp2
            go_ret2
            rw [HR.out]
            exact ⟨_, rfl, HL9.out.base HSZ.out, HX.out.same HB9.out⟩
          | nil =>
            have HCE := Lib.hid hck
            have HR := Lib.hid (show waitM b now t = (false, errM 340, b) by rw [HW.out, lm_no1 k1 hr]; rfl)
            clear hck k1 hr
            go_enter Tryz.func37, Tryz.ntmps37
            go_wp2_with fail
            refine HCL.out.mono ?_
            rintro e w2 ⟨rfl, rfl⟩
            go_wp2_with fail
            refine HCK.out.mono ?_
            rintro e w3 ⟨lv3, rfl, hlk, hln, hb3⟩
            have HB3 := Lib.hid (HB0.out.trans (hb3.mono HB0.out.size))
            have M3 := R0.out.below hb3
            have m0 := M3.cell 0
            have m1 := M3.cell 1
            have m2 := M3.cell 2
            have C3 := Lib.hid (HC.out.below HB3.out)
            have c2 := C3.out.cell 2
            have c3 := C3.out.cell 3
            simp only [rxV, List.getElem?_cons_zero, List.getElem?_cons_succ] at m0 m1 m2 c2 c3
            have hlv := hln HCE.out
            subst hlv
            clear hlk hln hb3 M3 q0 q1
            go_wp2_with fail
            refine (no17_any 340 _).mono ?_
            rintro e w9 ⟨v9, rfl, hl9, hb9⟩
            have HL9 := Lib.hid hl9
            have HB9 := Lib.hid (HB3.out.trans (hb9.mono HB3.out.size))
            have HSZ := Lib.hid HB3.out.size
            clear hl9 hb9
            go_wp2
            go_ret2
            rw [HR.out]
            exact ⟨_, rfl, HL9.out.base HSZ.out, HX.out.same HB9.out⟩
        · have dr2 : decide (0 ≤ t.int) = false := decide_eq_false hr1
          have dr3 : t.int < 0 := by omega
          cases hck : checkS t with
          | cons kk rr =>
            have HCE := Lib.hid hck
            have HR := Lib.hid (show waitM b now t = (false, errM 340, b) by rw [HW.out, lm_no1 k1 hr]; rfl)
            clear hck k1 hr
            go_enter Tryz.func37, Tryz.ntmps37
            go_wp2_with fail
            refine HCL.out.mono ?_
            rintro e w2 ⟨rfl, rfl⟩
            go_wp2_with fail
            refine HCK.out.mono ?_
            rintro e w3 ⟨lv3, rfl, hlk, hln, hb3⟩
            have HB3 := Lib.hid (HB0.out.trans (hb3.mono HB0.out.size))
            have M3 := R0.out.below hb3
            have m0 := M3.cell 0
            have m1 := M3.cell 1
            have m2 := M3.cell 2
            have C3 := Lib.hid (HC.out.below HB3.out)
            have c2 := C3.out.cell 2
            have c3 := C3.out.cell 3
            simp only [rxV, List.getElem?_cons_zero, List.getElem?_cons_succ] at m0 m1 m2 c2 c3
            rw [HCE.out] at hlk
            obtain ⟨_, hn⟩ | ⟨g2, cc2, rfl, -, -, -, -⟩ := hlk.shape
            · cases hn
            have hpos : (0 : Int) < ((kk :: rr).length : Int) := by simp <;> omega
            generalize (kk :: rr).length = nn at hpos ⊢
            clear hlk hln hb3 M3 q0 q1
            go_wp2_with fail
            refine (no17_any 340 _).mono ?_
            rintro e w9 ⟨v9, rfl, hl9, hb9⟩
            have HL9 := Lib.hid hl9
            have HB9 := Lib.hid (HB3.out.trans (hb9.mono HB3.out.size))
            have HSZ := Lib.hid HB3.out.size
            clear hl9 hb9
            go_wp2
            go_ret2
            rw [HR.out]
            exact ⟨_, rfl, HL9.out.base HSZ.out, HX.out.same HB9.out⟩
          | nil =>
            have HCE := Lib.hid hck
            have HR := Lib.hid (show waitM b now t = (false, errM 340, b) by rw [HW.out, lm_no1 k1 hr]; rfl)
            clear hck k1 hr
            go_enter Tryz.func37, Tryz.ntmps37
            go_wp2_with fail
            refine HCL.out.mono ?_
            rintro e w2 ⟨rfl, rfl⟩
            go_wp2_with fail
            refine HCK.out.mono ?_
            rintro e w3 ⟨lv3, rfl, hlk, hln, hb3⟩
            have HB3 := Lib.hid (HB0.out.trans (hb3.mono HB0.out.size))
            have M3 := R0.out.below hb3
            have m0 := M3.cell 0
            have m1 := M3.cell 1
            have m2 := M3.cell 2
            have C3 := Lib.hid (HC.out.below HB3.out)
            have c2 := C3.out.cell 2
            have c3 := C3.out.cell 3
            simp only [rxV, List.getElem?_cons_zero, List.getElem?_cons_succ] at m0 m1 m2 c2 c3
            have hlv := hln HCE.out
            subst hlv
            clear hlk hln hb3 M3 q0 q1
            go_wp2_with fail
            refine (no17_any 340 _).mono ?_
            rintro e w9 ⟨v9, rfl, hl9, hb9⟩
            have HL9 := Lib.hid hl9
            have HB9 := Lib.hid (HB3.out.trans (hb9.mono HB3.out.size))
            have HSZ := Lib.hid HB3.out.size
            clear hl9 hb9
            go_wp2
            go_ret2
            rw [HR.out]
            exact ⟨_, rfl, HL9.out.base HSZ.out, HX.out.same HB9.out⟩
    · have e1 : (t.kind == 1) = false := beq_eq_false_iff_ne.2 k1
      by_cases k2 : t.kind = 2
      · have e2 : (t.kind != 2) = false := by simp [k2]
        cases hck : checkS t with
        | cons kk rr =>
          have HCE := Lib.hid hck
          have HR := Lib.hid (show waitM b now t = (false, errM 340, b) by rw [HW.out, lm_bad (by simp [hck])]; rfl)
          clear hck k1 k2
          go_enter Tryz.func37, Tryz.ntmps37
          go_wp2_with fail
          refine HCL.out.mono ?_
          rintro e w2 ⟨rfl, rfl⟩
          go_wp2_with fail
          refine HCK.out.mono ?_
          rintro e w3 ⟨lv3, rfl, hlk, hln, hb3⟩
          have HB3 := Lib.hid (HB0.out.trans (hb3.mono HB0.out.size))
          have M3 := R0.out.below hb3
          have m0 := M3.cell 0
          have m1 := M3.cell 1
          have m2 := M3.cell 2
          have C3 := Lib.hid (HC.out.below HB3.out)
          have c2 := C3.out.cell 2
          have c3 := C3.out.cell 3
          simp only [rxV, List.getElem?_cons_zero, List.getElem?_cons_succ] at m0 m1 m2 c2 c3
          rw [HCE.out] at hlk
          obtain ⟨_, hn⟩ | ⟨g2, cc2, rfl, -, -, -, -⟩ := hlk.shape
          · cases hn
          have hpos : (0 : Int) < ((kk :: rr).length : Int) := by simp <;> omega
          generalize (kk :: rr).length = nn at hpos ⊢
          clear hlk hln hb3 M3 q0 q1
          go_wp2_with fail
          refine (no17_any 340 _).mono ?_
          rintro e w9 ⟨v9, rfl, hl9, hb9⟩
          have HL9 := Lib.hid hl9
          have HB9 := Lib.hid (HB3.out.trans (hb9.mono HB3.out.size))
          have HSZ := Lib.hid HB3.out.size
          clear hl9 hb9
          go_wp2
          go_ret2
          rw [HR.out]
          exact ⟨_, rfl, HL9.out.base HSZ.out, HX.out.same HB9.out⟩
        | nil =>
          have HCE := Lib.hid hck
          by_cases hx : t.text = infL
          · have qx : (t.text.toList != [105, 110, 102, 105, 110, 105, 116, 121]) = false := by rw [hx]; kernel_rfl
            have qy : (t.text.toList == [105, 110, 102, 105, 110, 105, 116, 121]) = true := by rw [hx]; kernel_rfl
            cases hs : b.set with
            | false =>
              have HS := Lib.hid hs
              have HR := Lib.hid (show waitM b now t = (true, [], b) by rw [HW.out, lm_inf hck k2 hx]; simp [waitR, comeM, hs])
              clear hck k1 k2 hx hs
              go_enter Tryz.func37, Tryz.ntmps37
              go_wp2_with fail
              refine HCL.out.mono ?_
              rintro e w2 ⟨rfl, rfl⟩
              go_wp2_with fail
              refine HCK.out.mono ?_
              rintro e w3 ⟨lv3, rfl, hlk, hln, hb3⟩
              have HB3 := Lib.hid (HB0.out.trans (hb3.mono HB0.out.size))
              have M3 := R0.out.below hb3
              have m0 := M3.cell 0
              have m1 := M3.cell 1
              have m2 := M3.cell 2
              have C3 := Lib.hid (HC.out.below HB3.out)
              have c2 := C3.out.cell 2
              have c3 := C3.out.cell 3
              simp only [rxV, List.getElem?_cons_zero, List.getElem?_cons_succ] at m0 m1 m2 c2 c3
              have hlv := hln HCE.out
              subst hlv
              clear hlk hln hb3 M3 q0 q1
              rw [HS.out] at c2
              go_wp2
              go_ret2
              rw [HR.out]
              exact ⟨_, rfl, LinksIs.nil _ _, HX.out.same HB3.out⟩
            | true =>
              have HS := Lib.hid hs
              by_cases hd : b.due ≤ now
              · have HR := Lib.hid (show waitM b now t = (false, [], resetM b) by rw [HW.out, lm_inf hck k2 hx]; simp [waitR, comeM, hs, hd])
                clear hck k1 k2 hx hs
                go_enter Tryz.func37, Tryz.ntmps37
                go_wp2_with fail
                refine HCL.out.mono ?_
                rintro e w2 ⟨rfl, rfl⟩
                go_wp2_with fail
                refine HCK.out.mono ?_
                rintro e w3 ⟨lv3, rfl, hlk, hln, hb3⟩
                have HB3 := Lib.hid (HB0.out.trans (hb3.mono HB0.out.size))
                have M3 := R0.out.below hb3
                have m0 := M3.cell 0
                have m1 := M3.cell 1
                have m2 := M3.cell 2
                have C3 := Lib.hid (HC.out.below HB3.out)
                have c2 := C3.out.cell 2
                have c3 := C3.out.cell 3
                simp only [rxV, List.getElem?_cons_zero, List.getElem?_cons_succ] at m0 m1 m2 c2 c3
                have hlv := hln HCE.out
                subst hlv
                clear hlk hln hb3 M3 q0 q1
                rw [HS.out] at c2
                go_wp2_with fail
                refine (reset17_any _ C3.out).mono ?_
                rintro e w9 ⟨rfl, hC9, hk9⟩
                have HT := Lib.hid ((HX.out.below HB3.out).turn (b' := resetM b) rfl (Nat.zero_le _) hC9 hk9)
                have HT2 := Lib.hid (RxRes.after HX.out HB3.out HT.out)
                clear hC9 hk9
                go_wp2
                go_ret2
                rw [HR.out]
                exact ⟨_, rfl, LinksIs.nil _ _, HT2.out⟩
              · have HR := Lib.hid (show waitM b now t = (true, [], b) by rw [HW.out, lm_inf hck k2 hx]; simp [waitR, comeM, hs, hd])
                clear hck k1 k2 hx hs
                go_enter Tryz.func37, Tryz.ntmps37
                go_wp2_with fail
                refine HCL.out.mono ?_
                rintro e w2 ⟨rfl, rfl⟩
                go_wp2_with fail
                refine HCK.out.mono ?_
                rintro e w3 ⟨lv3, rfl, hlk, hln, hb3⟩
                have HB3 := Lib.hid (HB0.out.trans (hb3.mono HB0.out.size))
                have M3 := R0.out.below hb3
                have m0 := M3.cell 0
                have m1 := M3.cell 1
                have m2 := M3.cell 2
                have C3 := Lib.hid (HC.out.below HB3.out)
                have c2 := C3.out.cell 2
                have c3 := C3.out.cell 3
                simp only [rxV, List.getElem?_cons_zero, List.getElem?_cons_succ] at m0 m1 m2 c2 c3
                have hlv := hln HCE.out
                subst hlv
                clear hlk hln hb3 M3 q0 q1
                rw [HS.out] at c2
                go_wp2
                go_ret2
                rw [HR.out]
                exact ⟨_, rfl, LinksIs.nil _ _, HX.out.same HB3.out⟩
          · have qy : (t.text.toList == [105, 110, 102, 105, 110, 105, 116, 121]) = false := lit_neT hx
            have qx : (t.text.toList != [105, 110, 102, 105, 110, 105, 116, 121]) = true := by rw [bne, qy]; rfl
            have HR := Lib.hid (show waitM b now t = (false, errM 340, b) by rw [HW.out, lm_no2 k1 (fun h => hx h.2)]; rfl)
            clear hck k1 k2 hx
            go_enter Tryz.func37, Tryz.ntmps37
            go_wp2_with fail
            refine HCL.out.mono ?_
            rintro e w2 ⟨rfl, rfl⟩
            go_wp2_with fail
            refine HCK.out.mono ?_
            rintro e w3 ⟨lv3, rfl, hlk, hln, hb3⟩
            have HB3 := Lib.hid (HB0.out.trans (hb3.mono HB0.out.size))
            have M3 := R0.out.below hb3
            have m0 := M3.cell 0
            have m1 := M3.cell 1
            have m2 := M3.cell 2
            have C3 := Lib.hid (HC.out.below HB3.out)
            have c2 := C3.out.cell 2
            have c3 := C3.out.cell 3
            simp only [rxV, List.getElem?_cons_zero, List.getElem?_cons_succ] at m0 m1 m2 c2 c3
            have hlv := hln HCE.out
            subst hlv
            clear hlk hln hb3 M3 q0 q1
            go_wp2_with fail
            refine (no17_any 340 _).mono ?_
            rintro e w9 ⟨v9, rfl, hl9, hb9⟩
            have HL9 := Lib.hid hl9
            have HB9 := Lib.hid (HB3.out.trans (hb9.mono HB3.out.size))
            have HSZ := Lib.hid HB3.out.size
            clear hl9 hb9
            go_wp2
            go_ret2
            rw [HR.out]
            exact ⟨_, rfl, HL9.out.base HSZ.out, HX.out.same HB9.out⟩
      · have e2 : (t.kind != 2) = true := bne_iff_ne.2 k2
        cases hck : checkS t with
        | cons kk rr =>
          have HCE := Lib.hid hck
          have HR := Lib.hid (show waitM b now t = (false, errM 340, b) by rw [HW.out, lm_bad (by simp [hck])]; rfl)
          clear hck k1 k2
          go_enter Tryz.func37, Tryz.ntmps37
          go_wp2_with fail
          refine HCL.out.mono ?_
          rintro e w2 ⟨rfl, rfl⟩
          go_wp2_with fail
          refine HCK.out.mono ?_
          rintro e w3 ⟨lv3, rfl, hlk, hln, hb3⟩
          have HB3 := Lib.hid (HB0.out.trans (hb3.mono HB0.out.size))
          have M3 := R0.out.below hb3
          have m0 := M3.cell 0
          have m1 := M3.cell 1
          have m2 := M3.cell 2
          have C3 := Lib.hid (HC.out.below HB3.out)
          have c2 := C3.out.cell 2
          have c3 := C3.out.cell 3
          simp only [rxV, List.getElem?_cons_zero, List.getElem?_cons_succ] at m0 m1 m2 c2 c3
          rw [HCE.out] at hlk
          obtain ⟨_, hn⟩ | ⟨g2, cc2, rfl, -, -, -, -⟩ := hlk.shape
          · cases hn
          have hpos : (0 : Int) < ((kk :: rr).length : Int) := by simp <;> omega
          generalize (kk :: rr).length = nn at hpos ⊢
          clear hlk hln hb3 M3 q0 q1
          go_wp2_with fail
          refine (no17_any 340 _).mono ?_
          rintro e w9 ⟨v9, rfl, hl9, hb9⟩
          have HL9 := Lib.hid hl9
          have HB9 := Lib.hid (HB3.out.trans (hb9.mono HB3.out.size))
          have HSZ := Lib.hid HB3.out.size
          clear hl9 hb9
          go_wp2
          go_ret2
          rw [HR.out]
          exact ⟨_, rfl, HL9.out.base HSZ.out, HX.out.same HB9.out⟩
        | nil =>
          have HCE := Lib.hid hck
          have HR := Lib.hid (show waitM b now t = (false, errM 340, b) by rw [HW.out, lm_no2 k1 (fun h => k2 h.1)]; rfl)
          clear hck k1 k2
          go_enter Tryz.func37, Tryz.ntmps37
          go_wp2_with fail
          refine HCL.out.mono ?_
          rintro e w2 ⟨rfl, rfl⟩
          go_wp2_with fail
          refine HCK.out.mono ?_
          rintro e w3 ⟨lv3, rfl, hlk, hln, hb3⟩
          have HB3 := Lib.hid (HB0.out.trans (hb3.mono HB0.out.size))
          have M3 := R0.out.below hb3
          have m0 := M3.cell 0
          have m1 := M3.cell 1
          have m2 := M3.cell 2
          have C3 := Lib.hid (HC.out.below HB3.out)
          have c2 := C3.out.cell 2
          have c3 := C3.out.cell 3
          simp only [rxV, List.getElem?_cons_zero, List.getElem?_cons_succ] at m0 m1 m2 c2 c3
          have hlv := hln HCE.out
          subst hlv
          clear hlk hln hb3 M3 q0 q1
          go_wp2_with fail
          refine (no17_any 340 _).mono ?_
          rintro e w9 ⟨v9, rfl, hl9, hb9⟩
          have HL9 := Lib.hid hl9
          have HB9 := Lib.hid (HB3.out.trans (hb9.mono HB3.out.size))
          have HSZ := Lib.hid HB3.out.size
          clear hl9 hb9
          go_wp2
          go_ret2
          rw [HR.out]
          exact ⟨_, rfl, HL9.out.base HSZ.out, HX.out.same HB9.out⟩
end Go.Proofs.YtlahagabcnmdiaaGreatDoor
end
