/- Texts laid together: TmD. -/
import Derived.Test.YtkipjbmckpmmfaaDoorV22
import Derived.Deep.Cut
section
/- Package term: walk, Measure, Check. -/
open Go Go.RowKit
namespace Go.Proofs.YtkipjbmckpmmfaaDoor

/-- the variables of the library that a check leans on -/
def Gb : Nat → Prop := fun b => b = 0 ∨ b = 1 ∨ b = 2
theorem Gt.lt {w : World} (h : Gt w) : ∀ b, Gb b → b < w.heap.size := by
  rintro b (rfl | rfl | rfl)
  · exact ErrT.lt h.e
  · exact World.block_lt_of_cell? w _ (h.t.1 0 (by decide))
  · exact World.block_lt_of_cell? w _ (h.t.2 0 (by decide)).1
theorem Gt.frame {w w' : World} (h : Gt w) (hb : ∀ b, Gb b → w'.heap[b]? = w.heap[b]?) : Gt w' := by
  have hc : ∀ b o, Gb b → w'.cell? ⟨b, o, none⟩ = w.cell? ⟨b, o, none⟩ := fun b o hB => by unfold World.cell?; rw [hb b hB]
  refine ⟨?_, fun c hlt => ?_, fun i hlt => ⟨?_, ?_⟩⟩
  · unfold ErrT; rw [hc _ _ (.inl rfl)]; exact h.e
  · rw [hc _ _ (.inr (.inl rfl))]; exact h.t.1 c hlt
  · rw [hc _ _ (.inr (.inr rfl))]; exact (h.t.2 i hlt).1
  · rw [hc _ _ (.inr (.inr rfl))]; exact (h.t.2 i hlt).2
theorem Gt.keep {S : Nat → Prop} {w w' : World} (h : Gt w) (k : Keep S w w') (hS : ∀ b, Gb b → ¬ S b) : Gt w' :=
  h.frame fun b hb => k.block b (h.lt b hb) (hS b hb)

theorem keepB {S : Nat → Prop} {w w' : World} (h : Below w.heap.size w w') : Keep S w w' := Keep.of_below h (Nat.le_refl _) S
theorem keepSet {g : Nat} {a w : World} (h : Keep (Blk1 g) a w) (i : Nat) (u : Value) : Keep (Blk1 g) a (w.setCell ⟨g, i, none⟩ u) := h.setCell (p := ⟨g, i, none⟩) (fun _ => rfl) u
/-- what walk hands back -/
def RetW (g : Nat) (w : World) (R : List Lk × Nat × Nat) (e : Ending) (w' : World) : Prop :=
  ∃ ev, e = .returned ev ∧ ErrIs w' ev R.1 ∧ Keep (Blk1 g) w w' ∧ Cells w' g 112 [.int .i64 R.2.1, .int .i64 R.2.2]

set_option maxHeartbeats 8000000 in
set_option maxRecDepth 100000 in
theorem walk_any (S : Nat → Prop) (g : Nat) (hg : ¬ S g) (hgb : ¬ Gb g) : ∀ (N : Nat) (t : Tm) (vs : List Value) (n dm d : Nat) (w : World), SizeOf.sizeOf t ≤ N → TmAt S t vs w → Cells w g 112 [.int .i64 n, .int .i64 dm] → n ≤ 4096 → dm ≤ 256 → d ≤ 257 → Gt w →
    Calls Tryd.prog 46 #[.pointer (some ⟨g, 0, none⟩), .agg vs.toArray, .int .i64 d] w (RetW g w (walkS t n dm d)) := by
  intro N
  induction N with
  | zero => intro t vs n dm d w h; cases t; simp at h
  | succ N ih =>
    intro t vs n dm d w hN ht hC hn hdm hd hG
    have HIH := Lib.hid ih
    have HNN := Lib.hid hN
    have HW := Lib.hid (walkS_eq t n dm d)
    have HFT := Lib.hid (fun code W => faultT_any n code .nilIface [] W rfl)
    have HG := Lib.hid hG
    have HT := Lib.hid ht
    have HC := Lib.hid hC
    obtain ⟨hp, nv, a, cap, rfl, hnn, hc, hcap, ha⟩ := ht.parts
    obtain ⟨na, nc, rfl, _, _⟩ := hnn.slice
    have HB := Lib.hid ((Below.refl _ w).alloc (Nat.le_refl _) (.cells #[.int .i64 t.kind, .int .i64 t.int, .string t.text, .int .u32 t.cr, .slice na t.nums.length nc, .slice a t.args.length cap] 27 (0, 0)))
    have HA := Lib.hid ha
    have HBD := Lib.hid (And.intro hn (And.intro hdm hd))
    have K1 := Lib.hid (hC.alloc (.cells #[.int .i64 t.kind, .int .i64 t.int, .string t.text, .int .u32 t.cr, .slice na t.nums.length nc, .slice a t.args.length cap] 27 (0, 0)))
    have M1 := Lib.hid (Cells.new w 27 [.int .i64 t.kind, .int .i64 t.int, .string t.text, .int .u32 t.cr, .slice na t.nums.length nc, .slice a t.args.length cap])
    have hlt := hC.lt
    have hne : w.heap.size ≠ g := Nat.ne_of_gt hlt
    have HNE := Lib.hid hne
    have hcl : t.args.length ≤ 140737488351232 := by omega
    have HCL := Lib.hid hcl
    clear ih hN ht hC hnn hc hcap ha hp hG hlt hne
    go_enter Tryd.func46, Tryd.ntmps46
    go_upto_region 1 with (fail)
    generalize hW1 : World.alloc w _ = W1 at *
    clear hW1
    have c0 := K1.out.cell 0
    simp only [List.getElem?_cons_zero] at c0
    by_cases h1 : n = 4096
    · have q1 : ((n : Int) == 4096) = true := by rw [h1]; rfl
      have HR := Lib.hid (show walkS t n dm d = ([⟨termL, n, 5⟩], n, dm) by rw [HW.out, if_pos h1])
      clear h1 hn hdm hd
      go_wp2_with fail
      refine (HFT.out _ _).mono ?_
      rintro e w2 ⟨ev, rfl, her, hb⟩
      have HER := Lib.hid her
      have HB2 := Lib.hid hb
      clear her hb
      go_wp2
      go_ret
      rw [HR.out]
      exact ⟨_, rfl, HER.out, keepB (HB.out.trans (HB2.out.mono HB.out.size)), K1.out.below HB2.out⟩
    have q1 : ((n : Int) == 4096) = false := beq_eq_false_iff_ne.2 (by omega)
    by_cases h2 : 256 < d
    · have h2i : (256 : Int) < (d : Int) := by omega
      have HR := Lib.hid (show walkS t n dm d = ([⟨termL, n, 9⟩], n, dm) by rw [HW.out, if_neg h1, if_pos h2])
      clear h1 h2 hn hdm hd
      go_wp2_with fail
      refine (HFT.out _ _).mono ?_
      rintro e w2 ⟨ev, rfl, her, hb⟩
      have HER := Lib.hid her
      have HB2 := Lib.hid hb
      clear her hb
      go_wp2
      go_ret
      rw [HR.out]
      exact ⟨_, rfl, HER.out, keepB (HB.out.trans (HB2.out.mono HB.out.size)), K1.out.below HB2.out⟩
    have h2i : ¬ (256 : Int) < (d : Int) := by omega
    have HW2 := Lib.hid (show walkS t n dm d = if partS t n ≠ [] then (partS t n, n, dm) else walkLS t.args (n + 1) (max dm d) (d + 1) by rw [HW.out, if_neg h1, if_neg h2])
    have HN1 := Lib.hid h1
    have HD2 := Lib.hid h2
    have HF := Lib.hid (fun W h h2 => form_any S t [.int .i64 t.kind, .int .i64 t.int, .string t.text, .int .u32 t.cr, .slice na t.nums.length nc, .slice a t.args.length cap] n W h h2)
    have d0 := M1.out.cell 0
    have d1 := M1.out.cell 1
    have d2 := M1.out.cell 2
    have d3 := M1.out.cell 3
    have d4 := M1.out.cell 4
    have d5 := M1.out.cell 5
    simp only [List.getElem?_cons_zero, List.getElem?_cons_succ] at d0 d1 d2 d3 d4 d5
    clear h1 h2 hn hdm hd
    go_wp2_with fail
    refine (HF.out W1 (HG.out.below HB.out) (HT.out.below HB.out)).mono ?_
    rintro e w2 ⟨ev, rfl, her, hb⟩
    have HB2 := Lib.hid (HB.out.trans (hb.mono HB.out.size))
    have K2 := Lib.hid (K1.out.below hb)
    have M2 := Lib.hid (M1.out.below hb)
    have HER := Lib.hid her
    clear hb c0 d0 d1 d2 d3 d4 d5 HF HFT
    cases hps : partS t n with
    | cons q r =>
      have HR := Lib.hid (show walkS t n dm d = (q :: r, n, dm) by rw [HW2.out, if_pos (by simp [hps]), hps])
      rw [hps] at her HER
      obtain ⟨eb, eu, rfl, _, _⟩ := her
      clear hps
      go_wp2
      go_ret
      rw [HR.out]
      exact ⟨_, rfl, HER.out, keepB HB2.out, K2.out⟩
    | nil =>
      have HR := Lib.hid (show walkS t n dm d = walkLS t.args (n + 1) (max dm d) (d + 1) by rw [HW2.out, if_neg (by simp [hps])])
      rw [hps] at her
      obtain rfl : ev = .nilIface := her
      clear hps HER
      have c0 := K2.out.cell 0
      have f0 := K2.out.frozen 0
      have P1 := Lib.hid (show Cells _ g 112 [.int .i64 ((n : Int) + 1), .int .i64 dm] from K2.out.set_ 0 (.int .i64 ((n : Int) + 1)))
      have c1 := P1.out.cell 1
      have f1 := P1.out.frozen 1
      have P2 := Lib.hid (show Cells _ g 112 [.int .i64 ((n : Int) + 1), .int .i64 (max (dm : Int) (d : Int))] from P1.out.set_ 1 (.int .i64 (max (dm : Int) (d : Int))))
      have M3 := Lib.hid ((M2.out.far (p := ⟨g, 0, none⟩) HNE.out (.int .i64 ((n : Int) + 1))).far (p := ⟨g, 1, none⟩) HNE.out (.int .i64 (max (dm : Int) (d : Int))))
      have KP := Lib.hid (keepSet (keepSet (keepB (S := Blk1 g) HB2.out) 0 (.int .i64 ((n : Int) + 1))) 1 (.int .i64 (max (dm : Int) (d : Int))))
      have m5 := M3.out.cell 5
      simp only [List.getElem?_cons_zero, List.getElem?_cons_succ] at c0 c1 m5
      have hn0 : (n : Int) ≤ 4096 := by have := HBD.out.1; omega
      have hn0' : (0 : Int) ≤ (n : Int) := by omega
      have hd0 : (d : Int) ≤ 257 := by have := HBD.out.2.2; omega
      have hd0' : (0 : Int) ≤ (d : Int) := by omega
      clear K2 M2 P1 K1 M1
      go_wp2_with fail
      generalize hW3 : World.setCell _ ⟨g, 1, none⟩ _ = W3 at *
      clear hW3 c0 c1 f0 f1 m5
      have HA3 := Lib.hid (HA.out.keep KP.out (fun b _ hS e => hg (by rw [← (show b = g from e)]; exact hS)))
      have G3 := Lib.hid (HG.out.keep KP.out (fun b hb e => hgb (by rw [← (show b = g from e)]; exact hb)))
      have P3 := Lib.hid (show Cells W3 g 112 [.int .i64 ((n + 1 : Nat) : Int), .int .i64 ((max dm d : Nat) : Int)] from by
        have := P2.out
        rwa [show ((n + 1 : Nat) : Int) = (n : Int) + 1 by omega, show ((max dm d : Nat) : Int) = max (dm : Int) (d : Int) by omega])
      clear P2 M3
      go_loopw [51] (fun i wr => ∃ (kk n' dm' : Nat), kk ≤ t.args.length ∧ i = .int .i64 kk ∧ walkLS (t.args.drop kk) n' dm' (d + 1) = walkLS t.args (n + 1) (max dm d) (d + 1) ∧ n' ≤ 4096 ∧ dm' ≤ 256 ∧ Cells wr g 112 [.int .i64 n', .int .i64 dm'] ∧ Keep (Blk1 g) w wr) (fun i _ => t.args.length - (intOf i).toNat)
      case atStart => exact ⟨0, n + 1, max dm d, Nat.zero_le _, rfl, rfl, by have := HN1.out; have := HBD.out; omega, by have := HD2.out; have := HBD.out; omega, P3.out, KP.out⟩
      case round =>
        obtain ⟨kk, n', dm', hkk, rfl, hR, hn', hdm', hCr, hKr⟩ := hrel
        have HRR := Lib.hid hR
        have HCR := Lib.hid hCr
        have HKR := Lib.hid hKr
        have HB' := Lib.hid (And.intro hn' hdm')
        clear hR hKr hn' hdm' P3 KP HA3 G3
        by_cases hk : kk < t.args.length
        · have hki : (kk : Int) < (t.args.length : Int) := by omega
          have hk0 : (0 : Int) ≤ (kk : Int) := by omega
          obtain ⟨g2, o2, vs2, hae, _, hcs, ht2⟩ := (HA.out.keep HKR.out (fun b _ hS e => hg (by rw [← (show b = g from e)]; exact hS))).get kk hk
          subst hae
          have HT2 := Lib.hid ht2
          obtain ⟨_, nv2, a2, cap2, hv2, hnn2, _⟩ := ht2.parts
          obtain ⟨na2, nc2, hnv2, _, _⟩ := hnn2.slice
          subst hv2
          subst hnv2
          have e0 := hcs 0 (by decide)
          have e1 := hcs 1 (by decide)
          have e2 := hcs 2 (by decide)
          have e3 := hcs 3 (by decide)
          have e4 := hcs 4 (by decide)
          have e5 := hcs 5 (by decide)
          simp only [List.getElem?_cons_zero, List.getElem?_cons_succ, ← Nat.add_assoc, Nat.add_zero] at e0 e1 e2 e3 e4 e5
          have HD := Lib.hid (walkLS_drop hk n' dm' (d + 1))
          have HBA := Lib.hid ((Below.refl _ wr).alloc (Nat.le_refl _) (.cells #[.int .i64 t.args[kk].kind, .int .i64 t.args[kk].int, .string t.args[kk].text, .int .u32 t.args[kk].cr, .slice na2 t.args[kk].nums.length nc2, .slice a2 t.args[kk].args.length cap2] 27 (0, 0)))
          have HCALL := Lib.hid (HIH.out t.args[kk] _ n' dm' (d + 1) _ (by have := Tm.arg_lt hk; have := HNN.out; omega) (HT2.out.below HBA.out) (hCr.below HBA.out) HB'.out.1 HB'.out.2 (by have := HD2.out; omega) ((HG.out.keep HKR.out (fun b hb e => hgb (by rw [← (show b = g from e)]; exact hb))).below HBA.out))
          have hd1 : ((d + 1 : Nat) : Int) = (d : Int) + 1 := by omega
          rw [hd1] at HCALL
          clear hd1 hcs ht2 hnn2 hCr
          go_wp2_with fail
          refine HCALL.out.mono ?_
          rintro e w5 ⟨ev, rfl, her, hk5, hC5⟩
          have HK5 := Lib.hid (HKR.out.trans ((keepB (S := Blk1 g) HBA.out).trans hk5 (fun _ _ h => h)) (fun _ _ h => h))
          have HC5 := Lib.hid hC5
          have HER5 := Lib.hid her
          have HLE := Lib.hid (walkS_le t.args[kk] n' dm' (d + 1) HB'.out.1 (by have := HD2.out; omega) HB'.out.2)
          clear hk5 hC5 e0 e1 e2 e3 e4 e5 HCALL
          generalize walkS t.args[kk] n' dm' (d + 1) = R1 at *
          obtain ⟨r1, n1, dm1⟩ := R1
          cases r1 with
          | cons q r =>
            have HR2 := Lib.hid (show walkS t n dm d = (q :: r, n1, dm1) by rw [HR.out, ← HRR.out, HD.out, if_pos (by simp)])
            obtain ⟨eb, eu, rfl, _, _⟩ := her
            go_wp2
            go_ret
            rw [HR2.out]
            exact ⟨_, rfl, HER5.out, HK5.out, HC5.out⟩
          | nil =>
            obtain rfl : ev = .nilIface := her
            have HR2 := Lib.hid (show walkLS (t.args.drop (kk + 1)) n1 dm1 (d + 1) = walkLS t.args (n + 1) (max dm d) (d + 1) by rw [← HRR.out, HD.out, if_neg (by simp)])
            go_wp2
            go_roundw
            case rel => exact ⟨kk + 1, n1, dm1, by omega, by go_num, HR2.out, HLE.out.1, HLE.out.2, HC5.out, HK5.out⟩
            case measure => simp [intOf]; omega
        · have hki : ¬ (kk : Int) < (t.args.length : Int) := by omega
          have HR2 := Lib.hid (show walkS t n dm d = ([], n', dm') by rw [HR.out, ← HRR.out, List.drop_eq_nil_of_le (by omega), walkLS])
          clear hCr
          go_wp2
          go_ret
          rw [HR2.out]
          exact ⟨_, rfl, rfl, HKR.out, HCR.out⟩

set_option maxHeartbeats 4000000 in
theorem measure_any (S : Nat → Prop) (t : Tm) (vs : List Value) (w : World) (ht : TmAt S t vs w) (hS : ∀ b, S b → b < w.heap.size) (hG : Gt w) :
    Calls Tryd.prog 36 #[.agg vs.toArray] w fun e w' => ∃ n d ev, e = .returned (.tuple #[.int .i64 n, .int .i64 d, ev]) ∧ ErrIs w' ev (checkS t) ∧ Below w.heap.size w w' := by
  have HT := Lib.hid ht
  obtain ⟨hp, nv, a, cap, rfl, hnn, -⟩ := ht.parts
  obtain ⟨na, nc, rfl, _, _⟩ := hnn.slice
  have HB := Lib.hid (((Below.refl _ w).alloc (Nat.le_refl _) (.cells #[.int .i64 t.kind, .int .i64 t.int, .string t.text, .int .u32 t.cr, .slice na t.nums.length nc, .slice a t.args.length cap] 27 (0, 0))).alloc (by simp) (.cells #[.int .i64 0, .int .i64 0] 112 (0, 0)))
  have HW := Lib.hid (walk_any S (w.heap.size + 1) (fun h => by have := hS _ h; omega) (fun h => by have := hG.lt _ h; omega) _ t _ 0 0 1 _ (Nat.le_refl _) (ht.below HB.out) (show Cells ((w.alloc (.cells #[.int .i64 t.kind, .int .i64 t.int, .string t.text, .int .u32 t.cr, .slice na t.nums.length nc, .slice a t.args.length cap] 27 (0, 0))).alloc (.cells #[.int .i64 0, .int .i64 0] 112 (0, 0))) (w.heap.size + 1) 112 [.int .i64 (0 : Nat), .int .i64 (0 : Nat)] from by
    have := Cells.new (w.alloc (.cells #[.int .i64 t.kind, .int .i64 t.int, .string t.text, .int .u32 t.cr, .slice na t.nums.length nc, .slice a t.args.length cap] 27 (0, 0))) 112 [.int .i64 0, .int .i64 0]
    rwa [World.size_alloc] at this) (by decide) (by decide) (by decide) (hG.below HB.out))
  rw [show ((1 : Nat) : Int) = 1 from rfl] at HW
  have HCK := Lib.hid (show (walkS t 0 0 1).1 = checkS t from rfl)
  clear ht hp hnn hS hG
  go_enter Tryd.func36, Tryd.ntmps36
  go_wp2_with fail
  refine HW.out.mono ?_
  rintro e w2 ⟨ev, rfl, her, hk, hC⟩
  have HB2 := Lib.hid (below_keep HB.out hk (by simp; omega) (fun k (hk : k = w.heap.size + 1) => by omega))
  have HER := Lib.hid her
  have c0 := hC.cell 0
  have c1 := hC.cell 1
  simp only [List.getElem?_cons_zero, List.getElem?_cons_succ] at c0 c1
  rw [HCK.out] at her HER
  clear hk hC HW HT HCK
  cases hc : checkS t with
  | cons q r =>
    rw [hc] at her HER
    obtain ⟨eb, eu, rfl, _, _⟩ := her
    have HCC := Lib.hid hc
    clear hc
    go_wp2
    go_ret3
    rw [HCC.out]
    exact ⟨_, _, _, rfl, HER.out, HB2.out⟩
  | nil =>
    rw [hc] at her HER
    obtain rfl : ev = .nilIface := her
    have HCC := Lib.hid hc
    clear hc
    go_wp2
    go_quiet (fail)
    go_wp2
    go_ret3
    rw [HCC.out]
    exact ⟨_, _, _, rfl, rfl, below_drewN HB2.out _⟩

theorem check_any (S : Nat → Prop) (t : Tm) (vs : List Value) (w : World) (ht : TmAt S t vs w) (hS : ∀ b, S b → b < w.heap.size) (hG : Gt w) :
    Calls Tryd.prog 23 #[.agg vs.toArray] w (RetEr w (checkS t)) := by
  have HT := Lib.hid ht
  obtain ⟨hp, nv, a, cap, rfl, hnn, -⟩ := ht.parts
  obtain ⟨na, nc, rfl, _, _⟩ := hnn.slice
  have HB := Lib.hid ((Below.refl _ w).alloc (Nat.le_refl _) (.cells #[.int .i64 t.kind, .int .i64 t.int, .string t.text, .int .u32 t.cr, .slice na t.nums.length nc, .slice a t.args.length cap] 27 (0, 0)))
  have HM := Lib.hid (measure_any S t _ _ (ht.below HB.out) (fun b hb => Nat.lt_of_lt_of_le (hS b hb) HB.out.size) (hG.below HB.out))
  clear ht hp hnn hS hG
  go_enter Tryd.func23, Tryd.ntmps23
  go_wp2_with fail
  refine HM.out.mono ?_
  rintro e w2 ⟨n, d, ev, rfl, her, hb⟩
  have HB2 := Lib.hid (HB.out.trans (hb.mono HB.out.size))
  have HER := Lib.hid her
  clear her hb
  go_wp2
  go_ret
  exact ⟨_, rfl, HER.out, HB2.out⟩
end Go.Proofs.YtkipjbmckpmmfaaDoor
end
