/- Texts laid together: Same, RxB, TrA, TrB, MaJa, MaJ, MaK, MaM, MaN. -/
import Derived.Test.YtlahagabcnmdiaaGreatDoorP20
import Derived.BigQuiet
import Derived.Deep.QuietTactic
import Derived.Deep.RegionHeld3
import Derived.Test.YtlahagabcnmdiaaGreatDoorP21
import Derived.StillTailTactics
import Derived.BigRegion
section
/- heddleref02.Same, of a term and itself. Printed by wip/sam.py. -/
open Go Go.RowKit
namespace Go.Proofs.YtlahagabcnmdiaaGreatDoor
set_option linter.unusedVariables false
set_option linter.unusedSimpArgs false

theorem NumsAt.get {S : Nat → Prop} {v : Value} {l : List Int} {w : World} (h : NumsAt S v l w) : ∃ a c, v = .slice a l.length c ∧ ∀ i (hi : i < l.length), ∃ g o, a = some ⟨g, o, none⟩ ∧ w.cell? ⟨g, o + i, none⟩ = some (.int .u32 l[i]) := by
  obtain ⟨a, c, h1, _, _, h4⟩ := h
  exact ⟨a, c, h1, fun i hi => by obtain ⟨_, _, g, o, ha, _, hc⟩ := h4 i hi; exact ⟨g, o, ha, hc⟩⟩
set_option maxHeartbeats 16000000 in
set_option maxRecDepth 100000 in
theorem same_ind : ∀ (N : Nat) (S1 S2 : Nat → Prop) (t : Tm) (vs1 vs2 : List Value) (w : World), SizeOf.sizeOf t ≤ N → TmAt S1 t vs1 w → TmAt S2 t vs2 w →
    Calls Tryz.prog 21 #[.agg vs1.toArray, .agg vs2.toArray] w fun e w' => e = .returned (.bool true) ∧ Below w.heap.size w w' := by
  intro N
  induction N with
  | zero => intro S1 S2 t vs1 vs2 w h; cases t; simp at h
  | succ N ih =>
    intro S1 S2 t vs1 vs2 w hN ht1 ht2
    have HIH := Lib.hid ih
    have HNN := Lib.hid hN
    obtain ⟨hp, nv, a, cap, rfl, hnn, ⟨hc, hcm⟩, hcap, ha⟩ := ht1.parts
    obtain ⟨-, nv', a', cap', rfl, hnn', ⟨hc', hcm'⟩, hcap', ha'⟩ := ht2.parts
    have hnl : t.nums.length ≤ 140737488351232 := by
      obtain ⟨_, _, _, h, _⟩ := hnn
      have := h.2; omega
    obtain ⟨na, nc, rfl, hnum⟩ := hnn.get
    obtain ⟨na', nc', rfl, hnum'⟩ := hnn'.get
    have HN1 := Lib.hid hnum
    have HN2 := Lib.hid hnum'
    have HA1 := Lib.hid ha
    have HA2 := Lib.hid ha'
    have hal : t.args.length ≤ 140737488351232 := by omega
    have HB0 := Lib.hid (((Below.refl _ w).alloc (Nat.le_refl _) (.cells #[.int .i64 t.kind, .int .i64 t.int, .string t.text, .int .u32 t.cr, .slice na t.nums.length nc, .slice a t.args.length cap] 35 (0, 0))).alloc (by simp) (.cells #[.int .i64 t.kind, .int .i64 t.int, .string t.text, .int .u32 t.cr, .slice na' t.nums.length nc', .slice a' t.args.length cap'] 35 (0, 0)))
    have M1 := Lib.hid ((Cells.new w 35 [.int .i64 t.kind, .int .i64 t.int, .string t.text, .int .u32 t.cr, .slice na t.nums.length nc, .slice a t.args.length cap]).alloc (.cells #[.int .i64 t.kind, .int .i64 t.int, .string t.text, .int .u32 t.cr, .slice na' t.nums.length nc', .slice a' t.args.length cap'] 35 (0, 0)))
    have M2 := Lib.hid (show Cells ((w.alloc (.cells #[.int .i64 t.kind, .int .i64 t.int, .string t.text, .int .u32 t.cr, .slice na t.nums.length nc, .slice a t.args.length cap] 35 (0, 0))).alloc (.cells #[.int .i64 t.kind, .int .i64 t.int, .string t.text, .int .u32 t.cr, .slice na' t.nums.length nc', .slice a' t.args.length cap'] 35 (0, 0))) (w.heap.size + 1) 35 [.int .i64 t.kind, .int .i64 t.int, .string t.text, .int .u32 t.cr, .slice na' t.nums.length nc', .slice a' t.args.length cap'] from by
      have := Cells.new (w.alloc (.cells #[.int .i64 t.kind, .int .i64 t.int, .string t.text, .int .u32 t.cr, .slice na t.nums.length nc, .slice a t.args.length cap] 35 (0, 0))) 35 [.int .i64 t.kind, .int .i64 t.int, .string t.text, .int .u32 t.cr, .slice na' t.nums.length nc', .slice a' t.args.length cap']
      rwa [World.size_alloc] at this)
    clear ih hN ht1 ht2 hnn hnn' ha ha' hcm hcm' hnum hnum' hp hc hc' hcap hcap'
    go_enter Tryz.func21, Tryz.ntmps21
    go_upto_region 1 with (fail)
    generalize (w.alloc (.cells #[.int .i64 t.kind, .int .i64 t.int, .string t.text, .int .u32 t.cr, .slice na t.nums.length nc, .slice a t.args.length cap] 35 (0, 0))).alloc (.cells #[.int .i64 t.kind, .int .i64 t.int, .string t.text, .int .u32 t.cr, .slice na' t.nums.length nc', .slice a' t.args.length cap'] 35 (0, 0)) = w1 at *
    have p0 := M1.out.cell 0
    have p1 := M1.out.cell 1
    have p2 := M1.out.cell 2
    have p3 := M1.out.cell 3
    have p4 := M1.out.cell 4
    have p5 := M1.out.cell 5
    have q0 := M2.out.cell 0
    have q1 := M2.out.cell 1
    have q2 := M2.out.cell 2
    have q3 := M2.out.cell 3
    have q4 := M2.out.cell 4
    have q5 := M2.out.cell 5
    simp only [List.getElem?_cons_zero, List.getElem?_cons_succ] at p0 p1 p2 p3 p4 p5 q0 q1 q2 q3 q4 q5
    go_wp2
    clear p0 p1 p2 p3 p4 p5 q0 q1 q2 q3 q4 q5
    go_loopw [5] (fun i wr => ∃ kk : Nat, kk ≤ t.nums.length ∧ i = .int .i64 kk ∧ Below w1.heap.size w1 wr) (fun i _ => t.nums.length - (intOf i).toNat)
    case atStart => exact ⟨0, Nat.zero_le _, rfl, Below.refl _ _⟩
    case round =>
      obtain ⟨kk, hkk, rfl, hbr⟩ := hrel
      have HBR := Lib.hid hbr
      clear hbr
      have p4 := (M1.out.below HBR.out).cell 4
      have q4 := (M2.out.below HBR.out).cell 4
      simp only [List.getElem?_cons_zero, List.getElem?_cons_succ] at p4 q4
      by_cases hk : kk < t.nums.length
      · obtain ⟨g, o, rfl, hg⟩ := HN1.out kk hk
        obtain ⟨g', o', rfl, hg'⟩ := HN2.out kk hk
        have d1 := ((HB0.out.trans (HBR.out.mono HB0.out.size)).cell (p := ⟨g, o + kk, none⟩) (World.block_lt_of_cell? w _ hg)).trans hg
        have d2 := ((HB0.out.trans (HBR.out.mono HB0.out.size)).cell (p := ⟨g', o' + kk, none⟩) (World.block_lt_of_cell? w _ hg')).trans hg'
        have hki : (kk : Int) < (t.nums.length : Int) := by omega
        have hk0 : (0 : Int) ≤ (kk : Int) := by omega
        have hk1 : (kk : Int) ≤ 140737488351232 := by omega
        clear hg hg'
        go_wp2
        go_quiet (fail)
        go_wp2
        go_roundw
        case rel => exact ⟨kk + 1, by omega, by go_num, below_drewN HBR.out _⟩
        case measure => simp [intOf]; omega
      · have hki : ¬ (kk : Int) < (t.nums.length : Int) := by omega
        clear hk hkk
        go_wp2
        clear p4 q4
        obtain ⟨wo, rfl⟩ : ∃ wo : World, wo = wr := ⟨_, rfl⟩
        go_loopw [6] (fun i wr => ∃ kk : Nat, kk ≤ t.args.length ∧ i = .int .i64 kk ∧ Below w1.heap.size w1 wr) (fun i _ => t.args.length - (intOf i).toNat)
        case atStart => exact ⟨0, Nat.zero_le _, rfl, HBR.out⟩
        case round =>
          obtain ⟨kk, hkk, rfl, hbr⟩ := hrel
          have HB2 := Lib.hid hbr
          clear hbr
          have p5 := (M1.out.below HB2.out).cell 5
          simp only [List.getElem?_cons_zero, List.getElem?_cons_succ] at p5
          by_cases hk : kk < t.args.length
          · obtain ⟨g, o, vs, rfl, -, hcs, ht⟩ := HA1.out.get kk hk
            obtain ⟨g', o', vs', rfl, -, hcs', ht'⟩ := HA2.out.get kk hk
            have HT1 := Lib.hid ht
            have HT2 := Lib.hid ht'
            obtain ⟨-, mv, b, bap, rfl, hmm, -⟩ := ht.parts
            obtain ⟨ma, mc, rfl, -, -⟩ := hmm.slice
            obtain ⟨-, mv', b', bap', rfl, hmm', -⟩ := ht'.parts
            obtain ⟨ma', mc', rfl, -, -⟩ := hmm'.slice
            have e0 := hcs 0 (by decide)
            have hgl : g < w.heap.size := World.block_lt_of_cell? w _ e0
            have f0 := hcs' 0 (by decide)
            have hgl' : g' < w.heap.size := World.block_lt_of_cell? w _ f0
            have HWX := Lib.hid (fun W (h : Below wr.heap.size wr W) => HB0.out.trans ((HB2.out.trans (h.mono HB2.out.size)).mono HB0.out.size))
            have HE := Lib.hid (fun W (h : Below wr.heap.size wr W) j (hj : j < 6) => ((HWX.out W h).cell (p := ⟨g, o + (kk * 6 + j), none⟩) hgl).trans (hcs j hj))
            have HF := Lib.hid (fun W (h : Below wr.heap.size wr W) j (hj : j < 6) => ((HWX.out W h).cell (p := ⟨g', o' + (kk * 6 + j), none⟩) hgl').trans (hcs' j hj))
            have HP5 := Lib.hid (fun W (h : Below wr.heap.size wr W) => show W.cell? ⟨w.heap.size, 5, none⟩ = some (.slice (some ⟨g, o, none⟩) t.args.length cap) from ((M1.out.below HB2.out).below h).cell 5)
            have HQ5 := Lib.hid (fun W (h : Below wr.heap.size wr W) => show W.cell? ⟨w.heap.size + 1, 5, none⟩ = some (.slice (some ⟨g', o', none⟩) t.args.length cap') from ((M2.out.below HB2.out).below h).cell 5)
            have hki : (kk : Int) < (t.args.length : Int) := by omega
            have hk0 : (0 : Int) ≤ (kk : Int) := by omega
            have hk1 : (kk : Int) ≤ 140737488351232 := by omega
            have HSZ := Lib.hid (show SizeOf.sizeOf t.args[kk] ≤ N from by have := Tm.arg_lt hk; have := HNN.out; omega)
            clear hcs hcs' ht ht' hmm hmm' e0 f0 hgl hgl'
            go_wp2
            refine wp_region_held_drew (S := fun W => Below wr.heap.size wr W) (by kernel_rfl) (Below.drew (Below.refl _ _)) (fun hHeld => ?_)
            refine wpAnyH_take (i := 0) (v := (.pointer (some ⟨w.heap.size, 5, none⟩))) (by simp only [List.getElem?_toArray, List.getElem?_cons_succ, List.getElem?_cons_zero]; rfl) (by kernel_rfl) (by kernel_rfl) (by kernel_rfl) (by exact fun _ _ _ h => h) (Or.inl ⟨by rfl, fun _ _ => rfl⟩) (by assumption) ?_
            try simp only [Act.put, List.setIfInBounds_toArray, List.set_cons_zero, List.set_cons_succ]
            refine wpAnyH_take (i := 1) (v := (.slice (some ⟨g, o, none⟩) t.args.length cap)) (by simp only [List.getElem?_toArray, List.getElem?_cons_succ, List.getElem?_cons_zero]; rfl) (by kernel_rfl) (by kernel_rfl) (by kernel_rfl) (by exact fun _ _ _ h => h) (Or.inl ⟨by rfl, by intro W hSw; have x0 := HP5.out W hSw; go_simp; all_goals first | rfl | exact ⟨rfl, rfl, rfl, rfl, rfl, rfl⟩⟩) (by assumption) ?_
            try simp only [Act.put, List.setIfInBounds_toArray, List.set_cons_zero, List.set_cons_succ]
            refine wpAnyH_take (i := 2) (v := (.int .i64 kk)) (by simp only [List.getElem?_toArray, List.getElem?_cons_succ, List.getElem?_cons_zero]; rfl) (by kernel_rfl) (by kernel_rfl) (by kernel_rfl) (by exact fun _ _ _ h => h) (Or.inl ⟨by rfl, fun _ _ => rfl⟩) (by assumption) ?_
            try simp only [Act.put, List.setIfInBounds_toArray, List.set_cons_zero, List.set_cons_succ]
            refine wpAnyH_take (i := 3) (v := (.pointer (some ⟨g, o + kk * 6, none⟩))) (by simp only [List.getElem?_toArray, List.getElem?_cons_succ, List.getElem?_cons_zero]; rfl) (by kernel_rfl) (by kernel_rfl) (by kernel_rfl) (by exact fun _ _ _ h => h) (Or.inl ⟨by rfl, by intro W hSw; go_simp; all_goals first | rfl | exact ⟨rfl, rfl, rfl, rfl, rfl, rfl⟩⟩) (by assumption) ?_
            try simp only [Act.put, List.setIfInBounds_toArray, List.set_cons_zero, List.set_cons_succ]
            refine wpAnyH_take (i := 4) (v := (.agg #[.int .i64 t.args[kk].kind, .int .i64 t.args[kk].int, .string t.args[kk].text, .int .u32 t.args[kk].cr, .slice ma t.args[kk].nums.length mc, .slice b t.args[kk].args.length bap])) (by simp only [List.getElem?_toArray, List.getElem?_cons_succ, List.getElem?_cons_zero]; rfl) (by kernel_rfl) (by kernel_rfl) (by kernel_rfl) (by exact fun _ _ _ h => h) (Or.inl ⟨by rfl, by intro W hSw; have x0 := HE.out W hSw 0 (by decide); have x1 := HE.out W hSw 1 (by decide); have x2 := HE.out W hSw 2 (by decide); have x3 := HE.out W hSw 3 (by decide); have x4 := HE.out W hSw 4 (by decide); have x5 := HE.out W hSw 5 (by decide); simp only [List.getElem?_cons_zero, List.getElem?_cons_succ, ← Nat.add_assoc, Nat.add_zero] at x0 x1 x2 x3 x4 x5; go_simp; all_goals first | rfl | exact ⟨rfl, rfl, rfl, rfl, rfl, rfl⟩⟩) (by assumption) ?_
            try simp only [Act.put, List.setIfInBounds_toArray, List.set_cons_zero, List.set_cons_succ]
            refine wpAnyH_take (i := 5) (v := (.pointer (some ⟨w.heap.size + 1, 5, none⟩))) (by simp only [List.getElem?_toArray, List.getElem?_cons_succ, List.getElem?_cons_zero]; rfl) (by kernel_rfl) (by kernel_rfl) (by kernel_rfl) (by exact fun _ _ _ h => h) (Or.inl ⟨by rfl, fun _ _ => rfl⟩) (by assumption) ?_
            try simp only [Act.put, List.setIfInBounds_toArray, List.set_cons_zero, List.set_cons_succ]
            refine wpAnyH_take (i := 6) (v := (.slice (some ⟨g', o', none⟩) t.args.length cap')) (by simp only [List.getElem?_toArray, List.getElem?_cons_succ, List.getElem?_cons_zero]; rfl) (by kernel_rfl) (by kernel_rfl) (by kernel_rfl) (by exact fun _ _ _ h => h) (Or.inl ⟨by rfl, by intro W hSw; have x0 := HQ5.out W hSw; go_simp; all_goals first | rfl | exact ⟨rfl, rfl, rfl, rfl, rfl, rfl⟩⟩) (by assumption) ?_
            try simp only [Act.put, List.setIfInBounds_toArray, List.set_cons_zero, List.set_cons_succ]
            refine wpAnyH_take (i := 7) (v := (.int .i64 kk)) (by simp only [List.getElem?_toArray, List.getElem?_cons_succ, List.getElem?_cons_zero]; rfl) (by kernel_rfl) (by kernel_rfl) (by kernel_rfl) (by exact fun _ _ _ h => h) (Or.inl ⟨by rfl, fun _ _ => rfl⟩) (by assumption) ?_
            try simp only [Act.put, List.setIfInBounds_toArray, List.set_cons_zero, List.set_cons_succ]
            refine wpAnyH_take (i := 8) (v := (.pointer (some ⟨g', o' + kk * 6, none⟩))) (by simp only [List.getElem?_toArray, List.getElem?_cons_succ, List.getElem?_cons_zero]; rfl) (by kernel_rfl) (by kernel_rfl) (by kernel_rfl) (by exact fun _ _ _ h => h) (Or.inl ⟨by rfl, by intro W hSw; go_simp; all_goals first | rfl | exact ⟨rfl, rfl, rfl, rfl, rfl, rfl⟩⟩) (by assumption) ?_
            try simp only [Act.put, List.setIfInBounds_toArray, List.set_cons_zero, List.set_cons_succ]
            refine wpAnyH_take (i := 9) (v := (.agg #[.int .i64 t.args[kk].kind, .int .i64 t.args[kk].int, .string t.args[kk].text, .int .u32 t.args[kk].cr, .slice ma' t.args[kk].nums.length mc', .slice b' t.args[kk].args.length bap'])) (by simp only [List.getElem?_toArray, List.getElem?_cons_succ, List.getElem?_cons_zero]; rfl) (by kernel_rfl) (by kernel_rfl) (by kernel_rfl) (by exact fun _ _ _ h => h) (Or.inl ⟨by rfl, by intro W hSw; have x0 := HF.out W hSw 0 (by decide); have x1 := HF.out W hSw 1 (by decide); have x2 := HF.out W hSw 2 (by decide); have x3 := HF.out W hSw 3 (by decide); have x4 := HF.out W hSw 4 (by decide); have x5 := HF.out W hSw 5 (by decide); simp only [List.getElem?_cons_zero, List.getElem?_cons_succ, ← Nat.add_assoc, Nat.add_zero] at x0 x1 x2 x3 x4 x5; go_simp; all_goals first | rfl | exact ⟨rfl, rfl, rfl, rfl, rfl, rfl⟩⟩) (by assumption) ?_
            try simp only [Act.put, List.setIfInBounds_toArray, List.set_cons_zero, List.set_cons_succ]
            refine wpAnyH_ready (rs := [10]) (by kernel_rfl) (by simp) ?_
            refine AllReadyH.cons (by simp only [List.getElem?_toArray, List.getElem?_cons_succ, List.getElem?_cons_zero]; rfl) (fun K hK => ?_) AllReadyH.nil
            go_simp
            refine (HIH.out S1 S2 t.args[kk] [.int .i64 t.args[kk].kind, .int .i64 t.args[kk].int, .string t.args[kk].text, .int .u32 t.args[kk].cr, .slice ma t.args[kk].nums.length mc, .slice b t.args[kk].args.length bap] [.int .i64 t.args[kk].kind, .int .i64 t.args[kk].int, .string t.args[kk].text, .int .u32 t.args[kk].cr, .slice ma' t.args[kk].nums.length mc', .slice b' t.args[kk].args.length bap'] _ HSZ.out (HT1.out.below (HWX.out _ hHeld)) (HT2.out.below (HWX.out _ hHeld))).mono ?_
            rintro e w5 ⟨rfl, hb5⟩
            have HB5 := Lib.hid ((hHeld).trans (hb5.mono hHeld.size))
            clear hb5
            refine hK.out _ _ (HB5.out) (fun hHeld => ?_)
            try simp only [Act.put, List.setIfInBounds_toArray, List.set_cons_zero, List.set_cons_succ]
            refine wpAnyH_take (i := 11) (v := (.bool false)) (by simp only [List.getElem?_toArray, List.getElem?_cons_succ, List.getElem?_cons_zero]; rfl) (by kernel_rfl) (by kernel_rfl) (by kernel_rfl) (by exact fun _ _ _ h => h) (Or.inl ⟨by rfl, by intro W hSw; go_simp; all_goals first | rfl | exact ⟨rfl, rfl, rfl, rfl, rfl, rfl⟩⟩) (by assumption) ?_
            try simp only [Act.put, List.setIfInBounds_toArray, List.set_cons_zero, List.set_cons_succ]
            refine wpAnyH_done (by kernel_rfl) ?_ _
            have HB6 := Lib.hid (HB2.out.trans (HB5.out.mono HB2.out.size))
            go_wp2
            go_roundw
            case rel => exact ⟨kk + 1, by omega, by go_num, HB6.out⟩
            case measure => simp [intOf]; omega
          · have hki : ¬ (kk : Int) < (t.args.length : Int) := by omega
            have HBF := Lib.hid (HB0.out.trans (HB2.out.mono HB0.out.size))
            clear hk hkk
            go_wp2
            go_ret
            exact ⟨rfl, HBF.out⟩
theorem sameTm_any (S1 S2 : Nat → Prop) (t : Tm) (vs1 vs2 : List Value) (w : World) (h1 : TmAt S1 t vs1 w) (h2 : TmAt S2 t vs2 w) :
    Calls Tryz.prog 21 #[.agg vs1.toArray, .agg vs2.toArray] w fun e w' => e = .returned (.bool true) ∧ Below w.heap.size w w' :=
  same_ind _ S1 S2 t vs1 vs2 w (Nat.le_refl _) h1 h2
end Go.Proofs.YtlahagabcnmdiaaGreatDoor
end
section
/- The reference of layer 17: Peek, Terms. Printed by wip/rxb.py. -/
open Go Go.RowKit
namespace Go.Proofs.YtlahagabcnmdiaaGreatDoor
set_option linter.unusedVariables false
set_option linter.unusedSimpArgs false

/-- what the reference's Peek hands back -/
def RetPR (base : Nat) (w : World) (r : Option Tm) (e : Ending) (w' : World) : Prop := Below w.heap.size w w' ∧ match r with
  | some t => ∃ vs, e = .returned (.tuple #[.agg vs.toArray, .bool true]) ∧ TmAt (fun b => b < base) t vs w'
  | none => e = .returned (.tuple #[.agg termZ.toArray, .bool false])
set_option maxHeartbeats 8000000 in
set_option maxRecDepth 100000 in
theorem peek17_any {base g : Nat} {b : Bx} {lv : Value} (w : World) (h : Rx base g b lv w) :
    Calls Tryz.prog 33 #[.pointer (some ⟨g, 0, none⟩)] w (RetPR base w b.l[b.cur]?) := by
  have HX := Lib.hid h
  obtain ⟨a, c, rfl, -, -⟩ := h.form
  have hl46 := h.len
  have hc46 := h.cur
  have HC := Lib.hid h.at_.cells
  have HBS := Lib.hid (show base ≤ w.heap.size from Nat.le_of_lt (Nat.lt_of_le_of_lt h.hg h.at_.cells.lt))
  have HB0 := Lib.hid ((Below.refl w.heap.size w).alloc (Nat.le_refl _) (.cells termZ.toArray 35 (0, 0)))
  have R0 := Lib.hid (Cells.new w 35 termZ)
  have C0 := Lib.hid (HC.out.below HB0.out)
  unfold termZ at *
  have c0 := C0.out.cell 0
  have c1 := C0.out.cell 1
  simp only [rxV, List.getElem?_cons_zero, List.getElem?_cons_succ] at c0 c1
  by_cases hlt : b.cur < b.l.length
  · have HR := Lib.hid (show b.l[b.cur]? = some b.l[b.cur] from List.getElem?_eq_getElem hlt)
    obtain ⟨k, c', vs, hv, hcs, ht⟩ := h.at_.rows.elem b.cur hlt
    cases hv
    have HTM := Lib.hid ht
    obtain ⟨_, nv, a2, cap2, rfl, hnn, _⟩ := ht.parts
    obtain ⟨na2, nc2, rfl, _, _⟩ := hnn.slice
    have HCS := Lib.hid hcs
    have hci : (b.cur : Int) < (b.l.length : Int) := by omega
    have hc0 : (0 : Int) ≤ (b.cur : Int) := by omega
    have hlt2 : ¬ b.l.length ≤ b.cur := by omega
    clear h hcs ht hnn
    go_enter Tryz.func33, Tryz.ntmps33
    go_wp2
    go_quiet (fail)
    go_wp2
    have hk : k < w.heap.size := World.block_lt_of_cell? w _ (HCS.out 0 (by decide))
    clear c0 c1
    have HB1 := Lib.hid (below_drewN HB0.out nq)
    have R1 := Lib.hid (R0.out.drewN nq)
    clear HB0 R0 C0
    generalize World.drewN _ nq = w1 at *
    have HL0 := Lib.hid (fun W (h : Below w1.heap.size w1 W) => show W.cell? ⟨g, 0, none⟩ = some (.slice (some ⟨k, 0, none⟩) b.l.length c) from ((HC.out.below HB1.out).below h).cell 0)
    have HL1 := Lib.hid (fun W (h : Below w1.heap.size w1 W) => show W.cell? ⟨g, 1, none⟩ = some (.int .i64 b.cur) from ((HC.out.below HB1.out).below h).cell 1)
    have HE := Lib.hid (fun W (h : Below w1.heap.size w1 W) j (hj : j < 6) => ((HB1.out.trans (h.mono HB1.out.size)).cell (p := ⟨k, b.cur * 6 + j, none⟩) hk).trans (HCS.out j hj))
    have HSK := Lib.hid (show k ≠ w.heap.size by omega)
    clear hk
    refine wp_region_L (S := fun W => Below w1.heap.size w1 W) (F := [10, 11]) (by kernel_rfl) (Below.drew (Below.refl _ _)) (fun hHeld => ?_)
    refine wpAnyL_take (i := 0) (v := (.pointer (some ⟨g, 0, none⟩))) (by simp only [List.getElem?_toArray, List.getElem?_cons_succ, List.getElem?_cons_zero]; rfl) (by kernel_rfl) (by kernel_rfl) (by kernel_rfl) (by kernel_rfl) (by exact fun _ _ _ h => h) (Or.inl ⟨by rfl, fun _ _ => rfl⟩) (by assumption) ?_
    try simp only [Act.put, List.setIfInBounds_toArray, List.set_cons_zero, List.set_cons_succ]
    refine wpAnyL_take (i := 1) (v := (.pointer (some ⟨g, 0, none⟩))) (by simp only [List.getElem?_toArray, List.getElem?_cons_succ, List.getElem?_cons_zero]; rfl) (by kernel_rfl) (by kernel_rfl) (by kernel_rfl) (by kernel_rfl) (by exact fun _ _ _ h => h) (Or.inl ⟨by rfl, by intro W hSw; go_simp; all_goals first | rfl | exact ⟨rfl, rfl, rfl, rfl, rfl, rfl⟩⟩) (by assumption) ?_
    try simp only [Act.put, List.setIfInBounds_toArray, List.set_cons_zero, List.set_cons_succ]
    refine wpAnyL_take (i := 2) (v := (.pointer (some ⟨g, 0, none⟩))) (by simp only [List.getElem?_toArray, List.getElem?_cons_succ, List.getElem?_cons_zero]; rfl) (by kernel_rfl) (by kernel_rfl) (by kernel_rfl) (by kernel_rfl) (by exact fun _ _ _ h => h) (Or.inl ⟨by rfl, fun _ _ => rfl⟩) (by assumption) ?_
    try simp only [Act.put, List.setIfInBounds_toArray, List.set_cons_zero, List.set_cons_succ]
    refine wpAnyL_take (i := 3) (v := (.slice (some ⟨k, 0, none⟩) b.l.length c)) (by simp only [List.getElem?_toArray, List.getElem?_cons_succ, List.getElem?_cons_zero]; rfl) (by kernel_rfl) (by kernel_rfl) (by kernel_rfl) (by kernel_rfl) (by exact fun _ _ _ h => h) (Or.inl ⟨by rfl, by intro W hSw; have x0 := HL0.out W hSw; go_simp; all_goals first | rfl | exact ⟨rfl, rfl, rfl, rfl, rfl, rfl⟩⟩) (by assumption) ?_
    try simp only [Act.put, List.setIfInBounds_toArray, List.set_cons_zero, List.set_cons_succ]
    refine wpAnyL_take (i := 4) (v := (.pointer (some ⟨g, 0, none⟩))) (by simp only [List.getElem?_toArray, List.getElem?_cons_succ, List.getElem?_cons_zero]; rfl) (by kernel_rfl) (by kernel_rfl) (by kernel_rfl) (by kernel_rfl) (by exact fun _ _ _ h => h) (Or.inl ⟨by rfl, fun _ _ => rfl⟩) (by assumption) ?_
    try simp only [Act.put, List.setIfInBounds_toArray, List.set_cons_zero, List.set_cons_succ]
    refine wpAnyL_take (i := 5) (v := (.pointer (some ⟨g, 0, none⟩))) (by simp only [List.getElem?_toArray, List.getElem?_cons_succ, List.getElem?_cons_zero]; rfl) (by kernel_rfl) (by kernel_rfl) (by kernel_rfl) (by kernel_rfl) (by exact fun _ _ _ h => h) (Or.inl ⟨by rfl, by intro W hSw; go_simp; all_goals first | rfl | exact ⟨rfl, rfl, rfl, rfl, rfl, rfl⟩⟩) (by assumption) ?_
    try simp only [Act.put, List.setIfInBounds_toArray, List.set_cons_zero, List.set_cons_succ]
    refine wpAnyL_take (i := 6) (v := (.pointer (some ⟨g, 1, none⟩))) (by simp only [List.getElem?_toArray, List.getElem?_cons_succ, List.getElem?_cons_zero]; rfl) (by kernel_rfl) (by kernel_rfl) (by kernel_rfl) (by kernel_rfl) (by exact fun _ _ _ h => h) (Or.inl ⟨by rfl, fun _ _ => rfl⟩) (by assumption) ?_
    try simp only [Act.put, List.setIfInBounds_toArray, List.set_cons_zero, List.set_cons_succ]
    refine wpAnyL_take (i := 7) (v := (.int .i64 b.cur)) (by simp only [List.getElem?_toArray, List.getElem?_cons_succ, List.getElem?_cons_zero]; rfl) (by kernel_rfl) (by kernel_rfl) (by kernel_rfl) (by kernel_rfl) (by exact fun _ _ _ h => h) (Or.inl ⟨by rfl, by intro W hSw; have x0 := HL1.out W hSw; go_simp; all_goals first | rfl | exact ⟨rfl, rfl, rfl, rfl, rfl, rfl⟩⟩) (by assumption) ?_
    try simp only [Act.put, List.setIfInBounds_toArray, List.set_cons_zero, List.set_cons_succ]
    refine wpAnyL_take (i := 8) (v := (.pointer (some ⟨k, b.cur * 6, none⟩))) (by simp only [List.getElem?_toArray, List.getElem?_cons_succ, List.getElem?_cons_zero]; rfl) (by kernel_rfl) (by kernel_rfl) (by kernel_rfl) (by kernel_rfl) (by exact fun _ _ _ h => h) (Or.inl ⟨by rfl, by intro W hSw; go_simp; all_goals first | rfl | exact ⟨rfl, rfl, rfl, rfl, rfl, rfl⟩⟩) (by assumption) ?_
    try simp only [Act.put, List.setIfInBounds_toArray, List.set_cons_zero, List.set_cons_succ]
    refine wpAnyL_take (i := 9) (v := (.agg #[.int .i64 b.l[b.cur].kind, .int .i64 b.l[b.cur].int, .string b.l[b.cur].text, .int .u32 b.l[b.cur].cr, .slice na2 b.l[b.cur].nums.length nc2, .slice a2 b.l[b.cur].args.length cap2])) (by simp only [List.getElem?_toArray, List.getElem?_cons_succ, List.getElem?_cons_zero]; rfl) (by kernel_rfl) (by kernel_rfl) (by kernel_rfl) (by kernel_rfl) (by exact fun _ _ _ h => h) (Or.inl ⟨by rfl, by intro W hSw; have x0 := HE.out W hSw 0 (by decide); have x1 := HE.out W hSw 1 (by decide); have x2 := HE.out W hSw 2 (by decide); have x3 := HE.out W hSw 3 (by decide); have x4 := HE.out W hSw 4 (by decide); have x5 := HE.out W hSw 5 (by decide); simp only [List.getElem?_cons_zero, List.getElem?_cons_succ, ← Nat.add_assoc, Nat.add_zero] at x0 x1 x2 x3 x4 x5; go_simp; all_goals first | rfl | exact ⟨rfl, rfl, rfl, rfl, rfl, rfl⟩⟩) (by assumption) ?_
    try simp only [Act.put, List.setIfInBounds_toArray, List.set_cons_zero, List.set_cons_succ]
    refine wpAnyL_ready (rs := [10]) (by kernel_rfl) (by simp) ?_
    refine AllReadyL.last (by simp only [List.getElem?_toArray, List.getElem?_cons_succ, List.getElem?_cons_zero]; rfl) (by kernel_rfl) (fun K hK => ?_) AllReadyL.nil
    refine step_store_blk (by rfl) _ (.tmp 2) (.tmp 24) (by rfl) w.heap.size 0 [.int .i64 b.l[b.cur].kind, .int .i64 b.l[b.cur].int, .string b.l[b.cur].text, .int .u32 b.l[b.cur].cr, .slice na2 b.l[b.cur].nums.length nc2, .slice a2 b.l[b.cur].args.length cap2] (by rfl) (by rfl) (by kernel_rfl) (by simp [Value.oneCell']) 35 _ (R1.out.below hHeld) (by show 0 + 6 ≤ 6; decide) ?_
    intro w4 hC4 hg4
    have HC4 := Lib.hid (show Cells w4 w.heap.size 35 [.int .i64 b.l[b.cur].kind, .int .i64 b.l[b.cur].int, .string b.l[b.cur].text, .int .u32 b.l[b.cur].cr, .slice na2 b.l[b.cur].nums.length nc2, .slice a2 b.l[b.cur].args.length cap2] from hC4)
    have HB4 := Lib.hid ((HB1.out.trans (Below.mono hHeld HB1.out.size)).grown hg4 (Nat.le_trans HB1.out.size hHeld.size) (fun q hq => by cases hq; exact Nat.le_refl _))
    clear hC4 hg4
    refine hK.out _ _ ?_
    try simp only [Act.put, List.setIfInBounds_toArray, List.set_cons_zero, List.set_cons_succ]
    refine wpAnyL_ready (rs := [11]) (by kernel_rfl) (by simp) ?_
    refine AllReadyL.last (by simp only [List.getElem?_toArray, List.getElem?_cons_succ, List.getElem?_cons_zero]; rfl) (by kernel_rfl) (fun K hK => ?_) AllReadyL.nil
    go_simp
    refine hK.out _ _ ?_
    try simp only [Act.put, List.setIfInBounds_toArray, List.set_cons_zero, List.set_cons_succ]
    refine wpAnyL_done (by kernel_rfl) ?_ _
    have q0 := HC4.out.cell 0
    have q1 := HC4.out.cell 1
    have q2 := HC4.out.cell 2
    have q3 := HC4.out.cell 3
    have q4 := HC4.out.cell 4
    have q5 := HC4.out.cell 5
    simp only [List.getElem?_cons_zero, List.getElem?_cons_succ] at q0 q1 q2 q3 q4 q5
    go_wp2
    refine bodyPost_ret (v := .tuple #[.agg #[.int .i64 b.l[b.cur].kind, .int .i64 b.l[b.cur].int, .string b.l[b.cur].text, .int .u32 b.l[b.cur].cr, .slice na2 b.l[b.cur].nums.length nc2, .slice a2 b.l[b.cur].args.length cap2], .bool true]) (by simp [results, Tryz.results33, go_sem, q0, q1, q2, q3, q4, q5]) rfl ?_
    rw [HR.out]
    exact ⟨HB4.out, _, rfl, TmAt.frame (fun q hq => HB4.out.block q (Nat.lt_of_lt_of_le hq HBS.out)) HTM.out⟩
  · have HR := Lib.hid (show b.l[b.cur]? = none from List.getElem?_eq_none (by omega))
    have hlt2 : b.l.length ≤ b.cur := by omega
    clear h hlt
    go_enter Tryz.func33, Tryz.ntmps33
    go_wp2
    go_quiet (fail)
    have HB1 := Lib.hid (below_drewN HB0.out nq)
    have R1 := Lib.hid (R0.out.drewN nq)
    clear HB0 R0 C0 c0 c1
    generalize World.drewN _ nq = w1 at *
    go_wp2_with (refine wpList_store_blk rfl _ (.tmp 2) (.tmp 14) rfl w.heap.size 0 [.int .i64 0, .int .i64 0, .string ⟨#[]⟩, .int .u32 0, .slice none 0 0, .slice none 0 0] (by rfl) (by rfl) (by kernel_rfl) (by simp [Value.oneCell']) 35 _ R1.out (by show 0 + 6 ≤ 6; decide) ?_; intro w4 hC4 hg4)
    have hC4' : Cells w4 w.heap.size 35 [.int .i64 0, .int .i64 0, .string ⟨#[]⟩, .int .u32 0, .slice none 0 0, .slice none 0 0] := hC4
    have HB4 := Lib.hid (HB1.out.grown hg4 HB1.out.size (fun q hq => by cases hq; exact Nat.le_refl _))
    have q0 := hC4'.cell 0
    have q1 := hC4'.cell 1
    have q2 := hC4'.cell 2
    have q3 := hC4'.cell 3
    have q4 := hC4'.cell 4
    have q5 := hC4'.cell 5
    simp only [List.getElem?_cons_zero, List.getElem?_cons_succ] at q0 q1 q2 q3 q4 q5
    clear hC4 hC4' hg4
    go_wp2
    refine bodyPost_ret (v := .tuple #[.agg #[.int .i64 0, .int .i64 0, .string ⟨#[]⟩, .int .u32 0, .slice none 0 0, .slice none 0 0], .bool false]) (by simp [results, Tryz.results33, go_sem, q0, q1, q2, q3, q4, q5]) rfl ?_
    rw [HR.out]
    exact ⟨HB4.out, rfl⟩
set_option maxHeartbeats 4000000 in
set_option maxRecDepth 100000 in
theorem terms_any {base1 base2 : Nat} {S1 S2 : Nat → Prop} {v1 v2 : Value} (l : List Tm) (w : World) (h1 : TsIs base1 S1 v1 l w) (h2 : TsIs base2 S2 v2 l w) (hl : l.length ≤ 1000000) :
    Calls Tryz.prog 42 #[v1, v2] w fun e w' => e = .returned (.bool true) ∧ Below w.heap.size w w' := by
  have HT1 := Lib.hid h1
  have HT2 := Lib.hid h2
  obtain ⟨a1, c1, rfl⟩ := h1.form
  obtain ⟨a2, c2, rfl⟩ := h2.form
  clear h1 h2
  go_enter Tryz.func42, Tryz.ntmps42
  go_wp2
  go_loopw [5] (fun i wr => ∃ kk : Nat, kk ≤ l.length ∧ i = .int .i64 kk ∧ Below w.heap.size w wr) (fun i _ => l.length - (intOf i).toNat)
  case atStart => exact ⟨0, Nat.zero_le _, rfl, Below.refl _ _⟩
  case round =>
    obtain ⟨kk, hkk, rfl, hbr⟩ := hrel
    have HB2 := Lib.hid hbr
    clear hbr
    by_cases hk : kk < l.length
    · obtain ⟨g, cg, vs, hv, hcs, ht⟩ := HT1.out.elem kk hk
      obtain ⟨g', cg', vs', hv', hcs', ht'⟩ := HT2.out.elem kk hk
      cases hv
      cases hv'
      have HM1 := Lib.hid ht
      have HM2 := Lib.hid ht'
      obtain ⟨-, mv, b, bap, rfl, hmm, -⟩ := ht.parts
      obtain ⟨ma, mc, rfl, -, -⟩ := hmm.slice
      obtain ⟨-, mv', b', bap', rfl, hmm', -⟩ := ht'.parts
      obtain ⟨ma', mc', rfl, -, -⟩ := hmm'.slice
      have hgl : g < w.heap.size := World.block_lt_of_cell? w _ (hcs 0 (by decide))
      have hgl' : g' < w.heap.size := World.block_lt_of_cell? w _ (hcs' 0 (by decide))
      have HWX := Lib.hid (fun W (h : Below wr.heap.size wr W) => HB2.out.trans (h.mono HB2.out.size))
      have HE := Lib.hid (fun W (h : Below wr.heap.size wr W) j (hj : j < 6) => ((HWX.out W h).cell (p := ⟨g, kk * 6 + j, none⟩) hgl).trans (hcs j hj))
      have HF := Lib.hid (fun W (h : Below wr.heap.size wr W) j (hj : j < 6) => ((HWX.out W h).cell (p := ⟨g', kk * 6 + j, none⟩) hgl').trans (hcs' j hj))
      have hki : (kk : Int) < (l.length : Int) := by omega
      have hk0 : (0 : Int) ≤ (kk : Int) := by omega
      have hk1 : (kk : Int) ≤ 1000000 := by omega
      clear hcs hcs' ht ht' hmm hmm' hgl hgl'
      go_wp2
      refine wp_region_L (S := fun W => Below wr.heap.size wr W) (F := []) (by kernel_rfl) (Below.drew (Below.refl _ _)) (fun hHeld => ?_)
      refine wpAnyL_take (i := 0) (v := (.slice (some ⟨g, 0, none⟩) l.length c1)) (by simp only [List.getElem?_toArray, List.getElem?_cons_succ, List.getElem?_cons_zero]; rfl) (by kernel_rfl) (by kernel_rfl) (by kernel_rfl) (by kernel_rfl) (by exact fun _ _ _ h => h) (Or.inl ⟨by rfl, fun _ _ => rfl⟩) (by assumption) ?_
      try simp only [Act.put, List.setIfInBounds_toArray, List.set_cons_zero, List.set_cons_succ]
      refine wpAnyL_take (i := 1) (v := (.int .i64 kk)) (by simp only [List.getElem?_toArray, List.getElem?_cons_succ, List.getElem?_cons_zero]; rfl) (by kernel_rfl) (by kernel_rfl) (by kernel_rfl) (by kernel_rfl) (by exact fun _ _ _ h => h) (Or.inl ⟨by rfl, fun _ _ => rfl⟩) (by assumption) ?_
      try simp only [Act.put, List.setIfInBounds_toArray, List.set_cons_zero, List.set_cons_succ]
      refine wpAnyL_take (i := 2) (v := (.pointer (some ⟨g, kk * 6, none⟩))) (by simp only [List.getElem?_toArray, List.getElem?_cons_succ, List.getElem?_cons_zero]; rfl) (by kernel_rfl) (by kernel_rfl) (by kernel_rfl) (by kernel_rfl) (by exact fun _ _ _ h => h) (Or.inl ⟨by rfl, by intro W hSw; go_simp; all_goals first | rfl | exact ⟨rfl, rfl, rfl, rfl, rfl, rfl⟩⟩) (by assumption) ?_
      try simp only [Act.put, List.setIfInBounds_toArray, List.set_cons_zero, List.set_cons_succ]
      refine wpAnyL_take (i := 3) (v := (.agg #[.int .i64 l[kk].kind, .int .i64 l[kk].int, .string l[kk].text, .int .u32 l[kk].cr, .slice ma l[kk].nums.length mc, .slice b l[kk].args.length bap])) (by simp only [List.getElem?_toArray, List.getElem?_cons_succ, List.getElem?_cons_zero]; rfl) (by kernel_rfl) (by kernel_rfl) (by kernel_rfl) (by kernel_rfl) (by exact fun _ _ _ h => h) (Or.inl ⟨by rfl, by intro W hSw; have x0 := HE.out W hSw 0 (by decide); have x1 := HE.out W hSw 1 (by decide); have x2 := HE.out W hSw 2 (by decide); have x3 := HE.out W hSw 3 (by decide); have x4 := HE.out W hSw 4 (by decide); have x5 := HE.out W hSw 5 (by decide); simp only [List.getElem?_cons_zero, List.getElem?_cons_succ, ← Nat.add_assoc, Nat.add_zero] at x0 x1 x2 x3 x4 x5; go_simp; all_goals first | rfl | exact ⟨rfl, rfl, rfl, rfl, rfl, rfl⟩⟩) (by assumption) ?_
      try simp only [Act.put, List.setIfInBounds_toArray, List.set_cons_zero, List.set_cons_succ]
      refine wpAnyL_take (i := 4) (v := (.slice (some ⟨g', 0, none⟩) l.length c2)) (by simp only [List.getElem?_toArray, List.getElem?_cons_succ, List.getElem?_cons_zero]; rfl) (by kernel_rfl) (by kernel_rfl) (by kernel_rfl) (by kernel_rfl) (by exact fun _ _ _ h => h) (Or.inl ⟨by rfl, fun _ _ => rfl⟩) (by assumption) ?_
      try simp only [Act.put, List.setIfInBounds_toArray, List.set_cons_zero, List.set_cons_succ]
      refine wpAnyL_take (i := 5) (v := (.int .i64 kk)) (by simp only [List.getElem?_toArray, List.getElem?_cons_succ, List.getElem?_cons_zero]; rfl) (by kernel_rfl) (by kernel_rfl) (by kernel_rfl) (by kernel_rfl) (by exact fun _ _ _ h => h) (Or.inl ⟨by rfl, fun _ _ => rfl⟩) (by assumption) ?_
      try simp only [Act.put, List.setIfInBounds_toArray, List.set_cons_zero, List.set_cons_succ]
      refine wpAnyL_take (i := 6) (v := (.pointer (some ⟨g', kk * 6, none⟩))) (by simp only [List.getElem?_toArray, List.getElem?_cons_succ, List.getElem?_cons_zero]; rfl) (by kernel_rfl) (by kernel_rfl) (by kernel_rfl) (by kernel_rfl) (by exact fun _ _ _ h => h) (Or.inl ⟨by rfl, by intro W hSw; go_simp; all_goals first | rfl | exact ⟨rfl, rfl, rfl, rfl, rfl, rfl⟩⟩) (by assumption) ?_
      try simp only [Act.put, List.setIfInBounds_toArray, List.set_cons_zero, List.set_cons_succ]
      refine wpAnyL_take (i := 7) (v := (.agg #[.int .i64 l[kk].kind, .int .i64 l[kk].int, .string l[kk].text, .int .u32 l[kk].cr, .slice ma' l[kk].nums.length mc', .slice b' l[kk].args.length bap'])) (by simp only [List.getElem?_toArray, List.getElem?_cons_succ, List.getElem?_cons_zero]; rfl) (by kernel_rfl) (by kernel_rfl) (by kernel_rfl) (by kernel_rfl) (by exact fun _ _ _ h => h) (Or.inl ⟨by rfl, by intro W hSw; have x0 := HF.out W hSw 0 (by decide); have x1 := HF.out W hSw 1 (by decide); have x2 := HF.out W hSw 2 (by decide); have x3 := HF.out W hSw 3 (by decide); have x4 := HF.out W hSw 4 (by decide); have x5 := HF.out W hSw 5 (by decide); simp only [List.getElem?_cons_zero, List.getElem?_cons_succ, ← Nat.add_assoc, Nat.add_zero] at x0 x1 x2 x3 x4 x5; go_simp; all_goals first | rfl | exact ⟨rfl, rfl, rfl, rfl, rfl, rfl⟩⟩) (by assumption) ?_
      try simp only [Act.put, List.setIfInBounds_toArray, List.set_cons_zero, List.set_cons_succ]
      refine wpAnyL_ready (rs := [8]) (by kernel_rfl) (by simp) ?_
      refine AllReadyL.cons (by simp only [List.getElem?_toArray, List.getElem?_cons_succ, List.getElem?_cons_zero]; rfl) (fun K hK => ?_) AllReadyL.nil
      go_simp
      refine (sameTm_any S1 S2 l[kk] [.int .i64 l[kk].kind, .int .i64 l[kk].int, .string l[kk].text, .int .u32 l[kk].cr, .slice ma l[kk].nums.length mc, .slice b l[kk].args.length bap] [.int .i64 l[kk].kind, .int .i64 l[kk].int, .string l[kk].text, .int .u32 l[kk].cr, .slice ma' l[kk].nums.length mc', .slice b' l[kk].args.length bap'] _ (HM1.out.below (HWX.out _ hHeld)) (HM2.out.below (HWX.out _ hHeld))).mono ?_
      rintro e w5 ⟨rfl, hb5⟩
      have HB5 := Lib.hid ((hHeld).trans (hb5.mono hHeld.size))
      clear hb5
      refine hK.out _ _ (HB5.out) (fun hHeld => ?_)
      try simp only [Act.put, List.setIfInBounds_toArray, List.set_cons_zero, List.set_cons_succ]
      refine wpAnyL_take (i := 9) (v := (.bool false)) (by simp only [List.getElem?_toArray, List.getElem?_cons_succ, List.getElem?_cons_zero]; rfl) (by kernel_rfl) (by kernel_rfl) (by kernel_rfl) (by kernel_rfl) (by exact fun _ _ _ h => h) (Or.inl ⟨by rfl, by intro W hSw; go_simp; all_goals first | rfl | exact ⟨rfl, rfl, rfl, rfl, rfl, rfl⟩⟩) (by assumption) ?_
      try simp only [Act.put, List.setIfInBounds_toArray, List.set_cons_zero, List.set_cons_succ]
      refine wpAnyL_done (by kernel_rfl) ?_ _
      have HB6 := Lib.hid (HB2.out.trans (HB5.out.mono HB2.out.size))
      go_wp2
      go_roundw
      case rel => exact ⟨kk + 1, by omega, by go_num, HB6.out⟩
      case measure => simp [intOf]; omega
    · have hki : ¬ (kk : Int) < (l.length : Int) := by omega
      clear hk hkk
      go_wp2
      go_ret
      exact ⟨rfl, HB2.out⟩
end Go.Proofs.YtlahagabcnmdiaaGreatDoor
end
section
/- The reference of layer 2: which letters a text has. -/
open Go Go.RowKit
namespace Go.Proofs.YtlahagabcnmdiaaGreatDoor

def ltrL : List UInt8 := [105, 115, 99, 110, 97]
def hasS (may : List UInt8) (i : Nat) : Bool := may.contains (ltrL.getD i 0)
/-- the row behind i letters, and k of the text at the next -/
def rowF (may : List UInt8) (i k : Nat) : List Bool := (List.range 5).map fun j => if j < i then hasS may j else if j = i then hasS (may.take k) i else false
def boolV (l : List Bool) : List Value := l.map Value.bool
theorem rowF_len (may : List UInt8) (i k : Nat) : (rowF may i k).length = 5 := by simp [rowF]
theorem rowF_get (may : List UInt8) (i k : Nat) (hi : i < 5) : (boolV (rowF may i k))[i]? = some (.bool (hasS (may.take k) i)) := by
  simp [boolV, rowF, hi]
theorem hasS_nil (i : Nat) : hasS [] i = false := by simp [hasS]
theorem hasS_snoc (may : List UInt8) (i k : Nat) (h : k < may.length) : hasS (may.take (k + 1)) i = (hasS (may.take k) i || ltrL.getD i 0 == may[k]) := by
  unfold hasS
  rw [List.take_succ_eq_append_getElem h, List.contains_eq_any_beq, List.contains_eq_any_beq, List.any_append]
  simp
theorem rowF_set (may : List UInt8) (i k : Nat) (b : Bool) (hb : b = hasS (may.take (k + 1)) i) : (boolV (rowF may i k)).set i (.bool b) = boolV (rowF may i (k + 1)) := by
  subst hb
  apply List.ext_getElem
  · simp [boolV, rowF]
  · intro j h1 h2
    simp only [boolV, rowF, List.length_set, List.length_map, List.length_range] at h1
    rw [List.getElem_set]
    split
    · rename_i e; subst e; simp [boolV, rowF]
    · rename_i e
      have e2 : ¬ j = i := fun h => e h.symm
      simp [boolV, rowF, e2]
theorem rowF_next (may : List UInt8) (i : Nat) : rowF may i may.length = rowF may (i + 1) 0 := by
  unfold rowF
  apply List.map_congr_left
  intro j _
  rw [List.take_length, List.take_zero, hasS_nil]
  by_cases h1 : j < i
  · rw [if_pos h1, if_pos (by omega)]
  · rw [if_neg h1]
    by_cases h2 : j = i
    · rw [if_pos h2, if_pos (by omega), h2]
    · rw [if_neg h2, if_neg (by omega)]
      split <;> rfl

theorem ltr_eq (k : Nat) (hk : k < 5) (may : ByteArray) (q : Nat) (hq : q < may.size) :
    ((((⟨#[105, 115, 99, 110, 97]⟩ : ByteArray)[k]'hk).toNat : Int) == ((may[q]'hq).toNat : Int)) = (ltrL.getD k 0 == may.data.toList[q]'hq) := by
  have e1 : ltrL.getD k 0 = (⟨#[105, 115, 99, 110, 97]⟩ : ByteArray)[k]'hk := by
    have h5 : k = 0 ∨ k = 1 ∨ k = 2 ∨ k = 3 ∨ k = 4 := by omega
    rcases h5 with rfl | rfl | rfl | rfl | rfl <;> rfl
  have e2 : may.data.toList[q]'hq = may[q]'hq := rfl
  rw [e1, e2]
  by_cases h : (⟨#[105, 115, 99, 110, 97]⟩ : ByteArray)[k]'hk = may[q]'hq
  · rw [byte_eqb h]; simp [h]
  · rw [byte_neb h]; simp [h]
set_option maxHeartbeats 8000000 in
set_option maxRecDepth 100000 in
theorem func0_any (may : ByteArray) (w : World) (hz : may.size ≤ 1000) :
    Calls Tryz.prog 133 #[.string may] w fun e w' => e = .returned (.slice (some ⟨w.heap.size, 0, none⟩) 5 5) ∧ Cells w' w.heap.size 4 (boolV (rowF may.data.toList 5 0)) ∧ Below w.heap.size w w' := by
  have HM := Lib.hid (show Cells (w.alloc (.cells #[.bool false, .bool false, .bool false, .bool false, .bool false] 4 (0, 0))) w.heap.size 4 (boolV (rowF may.data.toList 0 0)) from by
    have := Cells.new w 4 [.bool false, .bool false, .bool false, .bool false, .bool false]
    have e : boolV (rowF may.data.toList 0 0) = [.bool false, .bool false, .bool false, .bool false, .bool false] := by simp [boolV, rowF, hasS_nil, List.range_succ]
    rw [e]; exact this)
  have HZ := Lib.hid hz
  have HB0 := Lib.hid ((Below.refl _ w).alloc (Nat.le_refl _) (.cells #[.bool false, .bool false, .bool false, .bool false, .bool false] 4 (0, 0)))
  have hmk : ∀ w, (Instr.makeSlice 222 (.int .i64 5) (.int .i64 5)).run Tryz.prog w = .ok (.slice (some ⟨w.heap.size, 0, none⟩) 5 5) (w.alloc (.cells #[.bool false, .bool false, .bool false, .bool false, .bool false] 4 (0, 0))) := fun w => by kernel_rfl
  clear hz
  go_enter Tryz.func133, Tryz.ntmps133
  go_wp2_with fail
  go_loopw [5] (fun i wr => ∃ k : Nat, k ≤ 5 ∧ i = .int .i64 k ∧ Cells wr w.heap.size 4 (boolV (rowF may.data.toList k 0)) ∧ Below w.heap.size w wr) (fun i _ => 5 - (intOf i).toNat)
  case atStart => exact ⟨0, Nat.zero_le _, rfl, HM.out, HB0.out⟩
  case round =>
    obtain ⟨k, hk, rfl, hC, hB⟩ := hrel
    have HC := Lib.hid hC
    have HB := Lib.hid hB
    clear hC hB HM HB0 hmk
    by_cases hlt : k < 5
    · have hki : (k : Int) < 5 := by omega
      have hk0 : (0 : Int) ≤ (k : Int) := by omega
      go_wp2_with fail
      have HM := Lib.hid (HC.out)
      go_loopw [6] (fun i wr => ∃ q : Nat, q ≤ may.size ∧ i = .int .i64 q ∧ Cells wr w.heap.size 4 (boolV (rowF may.data.toList k q)) ∧ Below w.heap.size w wr) (fun i _ => may.size - (intOf i).toNat)
      case atStart => exact ⟨0, Nat.zero_le _, rfl, HC.out, HB.out⟩
      case round =>
        obtain ⟨q, hq, rfl, hC, hB⟩ := hrel
        have HC2 := Lib.hid hC
        have HB2 := Lib.hid hB
        clear hC hB HM HC HB
        by_cases hlq : q < may.size
        · have hqi : (q : Int) < (may.size : Int) := by omega
          have hq0 : (0 : Int) ≤ (q : Int) := by omega
          have hqz : (q : Int) ≤ 1000 := by have := HZ.out; omega
          have c := HC2.out.cell k
          rw [rowF_get _ _ _ hlt] at c
          have f := HC2.out.frozen k
          have hsn := hasS_snoc may.data.toList k q hlq
          cases hb : hasS (may.data.toList.take q) k with
          | true =>
            rw [hb] at c
            have HC3 := Lib.hid (HC2.out.set_ k (.bool true))
            rw [rowF_set _ _ _ true (by rw [hsn, hb]; rfl)] at HC3
            clear hb hsn
            go_wp2_with fail
            go_region
            go_wp2
            go_roundw
            case rel => exact ⟨q + 1, by omega, by go_num, HC3.out, (HB2.out.setCell (p := ⟨w.heap.size, k, none⟩) (Nat.le_refl _) (.bool true)).drew⟩
            case measure => simp [intOf]; omega
          | false =>
            rw [hb] at c
            have HC3 := Lib.hid (HC2.out.set_ k (.bool (ltrL.getD k 0 == may.data.toList[q])))
            rw [rowF_set _ _ _ _ (by rw [hsn, hb]; rfl)] at HC3
            rw [← ltr_eq k hlt may q hlq] at HC3
            clear hb hsn
            go_wp2_with fail
            go_region
            go_wp2
            go_roundw
            case rel => exact ⟨q + 1, by omega, by go_num, HC3.out, (HB2.out.setCell (p := ⟨w.heap.size, k, none⟩) (Nat.le_refl _) _).drew⟩
            case measure => simp [intOf]; omega
        · have hqn : ¬ (q : Int) < (may.size : Int) := by omega
          have hqe : q = may.data.toList.length := by have h1 : may.data.toList.length = may.size := rfl; omega
          rw [hqe, rowF_next] at HC2
          clear hqe
          go_wp2
          go_roundw
          case rel => exact ⟨k + 1, by omega, by go_num, HC2.out, HB2.out⟩
          case measure => simp [intOf]; omega
    · obtain rfl : k = 5 := by omega
      go_wp2
      go_ret
      exact ⟨rfl, HC.out, HB.out⟩
end Go.Proofs.YtlahagabcnmdiaaGreatDoor
end
section
/- The reference of layer 2: the form of a part. Printed by wip/trb.py. -/
open Go Go.RowKit
namespace Go.Proofs.YtlahagabcnmdiaaGreatDoor
set_option linter.unusedSimpArgs false
set_option linter.unusedVariables false

def bareS (i : Int) (s : ByteArray) (c : Int) (nn an : Nat) (f0 f1 f2 f3 f4 : Bool) : Bool :=
  (f0 || decide (i = 0)) && (f1 || decide (s = ⟨#[]⟩)) && (f2 || decide (c = 0)) && (f3 || decide (nn = 0)) && (f4 || decide (an = 0))
theorem bare_empty (k i : Int) (s : ByteArray) (c : Int) (nn an : Nat) :
    (k = 1 → bareS i s c nn an true false false false false = emptyS k i s c nn an false false false) ∧ (k ≠ 1 → bareS i s c nn an false true false false false = emptyS k i s c nn an true false false ∧
    bareS i s c nn an false true true true false = emptyS k i s c nn an true true false ∧ bareS i s c nn an false false false false true = emptyS k i s c nn an false false true ∧
    bareS i s c nn an false false false false false = emptyS k i s c nn an false false false) := by
  unfold bareS emptyS
  constructor
  · intro h
    simp only [h, decide_true]
    generalize decide (i = 0) = x0; generalize decide (s = _) = x1; generalize decide (c = 0) = x2; generalize decide (nn = 0) = x3; generalize decide (an = 0) = x4
    cases x0 <;> cases x1 <;> cases x2 <;> cases x3 <;> cases x4 <;> rfl
  · intro h
    simp only [h, decide_false]
    generalize decide (i = 0) = x0; generalize decide (s = _) = x1; generalize decide (c = 0) = x2; generalize decide (nn = 0) = x3; generalize decide (an = 0) = x4
    cases x0 <;> cases x1 <;> cases x2 <;> cases x3 <;> cases x4 <;> exact ⟨rfl, rfl, rfl, rfl⟩

set_option maxHeartbeats 8000000 in
set_option maxRecDepth 100000 in
theorem bare_i (k i : Int) (s : ByteArray) (c : Int) (na aa : Option Addr) (nn nc an ac : Nat) (w : World) :
    Calls Tryz.prog 113 #[.agg #[.int .i64 k, .int .i64 i, .string s, .int .u32 c, .slice na nn nc, .slice aa an ac], .string ⟨#[105]⟩] w fun e w' => e = .returned (.bool (bareS i s c nn an true false false false false)) ∧ Below w.heap.size w w' := by
  have HF := Lib.hid (fun W => func0_any ⟨#[105]⟩ W (by decide))
  have HFL := Lib.hid (show boolV (rowF (⟨#[105]⟩ : ByteArray).data.toList 5 0) = [.bool true, .bool false, .bool false, .bool false, .bool false] from by rw [show rowF (⟨#[105]⟩ : ByteArray).data.toList 5 0 = [true, false, false, false, false] from by decide +kernel]; rfl)
  rw [HFL.out] at HF
  have HB0 := Lib.hid ((Below.refl _ w).alloc (Nat.le_refl _) (.cells #[.int .i64 k, .int .i64 i, .string s, .int .u32 c, .slice na nn nc, .slice aa an ac] 35 (0, 0)))
  have M0 := Lib.hid (Cells.new w 35 [.int .i64 k, .int .i64 i, .string s, .int .u32 c, .slice na nn nc, .slice aa an ac])
  generalize hE : bareS i s c nn an true false false false false = E0
  by_cases h1 : s = ⟨#[]⟩
  · subst h1
    by_cases h2 : c = 0
    · subst h2
      by_cases h3 : nn = 0
      · subst h3
        by_cases h4 : an = 0
        · subst h4
          have HR := Lib.hid (show E0 = true by rw [← hE]; simp [bareS, *])
          clear hE HFL 
          go_enter Tryz.func113, Tryz.ntmps113
          go_wp2_with fail
          refine (HF.out _).mono ?_
          rintro e w2 ⟨rfl, hC, hb⟩
          rw [World.size_alloc] at hC
          have HB2 := Lib.hid (HB0.out.trans (hb.mono HB0.out.size))
          have M2 := Lib.hid (M0.out.below hb)
          have b0 := hC.cell 0
          have b1 := hC.cell 1
          have b2 := hC.cell 2
          have b3 := hC.cell 3
          have b4 := hC.cell 4
          have m1 := M2.out.cell 1
          have m2 := M2.out.cell 2
          have m3 := M2.out.cell 3
          have m4 := M2.out.cell 4
          have m5 := M2.out.cell 5
          simp only [List.getElem?_cons_zero, List.getElem?_cons_succ] at b0 b1 b2 b3 b4 m1 m2 m3 m4 m5
          clear hb hC
          go_wp2
          go_ret
          exact ⟨by rw [HR.out]; rfl, HB2.out⟩
        have qa : ((an : Int) == 0) = false := beq_eq_false_iff_ne.2 (by omega)
        have HR := Lib.hid (show E0 = false by rw [← hE]; simp [bareS, *])
        clear hE HFL h4
        go_enter Tryz.func113, Tryz.ntmps113
        go_wp2_with fail
        refine (HF.out _).mono ?_
        rintro e w2 ⟨rfl, hC, hb⟩
        rw [World.size_alloc] at hC
        have HB2 := Lib.hid (HB0.out.trans (hb.mono HB0.out.size))
        have M2 := Lib.hid (M0.out.below hb)
        have b0 := hC.cell 0
        have b1 := hC.cell 1
        have b2 := hC.cell 2
        have b3 := hC.cell 3
        have b4 := hC.cell 4
        have m1 := M2.out.cell 1
        have m2 := M2.out.cell 2
        have m3 := M2.out.cell 3
        have m4 := M2.out.cell 4
        have m5 := M2.out.cell 5
        simp only [List.getElem?_cons_zero, List.getElem?_cons_succ] at b0 b1 b2 b3 b4 m1 m2 m3 m4 m5
        clear hb hC
        go_wp2
        go_ret
        exact ⟨by rw [HR.out]; rfl, HB2.out⟩
      have qn : ((nn : Int) == 0) = false := beq_eq_false_iff_ne.2 (by omega)
      have HR := Lib.hid (show E0 = false by rw [← hE]; simp [bareS, *])
      clear hE HFL h3
      go_enter Tryz.func113, Tryz.ntmps113
      go_wp2_with fail
      refine (HF.out _).mono ?_
      rintro e w2 ⟨rfl, hC, hb⟩
      rw [World.size_alloc] at hC
      have HB2 := Lib.hid (HB0.out.trans (hb.mono HB0.out.size))
      have M2 := Lib.hid (M0.out.below hb)
      have b0 := hC.cell 0
      have b1 := hC.cell 1
      have b2 := hC.cell 2
      have b3 := hC.cell 3
      have b4 := hC.cell 4
      have m1 := M2.out.cell 1
      have m2 := M2.out.cell 2
      have m3 := M2.out.cell 3
      have m4 := M2.out.cell 4
      have m5 := M2.out.cell 5
      simp only [List.getElem?_cons_zero, List.getElem?_cons_succ] at b0 b1 b2 b3 b4 m1 m2 m3 m4 m5
      clear hb hC
      go_wp2
      go_ret
      exact ⟨by rw [HR.out]; rfl, HB2.out⟩
    have qc : (c == 0) = false := beq_eq_false_iff_ne.2 h2
    have HR := Lib.hid (show E0 = false by rw [← hE]; simp [bareS, *])
    clear hE HFL h2
    go_enter Tryz.func113, Tryz.ntmps113
    go_wp2_with fail
    refine (HF.out _).mono ?_
    rintro e w2 ⟨rfl, hC, hb⟩
    rw [World.size_alloc] at hC
    have HB2 := Lib.hid (HB0.out.trans (hb.mono HB0.out.size))
    have M2 := Lib.hid (M0.out.below hb)
    have b0 := hC.cell 0
    have b1 := hC.cell 1
    have b2 := hC.cell 2
    have b3 := hC.cell 3
    have b4 := hC.cell 4
    have m1 := M2.out.cell 1
    have m2 := M2.out.cell 2
    have m3 := M2.out.cell 3
    have m4 := M2.out.cell 4
    have m5 := M2.out.cell 5
    simp only [List.getElem?_cons_zero, List.getElem?_cons_succ] at b0 b1 b2 b3 b4 m1 m2 m3 m4 m5
    clear hb hC
    go_wp2
    go_ret
    exact ⟨by rw [HR.out]; rfl, HB2.out⟩
  obtain ⟨q1, q2⟩ := str_ne h1
  have HR := Lib.hid (show E0 = false by rw [← hE]; simp [bareS, *])
  clear hE HFL h1
  go_enter Tryz.func113, Tryz.ntmps113
  go_wp2_with fail
  refine (HF.out _).mono ?_
  rintro e w2 ⟨rfl, hC, hb⟩
  rw [World.size_alloc] at hC
  have HB2 := Lib.hid (HB0.out.trans (hb.mono HB0.out.size))
  have M2 := Lib.hid (M0.out.below hb)
  have b0 := hC.cell 0
  have b1 := hC.cell 1
  have b2 := hC.cell 2
  have b3 := hC.cell 3
  have b4 := hC.cell 4
  have m1 := M2.out.cell 1
  have m2 := M2.out.cell 2
  have m3 := M2.out.cell 3
  have m4 := M2.out.cell 4
  have m5 := M2.out.cell 5
  simp only [List.getElem?_cons_zero, List.getElem?_cons_succ] at b0 b1 b2 b3 b4 m1 m2 m3 m4 m5
  clear hb hC
  go_wp2
  go_ret
  exact ⟨by rw [HR.out]; rfl, HB2.out⟩

set_option maxHeartbeats 8000000 in
set_option maxRecDepth 100000 in
theorem bare_s (k i : Int) (s : ByteArray) (c : Int) (na aa : Option Addr) (nn nc an ac : Nat) (w : World) :
    Calls Tryz.prog 113 #[.agg #[.int .i64 k, .int .i64 i, .string s, .int .u32 c, .slice na nn nc, .slice aa an ac], .string ⟨#[115]⟩] w fun e w' => e = .returned (.bool (bareS i s c nn an false true false false false)) ∧ Below w.heap.size w w' := by
  have HF := Lib.hid (fun W => func0_any ⟨#[115]⟩ W (by decide))
  have HFL := Lib.hid (show boolV (rowF (⟨#[115]⟩ : ByteArray).data.toList 5 0) = [.bool false, .bool true, .bool false, .bool false, .bool false] from by rw [show rowF (⟨#[115]⟩ : ByteArray).data.toList 5 0 = [false, true, false, false, false] from by decide +kernel]; rfl)
  rw [HFL.out] at HF
  have HB0 := Lib.hid ((Below.refl _ w).alloc (Nat.le_refl _) (.cells #[.int .i64 k, .int .i64 i, .string s, .int .u32 c, .slice na nn nc, .slice aa an ac] 35 (0, 0)))
  have M0 := Lib.hid (Cells.new w 35 [.int .i64 k, .int .i64 i, .string s, .int .u32 c, .slice na nn nc, .slice aa an ac])
  generalize hE : bareS i s c nn an false true false false false = E0
  by_cases h0 : i = 0
  · subst h0
    by_cases h2 : c = 0
    · subst h2
      by_cases h3 : nn = 0
      · subst h3
        by_cases h4 : an = 0
        · subst h4
          have HR := Lib.hid (show E0 = true by rw [← hE]; simp [bareS, *])
          clear hE HFL 
          go_enter Tryz.func113, Tryz.ntmps113
          go_wp2_with fail
          refine (HF.out _).mono ?_
          rintro e w2 ⟨rfl, hC, hb⟩
          rw [World.size_alloc] at hC
          have HB2 := Lib.hid (HB0.out.trans (hb.mono HB0.out.size))
          have M2 := Lib.hid (M0.out.below hb)
          have b0 := hC.cell 0
          have b1 := hC.cell 1
          have b2 := hC.cell 2
          have b3 := hC.cell 3
          have b4 := hC.cell 4
          have m1 := M2.out.cell 1
          have m2 := M2.out.cell 2
          have m3 := M2.out.cell 3
          have m4 := M2.out.cell 4
          have m5 := M2.out.cell 5
          simp only [List.getElem?_cons_zero, List.getElem?_cons_succ] at b0 b1 b2 b3 b4 m1 m2 m3 m4 m5
          clear hb hC
          go_wp2
          go_ret
          exact ⟨by rw [HR.out]; rfl, HB2.out⟩
        have qa : ((an : Int) == 0) = false := beq_eq_false_iff_ne.2 (by omega)
        have HR := Lib.hid (show E0 = false by rw [← hE]; simp [bareS, *])
        clear hE HFL h4
        go_enter Tryz.func113, Tryz.ntmps113
        go_wp2_with fail
        refine (HF.out _).mono ?_
        rintro e w2 ⟨rfl, hC, hb⟩
        rw [World.size_alloc] at hC
        have HB2 := Lib.hid (HB0.out.trans (hb.mono HB0.out.size))
        have M2 := Lib.hid (M0.out.below hb)
        have b0 := hC.cell 0
        have b1 := hC.cell 1
        have b2 := hC.cell 2
        have b3 := hC.cell 3
        have b4 := hC.cell 4
        have m1 := M2.out.cell 1
        have m2 := M2.out.cell 2
        have m3 := M2.out.cell 3
        have m4 := M2.out.cell 4
        have m5 := M2.out.cell 5
        simp only [List.getElem?_cons_zero, List.getElem?_cons_succ] at b0 b1 b2 b3 b4 m1 m2 m3 m4 m5
        clear hb hC
        go_wp2
        go_ret
        exact ⟨by rw [HR.out]; rfl, HB2.out⟩
      have qn : ((nn : Int) == 0) = false := beq_eq_false_iff_ne.2 (by omega)
      have HR := Lib.hid (show E0 = false by rw [← hE]; simp [bareS, *])
      clear hE HFL h3
      go_enter Tryz.func113, Tryz.ntmps113
      go_wp2_with fail
      refine (HF.out _).mono ?_
      rintro e w2 ⟨rfl, hC, hb⟩
      rw [World.size_alloc] at hC
      have HB2 := Lib.hid (HB0.out.trans (hb.mono HB0.out.size))
      have M2 := Lib.hid (M0.out.below hb)
      have b0 := hC.cell 0
      have b1 := hC.cell 1
      have b2 := hC.cell 2
      have b3 := hC.cell 3
      have b4 := hC.cell 4
      have m1 := M2.out.cell 1
      have m2 := M2.out.cell 2
      have m3 := M2.out.cell 3
      have m4 := M2.out.cell 4
      have m5 := M2.out.cell 5
      simp only [List.getElem?_cons_zero, List.getElem?_cons_succ] at b0 b1 b2 b3 b4 m1 m2 m3 m4 m5
      clear hb hC
      go_wp2
      go_ret
      exact ⟨by rw [HR.out]; rfl, HB2.out⟩
    have qc : (c == 0) = false := beq_eq_false_iff_ne.2 h2
    have HR := Lib.hid (show E0 = false by rw [← hE]; simp [bareS, *])
    clear hE HFL h2
    go_enter Tryz.func113, Tryz.ntmps113
    go_wp2_with fail
    refine (HF.out _).mono ?_
    rintro e w2 ⟨rfl, hC, hb⟩
    rw [World.size_alloc] at hC
    have HB2 := Lib.hid (HB0.out.trans (hb.mono HB0.out.size))
    have M2 := Lib.hid (M0.out.below hb)
    have b0 := hC.cell 0
    have b1 := hC.cell 1
    have b2 := hC.cell 2
    have b3 := hC.cell 3
    have b4 := hC.cell 4
    have m1 := M2.out.cell 1
    have m2 := M2.out.cell 2
    have m3 := M2.out.cell 3
    have m4 := M2.out.cell 4
    have m5 := M2.out.cell 5
    simp only [List.getElem?_cons_zero, List.getElem?_cons_succ] at b0 b1 b2 b3 b4 m1 m2 m3 m4 m5
    clear hb hC
    go_wp2
    go_ret
    exact ⟨by rw [HR.out]; rfl, HB2.out⟩
  have qi : (i == 0) = false := beq_eq_false_iff_ne.2 h0
  have HR := Lib.hid (show E0 = false by rw [← hE]; simp [bareS, *])
  clear hE HFL h0
  go_enter Tryz.func113, Tryz.ntmps113
  go_wp2_with fail
  refine (HF.out _).mono ?_
  rintro e w2 ⟨rfl, hC, hb⟩
  rw [World.size_alloc] at hC
  have HB2 := Lib.hid (HB0.out.trans (hb.mono HB0.out.size))
  have M2 := Lib.hid (M0.out.below hb)
  have b0 := hC.cell 0
  have b1 := hC.cell 1
  have b2 := hC.cell 2
  have b3 := hC.cell 3
  have b4 := hC.cell 4
  have m1 := M2.out.cell 1
  have m2 := M2.out.cell 2
  have m3 := M2.out.cell 3
  have m4 := M2.out.cell 4
  have m5 := M2.out.cell 5
  simp only [List.getElem?_cons_zero, List.getElem?_cons_succ] at b0 b1 b2 b3 b4 m1 m2 m3 m4 m5
  clear hb hC
  go_wp2
  go_ret
  exact ⟨by rw [HR.out]; rfl, HB2.out⟩

set_option maxHeartbeats 8000000 in
set_option maxRecDepth 100000 in
theorem bare_scn (k i : Int) (s : ByteArray) (c : Int) (na aa : Option Addr) (nn nc an ac : Nat) (w : World) :
    Calls Tryz.prog 113 #[.agg #[.int .i64 k, .int .i64 i, .string s, .int .u32 c, .slice na nn nc, .slice aa an ac], .string ⟨#[115, 99, 110]⟩] w fun e w' => e = .returned (.bool (bareS i s c nn an false true true true false)) ∧ Below w.heap.size w w' := by
  have HF := Lib.hid (fun W => func0_any ⟨#[115, 99, 110]⟩ W (by decide))
  have HFL := Lib.hid (show boolV (rowF (⟨#[115, 99, 110]⟩ : ByteArray).data.toList 5 0) = [.bool false, .bool true, .bool true, .bool true, .bool false] from by rw [show rowF (⟨#[115, 99, 110]⟩ : ByteArray).data.toList 5 0 = [false, true, true, true, false] from by decide +kernel]; rfl)
  rw [HFL.out] at HF
  have HB0 := Lib.hid ((Below.refl _ w).alloc (Nat.le_refl _) (.cells #[.int .i64 k, .int .i64 i, .string s, .int .u32 c, .slice na nn nc, .slice aa an ac] 35 (0, 0)))
  have M0 := Lib.hid (Cells.new w 35 [.int .i64 k, .int .i64 i, .string s, .int .u32 c, .slice na nn nc, .slice aa an ac])
  generalize hE : bareS i s c nn an false true true true false = E0
  by_cases h0 : i = 0
  · subst h0
    by_cases h4 : an = 0
    · subst h4
      have HR := Lib.hid (show E0 = true by rw [← hE]; simp [bareS, *])
      clear hE HFL 
      go_enter Tryz.func113, Tryz.ntmps113
      go_wp2_with fail
      refine (HF.out _).mono ?_
      rintro e w2 ⟨rfl, hC, hb⟩
      rw [World.size_alloc] at hC
      have HB2 := Lib.hid (HB0.out.trans (hb.mono HB0.out.size))
      have M2 := Lib.hid (M0.out.below hb)
      have b0 := hC.cell 0
      have b1 := hC.cell 1
      have b2 := hC.cell 2
      have b3 := hC.cell 3
      have b4 := hC.cell 4
      have m1 := M2.out.cell 1
      have m2 := M2.out.cell 2
      have m3 := M2.out.cell 3
      have m4 := M2.out.cell 4
      have m5 := M2.out.cell 5
      simp only [List.getElem?_cons_zero, List.getElem?_cons_succ] at b0 b1 b2 b3 b4 m1 m2 m3 m4 m5
      clear hb hC
      go_wp2
      go_ret
      exact ⟨by rw [HR.out]; rfl, HB2.out⟩
    have qa : ((an : Int) == 0) = false := beq_eq_false_iff_ne.2 (by omega)
    have HR := Lib.hid (show E0 = false by rw [← hE]; simp [bareS, *])
    clear hE HFL h4
    go_enter Tryz.func113, Tryz.ntmps113
    go_wp2_with fail
    refine (HF.out _).mono ?_
    rintro e w2 ⟨rfl, hC, hb⟩
    rw [World.size_alloc] at hC
    have HB2 := Lib.hid (HB0.out.trans (hb.mono HB0.out.size))
    have M2 := Lib.hid (M0.out.below hb)
    have b0 := hC.cell 0
    have b1 := hC.cell 1
    have b2 := hC.cell 2
    have b3 := hC.cell 3
    have b4 := hC.cell 4
    have m1 := M2.out.cell 1
    have m2 := M2.out.cell 2
    have m3 := M2.out.cell 3
    have m4 := M2.out.cell 4
    have m5 := M2.out.cell 5
    simp only [List.getElem?_cons_zero, List.getElem?_cons_succ] at b0 b1 b2 b3 b4 m1 m2 m3 m4 m5
    clear hb hC
    go_wp2
    go_ret
    exact ⟨by rw [HR.out]; rfl, HB2.out⟩
  have qi : (i == 0) = false := beq_eq_false_iff_ne.2 h0
  have HR := Lib.hid (show E0 = false by rw [← hE]; simp [bareS, *])
  clear hE HFL h0
  go_enter Tryz.func113, Tryz.ntmps113
  go_wp2_with fail
  refine (HF.out _).mono ?_
  rintro e w2 ⟨rfl, hC, hb⟩
  rw [World.size_alloc] at hC
  have HB2 := Lib.hid (HB0.out.trans (hb.mono HB0.out.size))
  have M2 := Lib.hid (M0.out.below hb)
  have b0 := hC.cell 0
  have b1 := hC.cell 1
  have b2 := hC.cell 2
  have b3 := hC.cell 3
  have b4 := hC.cell 4
  have m1 := M2.out.cell 1
  have m2 := M2.out.cell 2
  have m3 := M2.out.cell 3
  have m4 := M2.out.cell 4
  have m5 := M2.out.cell 5
  simp only [List.getElem?_cons_zero, List.getElem?_cons_succ] at b0 b1 b2 b3 b4 m1 m2 m3 m4 m5
  clear hb hC
  go_wp2
  go_ret
  exact ⟨by rw [HR.out]; rfl, HB2.out⟩

set_option maxHeartbeats 8000000 in
set_option maxRecDepth 100000 in
theorem bare_a (k i : Int) (s : ByteArray) (c : Int) (na aa : Option Addr) (nn nc an ac : Nat) (w : World) :
    Calls Tryz.prog 113 #[.agg #[.int .i64 k, .int .i64 i, .string s, .int .u32 c, .slice na nn nc, .slice aa an ac], .string ⟨#[97]⟩] w fun e w' => e = .returned (.bool (bareS i s c nn an false false false false true)) ∧ Below w.heap.size w w' := by
  have HF := Lib.hid (fun W => func0_any ⟨#[97]⟩ W (by decide))
  have HFL := Lib.hid (show boolV (rowF (⟨#[97]⟩ : ByteArray).data.toList 5 0) = [.bool false, .bool false, .bool false, .bool false, .bool true] from by rw [show rowF (⟨#[97]⟩ : ByteArray).data.toList 5 0 = [false, false, false, false, true] from by decide +kernel]; rfl)
  rw [HFL.out] at HF
  have HB0 := Lib.hid ((Below.refl _ w).alloc (Nat.le_refl _) (.cells #[.int .i64 k, .int .i64 i, .string s, .int .u32 c, .slice na nn nc, .slice aa an ac] 35 (0, 0)))
  have M0 := Lib.hid (Cells.new w 35 [.int .i64 k, .int .i64 i, .string s, .int .u32 c, .slice na nn nc, .slice aa an ac])
  generalize hE : bareS i s c nn an false false false false true = E0
  by_cases h0 : i = 0
  · subst h0
    by_cases h1 : s = ⟨#[]⟩
    · subst h1
      by_cases h2 : c = 0
      · subst h2
        by_cases h3 : nn = 0
        · subst h3
          have HR := Lib.hid (show E0 = true by rw [← hE]; simp [bareS, *])
          clear hE HFL 
          go_enter Tryz.func113, Tryz.ntmps113
          go_wp2_with fail
          refine (HF.out _).mono ?_
          rintro e w2 ⟨rfl, hC, hb⟩
          rw [World.size_alloc] at hC
          have HB2 := Lib.hid (HB0.out.trans (hb.mono HB0.out.size))
          have M2 := Lib.hid (M0.out.below hb)
          have b0 := hC.cell 0
          have b1 := hC.cell 1
          have b2 := hC.cell 2
          have b3 := hC.cell 3
          have b4 := hC.cell 4
          have m1 := M2.out.cell 1
          have m2 := M2.out.cell 2
          have m3 := M2.out.cell 3
          have m4 := M2.out.cell 4
          have m5 := M2.out.cell 5
          simp only [List.getElem?_cons_zero, List.getElem?_cons_succ] at b0 b1 b2 b3 b4 m1 m2 m3 m4 m5
          clear hb hC
          go_wp2
          go_ret
          exact ⟨by rw [HR.out]; rfl, HB2.out⟩
        have qn : ((nn : Int) == 0) = false := beq_eq_false_iff_ne.2 (by omega)
        have HR := Lib.hid (show E0 = false by rw [← hE]; simp [bareS, *])
        clear hE HFL h3
        go_enter Tryz.func113, Tryz.ntmps113
        go_wp2_with fail
        refine (HF.out _).mono ?_
        rintro e w2 ⟨rfl, hC, hb⟩
        rw [World.size_alloc] at hC
        have HB2 := Lib.hid (HB0.out.trans (hb.mono HB0.out.size))
        have M2 := Lib.hid (M0.out.below hb)
        have b0 := hC.cell 0
        have b1 := hC.cell 1
        have b2 := hC.cell 2
        have b3 := hC.cell 3
        have b4 := hC.cell 4
        have m1 := M2.out.cell 1
        have m2 := M2.out.cell 2
        have m3 := M2.out.cell 3
        have m4 := M2.out.cell 4
        have m5 := M2.out.cell 5
        simp only [List.getElem?_cons_zero, List.getElem?_cons_succ] at b0 b1 b2 b3 b4 m1 m2 m3 m4 m5
        clear hb hC
        go_wp2
        go_ret
        exact ⟨by rw [HR.out]; rfl, HB2.out⟩
      have qc : (c == 0) = false := beq_eq_false_iff_ne.2 h2
      have HR := Lib.hid (show E0 = false by rw [← hE]; simp [bareS, *])
      clear hE HFL h2
      go_enter Tryz.func113, Tryz.ntmps113
      go_wp2_with fail
      refine (HF.out _).mono ?_
      rintro e w2 ⟨rfl, hC, hb⟩
      rw [World.size_alloc] at hC
      have HB2 := Lib.hid (HB0.out.trans (hb.mono HB0.out.size))
      have M2 := Lib.hid (M0.out.below hb)
      have b0 := hC.cell 0
      have b1 := hC.cell 1
      have b2 := hC.cell 2
      have b3 := hC.cell 3
      have b4 := hC.cell 4
      have m1 := M2.out.cell 1
      have m2 := M2.out.cell 2
      have m3 := M2.out.cell 3
      have m4 := M2.out.cell 4
      have m5 := M2.out.cell 5
      simp only [List.getElem?_cons_zero, List.getElem?_cons_succ] at b0 b1 b2 b3 b4 m1 m2 m3 m4 m5
      clear hb hC
      go_wp2
      go_ret
      exact ⟨by rw [HR.out]; rfl, HB2.out⟩
    obtain ⟨q1, q2⟩ := str_ne h1
    have HR := Lib.hid (show E0 = false by rw [← hE]; simp [bareS, *])
    clear hE HFL h1
    go_enter Tryz.func113, Tryz.ntmps113
    go_wp2_with fail
    refine (HF.out _).mono ?_
    rintro e w2 ⟨rfl, hC, hb⟩
    rw [World.size_alloc] at hC
    have HB2 := Lib.hid (HB0.out.trans (hb.mono HB0.out.size))
    have M2 := Lib.hid (M0.out.below hb)
    have b0 := hC.cell 0
    have b1 := hC.cell 1
    have b2 := hC.cell 2
    have b3 := hC.cell 3
    have b4 := hC.cell 4
    have m1 := M2.out.cell 1
    have m2 := M2.out.cell 2
    have m3 := M2.out.cell 3
    have m4 := M2.out.cell 4
    have m5 := M2.out.cell 5
    simp only [List.getElem?_cons_zero, List.getElem?_cons_succ] at b0 b1 b2 b3 b4 m1 m2 m3 m4 m5
    clear hb hC
    go_wp2
    go_ret
    exact ⟨by rw [HR.out]; rfl, HB2.out⟩
  have qi : (i == 0) = false := beq_eq_false_iff_ne.2 h0
  have HR := Lib.hid (show E0 = false by rw [← hE]; simp [bareS, *])
  clear hE HFL h0
  go_enter Tryz.func113, Tryz.ntmps113
  go_wp2_with fail
  refine (HF.out _).mono ?_
  rintro e w2 ⟨rfl, hC, hb⟩
  rw [World.size_alloc] at hC
  have HB2 := Lib.hid (HB0.out.trans (hb.mono HB0.out.size))
  have M2 := Lib.hid (M0.out.below hb)
  have b0 := hC.cell 0
  have b1 := hC.cell 1
  have b2 := hC.cell 2
  have b3 := hC.cell 3
  have b4 := hC.cell 4
  have m1 := M2.out.cell 1
  have m2 := M2.out.cell 2
  have m3 := M2.out.cell 3
  have m4 := M2.out.cell 4
  have m5 := M2.out.cell 5
  simp only [List.getElem?_cons_zero, List.getElem?_cons_succ] at b0 b1 b2 b3 b4 m1 m2 m3 m4 m5
  clear hb hC
  go_wp2
  go_ret
  exact ⟨by rw [HR.out]; rfl, HB2.out⟩

set_option maxHeartbeats 8000000 in
set_option maxRecDepth 100000 in
theorem bare_z (k i : Int) (s : ByteArray) (c : Int) (na aa : Option Addr) (nn nc an ac : Nat) (w : World) :
    Calls Tryz.prog 113 #[.agg #[.int .i64 k, .int .i64 i, .string s, .int .u32 c, .slice na nn nc, .slice aa an ac], .string ⟨#[]⟩] w fun e w' => e = .returned (.bool (bareS i s c nn an false false false false false)) ∧ Below w.heap.size w w' := by
  have HF := Lib.hid (fun W => func0_any ⟨#[]⟩ W (by decide))
  have HFL := Lib.hid (show boolV (rowF (⟨#[]⟩ : ByteArray).data.toList 5 0) = [.bool false, .bool false, .bool false, .bool false, .bool false] from by rw [show rowF (⟨#[]⟩ : ByteArray).data.toList 5 0 = [false, false, false, false, false] from by decide +kernel]; rfl)
  rw [HFL.out] at HF
  have HB0 := Lib.hid ((Below.refl _ w).alloc (Nat.le_refl _) (.cells #[.int .i64 k, .int .i64 i, .string s, .int .u32 c, .slice na nn nc, .slice aa an ac] 35 (0, 0)))
  have M0 := Lib.hid (Cells.new w 35 [.int .i64 k, .int .i64 i, .string s, .int .u32 c, .slice na nn nc, .slice aa an ac])
  generalize hE : bareS i s c nn an false false false false false = E0
  by_cases h0 : i = 0
  · subst h0
    by_cases h1 : s = ⟨#[]⟩
    · subst h1
      by_cases h2 : c = 0
      · subst h2
        by_cases h3 : nn = 0
        · subst h3
          by_cases h4 : an = 0
          · subst h4
            have HR := Lib.hid (show E0 = true by rw [← hE]; simp [bareS, *])
            clear hE HFL 
            go_enter Tryz.func113, Tryz.ntmps113
            go_wp2_with fail
            refine (HF.out _).mono ?_
            rintro e w2 ⟨rfl, hC, hb⟩
            rw [World.size_alloc] at hC
            have HB2 := Lib.hid (HB0.out.trans (hb.mono HB0.out.size))
            have M2 := Lib.hid (M0.out.below hb)
            have b0 := hC.cell 0
            have b1 := hC.cell 1
            have b2 := hC.cell 2
            have b3 := hC.cell 3
            have b4 := hC.cell 4
            have m1 := M2.out.cell 1
            have m2 := M2.out.cell 2
            have m3 := M2.out.cell 3
            have m4 := M2.out.cell 4
            have m5 := M2.out.cell 5
            simp only [List.getElem?_cons_zero, List.getElem?_cons_succ] at b0 b1 b2 b3 b4 m1 m2 m3 m4 m5
            clear hb hC
            go_wp2
            go_ret
            exact ⟨by rw [HR.out]; rfl, HB2.out⟩
          have qa : ((an : Int) == 0) = false := beq_eq_false_iff_ne.2 (by omega)
          have HR := Lib.hid (show E0 = false by rw [← hE]; simp [bareS, *])
          clear hE HFL h4
          go_enter Tryz.func113, Tryz.ntmps113
          go_wp2_with fail
          refine (HF.out _).mono ?_
          rintro e w2 ⟨rfl, hC, hb⟩
          rw [World.size_alloc] at hC
          have HB2 := Lib.hid (HB0.out.trans (hb.mono HB0.out.size))
          have M2 := Lib.hid (M0.out.below hb)
          have b0 := hC.cell 0
          have b1 := hC.cell 1
          have b2 := hC.cell 2
          have b3 := hC.cell 3
          have b4 := hC.cell 4
          have m1 := M2.out.cell 1
          have m2 := M2.out.cell 2
          have m3 := M2.out.cell 3
          have m4 := M2.out.cell 4
          have m5 := M2.out.cell 5
          simp only [List.getElem?_cons_zero, List.getElem?_cons_succ] at b0 b1 b2 b3 b4 m1 m2 m3 m4 m5
          clear hb hC
          go_wp2
          go_ret
          exact ⟨by rw [HR.out]; rfl, HB2.out⟩
        have qn : ((nn : Int) == 0) = false := beq_eq_false_iff_ne.2 (by omega)
        have HR := Lib.hid (show E0 = false by rw [← hE]; simp [bareS, *])
        clear hE HFL h3
        go_enter Tryz.func113, Tryz.ntmps113
        go_wp2_with fail
        refine (HF.out _).mono ?_
        rintro e w2 ⟨rfl, hC, hb⟩
        rw [World.size_alloc] at hC
        have HB2 := Lib.hid (HB0.out.trans (hb.mono HB0.out.size))
        have M2 := Lib.hid (M0.out.below hb)
        have b0 := hC.cell 0
        have b1 := hC.cell 1
        have b2 := hC.cell 2
        have b3 := hC.cell 3
        have b4 := hC.cell 4
        have m1 := M2.out.cell 1
        have m2 := M2.out.cell 2
        have m3 := M2.out.cell 3
        have m4 := M2.out.cell 4
        have m5 := M2.out.cell 5
        simp only [List.getElem?_cons_zero, List.getElem?_cons_succ] at b0 b1 b2 b3 b4 m1 m2 m3 m4 m5
        clear hb hC
        go_wp2
        go_ret
        exact ⟨by rw [HR.out]; rfl, HB2.out⟩
      have qc : (c == 0) = false := beq_eq_false_iff_ne.2 h2
      have HR := Lib.hid (show E0 = false by rw [← hE]; simp [bareS, *])
      clear hE HFL h2
      go_enter Tryz.func113, Tryz.ntmps113
      go_wp2_with fail
      refine (HF.out _).mono ?_
      rintro e w2 ⟨rfl, hC, hb⟩
      rw [World.size_alloc] at hC
      have HB2 := Lib.hid (HB0.out.trans (hb.mono HB0.out.size))
      have M2 := Lib.hid (M0.out.below hb)
      have b0 := hC.cell 0
      have b1 := hC.cell 1
      have b2 := hC.cell 2
      have b3 := hC.cell 3
      have b4 := hC.cell 4
      have m1 := M2.out.cell 1
      have m2 := M2.out.cell 2
      have m3 := M2.out.cell 3
      have m4 := M2.out.cell 4
      have m5 := M2.out.cell 5
      simp only [List.getElem?_cons_zero, List.getElem?_cons_succ] at b0 b1 b2 b3 b4 m1 m2 m3 m4 m5
      clear hb hC
      go_wp2
      go_ret
      exact ⟨by rw [HR.out]; rfl, HB2.out⟩
    obtain ⟨q1, q2⟩ := str_ne h1
    have HR := Lib.hid (show E0 = false by rw [← hE]; simp [bareS, *])
    clear hE HFL h1
    go_enter Tryz.func113, Tryz.ntmps113
    go_wp2_with fail
    refine (HF.out _).mono ?_
    rintro e w2 ⟨rfl, hC, hb⟩
    rw [World.size_alloc] at hC
    have HB2 := Lib.hid (HB0.out.trans (hb.mono HB0.out.size))
    have M2 := Lib.hid (M0.out.below hb)
    have b0 := hC.cell 0
    have b1 := hC.cell 1
    have b2 := hC.cell 2
    have b3 := hC.cell 3
    have b4 := hC.cell 4
    have m1 := M2.out.cell 1
    have m2 := M2.out.cell 2
    have m3 := M2.out.cell 3
    have m4 := M2.out.cell 4
    have m5 := M2.out.cell 5
    simp only [List.getElem?_cons_zero, List.getElem?_cons_succ] at b0 b1 b2 b3 b4 m1 m2 m3 m4 m5
    clear hb hC
    go_wp2
    go_ret
    exact ⟨by rw [HR.out]; rfl, HB2.out⟩
  have qi : (i == 0) = false := beq_eq_false_iff_ne.2 h0
  have HR := Lib.hid (show E0 = false by rw [← hE]; simp [bareS, *])
  clear hE HFL h0
  go_enter Tryz.func113, Tryz.ntmps113
  go_wp2_with fail
  refine (HF.out _).mono ?_
  rintro e w2 ⟨rfl, hC, hb⟩
  rw [World.size_alloc] at hC
  have HB2 := Lib.hid (HB0.out.trans (hb.mono HB0.out.size))
  have M2 := Lib.hid (M0.out.below hb)
  have b0 := hC.cell 0
  have b1 := hC.cell 1
  have b2 := hC.cell 2
  have b3 := hC.cell 3
  have b4 := hC.cell 4
  have m1 := M2.out.cell 1
  have m2 := M2.out.cell 2
  have m3 := M2.out.cell 3
  have m4 := M2.out.cell 4
  have m5 := M2.out.cell 5
  simp only [List.getElem?_cons_zero, List.getElem?_cons_succ] at b0 b1 b2 b3 b4 m1 m2 m3 m4 m5
  clear hb hC
  go_wp2
  go_ret
  exact ⟨by rw [HR.out]; rfl, HB2.out⟩

set_option maxHeartbeats 8000000 in
set_option maxRecDepth 100000 in
theorem formR_1 (S : Nat → Prop) (k i : Int) (s : ByteArray) (c : Int) (na : Option Addr) (nc : Nat) (ns : List Int) (aa : Option Addr) (ac : Nat) (al : List Tm) (w : World) (hk : k = 1) :
    Calls Tryz.prog 89 #[.agg #[.int .i64 k, .int .i64 i, .string s, .int .u32 c, .slice na ns.length nc, .slice aa al.length ac]] w fun e w' => e = .returned (.bool (formS (.mk k i s c ns al))) ∧ Below w.heap.size w w' := by
  have HB := Lib.hid ((Below.refl _ w).alloc (Nat.le_refl _) (.cells #[.int .i64 k, .int .i64 i, .string s, .int .u32 c, .slice na ns.length nc, .slice aa al.length ac] 35 (0, 0)))
  have HC := Lib.hid (Cells.new w 35 [.int .i64 k, .int .i64 i, .string s, .int .u32 c, .slice na ns.length nc, .slice aa al.length ac])
  subst hk
  have HE := Lib.hid (fun W => bare_i 1 i s c na aa ns.length nc al.length ac W)
  rw [(bare_empty 1 i s c ns.length al.length).1 rfl] at HE
  have HR := Lib.hid (show formS (.mk 1 i s c ns al) = emptyS 1 i s c ns.length al.length false false false by simp [formS, Tm.kind, Tm.empty, Tm.int, Tm.text, Tm.cr, Tm.nums, Tm.args, ])
  generalize emptyS 1 i s c ns.length al.length false false false = b at *
  go_enter Tryz.func89, Tryz.ntmps89
  go_wp2_with fail
  refine (HE.out _).mono ?_
  rintro e w2 ⟨rfl, hb2⟩
  have HB2 := Lib.hid (HB.out.trans (hb2.mono HB.out.size))
  have C2 := Lib.hid (HC.out.below hb2)
  have c4 := C2.out.cell 4
  have c5 := C2.out.cell 5
  simp only [List.getElem?_cons_zero, List.getElem?_cons_succ] at c4 c5
  clear hb2 c4 c5
  go_wp2
  go_ret
  exact ⟨by rw [HR.out]; rfl, HB2.out⟩

set_option maxHeartbeats 8000000 in
set_option maxRecDepth 100000 in
theorem formR_2 (S : Nat → Prop) (k i : Int) (s : ByteArray) (c : Int) (na : Option Addr) (nc : Nat) (ns : List Int) (aa : Option Addr) (ac : Nat) (al : List Tm) (w : World) (hk : k = 2) :
    Calls Tryz.prog 89 #[.agg #[.int .i64 k, .int .i64 i, .string s, .int .u32 c, .slice na ns.length nc, .slice aa al.length ac]] w fun e w' => e = .returned (.bool (formS (.mk k i s c ns al))) ∧ Below w.heap.size w w' := by
  have HB := Lib.hid ((Below.refl _ w).alloc (Nat.le_refl _) (.cells #[.int .i64 k, .int .i64 i, .string s, .int .u32 c, .slice na ns.length nc, .slice aa al.length ac] 35 (0, 0)))
  have HC := Lib.hid (Cells.new w 35 [.int .i64 k, .int .i64 i, .string s, .int .u32 c, .slice na ns.length nc, .slice aa al.length ac])
  subst hk
  have HE := Lib.hid (fun W => bare_s 2 i s c na aa ns.length nc al.length ac W)
  have hbe := (bare_empty 2 i s c ns.length al.length).2 (by decide)
  rw [hbe.1] at HE
  clear hbe
  have HR := Lib.hid (show formS (.mk 2 i s c ns al) = emptyS 2 i s c ns.length al.length true false false by simp [formS, Tm.kind, Tm.empty, Tm.int, Tm.text, Tm.cr, Tm.nums, Tm.args, ])
  generalize emptyS 2 i s c ns.length al.length true false false = b at *
  go_enter Tryz.func89, Tryz.ntmps89
  go_wp2_with fail
  refine (HE.out _).mono ?_
  rintro e w2 ⟨rfl, hb2⟩
  have HB2 := Lib.hid (HB.out.trans (hb2.mono HB.out.size))
  have C2 := Lib.hid (HC.out.below hb2)
  have c4 := C2.out.cell 4
  have c5 := C2.out.cell 5
  simp only [List.getElem?_cons_zero, List.getElem?_cons_succ] at c4 c5
  clear hb2 c4 c5
  go_wp2
  go_ret
  exact ⟨by rw [HR.out]; rfl, HB2.out⟩

set_option maxHeartbeats 8000000 in
set_option maxRecDepth 100000 in
theorem formR_5 (S : Nat → Prop) (k i : Int) (s : ByteArray) (c : Int) (na : Option Addr) (nc : Nat) (ns : List Int) (aa : Option Addr) (ac : Nat) (al : List Tm) (w : World) (hk : k = 5) :
    Calls Tryz.prog 89 #[.agg #[.int .i64 k, .int .i64 i, .string s, .int .u32 c, .slice na ns.length nc, .slice aa al.length ac]] w fun e w' => e = .returned (.bool (formS (.mk k i s c ns al))) ∧ Below w.heap.size w w' := by
  have HB := Lib.hid ((Below.refl _ w).alloc (Nat.le_refl _) (.cells #[.int .i64 k, .int .i64 i, .string s, .int .u32 c, .slice na ns.length nc, .slice aa al.length ac] 35 (0, 0)))
  have HC := Lib.hid (Cells.new w 35 [.int .i64 k, .int .i64 i, .string s, .int .u32 c, .slice na ns.length nc, .slice aa al.length ac])
  subst hk
  have HE := Lib.hid (fun W => bare_a 5 i s c na aa ns.length nc al.length ac W)
  have hbe := (bare_empty 5 i s c ns.length al.length).2 (by decide)
  rw [hbe.2.2.1] at HE
  clear hbe
  have HR := Lib.hid (show formS (.mk 5 i s c ns al) = emptyS 5 i s c ns.length al.length false false true by simp [formS, Tm.kind, Tm.empty, Tm.int, Tm.text, Tm.cr, Tm.nums, Tm.args, ])
  generalize emptyS 5 i s c ns.length al.length false false true = b at *
  go_enter Tryz.func89, Tryz.ntmps89
  go_wp2_with fail
  refine (HE.out _).mono ?_
  rintro e w2 ⟨rfl, hb2⟩
  have HB2 := Lib.hid (HB.out.trans (hb2.mono HB.out.size))
  have C2 := Lib.hid (HC.out.below hb2)
  have c4 := C2.out.cell 4
  have c5 := C2.out.cell 5
  simp only [List.getElem?_cons_zero, List.getElem?_cons_succ] at c4 c5
  clear hb2 c4 c5
  go_wp2
  go_ret
  exact ⟨by rw [HR.out]; rfl, HB2.out⟩

set_option maxHeartbeats 8000000 in
set_option maxRecDepth 100000 in
theorem formR_6 (S : Nat → Prop) (k i : Int) (s : ByteArray) (c : Int) (na : Option Addr) (nc : Nat) (ns : List Int) (aa : Option Addr) (ac : Nat) (al : List Tm) (w : World) (hk : k = 6) :
    Calls Tryz.prog 89 #[.agg #[.int .i64 k, .int .i64 i, .string s, .int .u32 c, .slice na ns.length nc, .slice aa al.length ac]] w fun e w' => e = .returned (.bool (formS (.mk k i s c ns al))) ∧ Below w.heap.size w w' := by
  have HB := Lib.hid ((Below.refl _ w).alloc (Nat.le_refl _) (.cells #[.int .i64 k, .int .i64 i, .string s, .int .u32 c, .slice na ns.length nc, .slice aa al.length ac] 35 (0, 0)))
  have HC := Lib.hid (Cells.new w 35 [.int .i64 k, .int .i64 i, .string s, .int .u32 c, .slice na ns.length nc, .slice aa al.length ac])
  subst hk
  have HE := Lib.hid (fun W => bare_z 6 i s c na aa ns.length nc al.length ac W)
  have hbe := (bare_empty 6 i s c ns.length al.length).2 (by decide)
  rw [hbe.2.2.2] at HE
  clear hbe
  have HR := Lib.hid (show formS (.mk 6 i s c ns al) = emptyS 6 i s c ns.length al.length false false false by simp [formS, Tm.kind, Tm.empty, Tm.int, Tm.text, Tm.cr, Tm.nums, Tm.args, ])
  generalize emptyS 6 i s c ns.length al.length false false false = b at *
  go_enter Tryz.func89, Tryz.ntmps89
  go_wp2_with fail
  refine (HE.out _).mono ?_
  rintro e w2 ⟨rfl, hb2⟩
  have HB2 := Lib.hid (HB.out.trans (hb2.mono HB.out.size))
  have C2 := Lib.hid (HC.out.below hb2)
  have c4 := C2.out.cell 4
  have c5 := C2.out.cell 5
  simp only [List.getElem?_cons_zero, List.getElem?_cons_succ] at c4 c5
  clear hb2 c4 c5
  go_wp2
  go_ret
  exact ⟨by rw [HR.out]; rfl, HB2.out⟩

set_option maxHeartbeats 8000000 in
set_option maxRecDepth 100000 in
theorem formR_3 (S : Nat → Prop) (k i : Int) (s : ByteArray) (c : Int) (na : Option Addr) (nc : Nat) (ns : List Int) (aa : Option Addr) (ac : Nat) (al : List Tm) (w : World) (hk : k = 3) :
    Calls Tryz.prog 89 #[.agg #[.int .i64 k, .int .i64 i, .string s, .int .u32 c, .slice na ns.length nc, .slice aa al.length ac]] w fun e w' => e = .returned (.bool (formS (.mk k i s c ns al))) ∧ Below w.heap.size w w' := by
  have HB := Lib.hid ((Below.refl _ w).alloc (Nat.le_refl _) (.cells #[.int .i64 k, .int .i64 i, .string s, .int .u32 c, .slice na ns.length nc, .slice aa al.length ac] 35 (0, 0)))
  have HC := Lib.hid (Cells.new w 35 [.int .i64 k, .int .i64 i, .string s, .int .u32 c, .slice na ns.length nc, .slice aa al.length ac])
  subst hk
  have HE := Lib.hid (fun W => bare_scn 3 i s c na aa ns.length nc al.length ac W)
  have hbe := (bare_empty 3 i s c ns.length al.length).2 (by decide)
  rw [hbe.2.1] at HE
  clear hbe
  cases hb : emptyS 3 i s c ns.length al.length true true false with
  | false =>
    rw [hb] at HE
    have HR := Lib.hid (show formS (.mk 3 i s c ns al) = false by simp [formS, Tm.kind, Tm.empty, Tm.int, Tm.text, Tm.cr, Tm.nums, Tm.args, hb])
    clear hb
    go_enter Tryz.func89, Tryz.ntmps89
    go_wp2_with fail
    refine (HE.out _).mono ?_
    rintro e w2 ⟨rfl, hb2⟩
    have HB2 := Lib.hid (HB.out.trans (hb2.mono HB.out.size))
    have C2 := Lib.hid (HC.out.below hb2)
    have c4 := C2.out.cell 4
    have c5 := C2.out.cell 5
    simp only [List.getElem?_cons_zero, List.getElem?_cons_succ] at c4 c5
    clear hb2
    go_wp2
    go_ret
    exact ⟨by rw [HR.out]; rfl, HB2.out⟩
  | true =>
    rw [hb] at HE
    by_cases hn : ns.length = 3
    · have HR := Lib.hid (show formS (.mk 3 i s c ns al) = true by rw [hn] at hb; simp [formS, Tm.kind, Tm.empty, Tm.int, Tm.text, Tm.cr, Tm.nums, Tm.args, hb, hn])
      have qn : ((ns.length : Int) == 3) = true := by rw [hn]; rfl
      clear hn hb
      go_enter Tryz.func89, Tryz.ntmps89
      go_wp2_with fail
      refine (HE.out _).mono ?_
      rintro e w2 ⟨rfl, hb2⟩
      have HB2 := Lib.hid (HB.out.trans (hb2.mono HB.out.size))
      have C2 := Lib.hid (HC.out.below hb2)
      have c4 := C2.out.cell 4
      have c5 := C2.out.cell 5
      simp only [List.getElem?_cons_zero, List.getElem?_cons_succ] at c4 c5
      clear hb2
      go_wp2
      go_ret
      exact ⟨by rw [HR.out]; rfl, HB2.out⟩
    · have HR := Lib.hid (show formS (.mk 3 i s c ns al) = false by simp [formS, Tm.kind, Tm.empty, Tm.int, Tm.text, Tm.cr, Tm.nums, Tm.args, hb, hn])
      have qn : ((ns.length : Int) == 3) = false := beq_eq_false_iff_ne.2 (by omega)
      clear hn hb
      go_enter Tryz.func89, Tryz.ntmps89
      go_wp2_with fail
      refine (HE.out _).mono ?_
      rintro e w2 ⟨rfl, hb2⟩
      have HB2 := Lib.hid (HB.out.trans (hb2.mono HB.out.size))
      have C2 := Lib.hid (HC.out.below hb2)
      have c4 := C2.out.cell 4
      have c5 := C2.out.cell 5
      simp only [List.getElem?_cons_zero, List.getElem?_cons_succ] at c4 c5
      clear hb2
      go_wp2
      go_ret
      exact ⟨by rw [HR.out]; rfl, HB2.out⟩

set_option maxHeartbeats 8000000 in
set_option maxRecDepth 100000 in
theorem formR_4 (S : Nat → Prop) (k i : Int) (s : ByteArray) (c : Int) (na : Option Addr) (nc : Nat) (ns : List Int) (aa : Option Addr) (ac : Nat) (al : List Tm) (w : World) (hk : k = 4) :
    Calls Tryz.prog 89 #[.agg #[.int .i64 k, .int .i64 i, .string s, .int .u32 c, .slice na ns.length nc, .slice aa al.length ac]] w fun e w' => e = .returned (.bool (formS (.mk k i s c ns al))) ∧ Below w.heap.size w w' := by
  have HB := Lib.hid ((Below.refl _ w).alloc (Nat.le_refl _) (.cells #[.int .i64 k, .int .i64 i, .string s, .int .u32 c, .slice na ns.length nc, .slice aa al.length ac] 35 (0, 0)))
  have HC := Lib.hid (Cells.new w 35 [.int .i64 k, .int .i64 i, .string s, .int .u32 c, .slice na ns.length nc, .slice aa al.length ac])
  subst hk
  have HE := Lib.hid (fun W => bare_scn 4 i s c na aa ns.length nc al.length ac W)
  have hbe := (bare_empty 4 i s c ns.length al.length).2 (by decide)
  rw [hbe.2.1] at HE
  clear hbe
  cases hb : emptyS 4 i s c ns.length al.length true true false with
  | false =>
    rw [hb] at HE
    have HR := Lib.hid (show formS (.mk 4 i s c ns al) = false by simp [formS, Tm.kind, Tm.empty, Tm.int, Tm.text, Tm.cr, Tm.nums, Tm.args, hb])
    clear hb
    go_enter Tryz.func89, Tryz.ntmps89
    go_wp2_with fail
    refine (HE.out _).mono ?_
    rintro e w2 ⟨rfl, hb2⟩
    have HB2 := Lib.hid (HB.out.trans (hb2.mono HB.out.size))
    have C2 := Lib.hid (HC.out.below hb2)
    have c4 := C2.out.cell 4
    have c5 := C2.out.cell 5
    simp only [List.getElem?_cons_zero, List.getElem?_cons_succ] at c4 c5
    clear hb2
    go_wp2
    go_ret
    exact ⟨by rw [HR.out]; rfl, HB2.out⟩
  | true =>
    rw [hb] at HE
    by_cases hn : ns.length = 2
    · have HR := Lib.hid (show formS (.mk 4 i s c ns al) = true by rw [hn] at hb; simp [formS, Tm.kind, Tm.empty, Tm.int, Tm.text, Tm.cr, Tm.nums, Tm.args, hb, hn])
      have qn : ((ns.length : Int) == 2) = true := by rw [hn]; rfl
      clear hn hb
      go_enter Tryz.func89, Tryz.ntmps89
      go_wp2_with fail
      refine (HE.out _).mono ?_
      rintro e w2 ⟨rfl, hb2⟩
      have HB2 := Lib.hid (HB.out.trans (hb2.mono HB.out.size))
      have C2 := Lib.hid (HC.out.below hb2)
      have c4 := C2.out.cell 4
      have c5 := C2.out.cell 5
      simp only [List.getElem?_cons_zero, List.getElem?_cons_succ] at c4 c5
      clear hb2
      go_wp2
      go_ret
      exact ⟨by rw [HR.out]; rfl, HB2.out⟩
    · have HR := Lib.hid (show formS (.mk 4 i s c ns al) = false by simp [formS, Tm.kind, Tm.empty, Tm.int, Tm.text, Tm.cr, Tm.nums, Tm.args, hb, hn])
      have qn : ((ns.length : Int) == 2) = false := beq_eq_false_iff_ne.2 (by omega)
      clear hn hb
      go_enter Tryz.func89, Tryz.ntmps89
      go_wp2_with fail
      refine (HE.out _).mono ?_
      rintro e w2 ⟨rfl, hb2⟩
      have HB2 := Lib.hid (HB.out.trans (hb2.mono HB.out.size))
      have C2 := Lib.hid (HC.out.below hb2)
      have c4 := C2.out.cell 4
      have c5 := C2.out.cell 5
      simp only [List.getElem?_cons_zero, List.getElem?_cons_succ] at c4 c5
      clear hb2
      go_wp2
      go_ret
      exact ⟨by rw [HR.out]; rfl, HB2.out⟩

set_option maxHeartbeats 8000000 in
set_option maxRecDepth 100000 in
theorem formR_7 (S : Nat → Prop) (k i : Int) (s : ByteArray) (c : Int) (na : Option Addr) (nc : Nat) (ns : List Int) (aa : Option Addr) (ac : Nat) (al : List Tm) (w : World) (ha : ArgsAt S al aa w) (hac : al.length ≤ 140737488351232) (hk : k = 7) :
    Calls Tryz.prog 89 #[.agg #[.int .i64 k, .int .i64 i, .string s, .int .u32 c, .slice na ns.length nc, .slice aa al.length ac]] w fun e w' => e = .returned (.bool (formS (.mk k i s c ns al))) ∧ Below w.heap.size w w' := by
  have HB := Lib.hid ((Below.refl _ w).alloc (Nat.le_refl _) (.cells #[.int .i64 k, .int .i64 i, .string s, .int .u32 c, .slice na ns.length nc, .slice aa al.length ac] 35 (0, 0)))
  have HC := Lib.hid (Cells.new w 35 [.int .i64 k, .int .i64 i, .string s, .int .u32 c, .slice na ns.length nc, .slice aa al.length ac])
  subst hk
  have HE := Lib.hid (fun W => bare_a 7 i s c na aa ns.length nc al.length ac W)
  have hbe := (bare_empty 7 i s c ns.length al.length).2 (by decide)
  rw [hbe.2.2.1] at HE
  clear hbe
  cases hb : emptyS 7 i s c ns.length al.length false false true with
  | false =>
    rw [hb] at HE
    have HR := Lib.hid (show formS (.mk 7 i s c ns al) = false by simp [formS, Tm.kind, Tm.empty, Tm.int, Tm.text, Tm.cr, Tm.nums, Tm.args, hb])
    clear ha hb
    go_enter Tryz.func89, Tryz.ntmps89
    go_wp2_with fail
    refine (HE.out _).mono ?_
    rintro e w2 ⟨rfl, hb2⟩
    have HB2 := Lib.hid (HB.out.trans (hb2.mono HB.out.size))
    have C2 := Lib.hid (HC.out.below hb2)
    have c4 := C2.out.cell 4
    have c5 := C2.out.cell 5
    simp only [List.getElem?_cons_zero, List.getElem?_cons_succ] at c4 c5
    clear hb2
    go_wp2
    go_ret
    exact ⟨by rw [HR.out]; rfl, HB2.out⟩
  | true =>
    rw [hb] at HE
    by_cases hn : 2 ≤ al.length
    · obtain ⟨g, o, vs, rfl, _, hcs, ht⟩ := ha.get (al.length - 1) (by omega)
      obtain ⟨-, nv, a', cap', rfl, -⟩ := ht.parts
      have h6 := hcs 0 (by omega)
      simp only [List.getElem?_cons_zero] at h6
      have hlt6 := World.block_lt_of_cell? w _ h6
      have hl7 := lastOk_get hn
      have h6' : w.cell? ⟨g, o + (al.length - 1) * 6, none⟩ = some (.int .i64 (al[al.length - 1]'(by omega)).kind) := h6
      generalize (al[al.length - 1]'(by omega)).kind = lk at hl7 h6'
      have H6 := Lib.hid h6'
      have hm : ((al.length - 1 : Nat) : Int) = (al.length : Int) - 1 := by omega
      have hlo : 0 ≤ (al.length : Int) - 1 := by omega
      have hhi : (al.length : Int) - 1 < (al.length : Int) := by omega
      have hn2 : (2 : Int) ≤ (al.length : Int) := by omega
      clear hcs ht h6 h6' ha
      by_cases hlk : lk = 7
      · have HR := Lib.hid (show formS (.mk 7 i s c ns al) = false by simp [formS, Tm.kind, Tm.empty, Tm.int, Tm.text, Tm.cr, Tm.nums, Tm.args, hb, hn, hl7, hlk])
        subst hlk
        clear hl7 hn hb
        go_enter Tryz.func89, Tryz.ntmps89
        go_wp2_with fail
        refine (HE.out _).mono ?_
        rintro e w2 ⟨rfl, hb2⟩
        have HB2 := Lib.hid (HB.out.trans (hb2.mono HB.out.size))
        have C2 := Lib.hid (HC.out.below hb2)
        have c4 := C2.out.cell 4
        have c5 := C2.out.cell 5
        simp only [List.getElem?_cons_zero, List.getElem?_cons_succ] at c4 c5
        have h9 := hb2.cell (p := ⟨g, o + (al.length - 1) * 6, none⟩) (Nat.lt_of_lt_of_le hlt6 HB.out.size)
        have h8 := HB.out.cell (p := ⟨g, o + (al.length - 1) * 6, none⟩) hlt6
        rw [h8, H6.out] at h9
        clear h8 hb2
        go_wp2
        go_ret
        exact ⟨by rw [HR.out]; rfl, HB2.out⟩
      · have HR := Lib.hid (show formS (.mk 7 i s c ns al) = true by simp [formS, Tm.kind, Tm.empty, Tm.int, Tm.text, Tm.cr, Tm.nums, Tm.args, hb, hn, hl7, hlk])
        have qk : (lk != 7) = true := bne_iff_ne.2 hlk
        clear hlk hl7 hn hb
        go_enter Tryz.func89, Tryz.ntmps89
        go_wp2_with fail
        refine (HE.out _).mono ?_
        rintro e w2 ⟨rfl, hb2⟩
        have HB2 := Lib.hid (HB.out.trans (hb2.mono HB.out.size))
        have C2 := Lib.hid (HC.out.below hb2)
        have c4 := C2.out.cell 4
        have c5 := C2.out.cell 5
        simp only [List.getElem?_cons_zero, List.getElem?_cons_succ] at c4 c5
        have h9 := hb2.cell (p := ⟨g, o + (al.length - 1) * 6, none⟩) (Nat.lt_of_lt_of_le hlt6 HB.out.size)
        have h8 := HB.out.cell (p := ⟨g, o + (al.length - 1) * 6, none⟩) hlt6
        rw [h8, H6.out] at h9
        clear h8 hb2
        go_wp2
        go_ret
        exact ⟨by rw [HR.out]; rfl, HB2.out⟩
    · have HR := Lib.hid (show formS (.mk 7 i s c ns al) = false by simp [formS, Tm.kind, Tm.empty, Tm.int, Tm.text, Tm.cr, Tm.nums, Tm.args, hb, hn])
      have hn2 : ¬ (2 : Int) ≤ (al.length : Int) := by omega
      clear ha hn hb
      go_enter Tryz.func89, Tryz.ntmps89
      go_wp2_with fail
      refine (HE.out _).mono ?_
      rintro e w2 ⟨rfl, hb2⟩
      have HB2 := Lib.hid (HB.out.trans (hb2.mono HB.out.size))
      have C2 := Lib.hid (HC.out.below hb2)
      have c4 := C2.out.cell 4
      have c5 := C2.out.cell 5
      simp only [List.getElem?_cons_zero, List.getElem?_cons_succ] at c4 c5
      clear hb2
      go_wp2
      go_ret
      exact ⟨by rw [HR.out]; rfl, HB2.out⟩

set_option maxHeartbeats 8000000 in
set_option maxRecDepth 100000 in
theorem formR_0 (S : Nat → Prop) (k i : Int) (s : ByteArray) (c : Int) (na : Option Addr) (nc : Nat) (ns : List Int) (aa : Option Addr) (ac : Nat) (al : List Tm) (w : World) (h1 : k ≠ 1) (h2 : k ≠ 2) (h3 : k ≠ 3) (h4 : k ≠ 4) (h5 : k ≠ 5) (h6 : k ≠ 6) (h7 : k ≠ 7) :
    Calls Tryz.prog 89 #[.agg #[.int .i64 k, .int .i64 i, .string s, .int .u32 c, .slice na ns.length nc, .slice aa al.length ac]] w fun e w' => e = .returned (.bool (formS (.mk k i s c ns al))) ∧ Below w.heap.size w w' := by
  have HB := Lib.hid ((Below.refl _ w).alloc (Nat.le_refl _) (.cells #[.int .i64 k, .int .i64 i, .string s, .int .u32 c, .slice na ns.length nc, .slice aa al.length ac] 35 (0, 0)))
  have HC := Lib.hid (Cells.new w 35 [.int .i64 k, .int .i64 i, .string s, .int .u32 c, .slice na ns.length nc, .slice aa al.length ac])
  have HR := Lib.hid (show formS (.mk k i s c ns al) = false by simp [formS, Tm.kind, Tm.empty, Tm.int, Tm.text, Tm.cr, Tm.nums, Tm.args, h1, h2, h3, h4, h5, h6, h7])
  have q1 : (k == 1) = false := beq_eq_false_iff_ne.2 h1
  have q2 : (k == 2) = false := beq_eq_false_iff_ne.2 h2
  have q3 : (k == 3) = false := beq_eq_false_iff_ne.2 h3
  have q4 : (k == 4) = false := beq_eq_false_iff_ne.2 h4
  have q5 : (k == 5) = false := beq_eq_false_iff_ne.2 h5
  have q6 : (k == 6) = false := beq_eq_false_iff_ne.2 h6
  have q7 : (k == 7) = false := beq_eq_false_iff_ne.2 h7
  clear h1 h2 h3 h4 h5 h6 h7
  go_enter Tryz.func89, Tryz.ntmps89
  go_wp2
  go_ret
  exact ⟨by rw [HR.out]; rfl, HB.out⟩

theorem formR_any (S : Nat → Prop) (t : Tm) (vs : List Value) (w : World) (ht : TmAt S t vs w) :
    Calls Tryz.prog 89 #[.agg vs.toArray] w fun e w' => e = .returned (.bool (formS t)) ∧ Below w.heap.size w w' := by
  cases t with
  | mk k i s c ns al =>
    obtain ⟨hp, nv, a, cap, rfl, hn, hc, hcap, ha⟩ := ht.parts
    obtain ⟨na, nc, hnv, _⟩ := hn.slice
    obtain rfl : nv = .slice na ns.length nc := hnv
    by_cases h1 : k = 1
    · exact formR_1 S k i s c na nc ns a cap al w h1
    by_cases h2 : k = 2
    · exact formR_2 S k i s c na nc ns a cap al w h2
    by_cases h3 : k = 3
    · exact formR_3 S k i s c na nc ns a cap al w h3
    by_cases h4 : k = 4
    · exact formR_4 S k i s c na nc ns a cap al w h4
    by_cases h5 : k = 5
    · exact formR_5 S k i s c na nc ns a cap al w h5
    by_cases h6 : k = 6
    · exact formR_6 S k i s c na nc ns a cap al w h6
    by_cases h7 : k = 7
    · exact formR_7 S k i s c na nc ns a cap al w ha (by have h : al.length * 88 ≤ 140737488351232 := hcap; omega) h7
    · exact formR_0 S k i s c na nc ns a cap al w h1 h2 h3 h4 h5 h6 h7
end Go.Proofs.YtlahagabcnmdiaaGreatDoor
end
section
/- Package mail: Put, plain: what a row is behind the append and the two stores. -/
open Go Go.RowKit
namespace Go.Proofs.YtlahagabcnmdiaaGreatDoor
set_option linter.unusedVariables false

def RetPut (F : Nat → Prop) (g : Nat) (w : World) (r : List Lk × Bx) (e : Ending) (w' : World) : Prop := ∃ ev, e = .returned ev ∧ ErrIs w' ev r.1 ∧ BxIs (fun q => F q ∨ w.heap.size ≤ q) g r.2 w' ∧ Keep F w w'
theorem RetPut.same {F : Nat → Prop} {g : Nat} {b : Bx} {w w' : World} {ev : Value} {l : List Lk} (h : BxIs F g b w) (hb : Below w.heap.size w w') (he : ErrIs w' ev l) : RetPut F g w (l, b) (.returned ev) w' := ⟨ev, rfl, he, (h.below hb).mono (fun _ _ h => .inl h), keepB hb⟩
/-- ahead of the append: the copy is made, the zero term lies in zb -/
def PutSt (w W : World) (el : List Value) (zb : Nat) (t : Tm) (vs3 : List Value) : Prop :=
  Below w.heap.size w W ∧ Cells W w.heap.size 35 el ∧ Cells W zb 35 termZ ∧ w.heap.size < zb ∧ ∃ SC : Nat → Prop, TmAt SC t vs3 W ∧ ∀ q, SC q → w.heap.size < q ∧ q < W.heap.size ∧ q ≠ zb
/-- the append and both orders of the stores -/
def PutEnd (F : Nat → Prop) (g : Nat) (b : Bx) (t : Tm) (vs3 el : List Value) (v v2 : Value) (kk : Nat) (w W2 : World) : Prop :=
  Cells W2 g 75 (bxV b v) ∧ Cells W2 w.heap.size 35 el ∧
  (∃ cs, Cells W2 kk 35 cs ∧ b.l.length * 6 + 6 ≤ cs.length ∧ ∀ W5, Cells W5 kk 35 (setFrom cs (b.l.length * 6) vs3) → W2.grownBy W5 (some kk) →
    Cells W5 g 75 (bxV b v) ∧ Cells W5 w.heap.size 35 el ∧ Cells (W5.setCell ⟨g, 1, none⟩ v2) w.heap.size 35 el ∧ RetPut F g w ([], { b with l := b.l ++ [t] }) (.returned .nilIface) (W5.setCell ⟨g, 1, none⟩ v2)) ∧
  (∃ cs, Cells (W2.setCell ⟨g, 1, none⟩ v2) kk 35 cs ∧ Cells (W2.setCell ⟨g, 1, none⟩ v2) w.heap.size 35 el ∧ b.l.length * 6 + 6 ≤ cs.length ∧ ∀ W5, Cells W5 kk 35 (setFrom cs (b.l.length * 6) vs3) → (W2.setCell ⟨g, 1, none⟩ v2).grownBy W5 (some kk) →
    Cells W5 w.heap.size 35 el ∧ RetPut F g w ([], { b with l := b.l ++ [t] }) (.returned .nilIface) W5)
theorem put_app {F S : Nat → Prop} {g zb c : Nat} {b : Bx} {a : Option Addr} {t : Tm} {vs3 el : List Value} {w W : World} (hFg : F g) (hl : b.l.length < 4096) (hc46 : b.cur ≤ 4096)
    (hC : Cells w g 75 (bxV b (.slice a b.l.length c))) (hT : TsIs 0 S (.slice a b.l.length c) b.l w) (hS : ∀ k, S k → F k ∧ k ≠ g) (hvS : ∀ k, (Value.slice a b.l.length c).ownBlock = some k → F k ∧ ¬ S k)
    (hP : PutSt w W el zb t vs3) :
    ∃ kk cc W2, (Builtin.append_ #[26, 26] 26 #[.slice a b.l.length c, .slice (some ⟨zb, 0, none⟩) 1 1]).run Tryz.prog W = .ok (.slice (some ⟨kk, 0, none⟩) (b.l.length + 1) cc) W2 ∧ b.l.length + 1 ≤ cc ∧ cc ≤ maxLen ∧
      PutEnd F g b t vs3 el (.slice a b.l.length c) (.slice (some ⟨kk, 0, none⟩) (b.l.length + 1) cc) kk w W2 := by
  obtain ⟨hB, hR, hZ, hzb, SC, hTC, hSC⟩ := hP
  have hsz := hR.lt
  have hglt := hC.lt
  have hCW := hC.below hB
  have hown : ∀ k, (Value.slice a b.l.length c).ownBlock = some k → k < w.heap.size ∧ k ≠ g := fun k hk => by
    obtain ⟨_, h2, cur, hcur⟩ := hT.block hk
    refine ⟨h2, fun e => ?_⟩
    have h := hC
    unfold Cells at h
    rw [e, h] at hcur
    injection hcur with hcur
    injection hcur with _ h2
    exact absurd h2 (by decide)
  obtain ⟨S2, hS2⟩ : ∃ S2 : Nat → Prop, ∀ q, S2 q ↔ (S q ∧ q < w.heap.size) ∨ SC q := ⟨_, fun _ => Iff.rfl⟩
  have hTW : TsIs 0 S2 (.slice a b.l.length c) b.l W := (hT.mono (Nat.le_refl _) (fun q hlt hq => (hS2 q).2 (.inl ⟨hq, hlt⟩))).below hB (Nat.le_refl _)
  have hvS2 : ∀ k, (Value.slice a b.l.length c).ownBlock = some k → ¬ S2 k := fun k hk h => by
    rcases (hS2 k).1 h with ⟨h1, _⟩ | h1
    · exact (hvS k hk).2 h1
    · have := (hSC k h1).1; have := (hown k hk).1; omega
  obtain ⟨v2, W2, hrun, hTS, hg, hob⟩ := hTW.app (zero_at S2 W) zb 0 1 (fun j hj => by rw [Nat.zero_add]; exact hZ.cell j) (by omega) (Nat.zero_le _) hvS2
  obtain ⟨_, hn⟩ | ⟨kk, cc, rfl, _, hkk, hcc, hcm⟩ := hTS.shape
  · simp at hn
  have hlen : (b.l ++ [Tm.zero]).length = b.l.length + 1 := by simp
  rw [hlen] at hrun hTS hob hcc
  have hkc : (F kk ∧ kk < w.heap.size ∧ kk ≠ g ∧ ¬ S2 kk) ∨ kk = W.heap.size := by
    rcases hob with e | e
    · have e2 : (Value.slice a b.l.length c).ownBlock = some kk := e.symm
      exact .inl ⟨(hvS kk e2).1, (hown kk e2).1, (hown kk e2).2, hvS2 kk e2⟩
    · exact .inr (Option.some.inj e)
  have hkg : kk ≠ g := by rcases hkc with h | h; exact h.2.2.1; have := hB.size; omega
  have hkS : ¬ S2 kk := by
    rcases hkc with h | h
    · exact h.2.2.2
    · intro h2
      rcases (hS2 kk).1 h2 with ⟨_, h3⟩ | h3
      · have := hB.size; omega
      · have := (hSC kk h3).2.1; omega
  have hkw : kk ≠ w.heap.size := by rcases hkc with h | h; have := h.2.1; omega; omega
  have hkF : F kk ∨ w.heap.size ≤ kk := by rcases hkc with h | h; exact .inl h.1; right; have := hB.size; omega
  have hkF2 : kk < w.heap.size → F kk := fun hlt => by rcases hkc with h | h; exact h.1; have := hB.size; omega
  have hS2g : ∀ q, S2 q → (F q ∨ w.heap.size ≤ q) ∧ q ≠ g := fun q hq => by
    rcases (hS2 q).1 hq with ⟨h1, _⟩ | h1
    · exact ⟨.inl (hS q h1).1, (hS q h1).2⟩
    · have := (hSC q h1).1
      exact ⟨.inr (by omega), by omega⟩
  have hC2 := hCW.grown hg (fun e => (hown g e).2 rfl)
  have hR2 := hR.grown hg (fun e => by have := (hown _ e).1; omega)
  have hTC2 : TmAt S2 t vs3 W2 := (TmAt.frame (w' := W2) (fun q hq => hg.block q (hSC q hq).2.1 (fun e => by have := (hown q e.symm).1; have := (hSC q hq).1; omega)) hTC).mono (fun q _ hq => (hS2 q).2 (.inr hq))
  have hK2 : Keep F w W2 := (keepB hB).grown hg (fun k hk _ => (hvS k hk).1)
  refine ⟨kk, cc, W2, hrun, hcc, hcm, hC2, hR2, ?_, ?_⟩
  · obtain ⟨cs, h1, h2, h3⟩ := TsIs.turn hTS hTC2 hkS
    refine ⟨cs, h1, h2, fun W5 h5 hg5 => ?_⟩
    have C5 := hC2.grown hg5 (fun e => hkg (Option.some.inj e))
    have R5 := hR2.grown hg5 (fun e => hkw (Option.some.inj e))
    have T5 := h3 W5 h5 hg5
    refine ⟨C5, R5, R5.far (p := ⟨g, 1, none⟩) (by show w.heap.size ≠ g; omega) _, _, rfl, rfl, ⟨.inl hFg, ?_, hc46, _, S2, C5.set_ 1 _, ?_, hS2g, fun k hk => by cases hk; exact ⟨hkF, hkS⟩⟩, ?_⟩
    · show (b.l ++ [t]).length ≤ 4096; simp; omega
    · exact T5.keep (keepSet (Keep.refl (Blk1 g) W5) 1 _) (fun q hq e => by cases hq; exact hkg e) (fun q _ hq e => (hS2g q hq).2 e)
    · exact (hK2.grown hg5 (fun k hk hlt => by cases hk; exact hkF2 hlt)).setCell (p := ⟨g, 1, none⟩) (fun _ => hFg) _
  · have C4 := hC2.set_ 1 (.slice (some ⟨kk, 0, none⟩) (b.l.length + 1) cc)
    have KS := keepSet (Keep.refl (Blk1 g) W2) 1 (.slice (some ⟨kk, 0, none⟩) (b.l.length + 1) cc)
    have T4 := hTS.keep KS (fun q hq e => by cases hq; exact hkg e) (fun q _ hq e => (hS2g q hq).2 e)
    have TC4 := hTC2.keep KS (fun q _ hq e => (hS2g q hq).2 e)
    have R4 := hR2.far (p := ⟨g, 1, none⟩) (by show w.heap.size ≠ g; omega) (.slice (some ⟨kk, 0, none⟩) (b.l.length + 1) cc)
    obtain ⟨cs, h1, h2, h3⟩ := TsIs.turn T4 TC4 hkS
    refine ⟨cs, h1, R4, h2, fun W5 h5 hg5 => ?_⟩
    have C5 := C4.grown hg5 (fun e => hkg (Option.some.inj e))
    have R5 := R4.grown hg5 (fun e => hkw (Option.some.inj e))
    refine ⟨R5, _, rfl, rfl, ⟨.inl hFg, ?_, hc46, _, S2, C5, h3 W5 h5 hg5, hS2g, fun k hk => by cases hk; exact ⟨hkF, hkS⟩⟩, ?_⟩
    · show (b.l ++ [t]).length ≤ 4096; simp; omega
    · exact (hK2.setCell (p := ⟨g, 1, none⟩) (fun _ => hFg) _).grown hg5 (fun k hk hlt => by cases hk; exact hkF2 hlt)
end Go.Proofs.YtlahagabcnmdiaaGreatDoor
end
section
/- Package mail: Put. Printed by wip/maj.py. -/
open Go Go.RowKit
namespace Go.Proofs.YtlahagabcnmdiaaGreatDoor
set_option linter.unusedVariables false
set_option linter.unusedSimpArgs false

set_option maxHeartbeats 8000000 in
set_option maxRecDepth 100000 in
theorem mPut_live {F : Nat → Prop} {g : Nat} {b : Bx} (St : Nat → Prop) (t : Tm) (vs : List Value) (w : World) (h : BxIs F g b w) (ht : TmAt St t vs w) (hSt : ∀ q, St q → q < w.heap.size) (hd : ∀ q, St q → ¬ F q) (hG : Gt w) :
    Calls Tryz.prog 26 #[.pointer (some ⟨g, 0, none⟩), .agg vs.toArray] w (RetPut F g w (putM b t)) := by
  have HBX := Lib.hid h
  obtain ⟨hFg, hl46, hc46, lv, S, hC, hT, hS, hvS, hSW⟩ := h.bound
  obtain ⟨a, c, rfl⟩ := hT.form
  obtain ⟨_, nv, a2, cap2, rfl, hnn, _⟩ := ht.parts
  obtain ⟨na2, nc2, rfl, _, _⟩ := hnn.slice
  have HC := Lib.hid hC
  have HT := Lib.hid hT
  have HS := Lib.hid hS
  have HVS := Lib.hid hvS
  have HSW := Lib.hid hSW
  have HFG := Lib.hid hFg
  have HL46 := Lib.hid hl46
  have HC46 := Lib.hid hc46
  have HTM := Lib.hid ht
  have HST := Lib.hid hSt
  have HD := Lib.hid hd
  have HG := Lib.hid hG
  have HB0 := Lib.hid ((Below.refl w.heap.size w).alloc (Nat.le_refl _) (.cells #[.int .i64 t.kind, .int .i64 t.int, .string t.text, .int .u32 t.cr, .slice na2 t.nums.length nc2, .slice a2 t.args.length cap2] 35 (0, 0)))
  have HO := Lib.hid (mOk_live _ (hC.below HB0.out))
  have HCH := Lib.hid (check_any St t _ _ (ht.below HB0.out) (fun q hq => Nat.lt_of_lt_of_le (hSt q hq) HB0.out.size) (hG.below HB0.out))
  have HRF := Lib.hid (fun c W => mRefused_any c W)
  have R0 := Lib.hid (Cells.new w 35 [.int .i64 t.kind, .int .i64 t.int, .string t.text, .int .u32 t.cr, .slice na2 t.nums.length nc2, .slice a2 t.args.length cap2])
  have HLT := Lib.hid (show putM b t = if checkS t ≠ [] then (overM (checkS t), b) else if 4096 ≤ b.l.length then (errM 5, b) else ([], { b with l := b.l ++ [t] }) from rfl)
  clear hC hT hS hvS hSW ht hnn hSt hd hG h hFg hc46
  go_enter Tryz.func26, Tryz.ntmps26
  go_wp2_with fail
  refine HO.out.mono ?_
  rintro e w1 ⟨rfl, rfl⟩
  have q0 := R0.out.cell 0
  have q1 := R0.out.cell 1
  have q2 := R0.out.cell 2
  have q3 := R0.out.cell 3
  have q4 := R0.out.cell 4
  have q5 := R0.out.cell 5
  simp only [List.getElem?_cons_zero, List.getElem?_cons_succ] at q0 q1 q2 q3 q4 q5
  go_wp2_with fail
  refine HCH.out.mono ?_
  rintro e w2 ⟨ev, rfl, her, hb2⟩
  have HER := Lib.hid her
  have HB2 := Lib.hid (HB0.out.trans (hb2.mono HB0.out.size))
  have R2 := Lib.hid (R0.out.below hb2)
  clear hb2 q0 q1 q2 q3 q4 q5 her
  cases hck : checkS t with
  | cons kk rr =>
    have HR := Lib.hid (show putM b t = (overM (kk :: rr), b) from by rw [HLT.out, if_pos (by simp [hck]), hck])
    rw [hck] at HER
    clear hck
    obtain ⟨b0, u0, hev, hcc, hrr⟩ := id HER.out
    subst hev
    go_wp2_with fail
    refine (mOver_live _ kk rr _ HER.out (HG.out.below HB2.out).1).mono ?_
    rintro e w3 ⟨ev3, rfl, her3, hb3⟩
    have HER3 := Lib.hid her3
    have HB3 := Lib.hid (HB2.out.trans (hb3.mono HB2.out.size))
    clear her3 hb3
    go_wp2
    go_ret
    rw [HR.out]
    exact RetPut.same HBX.out HB3.out HER3.out
  | nil =>
    rw [hck] at HER
    have hev : ev = .nilIface := HER.out
    subst hev
    have C2 := Lib.hid (HC.out.below HB2.out)
    have c1 := C2.out.cell 1
    simp only [bxV, List.getElem?_cons_zero, List.getElem?_cons_succ] at c1
    by_cases hfull : 4096 ≤ b.l.length
    · have HR := Lib.hid (show putM b t = (errM 5, b) from by rw [HLT.out, if_neg (by simp [hck]), if_pos hfull])
      clear hck
      have hfi : (4096 : Int) ≤ (b.l.length : Int) := by omega
      go_wp2_with fail
      refine (HRF.out 5 _).mono ?_
      rintro e w3 ⟨ev3, rfl, her3, hb3⟩
      have HER3 := Lib.hid her3
      have HB3 := Lib.hid (HB2.out.trans (hb3.mono HB2.out.size))
      clear her3 hb3
      go_wp2
      go_ret
      rw [HR.out]
      exact RetPut.same HBX.out HB3.out HER3.out
    · have HR := Lib.hid (show putM b t = ([], { b with l := b.l ++ [t] }) from by rw [HLT.out, if_neg (by simp [hck]), if_neg hfull])
      clear hck
      have hfi : ¬ (4096 : Int) ≤ (b.l.length : Int) := by omega
      have hx0 : (0 : Int) ≤ (b.l.length : Int) := by omega
      have hx1 : (b.l.length : Int) < (b.l.length : Int) + 1 := by omega
      go_wp2_with fail
      refine wp_region_held_drew (S := fun W => Cells W w.heap.size 35 [.int .i64 t.kind, .int .i64 t.int, .string t.text, .int .u32 t.cr, .slice na2 t.nums.length nc2, .slice a2 t.args.length cap2]) (by kernel_rfl) (R2.out.drew) (fun hHeld => ?_)
      refine wpAnyH_take (i := 0) (v := (.pointer (some ⟨g, 0, none⟩))) (by simp only [List.getElem?_toArray, List.getElem?_cons_succ, List.getElem?_cons_zero]; rfl) (by kernel_rfl) (by kernel_rfl) (by kernel_rfl) (by exact fun _ _ _ h => h) (Or.inl ⟨by rfl, fun _ _ => rfl⟩) (by assumption) ?_
      try simp only [Act.put, List.setIfInBounds_toArray, List.set_cons_zero, List.set_cons_succ]
      refine wpAnyH_take (i := 1) (v := (.pointer (some ⟨g, 0, none⟩))) (by simp only [List.getElem?_toArray, List.getElem?_cons_succ, List.getElem?_cons_zero]; rfl) (by kernel_rfl) (by kernel_rfl) (by kernel_rfl) (by exact fun _ _ _ h => h) (Or.inl ⟨by rfl, by intro W hSw; go_simp; all_goals first | rfl | exact ⟨rfl, rfl, rfl, rfl, rfl, rfl⟩⟩) (by assumption) ?_
      try simp only [Act.put, List.setIfInBounds_toArray, List.set_cons_zero, List.set_cons_succ]
      refine wpAnyH_take (i := 2) (v := (.pointer (some ⟨g, 1, none⟩))) (by simp only [List.getElem?_toArray, List.getElem?_cons_succ, List.getElem?_cons_zero]; rfl) (by kernel_rfl) (by kernel_rfl) (by kernel_rfl) (by exact fun _ _ _ h => h) (Or.inl ⟨by rfl, fun _ _ => rfl⟩) (by assumption) ?_
      try simp only [Act.put, List.setIfInBounds_toArray, List.set_cons_zero, List.set_cons_succ]
      refine wpAnyH_take (i := 4) (v := (.agg #[.int .i64 t.kind, .int .i64 t.int, .string t.text, .int .u32 t.cr, .slice na2 t.nums.length nc2, .slice a2 t.args.length cap2])) (by simp only [List.getElem?_toArray, List.getElem?_cons_succ, List.getElem?_cons_zero]; rfl) (by kernel_rfl) (by kernel_rfl) (by kernel_rfl) (by exact fun _ _ _ h => h) (Or.inl ⟨by rfl, by intro W hSw; have x0 := hSw.cell 0; have x1 := hSw.cell 1; have x2 := hSw.cell 2; have x3 := hSw.cell 3; have x4 := hSw.cell 4; have x5 := hSw.cell 5; go_simp; all_goals first | rfl | exact ⟨rfl, rfl, rfl, rfl, rfl, rfl⟩⟩) (by assumption) ?_
      try simp only [Act.put, List.setIfInBounds_toArray, List.set_cons_zero, List.set_cons_succ]
      have BW := Lib.hid (HB2.out.drew)
      generalize w2.drew = w3 at *
      refine wpAnyH_ready (rs := [3, 5, 7]) (by kernel_rfl) (by simp) ?_
      refine AllReadyH.cons (by simp only [List.getElem?_toArray, List.getElem?_cons_succ, List.getElem?_cons_zero]; rfl) (fun K hK => ?_) ?_
      · have c1 : w3.cell? ⟨g, 1, none⟩ = some (.slice a b.l.length c) := (HC.out.below BW.out).cell 1
        go_simp
        clear c1
        refine hK.out _ _ (hHeld) (fun hHeld => ?_)
        try simp only [Act.put, List.setIfInBounds_toArray, List.set_cons_zero, List.set_cons_succ]
        refine wpAnyH_take (i := 6) (v := (.int .i64 b.l.length)) (by simp only [List.getElem?_toArray, List.getElem?_cons_succ, List.getElem?_cons_zero]; rfl) (by kernel_rfl) (by kernel_rfl) (by kernel_rfl) (by exact fun _ _ _ h => h) (Or.inl ⟨by rfl, by intro W hSw; go_simp; all_goals first | rfl | exact ⟨rfl, rfl, rfl, rfl, rfl, rfl⟩⟩) (by assumption) ?_
        try simp only [Act.put, List.setIfInBounds_toArray, List.set_cons_zero, List.set_cons_succ]
        refine wpAnyH_ready (rs := [5, 7]) (by kernel_rfl) (by simp) ?_
        refine AllReadyH.cons (by simp only [List.getElem?_toArray, List.getElem?_cons_succ, List.getElem?_cons_zero]; rfl) (fun K hK => ?_) ?_
        · go_simp
          refine (copy_any St t _ _ (HTM.out.below BW.out)).mono ?_
          rintro e w11 ⟨vs3, rfl, ht3, hb3⟩
          obtain ⟨_, nv3, a3, cap3, rfl, hnn3, _⟩ := id ht3.parts
          obtain ⟨na3, nc3, rfl, _, _⟩ := hnn3.slice
          obtain ⟨SC, hSC⟩ : ∃ SC : Nat → Prop, ∀ q, SC q ↔ (w3.heap.size ≤ q ∧ q < w11.heap.size) := ⟨_, fun _ => Iff.rfl⟩
          have TW := Lib.hid (ht3.mono (S' := SC) (fun q hlt hq => (hSC q).2 ⟨hq, hlt⟩))
          have HST3 := Lib.hid (show ∀ q, SC q → q < w11.heap.size from fun q hq => ((hSC q).1 hq).2)
          have HSL := Lib.hid (show ∀ q, SC q → w.heap.size < q ∧ q < w11.heap.size from fun q hq => ⟨Nat.lt_of_lt_of_le hHeld.lt ((hSC q).1 hq).1, ((hSC q).1 hq).2⟩)
          have BW := Lib.hid (BW.out.trans (hb3.mono BW.out.size))
          have hHeld := hHeld.below hb3
          clear hSC ht3 hnn3 hb3
          refine hK.out _ _ (hHeld) (fun hHeld => ?_)
          try simp only [Act.put, List.setIfInBounds_toArray, List.set_cons_zero, List.set_cons_succ]
          refine wpAnyH_ready (rs := [7]) (by kernel_rfl) (by simp) ?_
          refine AllReadyH.cons (by simp only [List.getElem?_toArray, List.getElem?_cons_succ, List.getElem?_cons_zero]; rfl) (fun K hK => ?_) AllReadyH.nil
          go_simp
          have ZW := Lib.hid (show Cells (w11.alloc (.cells #[.int .i64 0, .int .i64 0, .string ⟨#[]⟩, .int .u32 0, .slice none 0 0, .slice none 0 0] 35)) w11.heap.size 35 termZ from Cells.new w11 35 termZ)
          have HSB := Lib.hid (show w.heap.size < w11.heap.size from hHeld.lt)
          have BW := Lib.hid (BW.out.alloc BW.out.size (.cells #[.int .i64 0, .int .i64 0, .string ⟨#[]⟩, .int .u32 0, .slice none 0 0, .slice none 0 0] 35 (0, 0)))
          have TW := Lib.hid (TW.out.below (w' := (w11.alloc (.cells #[.int .i64 0, .int .i64 0, .string ⟨#[]⟩, .int .u32 0, .slice none 0 0, .slice none 0 0] 35))) ((Below.refl _ _).alloc (Nat.le_refl _) _))
          have HST3 := Lib.hid (show ∀ q, SC q → q < (w11.alloc (.cells #[.int .i64 0, .int .i64 0, .string ⟨#[]⟩, .int .u32 0, .slice none 0 0, .slice none 0 0] 35)).heap.size from fun q hq => Nat.lt_of_lt_of_le (HST3.out q hq) (by simp))
          have HSZ := Lib.hid (show ∀ q, SC q → q ≠ w11.heap.size from fun q hq e => by have := HSL.out q hq; omega)
          have HWZ := Lib.hid (show w.heap.size < w11.heap.size from hHeld.lt)
          refine hK.out _ _ (hHeld.alloc _) (fun hHeld => ?_)
          try simp only [Act.put, List.setIfInBounds_toArray, List.set_cons_zero, List.set_cons_succ]
          generalize (w11.alloc (.cells #[.int .i64 0, .int .i64 0, .string ⟨#[]⟩, .int .u32 0, .slice none 0 0, .slice none 0 0] 35)) = w22 at *
          clear HSB
          have PS := Lib.hid (put_app HFG.out (Nat.lt_of_not_le hfull) HC46.out HC.out HT.out HS.out HVS.out (show PutSt w w22 [.int .i64 t.kind, .int .i64 t.int, .string t.text, .int .u32 t.cr, .slice na2 t.nums.length nc2, .slice a2 t.args.length cap2] w11.heap.size t [.int .i64 t.kind, .int .i64 t.int, .string t.text, .int .u32 t.cr, .slice na3 t.nums.length nc3, .slice a3 t.args.length cap3] from ⟨BW.out, hHeld, ZW.out, HWZ.out, SC, TW.out, fun q hq => ⟨(HSL.out q hq).1, HST3.out q hq, HSZ.out q hq⟩⟩))
          obtain ⟨kk, cc, W2, hrun, hcc, hcm, hend⟩ := PS.out
          obtain ⟨hC2, hR2, HA, HBB⟩ := hend
          have HRUN := Lib.hid hrun
          have HA := Lib.hid HA
          have HBB := Lib.hid HBB
          clear PS hrun
          have C2 := Lib.hid hC2
          clear hC2
          refine wpAnyH_ready (rs := [8]) (by kernel_rfl) (by simp) ?_
          refine AllReadyH.cons (by simp only [List.getElem?_toArray, List.getElem?_cons_succ, List.getElem?_cons_zero]; rfl) (fun K hK => ?_) AllReadyH.nil
          refine step_app_eq (by rfl) _ _ _ _ (by rfl) _ _ (.slice (some ⟨kk, 0, none⟩) (b.l.length + 1) cc) W2 (by rfl) (by rfl) HRUN.out ?_
          refine hK.out _ _ (hR2) (fun hHeld => ?_)
          try simp only [Act.put, List.setIfInBounds_toArray, List.set_cons_zero, List.set_cons_succ]
          refine wpAnyH_take (i := 9) (v := (.pointer (some ⟨kk, b.l.length * 6, none⟩))) (by simp only [List.getElem?_toArray, List.getElem?_cons_succ, List.getElem?_cons_zero]; rfl) (by kernel_rfl) (by kernel_rfl) (by kernel_rfl) (by exact fun _ _ _ h => h) (Or.inl ⟨by rfl, by intro W hSw; have x0 := hx0; have x1 := hx1; go_simp; all_goals first | rfl | exact ⟨rfl, rfl, rfl, rfl, rfl, rfl⟩⟩) (by assumption) ?_
          try simp only [Act.put, List.setIfInBounds_toArray, List.set_cons_zero, List.set_cons_succ]
          refine wpAnyH_take (i := 11) (v := (.pointer (some ⟨g, 0, none⟩))) (by simp only [List.getElem?_toArray, List.getElem?_cons_succ, List.getElem?_cons_zero]; rfl) (by kernel_rfl) (by kernel_rfl) (by kernel_rfl) (by exact fun _ _ _ h => h) (Or.inl ⟨by rfl, by intro W hSw; go_simp; all_goals first | rfl | exact ⟨rfl, rfl, rfl, rfl, rfl, rfl⟩⟩) (by assumption) ?_
          try simp only [Act.put, List.setIfInBounds_toArray, List.set_cons_zero, List.set_cons_succ]
          refine wpAnyH_take (i := 12) (v := (.pointer (some ⟨g, 1, none⟩))) (by simp only [List.getElem?_toArray, List.getElem?_cons_succ, List.getElem?_cons_zero]; rfl) (by kernel_rfl) (by kernel_rfl) (by kernel_rfl) (by exact fun _ _ _ h => h) (Or.inl ⟨by rfl, fun _ _ => rfl⟩) (by assumption) ?_
          try simp only [Act.put, List.setIfInBounds_toArray, List.set_cons_zero, List.set_cons_succ]
          refine wpAnyH_ready (rs := [10, 13]) (by kernel_rfl) (by simp) ?_
          refine AllReadyH.cons (by simp only [List.getElem?_toArray, List.getElem?_cons_succ, List.getElem?_cons_zero]; rfl) (fun K hK => ?_) ?_
          · obtain ⟨cs, hcs, hcl, hf⟩ := HA.out
            refine step_store_blk (by rfl) _ (.tmp 32) (.tmp 28) (by rfl) kk (b.l.length * 6) [.int .i64 t.kind, .int .i64 t.int, .string t.text, .int .u32 t.cr, .slice na3 t.nums.length nc3, .slice a3 t.args.length cap3] (by rfl) (by rfl) (by kernel_rfl) (by simp [Value.oneCell']) 35 cs hcs hcl ?_
            intro w30 hC30 hg30
            obtain ⟨C5, R5, R6, RP⟩ := hf w30 hC30 hg30
            have RP := Lib.hid RP
            have R6 := Lib.hid R6
            have C5 := Lib.hid C5
            clear hC30 hg30 hcs hcl hf
            refine hK.out _ _ (R5) (fun hHeld => ?_)
            try simp only [Act.put, List.setIfInBounds_toArray, List.set_cons_zero, List.set_cons_succ]
            have c1 := C5.out.cell 1
            have f1 := C5.out.frozen 1
            simp only [bxV, List.getElem?_cons_zero, List.getElem?_cons_succ] at c1
            refine wpAnyH_ready (rs := [13]) (by kernel_rfl) (by simp) ?_
            refine AllReadyH.cons (by simp only [List.getElem?_toArray, List.getElem?_cons_succ, List.getElem?_cons_zero]; rfl) (fun K hK => ?_) AllReadyH.nil
            go_simp
            refine hK.out _ _ (R6.out) (fun hHeld => ?_)
            try simp only [Act.put, List.setIfInBounds_toArray, List.set_cons_zero, List.set_cons_succ]
            refine wpAnyH_done (by kernel_rfl) ?_ _
            go_wp2
            go_ret
            rw [HR.out]
            exact RP.out
          refine AllReadyH.cons (by simp only [List.getElem?_toArray, List.getElem?_cons_succ, List.getElem?_cons_zero]; rfl) (fun K hK => ?_) ?_
          · obtain ⟨cs, hcs, hR4, hcl, hf⟩ := HBB.out
            have c1 := C2.out.cell 1
            have f1 := C2.out.frozen 1
            simp only [bxV, List.getElem?_cons_zero, List.getElem?_cons_succ] at c1
            have HCS := Lib.hid hcs
            have HF := Lib.hid hf
            clear hcs hf
            go_simp
            clear c1 f1
            refine hK.out _ _ (hR4) (fun hHeld => ?_)
            try simp only [Act.put, List.setIfInBounds_toArray, List.set_cons_zero, List.set_cons_succ]
            refine wpAnyH_ready (rs := [10]) (by kernel_rfl) (by simp) ?_
            refine AllReadyH.cons (by simp only [List.getElem?_toArray, List.getElem?_cons_succ, List.getElem?_cons_zero]; rfl) (fun K hK => ?_) AllReadyH.nil
            refine step_store_blk (by rfl) _ (.tmp 32) (.tmp 28) (by rfl) kk (b.l.length * 6) [.int .i64 t.kind, .int .i64 t.int, .string t.text, .int .u32 t.cr, .slice na3 t.nums.length nc3, .slice a3 t.args.length cap3] (by rfl) (by rfl) (by kernel_rfl) (by simp [Value.oneCell']) 35 cs HCS.out hcl ?_
            intro w30 hC30 hg30
            obtain ⟨R5, RP⟩ := HF.out w30 hC30 hg30
            have RP := Lib.hid RP
            clear hC30 hg30 hcl HF HCS
            refine hK.out _ _ (R5) (fun hHeld => ?_)
            try simp only [Act.put, List.setIfInBounds_toArray, List.set_cons_zero, List.set_cons_succ]
            refine wpAnyH_done (by kernel_rfl) ?_ _
            go_wp2
            go_ret
            rw [HR.out]
            exact RP.out
          exact AllReadyH.nil
        refine AllReadyH.cons (by simp only [List.getElem?_toArray, List.getElem?_cons_succ, List.getElem?_cons_zero]; rfl) (fun K hK => ?_) ?_
        · go_simp
          have ZW := Lib.hid (show Cells (w3.alloc (.cells #[.int .i64 0, .int .i64 0, .string ⟨#[]⟩, .int .u32 0, .slice none 0 0, .slice none 0 0] 35)) w3.heap.size 35 termZ from Cells.new w3 35 termZ)
          have HSB := Lib.hid (show w.heap.size < w3.heap.size from hHeld.lt)
          have BW := Lib.hid (BW.out.alloc BW.out.size (.cells #[.int .i64 0, .int .i64 0, .string ⟨#[]⟩, .int .u32 0, .slice none 0 0, .slice none 0 0] 35 (0, 0)))
          have HWZ := Lib.hid (show w.heap.size < w3.heap.size from hHeld.lt)
          refine hK.out _ _ (hHeld.alloc _) (fun hHeld => ?_)
          try simp only [Act.put, List.setIfInBounds_toArray, List.set_cons_zero, List.set_cons_succ]
          generalize (w3.alloc (.cells #[.int .i64 0, .int .i64 0, .string ⟨#[]⟩, .int .u32 0, .slice none 0 0, .slice none 0 0] 35)) = w21 at *
          clear HSB
          refine wpAnyH_ready (rs := [5]) (by kernel_rfl) (by simp) ?_
          refine AllReadyH.cons (by simp only [List.getElem?_toArray, List.getElem?_cons_succ, List.getElem?_cons_zero]; rfl) (fun K hK => ?_) AllReadyH.nil
          go_simp
          refine (copy_any St t _ _ (HTM.out.below BW.out)).mono ?_
          rintro e w12 ⟨vs3, rfl, ht3, hb3⟩
          obtain ⟨_, nv3, a3, cap3, rfl, hnn3, _⟩ := id ht3.parts
          obtain ⟨na3, nc3, rfl, _, _⟩ := hnn3.slice
          obtain ⟨SC, hSC⟩ : ∃ SC : Nat → Prop, ∀ q, SC q ↔ (w21.heap.size ≤ q ∧ q < w12.heap.size) := ⟨_, fun _ => Iff.rfl⟩
          have TW := Lib.hid (ht3.mono (S' := SC) (fun q hlt hq => (hSC q).2 ⟨hq, hlt⟩))
          have HST3 := Lib.hid (show ∀ q, SC q → q < w12.heap.size from fun q hq => ((hSC q).1 hq).2)
          have HSL := Lib.hid (show ∀ q, SC q → w.heap.size < q ∧ q < w12.heap.size from fun q hq => ⟨Nat.lt_of_lt_of_le hHeld.lt ((hSC q).1 hq).1, ((hSC q).1 hq).2⟩)
          have HSZ := Lib.hid (show ∀ q, SC q → q ≠ w3.heap.size from fun q hq e => by have h1 := ((hSC q).1 hq).1; have h2 := ZW.out.lt; omega)
          have ZW := Lib.hid (ZW.out.below hb3)
          have BW := Lib.hid (BW.out.trans (hb3.mono BW.out.size))
          have hHeld := hHeld.below hb3
          clear hSC ht3 hnn3 hb3
          refine hK.out _ _ (hHeld) (fun hHeld => ?_)
          try simp only [Act.put, List.setIfInBounds_toArray, List.set_cons_zero, List.set_cons_succ]
          have PS := Lib.hid (put_app HFG.out (Nat.lt_of_not_le hfull) HC46.out HC.out HT.out HS.out HVS.out (show PutSt w w12 [.int .i64 t.kind, .int .i64 t.int, .string t.text, .int .u32 t.cr, .slice na2 t.nums.length nc2, .slice a2 t.args.length cap2] w3.heap.size t [.int .i64 t.kind, .int .i64 t.int, .string t.text, .int .u32 t.cr, .slice na3 t.nums.length nc3, .slice a3 t.args.length cap3] from ⟨BW.out, hHeld, ZW.out, HWZ.out, SC, TW.out, fun q hq => ⟨(HSL.out q hq).1, HST3.out q hq, HSZ.out q hq⟩⟩))
          obtain ⟨kk, cc, W2, hrun, hcc, hcm, hend⟩ := PS.out
          obtain ⟨hC2, hR2, HA, HBB⟩ := hend
          have HRUN := Lib.hid hrun
          have HA := Lib.hid HA
          have HBB := Lib.hid HBB
          clear PS hrun
          have C2 := Lib.hid hC2
          clear hC2
          refine wpAnyH_ready (rs := [8]) (by kernel_rfl) (by simp) ?_
          refine AllReadyH.cons (by simp only [List.getElem?_toArray, List.getElem?_cons_succ, List.getElem?_cons_zero]; rfl) (fun K hK => ?_) AllReadyH.nil
          refine step_app_eq (by rfl) _ _ _ _ (by rfl) _ _ (.slice (some ⟨kk, 0, none⟩) (b.l.length + 1) cc) W2 (by rfl) (by rfl) HRUN.out ?_
          refine hK.out _ _ (hR2) (fun hHeld => ?_)
          try simp only [Act.put, List.setIfInBounds_toArray, List.set_cons_zero, List.set_cons_succ]
          refine wpAnyH_take (i := 9) (v := (.pointer (some ⟨kk, b.l.length * 6, none⟩))) (by simp only [List.getElem?_toArray, List.getElem?_cons_succ, List.getElem?_cons_zero]; rfl) (by kernel_rfl) (by kernel_rfl) (by kernel_rfl) (by exact fun _ _ _ h => h) (Or.inl ⟨by rfl, by intro W hSw; have x0 := hx0; have x1 := hx1; go_simp; all_goals first | rfl | exact ⟨rfl, rfl, rfl, rfl, rfl, rfl⟩⟩) (by assumption) ?_
          try simp only [Act.put, List.setIfInBounds_toArray, List.set_cons_zero, List.set_cons_succ]
          refine wpAnyH_take (i := 11) (v := (.pointer (some ⟨g, 0, none⟩))) (by simp only [List.getElem?_toArray, List.getElem?_cons_succ, List.getElem?_cons_zero]; rfl) (by kernel_rfl) (by kernel_rfl) (by kernel_rfl) (by exact fun _ _ _ h => h) (Or.inl ⟨by rfl, by intro W hSw; go_simp; all_goals first | rfl | exact ⟨rfl, rfl, rfl, rfl, rfl, rfl⟩⟩) (by assumption) ?_
          try simp only [Act.put, List.setIfInBounds_toArray, List.set_cons_zero, List.set_cons_succ]
          refine wpAnyH_take (i := 12) (v := (.pointer (some ⟨g, 1, none⟩))) (by simp only [List.getElem?_toArray, List.getElem?_cons_succ, List.getElem?_cons_zero]; rfl) (by kernel_rfl) (by kernel_rfl) (by kernel_rfl) (by exact fun _ _ _ h => h) (Or.inl ⟨by rfl, fun _ _ => rfl⟩) (by assumption) ?_
          try simp only [Act.put, List.setIfInBounds_toArray, List.set_cons_zero, List.set_cons_succ]
          refine wpAnyH_ready (rs := [10, 13]) (by kernel_rfl) (by simp) ?_
          refine AllReadyH.cons (by simp only [List.getElem?_toArray, List.getElem?_cons_succ, List.getElem?_cons_zero]; rfl) (fun K hK => ?_) ?_
          · obtain ⟨cs, hcs, hcl, hf⟩ := HA.out
            refine step_store_blk (by rfl) _ (.tmp 32) (.tmp 28) (by rfl) kk (b.l.length * 6) [.int .i64 t.kind, .int .i64 t.int, .string t.text, .int .u32 t.cr, .slice na3 t.nums.length nc3, .slice a3 t.args.length cap3] (by rfl) (by rfl) (by kernel_rfl) (by simp [Value.oneCell']) 35 cs hcs hcl ?_
            intro w30 hC30 hg30
            obtain ⟨C5, R5, R6, RP⟩ := hf w30 hC30 hg30
            have RP := Lib.hid RP
            have R6 := Lib.hid R6
            have C5 := Lib.hid C5
            clear hC30 hg30 hcs hcl hf
            refine hK.out _ _ (R5) (fun hHeld => ?_)
            try simp only [Act.put, List.setIfInBounds_toArray, List.set_cons_zero, List.set_cons_succ]
            have c1 := C5.out.cell 1
            have f1 := C5.out.frozen 1
            simp only [bxV, List.getElem?_cons_zero, List.getElem?_cons_succ] at c1
            refine wpAnyH_ready (rs := [13]) (by kernel_rfl) (by simp) ?_
            refine AllReadyH.cons (by simp only [List.getElem?_toArray, List.getElem?_cons_succ, List.getElem?_cons_zero]; rfl) (fun K hK => ?_) AllReadyH.nil
            go_simp
            refine hK.out _ _ (R6.out) (fun hHeld => ?_)
            try simp only [Act.put, List.setIfInBounds_toArray, List.set_cons_zero, List.set_cons_succ]
            refine wpAnyH_done (by kernel_rfl) ?_ _
            go_wp2
            go_ret
            rw [HR.out]
            exact RP.out
          refine AllReadyH.cons (by simp only [List.getElem?_toArray, List.getElem?_cons_succ, List.getElem?_cons_zero]; rfl) (fun K hK => ?_) ?_
          · obtain ⟨cs, hcs, hR4, hcl, hf⟩ := HBB.out
            have c1 := C2.out.cell 1
            have f1 := C2.out.frozen 1
            simp only [bxV, List.getElem?_cons_zero, List.getElem?_cons_succ] at c1
            have HCS := Lib.hid hcs
            have HF := Lib.hid hf
            clear hcs hf
            go_simp
            clear c1 f1
            refine hK.out _ _ (hR4) (fun hHeld => ?_)
            try simp only [Act.put, List.setIfInBounds_toArray, List.set_cons_zero, List.set_cons_succ]
            refine wpAnyH_ready (rs := [10]) (by kernel_rfl) (by simp) ?_
            refine AllReadyH.cons (by simp only [List.getElem?_toArray, List.getElem?_cons_succ, List.getElem?_cons_zero]; rfl) (fun K hK => ?_) AllReadyH.nil
            refine step_store_blk (by rfl) _ (.tmp 32) (.tmp 28) (by rfl) kk (b.l.length * 6) [.int .i64 t.kind, .int .i64 t.int, .string t.text, .int .u32 t.cr, .slice na3 t.nums.length nc3, .slice a3 t.args.length cap3] (by rfl) (by rfl) (by kernel_rfl) (by simp [Value.oneCell']) 35 cs HCS.out hcl ?_
            intro w30 hC30 hg30
            obtain ⟨R5, RP⟩ := HF.out w30 hC30 hg30
            have RP := Lib.hid RP
            clear hC30 hg30 hcl HF HCS
            refine hK.out _ _ (R5) (fun hHeld => ?_)
            try simp only [Act.put, List.setIfInBounds_toArray, List.set_cons_zero, List.set_cons_succ]
            refine wpAnyH_done (by kernel_rfl) ?_ _
            go_wp2
            go_ret
            rw [HR.out]
            exact RP.out
          exact AllReadyH.nil
        exact AllReadyH.nil
      refine AllReadyH.cons (by simp only [List.getElem?_toArray, List.getElem?_cons_succ, List.getElem?_cons_zero]; rfl) (fun K hK => ?_) ?_
      · go_simp
        refine (copy_any St t _ _ (HTM.out.below BW.out)).mono ?_
        rintro e w10 ⟨vs3, rfl, ht3, hb3⟩
        obtain ⟨_, nv3, a3, cap3, rfl, hnn3, _⟩ := id ht3.parts
        obtain ⟨na3, nc3, rfl, _, _⟩ := hnn3.slice
        obtain ⟨SC, hSC⟩ : ∃ SC : Nat → Prop, ∀ q, SC q ↔ (w3.heap.size ≤ q ∧ q < w10.heap.size) := ⟨_, fun _ => Iff.rfl⟩
        have TW := Lib.hid (ht3.mono (S' := SC) (fun q hlt hq => (hSC q).2 ⟨hq, hlt⟩))
        have HST3 := Lib.hid (show ∀ q, SC q → q < w10.heap.size from fun q hq => ((hSC q).1 hq).2)
        have HSL := Lib.hid (show ∀ q, SC q → w.heap.size < q ∧ q < w10.heap.size from fun q hq => ⟨Nat.lt_of_lt_of_le hHeld.lt ((hSC q).1 hq).1, ((hSC q).1 hq).2⟩)
        have BW := Lib.hid (BW.out.trans (hb3.mono BW.out.size))
        have hHeld := hHeld.below hb3
        clear hSC ht3 hnn3 hb3
        refine hK.out _ _ (hHeld) (fun hHeld => ?_)
        try simp only [Act.put, List.setIfInBounds_toArray, List.set_cons_zero, List.set_cons_succ]
        refine wpAnyH_ready (rs := [3, 7]) (by kernel_rfl) (by simp) ?_
        refine AllReadyH.cons (by simp only [List.getElem?_toArray, List.getElem?_cons_succ, List.getElem?_cons_zero]; rfl) (fun K hK => ?_) ?_
        · have c1 : w10.cell? ⟨g, 1, none⟩ = some (.slice a b.l.length c) := (HC.out.below BW.out).cell 1
          go_simp
          clear c1
          refine hK.out _ _ (hHeld) (fun hHeld => ?_)
          try simp only [Act.put, List.setIfInBounds_toArray, List.set_cons_zero, List.set_cons_succ]
          refine wpAnyH_take (i := 6) (v := (.int .i64 b.l.length)) (by simp only [List.getElem?_toArray, List.getElem?_cons_succ, List.getElem?_cons_zero]; rfl) (by kernel_rfl) (by kernel_rfl) (by kernel_rfl) (by exact fun _ _ _ h => h) (Or.inl ⟨by rfl, by intro W hSw; go_simp; all_goals first | rfl | exact ⟨rfl, rfl, rfl, rfl, rfl, rfl⟩⟩) (by assumption) ?_
          try simp only [Act.put, List.setIfInBounds_toArray, List.set_cons_zero, List.set_cons_succ]
          refine wpAnyH_ready (rs := [7]) (by kernel_rfl) (by simp) ?_
          refine AllReadyH.cons (by simp only [List.getElem?_toArray, List.getElem?_cons_succ, List.getElem?_cons_zero]; rfl) (fun K hK => ?_) AllReadyH.nil
          go_simp
          have ZW := Lib.hid (show Cells (w10.alloc (.cells #[.int .i64 0, .int .i64 0, .string ⟨#[]⟩, .int .u32 0, .slice none 0 0, .slice none 0 0] 35)) w10.heap.size 35 termZ from Cells.new w10 35 termZ)
          have HSB := Lib.hid (show w.heap.size < w10.heap.size from hHeld.lt)
          have BW := Lib.hid (BW.out.alloc BW.out.size (.cells #[.int .i64 0, .int .i64 0, .string ⟨#[]⟩, .int .u32 0, .slice none 0 0, .slice none 0 0] 35 (0, 0)))
          have TW := Lib.hid (TW.out.below (w' := (w10.alloc (.cells #[.int .i64 0, .int .i64 0, .string ⟨#[]⟩, .int .u32 0, .slice none 0 0, .slice none 0 0] 35))) ((Below.refl _ _).alloc (Nat.le_refl _) _))
          have HST3 := Lib.hid (show ∀ q, SC q → q < (w10.alloc (.cells #[.int .i64 0, .int .i64 0, .string ⟨#[]⟩, .int .u32 0, .slice none 0 0, .slice none 0 0] 35)).heap.size from fun q hq => Nat.lt_of_lt_of_le (HST3.out q hq) (by simp))
          have HSZ := Lib.hid (show ∀ q, SC q → q ≠ w10.heap.size from fun q hq e => by have := HSL.out q hq; omega)
          have HWZ := Lib.hid (show w.heap.size < w10.heap.size from hHeld.lt)
          refine hK.out _ _ (hHeld.alloc _) (fun hHeld => ?_)
          try simp only [Act.put, List.setIfInBounds_toArray, List.set_cons_zero, List.set_cons_succ]
          generalize (w10.alloc (.cells #[.int .i64 0, .int .i64 0, .string ⟨#[]⟩, .int .u32 0, .slice none 0 0, .slice none 0 0] 35)) = w22 at *
          clear HSB
          have PS := Lib.hid (put_app HFG.out (Nat.lt_of_not_le hfull) HC46.out HC.out HT.out HS.out HVS.out (show PutSt w w22 [.int .i64 t.kind, .int .i64 t.int, .string t.text, .int .u32 t.cr, .slice na2 t.nums.length nc2, .slice a2 t.args.length cap2] w10.heap.size t [.int .i64 t.kind, .int .i64 t.int, .string t.text, .int .u32 t.cr, .slice na3 t.nums.length nc3, .slice a3 t.args.length cap3] from ⟨BW.out, hHeld, ZW.out, HWZ.out, SC, TW.out, fun q hq => ⟨(HSL.out q hq).1, HST3.out q hq, HSZ.out q hq⟩⟩))
          obtain ⟨kk, cc, W2, hrun, hcc, hcm, hend⟩ := PS.out
          obtain ⟨hC2, hR2, HA, HBB⟩ := hend
          have HRUN := Lib.hid hrun
          have HA := Lib.hid HA
          have HBB := Lib.hid HBB
          clear PS hrun
          have C2 := Lib.hid hC2
          clear hC2
          refine wpAnyH_ready (rs := [8]) (by kernel_rfl) (by simp) ?_
          refine AllReadyH.cons (by simp only [List.getElem?_toArray, List.getElem?_cons_succ, List.getElem?_cons_zero]; rfl) (fun K hK => ?_) AllReadyH.nil
          refine step_app_eq (by rfl) _ _ _ _ (by rfl) _ _ (.slice (some ⟨kk, 0, none⟩) (b.l.length + 1) cc) W2 (by rfl) (by rfl) HRUN.out ?_
          refine hK.out _ _ (hR2) (fun hHeld => ?_)
          try simp only [Act.put, List.setIfInBounds_toArray, List.set_cons_zero, List.set_cons_succ]
          refine wpAnyH_take (i := 9) (v := (.pointer (some ⟨kk, b.l.length * 6, none⟩))) (by simp only [List.getElem?_toArray, List.getElem?_cons_succ, List.getElem?_cons_zero]; rfl) (by kernel_rfl) (by kernel_rfl) (by kernel_rfl) (by exact fun _ _ _ h => h) (Or.inl ⟨by rfl, by intro W hSw; have x0 := hx0; have x1 := hx1; go_simp; all_goals first | rfl | exact ⟨rfl, rfl, rfl, rfl, rfl, rfl⟩⟩) (by assumption) ?_
          try simp only [Act.put, List.setIfInBounds_toArray, List.set_cons_zero, List.set_cons_succ]
          refine wpAnyH_take (i := 11) (v := (.pointer (some ⟨g, 0, none⟩))) (by simp only [List.getElem?_toArray, List.getElem?_cons_succ, List.getElem?_cons_zero]; rfl) (by kernel_rfl) (by kernel_rfl) (by kernel_rfl) (by exact fun _ _ _ h => h) (Or.inl ⟨by rfl, by intro W hSw; go_simp; all_goals first | rfl | exact ⟨rfl, rfl, rfl, rfl, rfl, rfl⟩⟩) (by assumption) ?_
          try simp only [Act.put, List.setIfInBounds_toArray, List.set_cons_zero, List.set_cons_succ]
          refine wpAnyH_take (i := 12) (v := (.pointer (some ⟨g, 1, none⟩))) (by simp only [List.getElem?_toArray, List.getElem?_cons_succ, List.getElem?_cons_zero]; rfl) (by kernel_rfl) (by kernel_rfl) (by kernel_rfl) (by exact fun _ _ _ h => h) (Or.inl ⟨by rfl, fun _ _ => rfl⟩) (by assumption) ?_
          try simp only [Act.put, List.setIfInBounds_toArray, List.set_cons_zero, List.set_cons_succ]
          refine wpAnyH_ready (rs := [10, 13]) (by kernel_rfl) (by simp) ?_
          refine AllReadyH.cons (by simp only [List.getElem?_toArray, List.getElem?_cons_succ, List.getElem?_cons_zero]; rfl) (fun K hK => ?_) ?_
          · obtain ⟨cs, hcs, hcl, hf⟩ := HA.out
            refine step_store_blk (by rfl) _ (.tmp 32) (.tmp 28) (by rfl) kk (b.l.length * 6) [.int .i64 t.kind, .int .i64 t.int, .string t.text, .int .u32 t.cr, .slice na3 t.nums.length nc3, .slice a3 t.args.length cap3] (by rfl) (by rfl) (by kernel_rfl) (by simp [Value.oneCell']) 35 cs hcs hcl ?_
            intro w30 hC30 hg30
            obtain ⟨C5, R5, R6, RP⟩ := hf w30 hC30 hg30
            have RP := Lib.hid RP
            have R6 := Lib.hid R6
            have C5 := Lib.hid C5
            clear hC30 hg30 hcs hcl hf
            refine hK.out _ _ (R5) (fun hHeld => ?_)
            try simp only [Act.put, List.setIfInBounds_toArray, List.set_cons_zero, List.set_cons_succ]
            have c1 := C5.out.cell 1
            have f1 := C5.out.frozen 1
            simp only [bxV, List.getElem?_cons_zero, List.getElem?_cons_succ] at c1
            refine wpAnyH_ready (rs := [13]) (by kernel_rfl) (by simp) ?_
            refine AllReadyH.cons (by simp only [List.getElem?_toArray, List.getElem?_cons_succ, List.getElem?_cons_zero]; rfl) (fun K hK => ?_) AllReadyH.nil
            go_simp
            refine hK.out _ _ (R6.out) (fun hHeld => ?_)
            try simp only [Act.put, List.setIfInBounds_toArray, List.set_cons_zero, List.set_cons_succ]
            refine wpAnyH_done (by kernel_rfl) ?_ _
            go_wp2
            go_ret
            rw [HR.out]
            exact RP.out
          refine AllReadyH.cons (by simp only [List.getElem?_toArray, List.getElem?_cons_succ, List.getElem?_cons_zero]; rfl) (fun K hK => ?_) ?_
          · obtain ⟨cs, hcs, hR4, hcl, hf⟩ := HBB.out
            have c1 := C2.out.cell 1
            have f1 := C2.out.frozen 1
            simp only [bxV, List.getElem?_cons_zero, List.getElem?_cons_succ] at c1
            have HCS := Lib.hid hcs
            have HF := Lib.hid hf
            clear hcs hf
            go_simp
            clear c1 f1
            refine hK.out _ _ (hR4) (fun hHeld => ?_)
            try simp only [Act.put, List.setIfInBounds_toArray, List.set_cons_zero, List.set_cons_succ]
            refine wpAnyH_ready (rs := [10]) (by kernel_rfl) (by simp) ?_
            refine AllReadyH.cons (by simp only [List.getElem?_toArray, List.getElem?_cons_succ, List.getElem?_cons_zero]; rfl) (fun K hK => ?_) AllReadyH.nil
            refine step_store_blk (by rfl) _ (.tmp 32) (.tmp 28) (by rfl) kk (b.l.length * 6) [.int .i64 t.kind, .int .i64 t.int, .string t.text, .int .u32 t.cr, .slice na3 t.nums.length nc3, .slice a3 t.args.length cap3] (by rfl) (by rfl) (by kernel_rfl) (by simp [Value.oneCell']) 35 cs HCS.out hcl ?_
            intro w30 hC30 hg30
            obtain ⟨R5, RP⟩ := HF.out w30 hC30 hg30
            have RP := Lib.hid RP
            clear hC30 hg30 hcl HF HCS
            refine hK.out _ _ (R5) (fun hHeld => ?_)
            try simp only [Act.put, List.setIfInBounds_toArray, List.set_cons_zero, List.set_cons_succ]
            refine wpAnyH_done (by kernel_rfl) ?_ _
            go_wp2
            go_ret
            rw [HR.out]
            exact RP.out
          exact AllReadyH.nil
        refine AllReadyH.cons (by simp only [List.getElem?_toArray, List.getElem?_cons_succ, List.getElem?_cons_zero]; rfl) (fun K hK => ?_) ?_
        · go_simp
          have ZW := Lib.hid (show Cells (w10.alloc (.cells #[.int .i64 0, .int .i64 0, .string ⟨#[]⟩, .int .u32 0, .slice none 0 0, .slice none 0 0] 35)) w10.heap.size 35 termZ from Cells.new w10 35 termZ)
          have HSB := Lib.hid (show w.heap.size < w10.heap.size from hHeld.lt)
          have BW := Lib.hid (BW.out.alloc BW.out.size (.cells #[.int .i64 0, .int .i64 0, .string ⟨#[]⟩, .int .u32 0, .slice none 0 0, .slice none 0 0] 35 (0, 0)))
          have TW := Lib.hid (TW.out.below (w' := (w10.alloc (.cells #[.int .i64 0, .int .i64 0, .string ⟨#[]⟩, .int .u32 0, .slice none 0 0, .slice none 0 0] 35))) ((Below.refl _ _).alloc (Nat.le_refl _) _))
          have HST3 := Lib.hid (show ∀ q, SC q → q < (w10.alloc (.cells #[.int .i64 0, .int .i64 0, .string ⟨#[]⟩, .int .u32 0, .slice none 0 0, .slice none 0 0] 35)).heap.size from fun q hq => Nat.lt_of_lt_of_le (HST3.out q hq) (by simp))
          have HSZ := Lib.hid (show ∀ q, SC q → q ≠ w10.heap.size from fun q hq e => by have := HSL.out q hq; omega)
          have HWZ := Lib.hid (show w.heap.size < w10.heap.size from hHeld.lt)
          refine hK.out _ _ (hHeld.alloc _) (fun hHeld => ?_)
          try simp only [Act.put, List.setIfInBounds_toArray, List.set_cons_zero, List.set_cons_succ]
          generalize (w10.alloc (.cells #[.int .i64 0, .int .i64 0, .string ⟨#[]⟩, .int .u32 0, .slice none 0 0, .slice none 0 0] 35)) = w21 at *
          clear HSB
          refine wpAnyH_ready (rs := [3]) (by kernel_rfl) (by simp) ?_
          refine AllReadyH.cons (by simp only [List.getElem?_toArray, List.getElem?_cons_succ, List.getElem?_cons_zero]; rfl) (fun K hK => ?_) AllReadyH.nil
          have c1 : w21.cell? ⟨g, 1, none⟩ = some (.slice a b.l.length c) := (HC.out.below BW.out).cell 1
          go_simp
          clear c1
          refine hK.out _ _ (hHeld) (fun hHeld => ?_)
          try simp only [Act.put, List.setIfInBounds_toArray, List.set_cons_zero, List.set_cons_succ]
          refine wpAnyH_take (i := 6) (v := (.int .i64 b.l.length)) (by simp only [List.getElem?_toArray, List.getElem?_cons_succ, List.getElem?_cons_zero]; rfl) (by kernel_rfl) (by kernel_rfl) (by kernel_rfl) (by exact fun _ _ _ h => h) (Or.inl ⟨by rfl, by intro W hSw; go_simp; all_goals first | rfl | exact ⟨rfl, rfl, rfl, rfl, rfl, rfl⟩⟩) (by assumption) ?_
          try simp only [Act.put, List.setIfInBounds_toArray, List.set_cons_zero, List.set_cons_succ]
          have PS := Lib.hid (put_app HFG.out (Nat.lt_of_not_le hfull) HC46.out HC.out HT.out HS.out HVS.out (show PutSt w w21 [.int .i64 t.kind, .int .i64 t.int, .string t.text, .int .u32 t.cr, .slice na2 t.nums.length nc2, .slice a2 t.args.length cap2] w10.heap.size t [.int .i64 t.kind, .int .i64 t.int, .string t.text, .int .u32 t.cr, .slice na3 t.nums.length nc3, .slice a3 t.args.length cap3] from ⟨BW.out, hHeld, ZW.out, HWZ.out, SC, TW.out, fun q hq => ⟨(HSL.out q hq).1, HST3.out q hq, HSZ.out q hq⟩⟩))
          obtain ⟨kk, cc, W2, hrun, hcc, hcm, hend⟩ := PS.out
          obtain ⟨hC2, hR2, HA, HBB⟩ := hend
          have HRUN := Lib.hid hrun
          have HA := Lib.hid HA
          have HBB := Lib.hid HBB
          clear PS hrun
          have C2 := Lib.hid hC2
          clear hC2
          refine wpAnyH_ready (rs := [8]) (by kernel_rfl) (by simp) ?_
          refine AllReadyH.cons (by simp only [List.getElem?_toArray, List.getElem?_cons_succ, List.getElem?_cons_zero]; rfl) (fun K hK => ?_) AllReadyH.nil
          refine step_app_eq (by rfl) _ _ _ _ (by rfl) _ _ (.slice (some ⟨kk, 0, none⟩) (b.l.length + 1) cc) W2 (by rfl) (by rfl) HRUN.out ?_
          refine hK.out _ _ (hR2) (fun hHeld => ?_)
          try simp only [Act.put, List.setIfInBounds_toArray, List.set_cons_zero, List.set_cons_succ]
          refine wpAnyH_take (i := 9) (v := (.pointer (some ⟨kk, b.l.length * 6, none⟩))) (by simp only [List.getElem?_toArray, List.getElem?_cons_succ, List.getElem?_cons_zero]; rfl) (by kernel_rfl) (by kernel_rfl) (by kernel_rfl) (by exact fun _ _ _ h => h) (Or.inl ⟨by rfl, by intro W hSw; have x0 := hx0; have x1 := hx1; go_simp; all_goals first | rfl | exact ⟨rfl, rfl, rfl, rfl, rfl, rfl⟩⟩) (by assumption) ?_
          try simp only [Act.put, List.setIfInBounds_toArray, List.set_cons_zero, List.set_cons_succ]
          refine wpAnyH_take (i := 11) (v := (.pointer (some ⟨g, 0, none⟩))) (by simp only [List.getElem?_toArray, List.getElem?_cons_succ, List.getElem?_cons_zero]; rfl) (by kernel_rfl) (by kernel_rfl) (by kernel_rfl) (by exact fun _ _ _ h => h) (Or.inl ⟨by rfl, by intro W hSw; go_simp; all_goals first | rfl | exact ⟨rfl, rfl, rfl, rfl, rfl, rfl⟩⟩) (by assumption) ?_
          try simp only [Act.put, List.setIfInBounds_toArray, List.set_cons_zero, List.set_cons_succ]
          refine wpAnyH_take (i := 12) (v := (.pointer (some ⟨g, 1, none⟩))) (by simp only [List.getElem?_toArray, List.getElem?_cons_succ, List.getElem?_cons_zero]; rfl) (by kernel_rfl) (by kernel_rfl) (by kernel_rfl) (by exact fun _ _ _ h => h) (Or.inl ⟨by rfl, fun _ _ => rfl⟩) (by assumption) ?_
          try simp only [Act.put, List.setIfInBounds_toArray, List.set_cons_zero, List.set_cons_succ]
          refine wpAnyH_ready (rs := [10, 13]) (by kernel_rfl) (by simp) ?_
          refine AllReadyH.cons (by simp only [List.getElem?_toArray, List.getElem?_cons_succ, List.getElem?_cons_zero]; rfl) (fun K hK => ?_) ?_
          · obtain ⟨cs, hcs, hcl, hf⟩ := HA.out
            refine step_store_blk (by rfl) _ (.tmp 32) (.tmp 28) (by rfl) kk (b.l.length * 6) [.int .i64 t.kind, .int .i64 t.int, .string t.text, .int .u32 t.cr, .slice na3 t.nums.length nc3, .slice a3 t.args.length cap3] (by rfl) (by rfl) (by kernel_rfl) (by simp [Value.oneCell']) 35 cs hcs hcl ?_
            intro w30 hC30 hg30
            obtain ⟨C5, R5, R6, RP⟩ := hf w30 hC30 hg30
            have RP := Lib.hid RP
            have R6 := Lib.hid R6
            have C5 := Lib.hid C5
            clear hC30 hg30 hcs hcl hf
            refine hK.out _ _ (R5) (fun hHeld => ?_)
            try simp only [Act.put, List.setIfInBounds_toArray, List.set_cons_zero, List.set_cons_succ]
            have c1 := C5.out.cell 1
            have f1 := C5.out.frozen 1
            simp only [bxV, List.getElem?_cons_zero, List.getElem?_cons_succ] at c1
            refine wpAnyH_ready (rs := [13]) (by kernel_rfl) (by simp) ?_
            refine AllReadyH.cons (by simp only [List.getElem?_toArray, List.getElem?_cons_succ, List.getElem?_cons_zero]; rfl) (fun K hK => ?_) AllReadyH.nil
            go_simp
            refine hK.out _ _ (R6.out) (fun hHeld => ?_)
            try simp only [Act.put, List.setIfInBounds_toArray, List.set_cons_zero, List.set_cons_succ]
            refine wpAnyH_done (by kernel_rfl) ?_ _
            go_wp2
            go_ret
            rw [HR.out]
            exact RP.out
          refine AllReadyH.cons (by simp only [List.getElem?_toArray, List.getElem?_cons_succ, List.getElem?_cons_zero]; rfl) (fun K hK => ?_) ?_
          · obtain ⟨cs, hcs, hR4, hcl, hf⟩ := HBB.out
            have c1 := C2.out.cell 1
            have f1 := C2.out.frozen 1
            simp only [bxV, List.getElem?_cons_zero, List.getElem?_cons_succ] at c1
            have HCS := Lib.hid hcs
            have HF := Lib.hid hf
            clear hcs hf
            go_simp
            clear c1 f1
            refine hK.out _ _ (hR4) (fun hHeld => ?_)
            try simp only [Act.put, List.setIfInBounds_toArray, List.set_cons_zero, List.set_cons_succ]
            refine wpAnyH_ready (rs := [10]) (by kernel_rfl) (by simp) ?_
            refine AllReadyH.cons (by simp only [List.getElem?_toArray, List.getElem?_cons_succ, List.getElem?_cons_zero]; rfl) (fun K hK => ?_) AllReadyH.nil
            refine step_store_blk (by rfl) _ (.tmp 32) (.tmp 28) (by rfl) kk (b.l.length * 6) [.int .i64 t.kind, .int .i64 t.int, .string t.text, .int .u32 t.cr, .slice na3 t.nums.length nc3, .slice a3 t.args.length cap3] (by rfl) (by rfl) (by kernel_rfl) (by simp [Value.oneCell']) 35 cs HCS.out hcl ?_
            intro w30 hC30 hg30
            obtain ⟨R5, RP⟩ := HF.out w30 hC30 hg30
            have RP := Lib.hid RP
            clear hC30 hg30 hcl HF HCS
            refine hK.out _ _ (R5) (fun hHeld => ?_)
            try simp only [Act.put, List.setIfInBounds_toArray, List.set_cons_zero, List.set_cons_succ]
            refine wpAnyH_done (by kernel_rfl) ?_ _
            go_wp2
            go_ret
            rw [HR.out]
            exact RP.out
          exact AllReadyH.nil
        exact AllReadyH.nil
      refine AllReadyH.cons (by simp only [List.getElem?_toArray, List.getElem?_cons_succ, List.getElem?_cons_zero]; rfl) (fun K hK => ?_) ?_
      · go_simp
        have ZW := Lib.hid (show Cells (w3.alloc (.cells #[.int .i64 0, .int .i64 0, .string ⟨#[]⟩, .int .u32 0, .slice none 0 0, .slice none 0 0] 35)) w3.heap.size 35 termZ from Cells.new w3 35 termZ)
        have HSB := Lib.hid (show w.heap.size < w3.heap.size from hHeld.lt)
        have BW := Lib.hid (BW.out.alloc BW.out.size (.cells #[.int .i64 0, .int .i64 0, .string ⟨#[]⟩, .int .u32 0, .slice none 0 0, .slice none 0 0] 35 (0, 0)))
        have HWZ := Lib.hid (show w.heap.size < w3.heap.size from hHeld.lt)
        refine hK.out _ _ (hHeld.alloc _) (fun hHeld => ?_)
        try simp only [Act.put, List.setIfInBounds_toArray, List.set_cons_zero, List.set_cons_succ]
        generalize (w3.alloc (.cells #[.int .i64 0, .int .i64 0, .string ⟨#[]⟩, .int .u32 0, .slice none 0 0, .slice none 0 0] 35)) = w20 at *
        clear HSB
        refine wpAnyH_ready (rs := [3, 5]) (by kernel_rfl) (by simp) ?_
        refine AllReadyH.cons (by simp only [List.getElem?_toArray, List.getElem?_cons_succ, List.getElem?_cons_zero]; rfl) (fun K hK => ?_) ?_
        · have c1 : w20.cell? ⟨g, 1, none⟩ = some (.slice a b.l.length c) := (HC.out.below BW.out).cell 1
          go_simp
          clear c1
          refine hK.out _ _ (hHeld) (fun hHeld => ?_)
          try simp only [Act.put, List.setIfInBounds_toArray, List.set_cons_zero, List.set_cons_succ]
          refine wpAnyH_take (i := 6) (v := (.int .i64 b.l.length)) (by simp only [List.getElem?_toArray, List.getElem?_cons_succ, List.getElem?_cons_zero]; rfl) (by kernel_rfl) (by kernel_rfl) (by kernel_rfl) (by exact fun _ _ _ h => h) (Or.inl ⟨by rfl, by intro W hSw; go_simp; all_goals first | rfl | exact ⟨rfl, rfl, rfl, rfl, rfl, rfl⟩⟩) (by assumption) ?_
          try simp only [Act.put, List.setIfInBounds_toArray, List.set_cons_zero, List.set_cons_succ]
          refine wpAnyH_ready (rs := [5]) (by kernel_rfl) (by simp) ?_
          refine AllReadyH.cons (by simp only [List.getElem?_toArray, List.getElem?_cons_succ, List.getElem?_cons_zero]; rfl) (fun K hK => ?_) AllReadyH.nil
          go_simp
          refine (copy_any St t _ _ (HTM.out.below BW.out)).mono ?_
          rintro e w12 ⟨vs3, rfl, ht3, hb3⟩
          obtain ⟨_, nv3, a3, cap3, rfl, hnn3, _⟩ := id ht3.parts
          obtain ⟨na3, nc3, rfl, _, _⟩ := hnn3.slice
          obtain ⟨SC, hSC⟩ : ∃ SC : Nat → Prop, ∀ q, SC q ↔ (w20.heap.size ≤ q ∧ q < w12.heap.size) := ⟨_, fun _ => Iff.rfl⟩
          have TW := Lib.hid (ht3.mono (S' := SC) (fun q hlt hq => (hSC q).2 ⟨hq, hlt⟩))
          have HST3 := Lib.hid (show ∀ q, SC q → q < w12.heap.size from fun q hq => ((hSC q).1 hq).2)
          have HSL := Lib.hid (show ∀ q, SC q → w.heap.size < q ∧ q < w12.heap.size from fun q hq => ⟨Nat.lt_of_lt_of_le hHeld.lt ((hSC q).1 hq).1, ((hSC q).1 hq).2⟩)
          have HSZ := Lib.hid (show ∀ q, SC q → q ≠ w3.heap.size from fun q hq e => by have h1 := ((hSC q).1 hq).1; have h2 := ZW.out.lt; omega)
          have ZW := Lib.hid (ZW.out.below hb3)
          have BW := Lib.hid (BW.out.trans (hb3.mono BW.out.size))
          have hHeld := hHeld.below hb3
          clear hSC ht3 hnn3 hb3
          refine hK.out _ _ (hHeld) (fun hHeld => ?_)
          try simp only [Act.put, List.setIfInBounds_toArray, List.set_cons_zero, List.set_cons_succ]
          have PS := Lib.hid (put_app HFG.out (Nat.lt_of_not_le hfull) HC46.out HC.out HT.out HS.out HVS.out (show PutSt w w12 [.int .i64 t.kind, .int .i64 t.int, .string t.text, .int .u32 t.cr, .slice na2 t.nums.length nc2, .slice a2 t.args.length cap2] w3.heap.size t [.int .i64 t.kind, .int .i64 t.int, .string t.text, .int .u32 t.cr, .slice na3 t.nums.length nc3, .slice a3 t.args.length cap3] from ⟨BW.out, hHeld, ZW.out, HWZ.out, SC, TW.out, fun q hq => ⟨(HSL.out q hq).1, HST3.out q hq, HSZ.out q hq⟩⟩))
          obtain ⟨kk, cc, W2, hrun, hcc, hcm, hend⟩ := PS.out
          obtain ⟨hC2, hR2, HA, HBB⟩ := hend
          have HRUN := Lib.hid hrun
          have HA := Lib.hid HA
          have HBB := Lib.hid HBB
          clear PS hrun
          have C2 := Lib.hid hC2
          clear hC2
          refine wpAnyH_ready (rs := [8]) (by kernel_rfl) (by simp) ?_
          refine AllReadyH.cons (by simp only [List.getElem?_toArray, List.getElem?_cons_succ, List.getElem?_cons_zero]; rfl) (fun K hK => ?_) AllReadyH.nil
          refine step_app_eq (by rfl) _ _ _ _ (by rfl) _ _ (.slice (some ⟨kk, 0, none⟩) (b.l.length + 1) cc) W2 (by rfl) (by rfl) HRUN.out ?_
          refine hK.out _ _ (hR2) (fun hHeld => ?_)
          try simp only [Act.put, List.setIfInBounds_toArray, List.set_cons_zero, List.set_cons_succ]
          refine wpAnyH_take (i := 9) (v := (.pointer (some ⟨kk, b.l.length * 6, none⟩))) (by simp only [List.getElem?_toArray, List.getElem?_cons_succ, List.getElem?_cons_zero]; rfl) (by kernel_rfl) (by kernel_rfl) (by kernel_rfl) (by exact fun _ _ _ h => h) (Or.inl ⟨by rfl, by intro W hSw; have x0 := hx0; have x1 := hx1; go_simp; all_goals first | rfl | exact ⟨rfl, rfl, rfl, rfl, rfl, rfl⟩⟩) (by assumption) ?_
          try simp only [Act.put, List.setIfInBounds_toArray, List.set_cons_zero, List.set_cons_succ]
          refine wpAnyH_take (i := 11) (v := (.pointer (some ⟨g, 0, none⟩))) (by simp only [List.getElem?_toArray, List.getElem?_cons_succ, List.getElem?_cons_zero]; rfl) (by kernel_rfl) (by kernel_rfl) (by kernel_rfl) (by exact fun _ _ _ h => h) (Or.inl ⟨by rfl, by intro W hSw; go_simp; all_goals first | rfl | exact ⟨rfl, rfl, rfl, rfl, rfl, rfl⟩⟩) (by assumption) ?_
          try simp only [Act.put, List.setIfInBounds_toArray, List.set_cons_zero, List.set_cons_succ]
          refine wpAnyH_take (i := 12) (v := (.pointer (some ⟨g, 1, none⟩))) (by simp only [List.getElem?_toArray, List.getElem?_cons_succ, List.getElem?_cons_zero]; rfl) (by kernel_rfl) (by kernel_rfl) (by kernel_rfl) (by exact fun _ _ _ h => h) (Or.inl ⟨by rfl, fun _ _ => rfl⟩) (by assumption) ?_
          try simp only [Act.put, List.setIfInBounds_toArray, List.set_cons_zero, List.set_cons_succ]
          refine wpAnyH_ready (rs := [10, 13]) (by kernel_rfl) (by simp) ?_
          refine AllReadyH.cons (by simp only [List.getElem?_toArray, List.getElem?_cons_succ, List.getElem?_cons_zero]; rfl) (fun K hK => ?_) ?_
          · obtain ⟨cs, hcs, hcl, hf⟩ := HA.out
            refine step_store_blk (by rfl) _ (.tmp 32) (.tmp 28) (by rfl) kk (b.l.length * 6) [.int .i64 t.kind, .int .i64 t.int, .string t.text, .int .u32 t.cr, .slice na3 t.nums.length nc3, .slice a3 t.args.length cap3] (by rfl) (by rfl) (by kernel_rfl) (by simp [Value.oneCell']) 35 cs hcs hcl ?_
            intro w30 hC30 hg30
            obtain ⟨C5, R5, R6, RP⟩ := hf w30 hC30 hg30
            have RP := Lib.hid RP
            have R6 := Lib.hid R6
            have C5 := Lib.hid C5
            clear hC30 hg30 hcs hcl hf
            refine hK.out _ _ (R5) (fun hHeld => ?_)
            try simp only [Act.put, List.setIfInBounds_toArray, List.set_cons_zero, List.set_cons_succ]
            have c1 := C5.out.cell 1
            have f1 := C5.out.frozen 1
            simp only [bxV, List.getElem?_cons_zero, List.getElem?_cons_succ] at c1
            refine wpAnyH_ready (rs := [13]) (by kernel_rfl) (by simp) ?_
            refine AllReadyH.cons (by simp only [List.getElem?_toArray, List.getElem?_cons_succ, List.getElem?_cons_zero]; rfl) (fun K hK => ?_) AllReadyH.nil
            go_simp
            refine hK.out _ _ (R6.out) (fun hHeld => ?_)
            try simp only [Act.put, List.setIfInBounds_toArray, List.set_cons_zero, List.set_cons_succ]
            refine wpAnyH_done (by kernel_rfl) ?_ _
            go_wp2
            go_ret
            rw [HR.out]
            exact RP.out
          refine AllReadyH.cons (by simp only [List.getElem?_toArray, List.getElem?_cons_succ, List.getElem?_cons_zero]; rfl) (fun K hK => ?_) ?_
          · obtain ⟨cs, hcs, hR4, hcl, hf⟩ := HBB.out
            have c1 := C2.out.cell 1
            have f1 := C2.out.frozen 1
            simp only [bxV, List.getElem?_cons_zero, List.getElem?_cons_succ] at c1
            have HCS := Lib.hid hcs
            have HF := Lib.hid hf
            clear hcs hf
            go_simp
            clear c1 f1
            refine hK.out _ _ (hR4) (fun hHeld => ?_)
            try simp only [Act.put, List.setIfInBounds_toArray, List.set_cons_zero, List.set_cons_succ]
            refine wpAnyH_ready (rs := [10]) (by kernel_rfl) (by simp) ?_
            refine AllReadyH.cons (by simp only [List.getElem?_toArray, List.getElem?_cons_succ, List.getElem?_cons_zero]; rfl) (fun K hK => ?_) AllReadyH.nil
            refine step_store_blk (by rfl) _ (.tmp 32) (.tmp 28) (by rfl) kk (b.l.length * 6) [.int .i64 t.kind, .int .i64 t.int, .string t.text, .int .u32 t.cr, .slice na3 t.nums.length nc3, .slice a3 t.args.length cap3] (by rfl) (by rfl) (by kernel_rfl) (by simp [Value.oneCell']) 35 cs HCS.out hcl ?_
            intro w30 hC30 hg30
            obtain ⟨R5, RP⟩ := HF.out w30 hC30 hg30
            have RP := Lib.hid RP
            clear hC30 hg30 hcl HF HCS
            refine hK.out _ _ (R5) (fun hHeld => ?_)
            try simp only [Act.put, List.setIfInBounds_toArray, List.set_cons_zero, List.set_cons_succ]
            refine wpAnyH_done (by kernel_rfl) ?_ _
            go_wp2
            go_ret
            rw [HR.out]
            exact RP.out
          exact AllReadyH.nil
        refine AllReadyH.cons (by simp only [List.getElem?_toArray, List.getElem?_cons_succ, List.getElem?_cons_zero]; rfl) (fun K hK => ?_) ?_
        · go_simp
          refine (copy_any St t _ _ (HTM.out.below BW.out)).mono ?_
          rintro e w11 ⟨vs3, rfl, ht3, hb3⟩
          obtain ⟨_, nv3, a3, cap3, rfl, hnn3, _⟩ := id ht3.parts
          obtain ⟨na3, nc3, rfl, _, _⟩ := hnn3.slice
          obtain ⟨SC, hSC⟩ : ∃ SC : Nat → Prop, ∀ q, SC q ↔ (w20.heap.size ≤ q ∧ q < w11.heap.size) := ⟨_, fun _ => Iff.rfl⟩
          have TW := Lib.hid (ht3.mono (S' := SC) (fun q hlt hq => (hSC q).2 ⟨hq, hlt⟩))
          have HST3 := Lib.hid (show ∀ q, SC q → q < w11.heap.size from fun q hq => ((hSC q).1 hq).2)
          have HSL := Lib.hid (show ∀ q, SC q → w.heap.size < q ∧ q < w11.heap.size from fun q hq => ⟨Nat.lt_of_lt_of_le hHeld.lt ((hSC q).1 hq).1, ((hSC q).1 hq).2⟩)
          have HSZ := Lib.hid (show ∀ q, SC q → q ≠ w3.heap.size from fun q hq e => by have h1 := ((hSC q).1 hq).1; have h2 := ZW.out.lt; omega)
          have ZW := Lib.hid (ZW.out.below hb3)
          have BW := Lib.hid (BW.out.trans (hb3.mono BW.out.size))
          have hHeld := hHeld.below hb3
          clear hSC ht3 hnn3 hb3
          refine hK.out _ _ (hHeld) (fun hHeld => ?_)
          try simp only [Act.put, List.setIfInBounds_toArray, List.set_cons_zero, List.set_cons_succ]
          refine wpAnyH_ready (rs := [3]) (by kernel_rfl) (by simp) ?_
          refine AllReadyH.cons (by simp only [List.getElem?_toArray, List.getElem?_cons_succ, List.getElem?_cons_zero]; rfl) (fun K hK => ?_) AllReadyH.nil
          have c1 : w11.cell? ⟨g, 1, none⟩ = some (.slice a b.l.length c) := (HC.out.below BW.out).cell 1
          go_simp
          clear c1
          refine hK.out _ _ (hHeld) (fun hHeld => ?_)
          try simp only [Act.put, List.setIfInBounds_toArray, List.set_cons_zero, List.set_cons_succ]
          refine wpAnyH_take (i := 6) (v := (.int .i64 b.l.length)) (by simp only [List.getElem?_toArray, List.getElem?_cons_succ, List.getElem?_cons_zero]; rfl) (by kernel_rfl) (by kernel_rfl) (by kernel_rfl) (by exact fun _ _ _ h => h) (Or.inl ⟨by rfl, by intro W hSw; go_simp; all_goals first | rfl | exact ⟨rfl, rfl, rfl, rfl, rfl, rfl⟩⟩) (by assumption) ?_
          try simp only [Act.put, List.setIfInBounds_toArray, List.set_cons_zero, List.set_cons_succ]
          have PS := Lib.hid (put_app HFG.out (Nat.lt_of_not_le hfull) HC46.out HC.out HT.out HS.out HVS.out (show PutSt w w11 [.int .i64 t.kind, .int .i64 t.int, .string t.text, .int .u32 t.cr, .slice na2 t.nums.length nc2, .slice a2 t.args.length cap2] w3.heap.size t [.int .i64 t.kind, .int .i64 t.int, .string t.text, .int .u32 t.cr, .slice na3 t.nums.length nc3, .slice a3 t.args.length cap3] from ⟨BW.out, hHeld, ZW.out, HWZ.out, SC, TW.out, fun q hq => ⟨(HSL.out q hq).1, HST3.out q hq, HSZ.out q hq⟩⟩))
          obtain ⟨kk, cc, W2, hrun, hcc, hcm, hend⟩ := PS.out
          obtain ⟨hC2, hR2, HA, HBB⟩ := hend
          have HRUN := Lib.hid hrun
          have HA := Lib.hid HA
          have HBB := Lib.hid HBB
          clear PS hrun
          have C2 := Lib.hid hC2
          clear hC2
          refine wpAnyH_ready (rs := [8]) (by kernel_rfl) (by simp) ?_
          refine AllReadyH.cons (by simp only [List.getElem?_toArray, List.getElem?_cons_succ, List.getElem?_cons_zero]; rfl) (fun K hK => ?_) AllReadyH.nil
          refine step_app_eq (by rfl) _ _ _ _ (by rfl) _ _ (.slice (some ⟨kk, 0, none⟩) (b.l.length + 1) cc) W2 (by rfl) (by rfl) HRUN.out ?_
          refine hK.out _ _ (hR2) (fun hHeld => ?_)
          try simp only [Act.put, List.setIfInBounds_toArray, List.set_cons_zero, List.set_cons_succ]
          refine wpAnyH_take (i := 9) (v := (.pointer (some ⟨kk, b.l.length * 6, none⟩))) (by simp only [List.getElem?_toArray, List.getElem?_cons_succ, List.getElem?_cons_zero]; rfl) (by kernel_rfl) (by kernel_rfl) (by kernel_rfl) (by exact fun _ _ _ h => h) (Or.inl ⟨by rfl, by intro W hSw; have x0 := hx0; have x1 := hx1; go_simp; all_goals first | rfl | exact ⟨rfl, rfl, rfl, rfl, rfl, rfl⟩⟩) (by assumption) ?_
          try simp only [Act.put, List.setIfInBounds_toArray, List.set_cons_zero, List.set_cons_succ]
          refine wpAnyH_take (i := 11) (v := (.pointer (some ⟨g, 0, none⟩))) (by simp only [List.getElem?_toArray, List.getElem?_cons_succ, List.getElem?_cons_zero]; rfl) (by kernel_rfl) (by kernel_rfl) (by kernel_rfl) (by exact fun _ _ _ h => h) (Or.inl ⟨by rfl, by intro W hSw; go_simp; all_goals first | rfl | exact ⟨rfl, rfl, rfl, rfl, rfl, rfl⟩⟩) (by assumption) ?_
          try simp only [Act.put, List.setIfInBounds_toArray, List.set_cons_zero, List.set_cons_succ]
          refine wpAnyH_take (i := 12) (v := (.pointer (some ⟨g, 1, none⟩))) (by simp only [List.getElem?_toArray, List.getElem?_cons_succ, List.getElem?_cons_zero]; rfl) (by kernel_rfl) (by kernel_rfl) (by kernel_rfl) (by exact fun _ _ _ h => h) (Or.inl ⟨by rfl, fun _ _ => rfl⟩) (by assumption) ?_
          try simp only [Act.put, List.setIfInBounds_toArray, List.set_cons_zero, List.set_cons_succ]
          refine wpAnyH_ready (rs := [10, 13]) (by kernel_rfl) (by simp) ?_
          refine AllReadyH.cons (by simp only [List.getElem?_toArray, List.getElem?_cons_succ, List.getElem?_cons_zero]; rfl) (fun K hK => ?_) ?_
          · obtain ⟨cs, hcs, hcl, hf⟩ := HA.out
            refine step_store_blk (by rfl) _ (.tmp 32) (.tmp 28) (by rfl) kk (b.l.length * 6) [.int .i64 t.kind, .int .i64 t.int, .string t.text, .int .u32 t.cr, .slice na3 t.nums.length nc3, .slice a3 t.args.length cap3] (by rfl) (by rfl) (by kernel_rfl) (by simp [Value.oneCell']) 35 cs hcs hcl ?_
            intro w30 hC30 hg30
            obtain ⟨C5, R5, R6, RP⟩ := hf w30 hC30 hg30
            have RP := Lib.hid RP
            have R6 := Lib.hid R6
            have C5 := Lib.hid C5
            clear hC30 hg30 hcs hcl hf
            refine hK.out _ _ (R5) (fun hHeld => ?_)
            try simp only [Act.put, List.setIfInBounds_toArray, List.set_cons_zero, List.set_cons_succ]
            have c1 := C5.out.cell 1
            have f1 := C5.out.frozen 1
            simp only [bxV, List.getElem?_cons_zero, List.getElem?_cons_succ] at c1
            refine wpAnyH_ready (rs := [13]) (by kernel_rfl) (by simp) ?_
            refine AllReadyH.cons (by simp only [List.getElem?_toArray, List.getElem?_cons_succ, List.getElem?_cons_zero]; rfl) (fun K hK => ?_) AllReadyH.nil
            go_simp
            refine hK.out _ _ (R6.out) (fun hHeld => ?_)
            try simp only [Act.put, List.setIfInBounds_toArray, List.set_cons_zero, List.set_cons_succ]
            refine wpAnyH_done (by kernel_rfl) ?_ _
            go_wp2
            go_ret
            rw [HR.out]
            exact RP.out
          refine AllReadyH.cons (by simp only [List.getElem?_toArray, List.getElem?_cons_succ, List.getElem?_cons_zero]; rfl) (fun K hK => ?_) ?_
          · obtain ⟨cs, hcs, hR4, hcl, hf⟩ := HBB.out
            have c1 := C2.out.cell 1
            have f1 := C2.out.frozen 1
            simp only [bxV, List.getElem?_cons_zero, List.getElem?_cons_succ] at c1
            have HCS := Lib.hid hcs
            have HF := Lib.hid hf
            clear hcs hf
            go_simp
            clear c1 f1
            refine hK.out _ _ (hR4) (fun hHeld => ?_)
            try simp only [Act.put, List.setIfInBounds_toArray, List.set_cons_zero, List.set_cons_succ]
            refine wpAnyH_ready (rs := [10]) (by kernel_rfl) (by simp) ?_
            refine AllReadyH.cons (by simp only [List.getElem?_toArray, List.getElem?_cons_succ, List.getElem?_cons_zero]; rfl) (fun K hK => ?_) AllReadyH.nil
            refine step_store_blk (by rfl) _ (.tmp 32) (.tmp 28) (by rfl) kk (b.l.length * 6) [.int .i64 t.kind, .int .i64 t.int, .string t.text, .int .u32 t.cr, .slice na3 t.nums.length nc3, .slice a3 t.args.length cap3] (by rfl) (by rfl) (by kernel_rfl) (by simp [Value.oneCell']) 35 cs HCS.out hcl ?_
            intro w30 hC30 hg30
            obtain ⟨R5, RP⟩ := HF.out w30 hC30 hg30
            have RP := Lib.hid RP
            clear hC30 hg30 hcl HF HCS
            refine hK.out _ _ (R5) (fun hHeld => ?_)
            try simp only [Act.put, List.setIfInBounds_toArray, List.set_cons_zero, List.set_cons_succ]
            refine wpAnyH_done (by kernel_rfl) ?_ _
            go_wp2
            go_ret
            rw [HR.out]
            exact RP.out
          exact AllReadyH.nil
        exact AllReadyH.nil
      exact AllReadyH.nil
end Go.Proofs.YtlahagabcnmdiaaGreatDoor
end
section
/- heddlelaw17: atom, alive. -/
open Go Go.RowKit
namespace Go.Proofs.YtlahagabcnmdiaaGreatDoor
set_option linter.unusedVariables false
set_option linter.unusedSimpArgs false

theorem atom_at (S : Nat → Prop) (w : World) (s : ByteArray) (hs : s.size ≤ 140737488351232) : TmAt S (atomT s) [.int .i64 2, .int .i64 0, .string s, .int .u32 0, .slice none 0 0, .slice none 0 0] w := by
  unfold atomT
  rw [TmAt]
  refine ⟨by constructor <;> first | decide | exact hs, .slice none 0 0, none, 0, rfl, ?_, by simp [maxLen], by simp, ?_⟩
  · exact ⟨none, 0, rfl, ⟨Nat.le_refl _, by simp⟩, by simp [maxLen], fun i hi => absurd hi (Nat.not_lt_zero _)⟩
  · rw [ArgsAt]; trivial
theorem atom_any (s : ByteArray) (w : World) : Calls Tryz.prog 27 #[.string s] w fun e w' => e = .returned (.agg #[.int .i64 2, .int .i64 0, .string s, .int .u32 0, .slice none 0 0, .slice none 0 0]) ∧ Below w.heap.size w w' := by
  have C := Cells.new w 35 [.int .i64 2, .int .i64 0, .string s, .int .u32 0, .slice none 0 0, .slice none 0 0]
  have q0 := C.cell 0
  have q1 := C.cell 1
  have q2 := C.cell 2
  have q3 := C.cell 3
  have q4 := C.cell 4
  have q5 := C.cell 5
  simp only [List.getElem?_cons_zero, List.getElem?_cons_succ] at q0 q1 q2 q3 q4 q5
  clear C
  go_enter Tryz.func27, Tryz.ntmps27
  go_wp2
  refine bodyPost_ret (v := .agg #[.int .i64 2, .int .i64 0, .string s, .int .u32 0, .slice none 0 0, .slice none 0 0]) (by simp [results, Tryz.results27, go_sem, q0, q1, q2, q3, q4, q5]) rfl ?_
  exact ⟨rfl, (Below.refl _ _).alloc (Nat.le_refl _) _⟩
theorem new_box (w : World) : BxIs (fun q => w.heap.size ≤ q) w.heap.size Bx.zero (w.alloc (.cells (bxV Bx.zero (.slice none 0 0)).toArray 75 (0, 0))) := 
  ⟨Nat.le_refl _, Nat.zero_le _, Nat.zero_le _, .slice none 0 0, fun _ => False, Cells.new _ _ _, TsIs.nil _ _ _, fun _ h => h.elim, fun _ h => by cases h⟩
def aL : ByteArray := ⟨#[97]⟩
def bL : ByteArray := ⟨#[98]⟩
theorem put_a : putM Bx.zero (atomT aL) = ([], ⟨[atomT aL], 0, false, 0⟩) := by
  unfold putM; rw [checkS_atom (by rfl)]; rfl
theorem put_b : putM ⟨[atomT aL], 0, false, 0⟩ (atomT bL) = ([], ⟨[atomT aL, atomT bL], 0, false, 0⟩) := by
  unfold putM; rw [checkS_atom (by rfl)]; rfl
/-- a box that lies in new memory, behind a call -/
theorem fresh_put {w W W2 : World} {g : Nat} {r : List Lk × Bx} {e : Ending} (hsz : w.heap.size ≤ W.heap.size) (h : RetPut (fun q => w.heap.size ≤ q) g W r e W2) :
    ∃ ev, e = .returned ev ∧ ErrIs W2 ev r.1 ∧ BxIs (fun q => w.heap.size ≤ q) g r.2 W2 ∧ Keep (fun q => w.heap.size ≤ q) W W2 := by
  obtain ⟨ev, h1, h2, h3, h4⟩ := h
  exact ⟨ev, h1, h2, h3.mono (fun q _ h => by rcases h with h | h <;> omega), h4⟩
set_option maxHeartbeats 8000000 in
set_option maxRecDepth 100000 in
theorem alive_any (w : World) (hG : Gt w) : Calls Tryz.prog 9 #[] w fun e w' => e = .returned (.bool true) ∧ Below w.heap.size w w' := by
  have HG := Lib.hid hG
  have HN := Lib.hid (mNew_any w)
  have HBX := Lib.hid (new_box w)
  have HB1 := Lib.hid ((Below.refl w.heap.size w).alloc (Nat.le_refl _) (.cells (bxV Bx.zero (.slice none 0 0)).toArray 75 (0, 0)))
  clear hG
  go_enter Tryz.func9, Tryz.ntmps9
  go_wp2_with fail
  refine HN.out.mono ?_
  rintro e w1 ⟨rfl, rfl⟩
  generalize w.alloc (.cells (bxV Bx.zero (.slice none 0 0)).toArray 75 (0, 0)) = w1 at *
  go_wp2_with fail
  refine (atom_any _ _).mono ?_
  rintro e w2 ⟨rfl, hb2⟩
  have HB2 := Lib.hid (HB1.out.trans (hb2.mono HB1.out.size))
  have BX2 := Lib.hid (HBX.out.below hb2)
  clear hb2
  go_wp2_with fail
  refine (mPut_live (fun _ => False) (atomT aL) _ _ BX2.out (atom_at _ _ aL (by decide)) (fun _ h => h.elim) (fun _ h => h.elim) (HG.out.below HB2.out)).mono ?_
  intro e w3 hr
  obtain ⟨ev, rfl, he, hbx, hk⟩ := fresh_put HB2.out.size hr
  rw [put_a] at he hbx
  have he : ev = .nilIface := he
  subst he
  have BX3 := Lib.hid hbx
  have HB3 := Lib.hid (below_keep HB2.out hk HB2.out.size (fun _ h => h))
  clear hr hbx hk BX2
  go_wp2_with fail
  refine (atom_any _ _).mono ?_
  rintro e w4 ⟨rfl, hb4⟩
  have HB4 := Lib.hid (HB3.out.trans (hb4.mono HB3.out.size))
  have BX4 := Lib.hid (BX3.out.below hb4)
  clear hb4
  go_wp2_with fail
  refine (mPut_live (fun _ => False) (atomT bL) _ _ BX4.out (atom_at _ _ bL (by decide)) (fun _ h => h.elim) (fun _ h => h.elim) (HG.out.below HB4.out)).mono ?_
  intro e w5 hr
  obtain ⟨ev, rfl, he, hbx, hk⟩ := fresh_put HB4.out.size hr
  rw [put_b] at he hbx
  have he : ev = .nilIface := he
  subst he
  have BX5 := Lib.hid hbx
  have HB5 := Lib.hid (below_keep HB4.out hk HB4.out.size (fun _ h => h))
  clear hr hbx hk BX4
  go_wp2_with fail
  refine (mNext_live _ BX5.out).mono ?_
  rintro e w6 ⟨ev, rfl, he, hbx, hk⟩
  have he : ev = .nilIface := he
  subst he
  have BX6 := Lib.hid (show BxIs (fun q => w.heap.size ≤ q) w.heap.size ⟨[atomT aL, atomT bL], 1, false, 0⟩ w6 from hbx)
  have HB6 := Lib.hid (below_keep HB5.out hk HB5.out.size (fun _ h => h))
  clear hbx hk
  go_wp2_with fail
  refine (mTake_live _ BX6.out).mono ?_
  rintro e w7 ⟨vs, ev, rfl, he, ⟨hbx, hk⟩, S7, ht, _⟩
  have he : ev = .nilIface := he
  subst he
  obtain ⟨_, nv, a, cap, hvs, hnn, _⟩ := ht.parts
  obtain ⟨na, nc, rfl, _, _⟩ := hnn.slice
  replace hvs : vs = [.int .i64 2, .int .i64 0, .string bL, .int .u32 0, .slice na 0 nc, .slice a 0 cap] := hvs
  subst hvs
  have BX7 := Lib.hid (show BxIs (fun q => w.heap.size ≤ q) w.heap.size ⟨[atomT aL], 0, false, 0⟩ w7 from hbx)
  have HB7 := Lib.hid (below_keep HB6.out hk HB6.out.size (fun _ h => h))
  clear hbx hk ht hnn
  have T0 := Lib.hid (Cells.new w7 35 [.int .i64 2, .int .i64 0, .string bL, .int .u32 0, .slice na 0 nc, .slice a 0 cap])
  have BA := Lib.hid ((Below.refl _ w7).alloc (Nat.le_refl _) (.cells #[.int .i64 2, .int .i64 0, .string bL, .int .u32 0, .slice na 0 nc, .slice a 0 cap] 35 (0, 0)))
  go_wp2_with fail
  refine (mPeek_live _ (BX7.out.below BA.out)).mono ?_
  rintro e w8 ⟨hb8, hr⟩
  obtain ⟨vs8, rfl, ht8⟩ := (show ∃ vs, e = .returned (.tuple #[.agg vs.toArray, .bool true]) ∧ TmAt _ (atomT aL) vs w8 from hr)
  obtain ⟨_, nv, a8, cap8, hvs, hnn, _⟩ := ht8.parts
  obtain ⟨na8, nc8, rfl, _, _⟩ := hnn.slice
  replace hvs : vs8 = [.int .i64 2, .int .i64 0, .string aL, .int .u32 0, .slice na8 0 nc8, .slice a8 0 cap8] := hvs
  subst hvs
  have BX8 := Lib.hid ((BX7.out.below BA.out).below hb8)
  have HB8 := Lib.hid (HB7.out.trans ((BA.out.trans (hb8.mono BA.out.size)).mono HB7.out.size))
  have T8 := Lib.hid (T0.out.below hb8)
  have HZ := Lib.hid (show w7.heap.size < w8.heap.size from T8.out.lt)
  have T9 := Lib.hid (Cells.new w8 35 [.int .i64 2, .int .i64 0, .string aL, .int .u32 0, .slice na8 0 nc8, .slice a8 0 cap8])
  have BA9 := Lib.hid ((Below.refl _ w8).alloc (Nat.le_refl _) (.cells #[.int .i64 2, .int .i64 0, .string aL, .int .u32 0, .slice na8 0 nc8, .slice a8 0 cap8] 35 (0, 0)))
  clear hr hb8 ht8 hnn
  have t2 := (T8.out.below BA9.out).cell 2
  have u2 := T9.out.cell 2
  simp only [List.getElem?_cons_zero, List.getElem?_cons_succ] at t2 u2
  have e1 : bL.toList = [98] := by kernel_rfl
  have e2 : aL.toList = [97] := by kernel_rfl
  have HLEN := Lib.hid (show ∀ W, Below w8.heap.size w8 W → Calls Tryz.prog 31 #[.pointer (some ⟨w.heap.size, 0, none⟩)] W fun e w' => e = .returned (.int .i64 1) ∧ W = w' from fun W hb => by
    obtain ⟨lv, hC, hT, _⟩ := (BX8.out.below hb).upd
    obtain ⟨a, c, rfl⟩ := hT.form
    exact mLen_live W hC)
  go_wp2_with fail
  refine (HLEN.out _ BA9.out).mono ?_
  rintro e w9 ⟨rfl, rfl⟩
  go_wp2
  go_ret
  exact ⟨rfl, HB8.out.trans (BA9.out.mono HB8.out.size)⟩
end Go.Proofs.YtlahagabcnmdiaaGreatDoor
end
section
/- heddlelaw17: MailDeadlines, plain: what waiting comes to. -/
open Go Go.RowKit
namespace Go.Proofs.YtlahagabcnmdiaaGreatDoor
set_option linter.unusedVariables false

theorem int_at (S : Nat → Prop) (w : World) (k : Int) (h0 : 0 ≤ k) (h1 : k ≤ 4294967296) : TmAt S (intT k) [.int .i64 1, .int .i64 k, .string ⟨#[]⟩, .int .u32 0, .slice none 0 0, .slice none 0 0] w := by
  unfold intT
  rw [TmAt]
  refine ⟨by constructor <;> first | decide | omega, .slice none 0 0, none, 0, rfl, ?_, by simp [maxLen], by simp, ?_⟩
  · exact ⟨none, 0, rfl, ⟨Nat.le_refl _, by simp⟩, by simp [maxLen], fun i hi => absurd hi (Nat.not_lt_zero _)⟩
  · rw [ArgsAt]; trivial
def bxD (due : Int) : Bx := ⟨[], 0, true, due⟩
theorem clock_ok {now : Int} (h0 : 0 ≤ now) (h1 : now ≤ 1099511627776) : clockM now = true := by
  unfold clockM; rw [decide_eq_true h0, decide_eq_true h1]; rfl
/-- the first wait -/
theorem wait_first {now k : Int} (h0 : 0 ≤ now) (h1 : now ≤ 4294967295) (h2 : 0 ≤ k) (h3 : k ≤ 4294967295) :
    waitM Bx.zero now (intT k) = if k = 0 then (false, [], Bx.zero) else (true, [], bxD (now + k)) := by
  unfold waitM
  rw [clock_ok h0 (by omega), if_neg (by simp), longM_int h2 (by omega)]
  unfold waitR comeM
  by_cases hk : k = 0
  · rw [if_pos hk]
    simp [hk]; rfl
  · rw [if_neg hk]
    simp [hk, Bx.zero, bxD]
/-- a wait with a deadline set -/
theorem wait_set {at_ k due : Int} (h0 : 0 ≤ at_) (h1 : at_ ≤ 1099511627776) (h2 : 0 < k) (h3 : k ≤ 4294967296) :
    waitM (bxD due) at_ (intT k) = if at_ < due then (true, [], bxD due) else (false, [], Bx.zero) := by
  unfold waitM
  rw [clock_ok h0 h1, if_neg (by simp), longM_int (by omega) (by omega)]
  unfold waitR comeM bxD
  by_cases hk : at_ < due
  · have : ¬ due ≤ at_ := by omega
    simp [hk, this, show k ≠ 0 by omega]
  · have : due ≤ at_ := by omega
    simp [hk, this]; rfl
theorem expire_ahead {due : Int} (h0 : 0 < due) (h1 : due ≤ 1099511627776) : expireM (bxD due) (due - 1) = (false, [], bxD due) := by
  unfold expireM
  rw [clock_ok (by omega) (by omega), if_neg (by simp)]
  unfold comeM bxD
  simp [show ¬ due ≤ due - 1 by omega]
theorem expire_then {due : Int} (h0 : 0 < due) (h1 : due ≤ 1099511627776) : expireM (bxD due) due = (true, [], Bx.zero) := by
  unfold expireM
  rw [clock_ok (by omega) (by omega), if_neg (by simp)]
  unfold comeM bxD
  simp; rfl
/-- a row of numbers of two bytes -/
def Row16 (v : Value) (l : List Int) (w : World) : Prop := ∃ a c, v = .slice a l.length c ∧ (l.length ≤ c ∧ c ≤ maxLen) ∧ ∀ i (h : i < l.length), 0 ≤ l[i] ∧ l[i] ≤ 65535 ∧ ∃ g o, a = some ⟨g, o, none⟩ ∧ w.cell? ⟨g, o + i, none⟩ = some (.int .u16 l[i])
end Go.Proofs.YtlahagabcnmdiaaGreatDoor
end
section
/- heddlelaw17: MailDeadlines. -/
open Go Go.RowKit
namespace Go.Proofs.YtlahagabcnmdiaaGreatDoor
set_option linter.unusedVariables false
set_option linter.unusedSimpArgs false

theorem deadline_box {F : Nat → Prop} {g : Nat} {b : Bx} {w : World} (h : BxIs F g b w) : Calls Tryz.prog 40 #[.pointer (some ⟨g, 0, none⟩)] w fun e w' => e = .returned (.tuple #[.int .i64 b.due, .bool b.set]) ∧ Below w.heap.size w w' := by
  obtain ⟨lv, hC, hT, _⟩ := h.upd
  exact mDeadline_live w hC
end Go.Proofs.YtlahagabcnmdiaaGreatDoor
end
