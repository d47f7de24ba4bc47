/- Texts laid together: TmE, Same, Core, EtS, EtA. -/
import Derived.Test.YtlahagabcnmdiaaGreatDoorV19
import Derived.Test.YtlahagabcnmdiaaGreatDoorV12
import Derived.Test.YtlahagabcnmdiaaGreatDoorV20
import Derived.WalkSpells
import Derived.Deep.Cut
import Derived.BigQuiet
import Derived.Deep.QuietTactic
import Derived.Deep.RegionHeld3
import Derived.Test.YtlahagabcnmdiaaGreatDoorV2
import Derived.Test.YtlahagabcnmdiaaGreatDoorV11
import Derived.BigRegion
import Derived.Lib.SliceRun
import Derived.Deep.RegionLaw
import Derived.StillTailTactics
section
/- Package term: Copy. -/
open Go Go.RowKit
namespace Go.Proofs.YtlahagabcnmdiaaGreatDoor

def numsV (l : List Int) : List Value := l.map fun n => Value.int .u32 n
theorem Tryz.infoU32 : (Tryz.prog.info? 32).map (fun i => (i.zero, i.size, i.bytes)) = some (some (.int .u32 0), 1, 4) := by kernel_rfl
def termZ : List Value := [.int .i64 0, .int .i64 0, .string ⟨#[]⟩, .int .u32 0, .slice none 0 0, .slice none 0 0]
end Go.Proofs.YtlahagabcnmdiaaGreatDoor
end
section
/- heddleref02.Same, of a term and itself. Printed by wip/sam.py. -/
open Go Go.RowKit
namespace Go.Proofs.YtlahagabcnmdiaaGreatDoor
set_option linter.unusedVariables false
set_option linter.unusedSimpArgs false

theorem NumsAt.get {S : Nat → Prop} {v : Value} {l : List Int} {w : World} (h : NumsAt S v l w) : ∃ a c, v = .slice a l.length c ∧ ∀ i (hi : i < l.length), ∃ g o, a = some ⟨g, o, none⟩ ∧ w.cell? ⟨g, o + i, none⟩ = some (.int .u32 l[i]) := by
  obtain ⟨a, c, h1, _, _, h4⟩ := h
  exact ⟨a, c, h1, fun i hi => by obtain ⟨_, _, g, o, ha, _, hc⟩ := h4 i hi; exact ⟨g, o, ha, hc⟩⟩
set_option maxHeartbeats 16000000 in
set_option maxRecDepth 100000 in
theorem same_ind : ∀ (N : Nat) (S1 S2 : Nat → Prop) (t : Tm) (vs1 vs2 : List Value) (w : World), SizeOf.sizeOf t ≤ N → TmAt S1 t vs1 w → TmAt S2 t vs2 w →
    Calls Tryz.prog 21 #[.agg vs1.toArray, .agg vs2.toArray] w fun e w' => e = .returned (.bool true) ∧ Below w.heap.size w w' := by
  intro N
  induction N with
  | zero => intro S1 S2 t vs1 vs2 w h; cases t; simp at h
  | succ N ih =>
    intro S1 S2 t vs1 vs2 w hN ht1 ht2
    have HIH := Lib.hid ih
    have HNN := Lib.hid hN
    obtain ⟨hp, nv, a, cap, rfl, hnn, ⟨hc, hcm⟩, hcap, ha⟩ := ht1.parts
    obtain ⟨-, nv', a', cap', rfl, hnn', ⟨hc', hcm'⟩, hcap', ha'⟩ := ht2.parts
    have hnl : t.nums.length ≤ 140737488351232 := by
      obtain ⟨_, _, _, h, _⟩ := hnn
      have := h.2; omega
    obtain ⟨na, nc, rfl, hnum⟩ := hnn.get
    obtain ⟨na', nc', rfl, hnum'⟩ := hnn'.get
    have HN1 := Lib.hid hnum
    have HN2 := Lib.hid hnum'
    have HA1 := Lib.hid ha
    have HA2 := Lib.hid ha'
    have hal : t.args.length ≤ 140737488351232 := by omega
    have HB0 := Lib.hid (((Below.refl _ w).alloc (Nat.le_refl _) (.cells #[.int .i64 t.kind, .int .i64 t.int, .string t.text, .int .u32 t.cr, .slice na t.nums.length nc, .slice a t.args.length cap] 35 (0, 0))).alloc (by simp) (.cells #[.int .i64 t.kind, .int .i64 t.int, .string t.text, .int .u32 t.cr, .slice na' t.nums.length nc', .slice a' t.args.length cap'] 35 (0, 0)))
    have M1 := Lib.hid ((Cells.new w 35 [.int .i64 t.kind, .int .i64 t.int, .string t.text, .int .u32 t.cr, .slice na t.nums.length nc, .slice a t.args.length cap]).alloc (.cells #[.int .i64 t.kind, .int .i64 t.int, .string t.text, .int .u32 t.cr, .slice na' t.nums.length nc', .slice a' t.args.length cap'] 35 (0, 0)))
    have M2 := Lib.hid (show Cells ((w.alloc (.cells #[.int .i64 t.kind, .int .i64 t.int, .string t.text, .int .u32 t.cr, .slice na t.nums.length nc, .slice a t.args.length cap] 35 (0, 0))).alloc (.cells #[.int .i64 t.kind, .int .i64 t.int, .string t.text, .int .u32 t.cr, .slice na' t.nums.length nc', .slice a' t.args.length cap'] 35 (0, 0))) (w.heap.size + 1) 35 [.int .i64 t.kind, .int .i64 t.int, .string t.text, .int .u32 t.cr, .slice na' t.nums.length nc', .slice a' t.args.length cap'] from by
      have := Cells.new (w.alloc (.cells #[.int .i64 t.kind, .int .i64 t.int, .string t.text, .int .u32 t.cr, .slice na t.nums.length nc, .slice a t.args.length cap] 35 (0, 0))) 35 [.int .i64 t.kind, .int .i64 t.int, .string t.text, .int .u32 t.cr, .slice na' t.nums.length nc', .slice a' t.args.length cap']
      rwa [World.size_alloc] at this)
    clear ih hN ht1 ht2 hnn hnn' ha ha' hcm hcm' hnum hnum' hp hc hc' hcap hcap'
    go_enter Tryz.func21, Tryz.ntmps21
    go_upto_region 1 with (fail)
    generalize (w.alloc (.cells #[.int .i64 t.kind, .int .i64 t.int, .string t.text, .int .u32 t.cr, .slice na t.nums.length nc, .slice a t.args.length cap] 35 (0, 0))).alloc (.cells #[.int .i64 t.kind, .int .i64 t.int, .string t.text, .int .u32 t.cr, .slice na' t.nums.length nc', .slice a' t.args.length cap'] 35 (0, 0)) = w1 at *
    have p0 := M1.out.cell 0
    have p1 := M1.out.cell 1
    have p2 := M1.out.cell 2
    have p3 := M1.out.cell 3
    have p4 := M1.out.cell 4
    have p5 := M1.out.cell 5
    have q0 := M2.out.cell 0
    have q1 := M2.out.cell 1
    have q2 := M2.out.cell 2
    have q3 := M2.out.cell 3
    have q4 := M2.out.cell 4
    have q5 := M2.out.cell 5
    simp only [List.getElem?_cons_zero, List.getElem?_cons_succ] at p0 p1 p2 p3 p4 p5 q0 q1 q2 q3 q4 q5
    go_wp2
    clear p0 p1 p2 p3 p4 p5 q0 q1 q2 q3 q4 q5
    go_loopw [5] (fun i wr => ∃ kk : Nat, kk ≤ t.nums.length ∧ i = .int .i64 kk ∧ Below w1.heap.size w1 wr) (fun i _ => t.nums.length - (intOf i).toNat)
    case atStart => exact ⟨0, Nat.zero_le _, rfl, Below.refl _ _⟩
    case round =>
      obtain ⟨kk, hkk, rfl, hbr⟩ := hrel
      have HBR := Lib.hid hbr
      clear hbr
      have p4 := (M1.out.below HBR.out).cell 4
      have q4 := (M2.out.below HBR.out).cell 4
      simp only [List.getElem?_cons_zero, List.getElem?_cons_succ] at p4 q4
      by_cases hk : kk < t.nums.length
      · obtain ⟨g, o, rfl, hg⟩ := HN1.out kk hk
        obtain ⟨g', o', rfl, hg'⟩ := HN2.out kk hk
        have d1 := ((HB0.out.trans (HBR.out.mono HB0.out.size)).cell (p := ⟨g, o + kk, none⟩) (World.block_lt_of_cell? w _ hg)).trans hg
        have d2 := ((HB0.out.trans (HBR.out.mono HB0.out.size)).cell (p := ⟨g', o' + kk, none⟩) (World.block_lt_of_cell? w _ hg')).trans hg'
        have hki : (kk : Int) < (t.nums.length : Int) := by omega
        have hk0 : (0 : Int) ≤ (kk : Int) := by omega
        have hk1 : (kk : Int) ≤ 140737488351232 := by omega
        clear hg hg'
        go_wp2
        go_quiet (fail)
        go_wp2
        go_roundw
        case rel => exact ⟨kk + 1, by omega, by go_num, below_drewN HBR.out _⟩
        case measure => simp [intOf]; omega
      · have hki : ¬ (kk : Int) < (t.nums.length : Int) := by omega
        clear hk hkk
        go_wp2
        clear p4 q4
        obtain ⟨wo, rfl⟩ : ∃ wo : World, wo = wr := ⟨_, rfl⟩
        go_loopw [6] (fun i wr => ∃ kk : Nat, kk ≤ t.args.length ∧ i = .int .i64 kk ∧ Below w1.heap.size w1 wr) (fun i _ => t.args.length - (intOf i).toNat)
        case atStart => exact ⟨0, Nat.zero_le _, rfl, HBR.out⟩
        case round =>
          obtain ⟨kk, hkk, rfl, hbr⟩ := hrel
          have HB2 := Lib.hid hbr
          clear hbr
          have p5 := (M1.out.below HB2.out).cell 5
          simp only [List.getElem?_cons_zero, List.getElem?_cons_succ] at p5
          by_cases hk : kk < t.args.length
          · obtain ⟨g, o, vs, rfl, -, hcs, ht⟩ := HA1.out.get kk hk
            obtain ⟨g', o', vs', rfl, -, hcs', ht'⟩ := HA2.out.get kk hk
            have HT1 := Lib.hid ht
            have HT2 := Lib.hid ht'
            obtain ⟨-, mv, b, bap, rfl, hmm, -⟩ := ht.parts
            obtain ⟨ma, mc, rfl, -, -⟩ := hmm.slice
            obtain ⟨-, mv', b', bap', rfl, hmm', -⟩ := ht'.parts
            obtain ⟨ma', mc', rfl, -, -⟩ := hmm'.slice
            have e0 := hcs 0 (by decide)
            have hgl : g < w.heap.size := World.block_lt_of_cell? w _ e0
            have f0 := hcs' 0 (by decide)
            have hgl' : g' < w.heap.size := World.block_lt_of_cell? w _ f0
            have HWX := Lib.hid (fun W (h : Below wr.heap.size wr W) => HB0.out.trans ((HB2.out.trans (h.mono HB2.out.size)).mono HB0.out.size))
            have HE := Lib.hid (fun W (h : Below wr.heap.size wr W) j (hj : j < 6) => ((HWX.out W h).cell (p := ⟨g, o + (kk * 6 + j), none⟩) hgl).trans (hcs j hj))
            have HF := Lib.hid (fun W (h : Below wr.heap.size wr W) j (hj : j < 6) => ((HWX.out W h).cell (p := ⟨g', o' + (kk * 6 + j), none⟩) hgl').trans (hcs' j hj))
            have HP5 := Lib.hid (fun W (h : Below wr.heap.size wr W) => show W.cell? ⟨w.heap.size, 5, none⟩ = some (.slice (some ⟨g, o, none⟩) t.args.length cap) from ((M1.out.below HB2.out).below h).cell 5)
            have HQ5 := Lib.hid (fun W (h : Below wr.heap.size wr W) => show W.cell? ⟨w.heap.size + 1, 5, none⟩ = some (.slice (some ⟨g', o', none⟩) t.args.length cap') from ((M2.out.below HB2.out).below h).cell 5)
            have hki : (kk : Int) < (t.args.length : Int) := by omega
            have hk0 : (0 : Int) ≤ (kk : Int) := by omega
            have hk1 : (kk : Int) ≤ 140737488351232 := by omega
            have HSZ := Lib.hid (show SizeOf.sizeOf t.args[kk] ≤ N from by have := Tm.arg_lt hk; have := HNN.out; omega)
            clear hcs hcs' ht ht' hmm hmm' e0 f0 hgl hgl'
            go_wp2
            refine wp_region_held_drew (S := fun W => Below wr.heap.size wr W) (by kernel_rfl) (Below.drew (Below.refl _ _)) (fun hHeld => ?_)
            refine wpAnyH_take (i := 0) (v := (.pointer (some ⟨w.heap.size, 5, none⟩))) (by simp only [List.getElem?_toArray, List.getElem?_cons_succ, List.getElem?_cons_zero]; rfl) (by kernel_rfl) (by kernel_rfl) (by kernel_rfl) (by exact fun _ _ _ h => h) (Or.inl ⟨by rfl, fun _ _ => rfl⟩) (by assumption) ?_
            try simp only [Act.put, List.setIfInBounds_toArray, List.set_cons_zero, List.set_cons_succ]
            refine wpAnyH_take (i := 1) (v := (.slice (some ⟨g, o, none⟩) t.args.length cap)) (by simp only [List.getElem?_toArray, List.getElem?_cons_succ, List.getElem?_cons_zero]; rfl) (by kernel_rfl) (by kernel_rfl) (by kernel_rfl) (by exact fun _ _ _ h => h) (Or.inl ⟨by rfl, by intro W hSw; have x0 := HP5.out W hSw; go_simp; all_goals first | rfl | exact ⟨rfl, rfl, rfl, rfl, rfl, rfl⟩⟩) (by assumption) ?_
            try simp only [Act.put, List.setIfInBounds_toArray, List.set_cons_zero, List.set_cons_succ]
            refine wpAnyH_take (i := 2) (v := (.int .i64 kk)) (by simp only [List.getElem?_toArray, List.getElem?_cons_succ, List.getElem?_cons_zero]; rfl) (by kernel_rfl) (by kernel_rfl) (by kernel_rfl) (by exact fun _ _ _ h => h) (Or.inl ⟨by rfl, fun _ _ => rfl⟩) (by assumption) ?_
            try simp only [Act.put, List.setIfInBounds_toArray, List.set_cons_zero, List.set_cons_succ]
            refine wpAnyH_take (i := 3) (v := (.pointer (some ⟨g, o + kk * 6, none⟩))) (by simp only [List.getElem?_toArray, List.getElem?_cons_succ, List.getElem?_cons_zero]; rfl) (by kernel_rfl) (by kernel_rfl) (by kernel_rfl) (by exact fun _ _ _ h => h) (Or.inl ⟨by rfl, by intro W hSw; go_simp; all_goals first | rfl | exact ⟨rfl, rfl, rfl, rfl, rfl, rfl⟩⟩) (by assumption) ?_
            try simp only [Act.put, List.setIfInBounds_toArray, List.set_cons_zero, List.set_cons_succ]
            refine wpAnyH_take (i := 4) (v := (.agg #[.int .i64 t.args[kk].kind, .int .i64 t.args[kk].int, .string t.args[kk].text, .int .u32 t.args[kk].cr, .slice ma t.args[kk].nums.length mc, .slice b t.args[kk].args.length bap])) (by simp only [List.getElem?_toArray, List.getElem?_cons_succ, List.getElem?_cons_zero]; rfl) (by kernel_rfl) (by kernel_rfl) (by kernel_rfl) (by exact fun _ _ _ h => h) (Or.inl ⟨by rfl, by intro W hSw; have x0 := HE.out W hSw 0 (by decide); have x1 := HE.out W hSw 1 (by decide); have x2 := HE.out W hSw 2 (by decide); have x3 := HE.out W hSw 3 (by decide); have x4 := HE.out W hSw 4 (by decide); have x5 := HE.out W hSw 5 (by decide); simp only [List.getElem?_cons_zero, List.getElem?_cons_succ, ← Nat.add_assoc, Nat.add_zero] at x0 x1 x2 x3 x4 x5; go_simp; all_goals first | rfl | exact ⟨rfl, rfl, rfl, rfl, rfl, rfl⟩⟩) (by assumption) ?_
            try simp only [Act.put, List.setIfInBounds_toArray, List.set_cons_zero, List.set_cons_succ]
            refine wpAnyH_take (i := 5) (v := (.pointer (some ⟨w.heap.size + 1, 5, none⟩))) (by simp only [List.getElem?_toArray, List.getElem?_cons_succ, List.getElem?_cons_zero]; rfl) (by kernel_rfl) (by kernel_rfl) (by kernel_rfl) (by exact fun _ _ _ h => h) (Or.inl ⟨by rfl, fun _ _ => rfl⟩) (by assumption) ?_
            try simp only [Act.put, List.setIfInBounds_toArray, List.set_cons_zero, List.set_cons_succ]
            refine wpAnyH_take (i := 6) (v := (.slice (some ⟨g', o', none⟩) t.args.length cap')) (by simp only [List.getElem?_toArray, List.getElem?_cons_succ, List.getElem?_cons_zero]; rfl) (by kernel_rfl) (by kernel_rfl) (by kernel_rfl) (by exact fun _ _ _ h => h) (Or.inl ⟨by rfl, by intro W hSw; have x0 := HQ5.out W hSw; go_simp; all_goals first | rfl | exact ⟨rfl, rfl, rfl, rfl, rfl, rfl⟩⟩) (by assumption) ?_
            try simp only [Act.put, List.setIfInBounds_toArray, List.set_cons_zero, List.set_cons_succ]
            refine wpAnyH_take (i := 7) (v := (.int .i64 kk)) (by simp only [List.getElem?_toArray, List.getElem?_cons_succ, List.getElem?_cons_zero]; rfl) (by kernel_rfl) (by kernel_rfl) (by kernel_rfl) (by exact fun _ _ _ h => h) (Or.inl ⟨by rfl, fun _ _ => rfl⟩) (by assumption) ?_
            try simp only [Act.put, List.setIfInBounds_toArray, List.set_cons_zero, List.set_cons_succ]
            refine wpAnyH_take (i := 8) (v := (.pointer (some ⟨g', o' + kk * 6, none⟩))) (by simp only [List.getElem?_toArray, List.getElem?_cons_succ, List.getElem?_cons_zero]; rfl) (by kernel_rfl) (by kernel_rfl) (by kernel_rfl) (by exact fun _ _ _ h => h) (Or.inl ⟨by rfl, by intro W hSw; go_simp; all_goals first | rfl | exact ⟨rfl, rfl, rfl, rfl, rfl, rfl⟩⟩) (by assumption) ?_
            try simp only [Act.put, List.setIfInBounds_toArray, List.set_cons_zero, List.set_cons_succ]
            refine wpAnyH_take (i := 9) (v := (.agg #[.int .i64 t.args[kk].kind, .int .i64 t.args[kk].int, .string t.args[kk].text, .int .u32 t.args[kk].cr, .slice ma' t.args[kk].nums.length mc', .slice b' t.args[kk].args.length bap'])) (by simp only [List.getElem?_toArray, List.getElem?_cons_succ, List.getElem?_cons_zero]; rfl) (by kernel_rfl) (by kernel_rfl) (by kernel_rfl) (by exact fun _ _ _ h => h) (Or.inl ⟨by rfl, by intro W hSw; have x0 := HF.out W hSw 0 (by decide); have x1 := HF.out W hSw 1 (by decide); have x2 := HF.out W hSw 2 (by decide); have x3 := HF.out W hSw 3 (by decide); have x4 := HF.out W hSw 4 (by decide); have x5 := HF.out W hSw 5 (by decide); simp only [List.getElem?_cons_zero, List.getElem?_cons_succ, ← Nat.add_assoc, Nat.add_zero] at x0 x1 x2 x3 x4 x5; go_simp; all_goals first | rfl | exact ⟨rfl, rfl, rfl, rfl, rfl, rfl⟩⟩) (by assumption) ?_
            try simp only [Act.put, List.setIfInBounds_toArray, List.set_cons_zero, List.set_cons_succ]
            refine wpAnyH_ready (rs := [10]) (by kernel_rfl) (by simp) ?_
            refine AllReadyH.cons (by simp only [List.getElem?_toArray, List.getElem?_cons_succ, List.getElem?_cons_zero]; rfl) (fun K hK => ?_) AllReadyH.nil
            go_simp
            refine (HIH.out S1 S2 t.args[kk] [.int .i64 t.args[kk].kind, .int .i64 t.args[kk].int, .string t.args[kk].text, .int .u32 t.args[kk].cr, .slice ma t.args[kk].nums.length mc, .slice b t.args[kk].args.length bap] [.int .i64 t.args[kk].kind, .int .i64 t.args[kk].int, .string t.args[kk].text, .int .u32 t.args[kk].cr, .slice ma' t.args[kk].nums.length mc', .slice b' t.args[kk].args.length bap'] _ HSZ.out (HT1.out.below (HWX.out _ hHeld)) (HT2.out.below (HWX.out _ hHeld))).mono ?_
            rintro e w5 ⟨rfl, hb5⟩
            have HB5 := Lib.hid ((hHeld).trans (hb5.mono hHeld.size))
            clear hb5
            refine hK.out _ _ (HB5.out) (fun hHeld => ?_)
            try simp only [Act.put, List.setIfInBounds_toArray, List.set_cons_zero, List.set_cons_succ]
            refine wpAnyH_take (i := 11) (v := (.bool false)) (by simp only [List.getElem?_toArray, List.getElem?_cons_succ, List.getElem?_cons_zero]; rfl) (by kernel_rfl) (by kernel_rfl) (by kernel_rfl) (by exact fun _ _ _ h => h) (Or.inl ⟨by rfl, by intro W hSw; go_simp; all_goals first | rfl | exact ⟨rfl, rfl, rfl, rfl, rfl, rfl⟩⟩) (by assumption) ?_
            try simp only [Act.put, List.setIfInBounds_toArray, List.set_cons_zero, List.set_cons_succ]
            refine wpAnyH_done (by kernel_rfl) ?_ _
            have HB6 := Lib.hid (HB2.out.trans (HB5.out.mono HB2.out.size))
            go_wp2
            go_roundw
            case rel => exact ⟨kk + 1, by omega, by go_num, HB6.out⟩
            case measure => simp [intOf]; omega
          · have hki : ¬ (kk : Int) < (t.args.length : Int) := by omega
            have HBF := Lib.hid (HB0.out.trans (HB2.out.mono HB0.out.size))
            clear hk hkk
            go_wp2
            go_ret
            exact ⟨rfl, HBF.out⟩
theorem sameTm_any (S1 S2 : Nat → Prop) (t : Tm) (vs1 vs2 : List Value) (w : World) (h1 : TmAt S1 t vs1 w) (h2 : TmAt S2 t vs2 w) :
    Calls Tryz.prog 21 #[.agg vs1.toArray, .agg vs2.toArray] w fun e w' => e = .returned (.bool true) ∧ Below w.heap.size w w' :=
  same_ind _ S1 S2 t vs1 vs2 w (Nat.le_refl _) h1 h2
end Go.Proofs.YtlahagabcnmdiaaGreatDoor
end
section
/- What layer 4 takes from other texts: rows of terms, the blocks of a growing slice, a store of a struct into a block. No function of the program is looked at here. -/
open Go Go.RowKit
namespace Go.Proofs.YtlahagabcnmdiaaGreatDoor
set_option linter.unusedVariables false
set_option linter.unusedSimpArgs false

def LsK (g : Nat) (v : Value) : Nat → Prop := fun q => q = g ∨ v.ownBlock = some q
/-- a struct stored into a block that is known whole, as one step of a region that draws -/
theorem step_store_blk {P : Program} {ops : Array Oper} {o : Oper} {a : Act} {K : Act → World → Prop} {Q : Exit → Act → World → Prop} {E : Prop} {w : World} (hgd : o.guard = none) (ty : TypeId) (x y : Operand) (ho : o.op = .store ty x y)
    (g off : Nat) (vs : List Value) (hx : a.eval x = .pointer (some ⟨g, off, none⟩)) (hy : a.eval y = .agg vs.toArray) (hi : (P.info? ty).map (·.size) = some vs.length) (h1 : ∀ v ∈ vs, v.oneCell' = true)
    (t : TypeId) (cs : List Value) (hC : Cells w g t cs) (hn : off + vs.length ≤ cs.length)
    (h : ∀ w', Cells w' g t (setFrom cs off vs) → w.grownBy w' (some g) → K (a.put o.dst undef) w') : if Region.wanted o (yielded ops a.tmps) = true then Oper.wp P o a w K Q else E := by
  have hw : Region.wanted o (yielded ops a.tmps) = true := by simp [Region.wanted, hgd]
  rw [if_pos hw]
  exact wp_store_mid ty x y ho g off vs.toArray hx hy (by simpa using hC.there off vs.length hn) (by simpa using hi) (all_oneCell_toArray h1) (by simpa using h _ (hC.setCells vs off) (grown_setCells vs w off))
theorem TsIs.empty {base z : Nat} {S : Nat → Prop} {w : World} (hz : base ≤ z) (h : Cells w z 35 []) : TsIs base S (.slice (some ⟨z, 0, none⟩) 0 0) [] w :=
  ⟨[], rfl, ⟨rfl, .inr ⟨z, 0, #[], rfl, hz, h, Nat.le_refl _, Nat.zero_le _, rfl, rfl⟩⟩, fun _ h => absurd h (Nat.not_lt_zero _)⟩
/-- the terms of a row that lies at a place -/
def RowAt (S : Nat → Prop) (g o : Nat) (d : List Tm) (w : World) : Prop := ∀ i (h : i < d.length), ∃ vs, (∀ j, j < 6 → w.cell? ⟨g, o + (i * 6 + j), none⟩ = vs[j]?) ∧ TmAt S d[i] vs w
theorem RowAt.tail {S : Nat → Prop} {g o : Nat} {t : Tm} {d : List Tm} {w : World} (h : RowAt S g o (t :: d) w) : RowAt S g (o + 6) d w := fun i hi => by
  obtain ⟨vs, h1, h2⟩ := h (i + 1) (by simpa using hi)
  exact ⟨vs, fun j hj => by have := h1 j hj; rwa [show o + ((i + 1) * 6 + j) = o + 6 + (i * 6 + j) by omega] at this, h2⟩
/-- the cells of such a row -/
theorem RowAt.cells {S : Nat → Prop} {g : Nat} {w : World} : ∀ {d : List Tm} {o : Nat}, RowAt S g o d w → ∃ css : List (List Value), css.length = d.length ∧ (∀ cs ∈ css, cs.length = 6) ∧ (∀ i (h : i < css.length) (h2 : i < d.length), TmAt S d[i] css[i] w) ∧ ∀ j u, css.flatten[j]? = some u → w.cell? ⟨g, o + j, none⟩ = some u
  | [], o, _ => ⟨[], rfl, (fun _ h => absurd h List.not_mem_nil), fun _ h => absurd h (Nat.not_lt_zero _), fun j u h => by simp at h⟩
  | t :: d, o, h => by
    obtain ⟨vs, h1, h2⟩ := h 0 (Nat.zero_lt_succ _)
    obtain ⟨css, k1, k2, k3, k4⟩ := RowAt.cells h.tail
    have h6 := h2.six
    refine ⟨vs :: css, by simp [k1], fun cs hcs => ?_, fun i hi hi2 => ?_, fun j u hj => ?_⟩
    · rcases List.mem_cons.1 hcs with rfl | hcs
      · exact h6
      · exact k2 cs hcs
    · cases i with
      | zero => exact h2
      | succ i => exact k3 i (by simpa using hi) (by simpa using hi2)
    · rw [List.flatten_cons] at hj
      by_cases e : j < 6
      · rw [List.getElem?_append_left (by omega)] at hj
        have := h1 j e
        rw [show o + (0 * 6 + j) = o + j by omega] at this
        rw [this]; exact hj
      · rw [List.getElem?_append_right (by omega), h6] at hj
        have := k4 _ _ hj
        rwa [show o + 6 + (j - 6) = o + j by omega] at this
theorem TsIs.appAll {base : Nat} {S : Nat → Prop} {v : Value} {l d : List Tm} {w : World} (h : TsIs base S v l w) (g o c : Nat) (hd : RowAt S g o d w)
    (hl : (l.length + d.length) * 88 ≤ 140737488355328) (hB : base ≤ w.heap.size) (hv : ∀ k, v.ownBlock = some k → ¬ S k) :
    ∃ v' w', (Builtin.append_ #[26, 26] 26 #[v, .slice (some ⟨g, o, none⟩) d.length c]).run Tryz.prog w = .ok v' w' ∧ TsIs base S v' (l ++ d) w' ∧ w.grownBy w' v.ownBlock ∧ (v'.ownBlock = v.ownBlock ∨ v'.ownBlock = some w.heap.size) := by
  obtain ⟨i0, hi, hz0, hz1, hz2⟩ := info_parts Tryz.infoTerm
  obtain ⟨css, hlen, hown, hts⟩ := h
  obtain ⟨dss, k1, k2, k3, k4⟩ := hd.cells
  obtain ⟨v', w', hr, h2, h3, _, h4⟩ := run_append_own_at (P := Tryz.prog) w base 26 26 35 i0 _ 6 88 Tryz.underlying26 hi hz0 hz1 hz2 rfl (by decide) v l.length css.flatten hown ⟨g, o, none⟩ d.length c dss.flatten (by rw [flat_len dss k2, k1]) (fun j u hj => by
    rw [Lib.add_plain]; exact k4 j u hj) (fun u hu => by
      obtain ⟨cs, hcs, hu⟩ := List.mem_flatten.1 hu
      obtain ⟨i, hi, rfl⟩ := List.getElem_of_mem hcs
      exact (k3 i hi (by omega)).one u hu) (by unfold maxLen; omega) hl hB
  refine ⟨v', w', hr, ⟨css ++ dss, by simp [hlen, k1], ?_, fun i hi hi2 => ?_⟩, h3, h4⟩
  · rw [List.length_append, List.flatten_append]
    exact h2
  · have hkeep : ∀ {t : Tm} {cs : List Value}, TmAt S t cs w → TmAt S t cs w' := fun h => by
      have h1 : TmAt (fun b => b < w.heap.size ∧ S b) _ _ w := h.mono fun b hb hS => ⟨hb, hS⟩
      exact (h1.frame (w' := w') fun b hb => h3.block b hb.1 (fun e => hv b e.symm hb.2)).mono fun _ _ hS => hS.2
    by_cases e : i < l.length
    · have e1 : (css ++ dss)[i] = css[i]'(by omega) := List.getElem_append_left (by omega)
      have e2 : (l ++ d)[i] = l[i] := List.getElem_append_left e
      rw [e1, e2]
      exact hkeep (hts i (by omega) e)
    · have e1 : (css ++ dss)[i] = dss[i - css.length]'(by simp at hi; omega) := List.getElem_append_right (by omega)
      have e2 : (l ++ d)[i] = d[i - l.length]'(by simp at hi2; omega) := List.getElem_append_right (by omega)
      rw [e1, e2]
      have := hkeep (k3 (i - l.length) (by simp at hi2; omega) (by simp at hi2; omega))
      simpa [hlen] using this
theorem RowAt.frame {S : Nat → Prop} {g o : Nat} {d : List Tm} {w w' : World} (h : RowAt S g o d w) (hg : w'.heap[g]? = w.heap[g]?) (hb : ∀ b, S b → w'.heap[b]? = w.heap[b]?) : RowAt S g o d w' := fun i hi => by
  obtain ⟨vs, h1, h2⟩ := h i hi
  exact ⟨vs, fun j hj => by rw [← h1 j hj]; unfold World.cell?; rw [hg], h2.frame hb⟩
end Go.Proofs.YtlahagabcnmdiaaGreatDoor
end
section
/- Layer 4, plain: the bytes of a term. -/
open Go Go.RowKit
namespace Go.Proofs.YtlahagabcnmdiaaGreatDoor
set_option linter.unusedVariables false

def etfL : ByteArray := ⟨#[101, 116, 102]⟩
/-- four bytes, the greatest first -/
def fourB (n : Int) : List UInt8 := [UInt8.ofNat (n.toNat / 16777216), UInt8.ofNat (n.toNat / 65536), UInt8.ofNat (n.toNat / 256), UInt8.ofNat n.toNat]
def atomB (s : ByteArray) : List UInt8 := 119 :: UInt8.ofNat s.size :: s.data.toList
/-- an int that is too wide for the wire -/
def wideI (k i : Int) : Bool := decide (k = 1) && (decide (i < -2147483648) || decide (2147483647 < i))
/-- a part's own bytes -/
def headB (k i : Int) (s : ByteArray) (c : Int) (ns : List Int) (n : Nat) : List UInt8 :=
  if k = 1 then (if wideI k i then [] else if 0 ≤ i ∧ i ≤ 255 then [97, UInt8.ofNat i.toNat] else 98 :: fourB (i % 4294967296))
  else if k = 2 then atomB s
  else if k = 5 then (if n < 256 then [104, UInt8.ofNat n] else 105 :: fourB n)
  else if k = 6 then [106]
  else if k = 7 then 108 :: fourB ((n : Int) - 1)
  else if k = 4 then 88 :: (atomB s ++ fourB (ns.getD 0 0) ++ fourB (ns.getD 1 0) ++ fourB c)
  else if k = 3 then [90, 0, 3] ++ atomB s ++ fourB c ++ ns.flatMap fourB
  else []
/-- what a writer has -/
structure Wr where
  b : List UInt8
  part : Nat
  wide : Int
def Wr.head (st : Wr) (k i : Int) (s : ByteArray) (c : Int) (ns : List Int) (n : Nat) : Wr :=
  ⟨st.b ++ headB k i s c ns n, st.part + 1, if wideI k i && decide (st.wide < 0) then st.part else st.wide⟩
mutual
/-- what the program's writer does -/
def wrT : Tm → Wr → Wr
  | .mk k i s c ns al, st => wrL al (st.head k i s c ns al.length)
def wrL : List Tm → Wr → Wr
  | [], st => st
  | t :: r, st => wrL r (wrT t st)
end
mutual
def sizeT : Tm → Nat
  | .mk _ _ _ _ _ al => 1 + sizeTL al
def sizeTL : List Tm → Nat
  | [] => 0
  | t :: r => sizeT t + sizeTL r
end
mutual
/-- what is written of what was checked -/
def okT : Tm → Prop
  | .mk k i s c ns al => partS (.mk k i s c ns al) 0 = [] ∧ okTL al
def okTL : List Tm → Prop
  | [] => True
  | t :: r => okT t ∧ okTL r
end
theorem partS_at (t : Tm) (a b : Int) : partS t a = [] ↔ partS t b = [] := by
  unfold partS
  split
  · simp
  · split
    · split <;> simp
    · split
      · simp [overL_nil]
      · split
        · simp [overL_nil]
        · simp
mutual
theorem walkS_ok : ∀ (t : Tm) (n dm d : Nat), (walkS t n dm d).1 = [] → okT t ∧ (walkS t n dm d).2.1 = n + sizeT t
  | .mk k i s c ns al, n, dm, d, h => by
    rw [walkS] at h ⊢
    split at h
    · cases h
    · split at h
      · cases h
      · split at h
        · rename_i hp; exact absurd h hp
        · rename_i h1 h2 h3
          rw [if_neg h1, if_neg h2, if_neg h3]
          obtain ⟨k1, k2⟩ := walkLS_ok al _ _ _ h
          refine ⟨?_, ?_⟩
          · rw [okT]; exact ⟨(partS_at _ _ _).1 (Classical.not_not.1 h3), k1⟩
          · rw [k2, sizeT]; omega
theorem walkLS_ok : ∀ (l : List Tm) (n dm d : Nat), (walkLS l n dm d).1 = [] → okTL l ∧ (walkLS l n dm d).2.1 = n + sizeTL l
  | [], n, dm, d, _ => by rw [walkLS, okTL, sizeTL]; exact ⟨trivial, rfl⟩
  | t :: r, n, dm, d, h => by
    rw [walkLS] at h ⊢
    split at h
    · rename_i h1; exact absurd h h1
    · rename_i h1
      rw [if_neg h1]
      obtain ⟨k1, k2⟩ := walkS_ok t n dm d (Classical.not_not.1 h1)
      obtain ⟨k3, k4⟩ := walkLS_ok r _ _ _ h
      rw [okTL, sizeTL]
      exact ⟨⟨k1, k3⟩, by rw [k4, k2]; omega⟩
end
theorem checkS_ok {t : Tm} (h : checkS t = []) : okT t ∧ sizeT t ≤ 4096 := by
  obtain ⟨h1, h2⟩ := walkS_ok t 0 0 1 h
  have := (walkS_le t 0 0 1 (by omega) (by omega) (by omega)).1
  exact ⟨h1, by omega⟩
theorem text_ok {t : Tm} (h : partS t 0 = []) : t.text.size ≤ 255 := by
  unfold partS at h
  split at h
  · cases h
  · rename_i hf
    have hfm : formS t = true := by simpa using hf
    have hemp : ∀ {nn an : Nat} {nu ar : Bool}, emptyS t.kind t.int t.text t.cr nn an false nu ar = true → t.text.size ≤ 255 := by
      intro nn an nu ar he
      unfold emptyS at he
      simp only [Bool.false_or, Bool.and_eq_true, decide_eq_true_eq] at he
      rw [he.1.1.1]; decide
    by_cases k2 : t.kind = 2
    · rw [if_neg (by omega), if_pos k2, overL_nil] at h
      unfold quoteS at h
      split at h
      · cases h
      · omega
    · by_cases k34 : t.kind = 3 ∨ t.kind = 4
      · rw [if_neg (by omega), if_neg k2, if_pos k34, overL_nil] at h
        unfold nodeS at h
        split at h
        · rename_i hg
          unfold goodAll goodS at hg
          simp only [Bool.and_eq_true, decide_eq_true_eq] at hg
          have := hg.1.1.1.2
          omega
        · cases h
      · unfold formS at hfm
        split at hfm
        · exact hemp hfm
        · rw [if_neg (by omega), if_neg (by omega)] at hfm
          split at hfm
          · exact hemp hfm
          · split at hfm
            · exact hemp hfm
            · split at hfm
              · simp only [Bool.and_eq_true] at hfm; exact hemp hfm.1.1
              · cases hfm
end Go.Proofs.YtlahagabcnmdiaaGreatDoor
end
section
/- Package etf: fault; the writer, four bytes, an atom. -/
open Go Go.RowKit
namespace Go.Proofs.YtlahagabcnmdiaaGreatDoor
set_option linter.unusedVariables false
set_option linter.unusedSimpArgs false

theorem byteV_of (m : Nat) (y : Int) (h : (m : Int) % 256 = y) : byteV (UInt8.ofNat m) = .int .u8 y := by
  unfold byteV
  rw [← h]
  simp
/-- a writer -/
structure WrIs (base g : Nat) (st : Wr) (bv : Value) (w : World) : Prop where
  hg : base ≤ g
  cells : Cells w g 104 [bv, .int .i64 st.part, .int .i64 st.wide]
  buf : BufIs base bv st.b w
def WrRes (base g : Nat) (bv : Value) (w : World) (st : Wr) (w' : World) : Prop :=
  ∃ bv', WrIs base g st bv' w' ∧ Keep (LsK g bv) w w' ∧ ∀ q, bv'.ownBlock = some q → bv.ownBlock = some q ∨ w.heap.size ≤ q
theorem WrIs.ne {base g : Nat} {st : Wr} {bv : Value} {w : World} (h : WrIs base g st bv w) {q : Nat} (hq : bv.ownBlock = some q) : q ≠ g := by
  intro e
  obtain ⟨_, ⟨hv, _⟩ | ⟨g', cap, cur, hv, hbg, hcell, _⟩⟩ := h.buf
  · rw [hv] at hq; cases hq
  · rw [hv] at hq; cases hq
    have hC := h.cells
    unfold Cells at hC
    rw [← e, hcell] at hC
    injection hC with hC
    injection hC with _ h2
    exact absurd h2 (by decide)
theorem WrIs.form {base g : Nat} {st : Wr} {bv : Value} {w : World} (h : WrIs base g st bv w) : ∃ a c, bv = .slice a st.b.length c := by
  rcases h.buf.shape with ⟨rfl, hn⟩ | ⟨g, c, rfl, _⟩
  · exact ⟨none, 0, by rw [hn]; rfl⟩
  · exact ⟨_, c, rfl⟩
theorem WrIs.below {base g : Nat} {st : Wr} {bv : Value} {w w' : World} (h : WrIs base g st bv w) (hb : Below w.heap.size w w') : WrIs base g st bv w' := ⟨h.hg, h.cells.below hb, h.buf.below hb (Nat.le_refl _)⟩
/-- more bytes -/
theorem WrIs.app {base g : Nat} {st : Wr} {bv dv : Value} {d : List UInt8} {w : World} (h : WrIs base g st bv w) (hd : RSl dv d w) (hl : st.b.length + d.length ≤ 140737488355328) :
    ∃ a' n' c' w', (Builtin.append_ #[40, 40] 40 #[bv, dv]).run Tryz.prog w = .ok (.slice a' n' c') w' ∧ Cells w' g 104 [bv, .int .i64 st.part, .int .i64 st.wide] ∧
      WrRes base g bv w ⟨st.b ++ d, st.part, st.wide⟩ (w'.setCell ⟨g, 0, none⟩ (.slice a' n' c')) := by
  have hB : base ≤ w.heap.size := Nat.le_of_lt (Nat.lt_of_le_of_lt h.hg h.cells.lt)
  obtain ⟨v', w', hr, h2, hg, hob⟩ := h.buf.app2 hd hl hB
  obtain ⟨a', n', c', rfl⟩ : ∃ a n c, v' = .slice a n c := by
    rcases h2.shape with ⟨rfl, _⟩ | ⟨_, _, rfl, _⟩ <;> exact ⟨_, _, _, rfl⟩
  have hC := h.cells.grown hg (fun e => h.ne e rfl)
  have hvg : ∀ q, (Value.slice a' n' c').ownBlock = some q → q ≠ g := fun q hq => by
    rcases hob with e | e
    · rw [e] at hq; exact h.ne hq
    · rw [e] at hq; cases hq; have := h.cells.lt; omega
  refine ⟨a', n', c', w', hr, hC, .slice a' n' c', ⟨h.hg, hC.set_ 0 _, h2.frame fun q hq => Below.heap_setCell _ _ _ _ (hvg q hq)⟩, ((Keep.refl _ w).grown hg (fun k hk _ => .inr hk)).setCell (p := ⟨g, 0, none⟩) (fun _ => .inl rfl) _, fun q hq => ?_⟩
  rcases hob with e | e
  · rw [e] at hq; exact .inl hq
  · rw [e] at hq; cases hq; exact .inr (Nat.le_refl _)
theorem WrRes.trans {base g : Nat} {bv : Value} {w w1 w2 : World} {st : Wr} (hg : g < w.heap.size) (hv : ∀ q, bv.ownBlock = some q → q < w.heap.size) {bv1 : Value} (h1 : Keep (LsK g bv) w w1) (hv1 : ∀ q, bv1.ownBlock = some q → bv.ownBlock = some q ∨ w.heap.size ≤ q) (h : WrRes base g bv1 w1 st w2) : WrRes base g bv w st w2 := by
  obtain ⟨bv2, k1, k2, k3⟩ := h
  refine ⟨bv2, k1, h1.trans k2 (fun q hq e => ?_), fun q hq => ?_⟩
  · rcases e with e | e
    · exact .inl e
    · rcases hv1 q e with e | e
      · exact .inr e
      · omega
  · rcases k3 q hq with e | e
    · exact hv1 q e
    · exact .inr (Nat.le_trans h1.size e)
theorem WrIs.lt {base g : Nat} {st : Wr} {bv : Value} {w : World} (h : WrIs base g st bv w) {q : Nat} (hq : LsK g bv q) : q < w.heap.size ∧ base ≤ q := by
  rcases hq with rfl | hq
  · exact ⟨h.cells.lt, h.hg⟩
  · exact ⟨(h.buf.block hq).2, (h.buf.block hq).1⟩
theorem etFault_any (at_ code : Int) (u : Value) (l : List Lk) (w : World) (h : ErrIs w u l) :
    Calls Tryz.prog 47 #[.int .i64 at_, .int .i64 code, u] w fun e w' => ∃ b, e = .returned (.pointer (some ⟨b, 0, none⟩)) ∧ ErrIs w' (.iface 96 (.pointer (some ⟨b, 0, none⟩))) (⟨etfL, at_, code⟩ :: l) ∧ Below w.heap.size w w' := by
  have H1 := Lib.hid (h.cons ⟨etfL, at_, code⟩)
  have HB := Lib.hid ((Below.refl w.heap.size w).alloc (Nat.le_refl _) (.cells #[.string etfL, .int .i64 at_, .int .i64 code, u] 101 (0, 0)))
  have hf := h.form
  unfold etfL at *
  obtain ⟨rfl, rfl⟩ | ⟨hne, b, rfl⟩ := hf
  all_goals
    clear h
    try clear hne
    go_enter Tryz.func47, Tryz.ntmps47
    go_wp2
    go_ret
    exact ⟨_, rfl, H1.out, HB.out⟩
set_option maxHeartbeats 4000000 in
set_option maxRecDepth 100000 in
theorem etFour_any {base g : Nat} {st : Wr} {bv : Value} (n : Int) (w : World) (h : WrIs base g st bv w) (h0 : 0 ≤ n) (h1 : n < 4294967296) (hl : st.b.length ≤ 1000000000) :
    Calls Tryz.prog 86 #[.pointer (some ⟨g, 0, none⟩), .int .u32 n] w fun e w' => e = .returned (.tuple #[]) ∧ WrRes base g bv w ⟨st.b ++ fourB n, st.part, st.wide⟩ w' := by
  have HW := Lib.hid h
  obtain ⟨a, c, rfl⟩ := h.form
  have c0 := h.cells.cell 0
  simp only [List.getElem?_cons_zero] at c0
  clear h
  go_enter Tryz.func86, Tryz.ntmps86
  have HB := Lib.hid ((Below.refl w.heap.size w).alloc (Nat.le_refl _) (.cells #[.int .u8 (n / 16777216), .int .u8 (n / 65536 % 256), .int .u8 (n / 256 % 256), .int .u8 (n % 256)] 5 (0, 0)))
  have HD := Lib.hid (show RSl (.slice (some ⟨w.heap.size, 0, none⟩) 4 4) (fourB n) (w.alloc (.cells #[.int .u8 (n / 16777216), .int .u8 (n / 65536 % 256), .int .u8 (n / 256 % 256), .int .u8 (n % 256)] 5 (0, 0))) from by
    have h2 := (BufIs.lit (base := 0) (w := w) (fourB n) (Nat.zero_le _) (by simp [fourB, maxLen])).rsl
    have e : (bytesV (fourB n)).toArray = #[.int .u8 (n / 16777216), .int .u8 (n / 65536 % 256), .int .u8 (n / 256 % 256), .int .u8 (n % 256)] := by
      have q1 : byteV (UInt8.ofNat (n.toNat / 16777216)) = .int .u8 (n / 16777216) := byteV_of _ _ (by omega)
      have q2 : byteV (UInt8.ofNat (n.toNat / 65536)) = .int .u8 (n / 65536 % 256) := byteV_of _ _ (by omega)
      have q3 : byteV (UInt8.ofNat (n.toNat / 256)) = .int .u8 (n / 256 % 256) := byteV_of _ _ (by omega)
      have q4 : byteV (UInt8.ofNat n.toNat) = .int .u8 (n % 256) := byteV_of _ _ (by omega)
      simp only [fourB, bytesV, List.map_cons, List.map_nil, q1, q2, q3, q4]
    rw [e] at h2
    exact h2)
  have hlit : 0 < 1 := by decide
  obtain ⟨a', n', c', w', hr, hC, hres⟩ := (HW.out.below HB.out).app HD.out (by have : (fourB n).length = 4 := rfl; omega)
  have HR := Lib.hid hr
  have HC := Lib.hid hC
  have HRES := Lib.hid hres
  clear hr hC hres hlit
  go_wp2_with (at_builtin; refine stop ?_)
  refine Stopped.of ?_
  refine wp_app_eq rfl (.tmp 8) (.tmp 20) _ _ rfl _ _ (.slice a' n' c') w' rfl rfl HR.out ?_
  have d0 := HC.out.cell 0
  have f0 := HC.out.frozen 0
  simp only [List.getElem?_cons_zero] at d0
  go_wp2
  go_end0
  exact ⟨rfl, WrRes.trans HW.out.cells.lt (fun q hq => (HW.out.buf.block hq).2) (keepB HB.out) (fun q hq => .inl hq) HRES.out⟩
theorem RSl.lit (w : World) (l : List UInt8) (hl : l.length ≤ maxLen) : RSl (.slice (some ⟨w.heap.size, 0, none⟩) l.length l.length) l (w.alloc (.cells (bytesV l).toArray 5 (0, 0))) := (BufIs.lit (base := 0) (w := w) l (Nat.zero_le _) hl).rsl
theorem WrIs.appStr {base g : Nat} {st : Wr} {bv : Value} {w : World} (h : WrIs base g st bv w) (s : ByteArray) (hl : st.b.length + s.size ≤ 140737488355328) :
    ∃ a' n' c' w', (Builtin.append_ #[40, 9] 40 #[bv, .string s]).run Tryz.prog w = .ok (.slice a' n' c') w' ∧ Cells w' g 104 [bv, .int .i64 st.part, .int .i64 st.wide] ∧
      WrRes base g bv w ⟨st.b ++ s.data.toList, st.part, st.wide⟩ (w'.setCell ⟨g, 0, none⟩ (.slice a' n' c')) := by
  have hB : base ≤ w.heap.size := Nat.le_of_lt (Nat.lt_of_le_of_lt h.hg h.cells.lt)
  obtain ⟨v', w', hr, h2, hg, hob⟩ := h.buf.appStr s hl hB
  obtain ⟨a', n', c', rfl⟩ : ∃ a n c, v' = .slice a n c := by
    rcases h2.shape with ⟨rfl, _⟩ | ⟨_, _, rfl, _⟩ <;> exact ⟨_, _, _, rfl⟩
  have hC := h.cells.grown hg (fun e => h.ne e rfl)
  have hvg : ∀ q, (Value.slice a' n' c').ownBlock = some q → q ≠ g := fun q hq => by
    rcases hob with e | e
    · rw [e] at hq; exact h.ne hq
    · rw [e] at hq; cases hq; have := h.cells.lt; omega
  refine ⟨a', n', c', w', hr, hC, .slice a' n' c', ⟨h.hg, hC.set_ 0 _, h2.frame fun q hq => Below.heap_setCell _ _ _ _ (hvg q hq)⟩, ((Keep.refl _ w).grown hg (fun k hk _ => .inr hk)).setCell (p := ⟨g, 0, none⟩) (fun _ => .inl rfl) _, fun q hq => ?_⟩
  rcases hob with e | e
  · rw [e] at hq; exact .inl hq
  · rw [e] at hq; cases hq; exact .inr (Nat.le_refl _)
set_option maxHeartbeats 4000000 in
set_option maxRecDepth 100000 in
theorem etAtom_any {base g : Nat} {st : Wr} {bv : Value} (s : ByteArray) (w : World) (h : WrIs base g st bv w) (hs : s.size ≤ 255) (hl : st.b.length ≤ 1000000000) :
    Calls Tryz.prog 87 #[.pointer (some ⟨g, 0, none⟩), .string s] w fun e w' => e = .returned (.tuple #[]) ∧ WrRes base g bv w ⟨st.b ++ atomB s, st.part, st.wide⟩ w' := by
  have HW := Lib.hid h
  obtain ⟨a, c, rfl⟩ := h.form
  have c0 := h.cells.cell 0
  simp only [List.getElem?_cons_zero] at c0
  clear h
  go_enter Tryz.func87, Tryz.ntmps87
  have HB := Lib.hid ((Below.refl w.heap.size w).alloc (Nat.le_refl _) (.cells #[.int .u8 119, .int .u8 s.size] 5 (0, 0)))
  have HD := Lib.hid (show RSl (.slice (some ⟨w.heap.size, 0, none⟩) 2 2) [119, UInt8.ofNat s.size] (w.alloc (.cells #[.int .u8 119, .int .u8 s.size] 5 (0, 0))) from by
    have h2 := RSl.lit w [119, UInt8.ofNat s.size] (by simp [maxLen])
    have e : (bytesV [119, UInt8.ofNat s.size]).toArray = #[.int .u8 119, .int .u8 s.size] := by
      have q1 : byteV (UInt8.ofNat s.size) = .int .u8 s.size := byteV_of _ _ (by omega)
      simp only [bytesV, List.map_cons, List.map_nil, q1]
      rfl
    rw [e] at h2
    exact h2)
  obtain ⟨a', n', c', w', hr, hC, hres⟩ := (HW.out.below HB.out).app HD.out (by simp; omega)
  have HR := Lib.hid hr
  have HC := Lib.hid hC
  obtain ⟨v2, hw2, hk2, hv2⟩ := WrRes.trans HW.out.cells.lt (fun q hq => (HW.out.buf.block hq).2) (keepB HB.out) (fun q hq => .inl hq) hres
  obtain ⟨a3, n3, c3, w3, hr3, hC3, hres3⟩ := hw2.appStr s (by simp; omega)
  obtain ⟨a2, c2, rfl⟩ := hw2.form
  generalize (List.length (st.b ++ [119, UInt8.ofNat s.size])) = n2 at *
  have HR3 := Lib.hid hr3
  have HC3 := Lib.hid hC3
  have e2 := hw2.cells.cell 0
  have HRES := Lib.hid (WrRes.trans HW.out.cells.lt (fun q hq => (HW.out.buf.block hq).2) hk2 hv2 hres3)
  simp only [List.getElem?_cons_zero] at e2
  clear hr hC hres hr3 hC3 hres3 hw2 hk2 hv2
  go_wp2_with (at_builtin; refine stop ?_)
  refine Stopped.of ?_
  refine wp_app_eq rfl (.tmp 8) (.tmp 12) _ _ rfl _ _ (.slice a' n' c') w' rfl rfl HR.out ?_
  have d0 := HC.out.cell 0
  have f0 := HC.out.frozen 0
  simp only [List.getElem?_cons_zero] at d0
  go_wp2_with (at_builtin; refine stop ?_)
  refine Stopped.of ?_
  refine wp_app_eq rfl (.tmp 20) (.tmp 21) _ _ rfl _ _ (.slice a3 n3 c3) w3 rfl rfl HR3.out ?_
  have d3 := HC3.out.cell 0
  have f3 := HC3.out.frozen 0
  simp only [List.getElem?_cons_zero] at d3
  go_wp2
  go_end0
  exact ⟨rfl, by have := HRES.out; simpa [atomB] using this⟩
end Go.Proofs.YtlahagabcnmdiaaGreatDoor
end
