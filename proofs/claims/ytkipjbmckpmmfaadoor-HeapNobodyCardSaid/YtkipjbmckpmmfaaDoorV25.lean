/- Texts laid together: TmE, Same, TrA, TrB. -/
import Derived.Test.YtkipjbmckpmmfaaDoorV23
import Derived.Test.YtkipjbmckpmmfaaDoorV13
import Derived.Test.YtkipjbmckpmmfaaDoorV24
import Derived.WalkSpells
import Derived.Deep.Cut
import Derived.BigQuiet
import Derived.Deep.QuietTactic
import Derived.Deep.RegionHeld3
import Derived.StillTailTactics
import Derived.BigRegion
section
/- Package term: Copy. -/
open Go Go.RowKit
namespace Go.Proofs.YtkipjbmckpmmfaaDoor

def numsV (l : List Int) : List Value := l.map fun n => Value.int .u32 n
/-- an owned row of numbers is a row of numbers -/
theorem NumsAt.ofOwn {base : Nat} {v : Value} {l : List Int} {w : World} (h : w.ownsRow base 23 1 v l.length (numsV l)) (hb : ∀ n ∈ l, 0 ≤ n ∧ n < 4294967296) (hz : l.length * 4 ≤ 140737488351232) : NumsAt (fun b => base ≤ b) v l w := by
  obtain ⟨h1, ⟨rfl, hn⟩ | ⟨g, cap, cur, rfl, hbg, hcell, hn, hc, hcs, htake⟩⟩ := h
  · exact ⟨none, 0, by rw [hn], ⟨by omega, hz⟩, Nat.zero_le _, fun i hi => absurd hi (by omega)⟩
  · refine ⟨some ⟨g, 0, none⟩, cap, rfl, ⟨hn, hz⟩, hc, fun i hi => ?_⟩
    have hm := hb l[i] (List.getElem_mem hi)
    refine ⟨hm.1, hm.2, g, 0, rfl, hbg, ?_⟩
    have h2 : cur.toList[i]? = some (.int .u32 l[i]) := by
      have := congrArg (fun z : List Value => z[i]?) htake
      simp only [Nat.mul_one] at this
      rw [List.getElem?_take_of_lt hi] at this
      rw [this]
      simp [numsV, hi]
    have h3 : cur[i]? = some (.int .u32 l[i]) := by simpa using h2
    simp [World.cell?, hcell, h3]
def termZ : List Value := [.int .i64 0, .int .i64 0, .string ⟨#[]⟩, .int .u32 0, .slice none 0 0, .slice none 0 0]
end Go.Proofs.YtkipjbmckpmmfaaDoor
end
section
/- heddleref02.Same, of a term and itself. Printed by wip/sam.py. -/
open Go Go.RowKit
namespace Go.Proofs.YtkipjbmckpmmfaaDoor
set_option linter.unusedVariables false
set_option linter.unusedSimpArgs false

theorem NumsAt.get {S : Nat → Prop} {v : Value} {l : List Int} {w : World} (h : NumsAt S v l w) : ∃ a c, v = .slice a l.length c ∧ ∀ i (hi : i < l.length), ∃ g o, a = some ⟨g, o, none⟩ ∧ w.cell? ⟨g, o + i, none⟩ = some (.int .u32 l[i]) := by
  obtain ⟨a, c, h1, _, _, h4⟩ := h
  exact ⟨a, c, h1, fun i hi => by obtain ⟨_, _, g, o, ha, _, hc⟩ := h4 i hi; exact ⟨g, o, ha, hc⟩⟩
set_option maxHeartbeats 16000000 in
set_option maxRecDepth 100000 in
theorem same_ind : ∀ (N : Nat) (S1 S2 : Nat → Prop) (t : Tm) (vs1 vs2 : List Value) (w : World), SizeOf.sizeOf t ≤ N → TmAt S1 t vs1 w → TmAt S2 t vs2 w →
    Calls Tryd.prog 12 #[.agg vs1.toArray, .agg vs2.toArray] w fun e w' => e = .returned (.bool true) ∧ Below w.heap.size w w' := by
  intro N
  induction N with
  | zero => intro S1 S2 t vs1 vs2 w h; cases t; simp at h
  | succ N ih =>
    intro S1 S2 t vs1 vs2 w hN ht1 ht2
    have HIH := Lib.hid ih
    have HNN := Lib.hid hN
    obtain ⟨hp, nv, a, cap, rfl, hnn, ⟨hc, hcm⟩, hcap, ha⟩ := ht1.parts
    obtain ⟨-, nv', a', cap', rfl, hnn', ⟨hc', hcm'⟩, hcap', ha'⟩ := ht2.parts
    have hnl : t.nums.length ≤ 140737488351232 := by
      obtain ⟨_, _, _, h, _⟩ := hnn
      have := h.2; omega
    obtain ⟨na, nc, rfl, hnum⟩ := hnn.get
    obtain ⟨na', nc', rfl, hnum'⟩ := hnn'.get
    have HN1 := Lib.hid hnum
    have HN2 := Lib.hid hnum'
    have HA1 := Lib.hid ha
    have HA2 := Lib.hid ha'
    have hal : t.args.length ≤ 140737488351232 := by omega
    have HB0 := Lib.hid (((Below.refl _ w).alloc (Nat.le_refl _) (.cells #[.int .i64 t.kind, .int .i64 t.int, .string t.text, .int .u32 t.cr, .slice na t.nums.length nc, .slice a t.args.length cap] 27 (0, 0))).alloc (by simp) (.cells #[.int .i64 t.kind, .int .i64 t.int, .string t.text, .int .u32 t.cr, .slice na' t.nums.length nc', .slice a' t.args.length cap'] 27 (0, 0)))
    have M1 := Lib.hid ((Cells.new w 27 [.int .i64 t.kind, .int .i64 t.int, .string t.text, .int .u32 t.cr, .slice na t.nums.length nc, .slice a t.args.length cap]).alloc (.cells #[.int .i64 t.kind, .int .i64 t.int, .string t.text, .int .u32 t.cr, .slice na' t.nums.length nc', .slice a' t.args.length cap'] 27 (0, 0)))
    have M2 := Lib.hid (show Cells ((w.alloc (.cells #[.int .i64 t.kind, .int .i64 t.int, .string t.text, .int .u32 t.cr, .slice na t.nums.length nc, .slice a t.args.length cap] 27 (0, 0))).alloc (.cells #[.int .i64 t.kind, .int .i64 t.int, .string t.text, .int .u32 t.cr, .slice na' t.nums.length nc', .slice a' t.args.length cap'] 27 (0, 0))) (w.heap.size + 1) 27 [.int .i64 t.kind, .int .i64 t.int, .string t.text, .int .u32 t.cr, .slice na' t.nums.length nc', .slice a' t.args.length cap'] from by
      have := Cells.new (w.alloc (.cells #[.int .i64 t.kind, .int .i64 t.int, .string t.text, .int .u32 t.cr, .slice na t.nums.length nc, .slice a t.args.length cap] 27 (0, 0))) 27 [.int .i64 t.kind, .int .i64 t.int, .string t.text, .int .u32 t.cr, .slice na' t.nums.length nc', .slice a' t.args.length cap']
      rwa [World.size_alloc] at this)
    clear ih hN ht1 ht2 hnn hnn' ha ha' hcm hcm' hnum hnum' hp hc hc' hcap hcap'
    go_enter Tryd.func12, Tryd.ntmps12
    go_upto_region 1 with (fail)
    generalize (w.alloc (.cells #[.int .i64 t.kind, .int .i64 t.int, .string t.text, .int .u32 t.cr, .slice na t.nums.length nc, .slice a t.args.length cap] 27 (0, 0))).alloc (.cells #[.int .i64 t.kind, .int .i64 t.int, .string t.text, .int .u32 t.cr, .slice na' t.nums.length nc', .slice a' t.args.length cap'] 27 (0, 0)) = w1 at *
    have p0 := M1.out.cell 0
    have p1 := M1.out.cell 1
    have p2 := M1.out.cell 2
    have p3 := M1.out.cell 3
    have p4 := M1.out.cell 4
    have p5 := M1.out.cell 5
    have q0 := M2.out.cell 0
    have q1 := M2.out.cell 1
    have q2 := M2.out.cell 2
    have q3 := M2.out.cell 3
    have q4 := M2.out.cell 4
    have q5 := M2.out.cell 5
    simp only [List.getElem?_cons_zero, List.getElem?_cons_succ] at p0 p1 p2 p3 p4 p5 q0 q1 q2 q3 q4 q5
    go_wp2
    clear p0 p1 p2 p3 p4 p5 q0 q1 q2 q3 q4 q5
    go_loopw [5] (fun i wr => ∃ kk : Nat, kk ≤ t.nums.length ∧ i = .int .i64 kk ∧ Below w1.heap.size w1 wr) (fun i _ => t.nums.length - (intOf i).toNat)
    case atStart => exact ⟨0, Nat.zero_le _, rfl, Below.refl _ _⟩
    case round =>
      obtain ⟨kk, hkk, rfl, hbr⟩ := hrel
      have HBR := Lib.hid hbr
      clear hbr
      have p4 := (M1.out.below HBR.out).cell 4
      have q4 := (M2.out.below HBR.out).cell 4
      simp only [List.getElem?_cons_zero, List.getElem?_cons_succ] at p4 q4
      by_cases hk : kk < t.nums.length
      · obtain ⟨g, o, rfl, hg⟩ := HN1.out kk hk
        obtain ⟨g', o', rfl, hg'⟩ := HN2.out kk hk
        have d1 := ((HB0.out.trans (HBR.out.mono HB0.out.size)).cell (p := ⟨g, o + kk, none⟩) (World.block_lt_of_cell? w _ hg)).trans hg
        have d2 := ((HB0.out.trans (HBR.out.mono HB0.out.size)).cell (p := ⟨g', o' + kk, none⟩) (World.block_lt_of_cell? w _ hg')).trans hg'
        have hki : (kk : Int) < (t.nums.length : Int) := by omega
        have hk0 : (0 : Int) ≤ (kk : Int) := by omega
        have hk1 : (kk : Int) ≤ 140737488351232 := by omega
        clear hg hg'
        go_wp2
        go_quiet (fail)
        go_wp2
        go_roundw
        case rel => exact ⟨kk + 1, by omega, by go_num, below_drewN HBR.out _⟩
        case measure => simp [intOf]; omega
      · have hki : ¬ (kk : Int) < (t.nums.length : Int) := by omega
        clear hk hkk
        go_wp2
        clear p4 q4
        obtain ⟨wo, rfl⟩ : ∃ wo : World, wo = wr := ⟨_, rfl⟩
        go_loopw [6] (fun i wr => ∃ kk : Nat, kk ≤ t.args.length ∧ i = .int .i64 kk ∧ Below w1.heap.size w1 wr) (fun i _ => t.args.length - (intOf i).toNat)
        case atStart => exact ⟨0, Nat.zero_le _, rfl, HBR.out⟩
        case round =>
          obtain ⟨kk, hkk, rfl, hbr⟩ := hrel
          have HB2 := Lib.hid hbr
          clear hbr
          have p5 := (M1.out.below HB2.out).cell 5
          simp only [List.getElem?_cons_zero, List.getElem?_cons_succ] at p5
          by_cases hk : kk < t.args.length
          · obtain ⟨g, o, vs, rfl, -, hcs, ht⟩ := HA1.out.get kk hk
            obtain ⟨g', o', vs', rfl, -, hcs', ht'⟩ := HA2.out.get kk hk
            have HT1 := Lib.hid ht
            have HT2 := Lib.hid ht'
            obtain ⟨-, mv, b, bap, rfl, hmm, -⟩ := ht.parts
            obtain ⟨ma, mc, rfl, -, -⟩ := hmm.slice
            obtain ⟨-, mv', b', bap', rfl, hmm', -⟩ := ht'.parts
            obtain ⟨ma', mc', rfl, -, -⟩ := hmm'.slice
            have e0 := hcs 0 (by decide)
            have hgl : g < w.heap.size := World.block_lt_of_cell? w _ e0
            have f0 := hcs' 0 (by decide)
            have hgl' : g' < w.heap.size := World.block_lt_of_cell? w _ f0
            have HWX := Lib.hid (fun W (h : Below wr.heap.size wr W) => HB0.out.trans ((HB2.out.trans (h.mono HB2.out.size)).mono HB0.out.size))
            have HE := Lib.hid (fun W (h : Below wr.heap.size wr W) j (hj : j < 6) => ((HWX.out W h).cell (p := ⟨g, o + (kk * 6 + j), none⟩) hgl).trans (hcs j hj))
            have HF := Lib.hid (fun W (h : Below wr.heap.size wr W) j (hj : j < 6) => ((HWX.out W h).cell (p := ⟨g', o' + (kk * 6 + j), none⟩) hgl').trans (hcs' j hj))
            have HP5 := Lib.hid (fun W (h : Below wr.heap.size wr W) => show W.cell? ⟨w.heap.size, 5, none⟩ = some (.slice (some ⟨g, o, none⟩) t.args.length cap) from ((M1.out.below HB2.out).below h).cell 5)
            have HQ5 := Lib.hid (fun W (h : Below wr.heap.size wr W) => show W.cell? ⟨w.heap.size + 1, 5, none⟩ = some (.slice (some ⟨g', o', none⟩) t.args.length cap') from ((M2.out.below HB2.out).below h).cell 5)
            have hki : (kk : Int) < (t.args.length : Int) := by omega
            have hk0 : (0 : Int) ≤ (kk : Int) := by omega
            have hk1 : (kk : Int) ≤ 140737488351232 := by omega
            have HSZ := Lib.hid (show SizeOf.sizeOf t.args[kk] ≤ N from by have := Tm.arg_lt hk; have := HNN.out; omega)
            clear hcs hcs' ht ht' hmm hmm' e0 f0 hgl hgl'
            go_wp2
            refine wp_region_held_drew (S := fun W => Below wr.heap.size wr W) (by kernel_rfl) (Below.drew (Below.refl _ _)) (fun hHeld => ?_)
            refine wpAnyH_take (i := 0) (v := (.pointer (some ⟨w.heap.size, 5, none⟩))) (by simp only [List.getElem?_toArray, List.getElem?_cons_succ, List.getElem?_cons_zero]; rfl) (by kernel_rfl) (by kernel_rfl) (by kernel_rfl) (by exact fun _ _ _ h => h) (Or.inl ⟨by rfl, fun _ _ => rfl⟩) (by assumption) ?_
            try simp only [Act.put, List.setIfInBounds_toArray, List.set_cons_zero, List.set_cons_succ]
            refine wpAnyH_take (i := 1) (v := (.slice (some ⟨g, o, none⟩) t.args.length cap)) (by simp only [List.getElem?_toArray, List.getElem?_cons_succ, List.getElem?_cons_zero]; rfl) (by kernel_rfl) (by kernel_rfl) (by kernel_rfl) (by exact fun _ _ _ h => h) (Or.inl ⟨by rfl, by intro W hSw; have x0 := HP5.out W hSw; go_simp; all_goals first | rfl | exact ⟨rfl, rfl, rfl, rfl, rfl, rfl⟩⟩) (by assumption) ?_
            try simp only [Act.put, List.setIfInBounds_toArray, List.set_cons_zero, List.set_cons_succ]
            refine wpAnyH_take (i := 2) (v := (.int .i64 kk)) (by simp only [List.getElem?_toArray, List.getElem?_cons_succ, List.getElem?_cons_zero]; rfl) (by kernel_rfl) (by kernel_rfl) (by kernel_rfl) (by exact fun _ _ _ h => h) (Or.inl ⟨by rfl, fun _ _ => rfl⟩) (by assumption) ?_
            try simp only [Act.put, List.setIfInBounds_toArray, List.set_cons_zero, List.set_cons_succ]
            refine wpAnyH_take (i := 3) (v := (.pointer (some ⟨g, o + kk * 6, none⟩))) (by simp only [List.getElem?_toArray, List.getElem?_cons_succ, List.getElem?_cons_zero]; rfl) (by kernel_rfl) (by kernel_rfl) (by kernel_rfl) (by exact fun _ _ _ h => h) (Or.inl ⟨by rfl, by intro W hSw; go_simp; all_goals first | rfl | exact ⟨rfl, rfl, rfl, rfl, rfl, rfl⟩⟩) (by assumption) ?_
            try simp only [Act.put, List.setIfInBounds_toArray, List.set_cons_zero, List.set_cons_succ]
            refine wpAnyH_take (i := 4) (v := (.agg #[.int .i64 t.args[kk].kind, .int .i64 t.args[kk].int, .string t.args[kk].text, .int .u32 t.args[kk].cr, .slice ma t.args[kk].nums.length mc, .slice b t.args[kk].args.length bap])) (by simp only [List.getElem?_toArray, List.getElem?_cons_succ, List.getElem?_cons_zero]; rfl) (by kernel_rfl) (by kernel_rfl) (by kernel_rfl) (by exact fun _ _ _ h => h) (Or.inl ⟨by rfl, by intro W hSw; have x0 := HE.out W hSw 0 (by decide); have x1 := HE.out W hSw 1 (by decide); have x2 := HE.out W hSw 2 (by decide); have x3 := HE.out W hSw 3 (by decide); have x4 := HE.out W hSw 4 (by decide); have x5 := HE.out W hSw 5 (by decide); simp only [List.getElem?_cons_zero, List.getElem?_cons_succ, ← Nat.add_assoc, Nat.add_zero] at x0 x1 x2 x3 x4 x5; go_simp; all_goals first | rfl | exact ⟨rfl, rfl, rfl, rfl, rfl, rfl⟩⟩) (by assumption) ?_
            try simp only [Act.put, List.setIfInBounds_toArray, List.set_cons_zero, List.set_cons_succ]
            refine wpAnyH_take (i := 5) (v := (.pointer (some ⟨w.heap.size + 1, 5, none⟩))) (by simp only [List.getElem?_toArray, List.getElem?_cons_succ, List.getElem?_cons_zero]; rfl) (by kernel_rfl) (by kernel_rfl) (by kernel_rfl) (by exact fun _ _ _ h => h) (Or.inl ⟨by rfl, fun _ _ => rfl⟩) (by assumption) ?_
            try simp only [Act.put, List.setIfInBounds_toArray, List.set_cons_zero, List.set_cons_succ]
            refine wpAnyH_take (i := 6) (v := (.slice (some ⟨g', o', none⟩) t.args.length cap')) (by simp only [List.getElem?_toArray, List.getElem?_cons_succ, List.getElem?_cons_zero]; rfl) (by kernel_rfl) (by kernel_rfl) (by kernel_rfl) (by exact fun _ _ _ h => h) (Or.inl ⟨by rfl, by intro W hSw; have x0 := HQ5.out W hSw; go_simp; all_goals first | rfl | exact ⟨rfl, rfl, rfl, rfl, rfl, rfl⟩⟩) (by assumption) ?_
            try simp only [Act.put, List.setIfInBounds_toArray, List.set_cons_zero, List.set_cons_succ]
            refine wpAnyH_take (i := 7) (v := (.int .i64 kk)) (by simp only [List.getElem?_toArray, List.getElem?_cons_succ, List.getElem?_cons_zero]; rfl) (by kernel_rfl) (by kernel_rfl) (by kernel_rfl) (by exact fun _ _ _ h => h) (Or.inl ⟨by rfl, fun _ _ => rfl⟩) (by assumption) ?_
            try simp only [Act.put, List.setIfInBounds_toArray, List.set_cons_zero, List.set_cons_succ]
            refine wpAnyH_take (i := 8) (v := (.pointer (some ⟨g', o' + kk * 6, none⟩))) (by simp only [List.getElem?_toArray, List.getElem?_cons_succ, List.getElem?_cons_zero]; rfl) (by kernel_rfl) (by kernel_rfl) (by kernel_rfl) (by exact fun _ _ _ h => h) (Or.inl ⟨by rfl, by intro W hSw; go_simp; all_goals first | rfl | exact ⟨rfl, rfl, rfl, rfl, rfl, rfl⟩⟩) (by assumption) ?_
            try simp only [Act.put, List.setIfInBounds_toArray, List.set_cons_zero, List.set_cons_succ]
            refine wpAnyH_take (i := 9) (v := (.agg #[.int .i64 t.args[kk].kind, .int .i64 t.args[kk].int, .string t.args[kk].text, .int .u32 t.args[kk].cr, .slice ma' t.args[kk].nums.length mc', .slice b' t.args[kk].args.length bap'])) (by simp only [List.getElem?_toArray, List.getElem?_cons_succ, List.getElem?_cons_zero]; rfl) (by kernel_rfl) (by kernel_rfl) (by kernel_rfl) (by exact fun _ _ _ h => h) (Or.inl ⟨by rfl, by intro W hSw; have x0 := HF.out W hSw 0 (by decide); have x1 := HF.out W hSw 1 (by decide); have x2 := HF.out W hSw 2 (by decide); have x3 := HF.out W hSw 3 (by decide); have x4 := HF.out W hSw 4 (by decide); have x5 := HF.out W hSw 5 (by decide); simp only [List.getElem?_cons_zero, List.getElem?_cons_succ, ← Nat.add_assoc, Nat.add_zero] at x0 x1 x2 x3 x4 x5; go_simp; all_goals first | rfl | exact ⟨rfl, rfl, rfl, rfl, rfl, rfl⟩⟩) (by assumption) ?_
            try simp only [Act.put, List.setIfInBounds_toArray, List.set_cons_zero, List.set_cons_succ]
            refine wpAnyH_ready (rs := [10]) (by kernel_rfl) (by simp) ?_
            refine AllReadyH.cons (by simp only [List.getElem?_toArray, List.getElem?_cons_succ, List.getElem?_cons_zero]; rfl) (fun K hK => ?_) AllReadyH.nil
            go_simp
            refine (HIH.out S1 S2 t.args[kk] [.int .i64 t.args[kk].kind, .int .i64 t.args[kk].int, .string t.args[kk].text, .int .u32 t.args[kk].cr, .slice ma t.args[kk].nums.length mc, .slice b t.args[kk].args.length bap] [.int .i64 t.args[kk].kind, .int .i64 t.args[kk].int, .string t.args[kk].text, .int .u32 t.args[kk].cr, .slice ma' t.args[kk].nums.length mc', .slice b' t.args[kk].args.length bap'] _ HSZ.out (HT1.out.below (HWX.out _ hHeld)) (HT2.out.below (HWX.out _ hHeld))).mono ?_
            rintro e w5 ⟨rfl, hb5⟩
            have HB5 := Lib.hid ((hHeld).trans (hb5.mono hHeld.size))
            clear hb5
            refine hK.out _ _ (HB5.out) (fun hHeld => ?_)
            try simp only [Act.put, List.setIfInBounds_toArray, List.set_cons_zero, List.set_cons_succ]
            refine wpAnyH_take (i := 11) (v := (.bool false)) (by simp only [List.getElem?_toArray, List.getElem?_cons_succ, List.getElem?_cons_zero]; rfl) (by kernel_rfl) (by kernel_rfl) (by kernel_rfl) (by exact fun _ _ _ h => h) (Or.inl ⟨by rfl, by intro W hSw; go_simp; all_goals first | rfl | exact ⟨rfl, rfl, rfl, rfl, rfl, rfl⟩⟩) (by assumption) ?_
            try simp only [Act.put, List.setIfInBounds_toArray, List.set_cons_zero, List.set_cons_succ]
            refine wpAnyH_done (by kernel_rfl) ?_ _
            have HB6 := Lib.hid (HB2.out.trans (HB5.out.mono HB2.out.size))
            go_wp2
            go_roundw
            case rel => exact ⟨kk + 1, by omega, by go_num, HB6.out⟩
            case measure => simp [intOf]; omega
          · have hki : ¬ (kk : Int) < (t.args.length : Int) := by omega
            have HBF := Lib.hid (HB0.out.trans (HB2.out.mono HB0.out.size))
            clear hk hkk
            go_wp2
            go_ret
            exact ⟨rfl, HBF.out⟩
theorem sameTm_any (S1 S2 : Nat → Prop) (t : Tm) (vs1 vs2 : List Value) (w : World) (h1 : TmAt S1 t vs1 w) (h2 : TmAt S2 t vs2 w) :
    Calls Tryd.prog 12 #[.agg vs1.toArray, .agg vs2.toArray] w fun e w' => e = .returned (.bool true) ∧ Below w.heap.size w w' :=
  same_ind _ S1 S2 t vs1 vs2 w (Nat.le_refl _) h1 h2
end Go.Proofs.YtkipjbmckpmmfaaDoor
end
section
/- The reference of layer 2: which letters a text has. -/
open Go Go.RowKit
namespace Go.Proofs.YtkipjbmckpmmfaaDoor

def ltrL : List UInt8 := [105, 115, 99, 110, 97]
def hasS (may : List UInt8) (i : Nat) : Bool := may.contains (ltrL.getD i 0)
/-- the row behind i letters, and k of the text at the next -/
def rowF (may : List UInt8) (i k : Nat) : List Bool := (List.range 5).map fun j => if j < i then hasS may j else if j = i then hasS (may.take k) i else false
def boolV (l : List Bool) : List Value := l.map Value.bool
theorem rowF_get (may : List UInt8) (i k : Nat) (hi : i < 5) : (boolV (rowF may i k))[i]? = some (.bool (hasS (may.take k) i)) := by
  simp [boolV, rowF, hi]
theorem hasS_nil (i : Nat) : hasS [] i = false := by simp [hasS]
theorem hasS_snoc (may : List UInt8) (i k : Nat) (h : k < may.length) : hasS (may.take (k + 1)) i = (hasS (may.take k) i || ltrL.getD i 0 == may[k]) := by
  unfold hasS
  rw [List.take_succ_eq_append_getElem h, List.contains_eq_any_beq, List.contains_eq_any_beq, List.any_append]
  simp
theorem rowF_set (may : List UInt8) (i k : Nat) (b : Bool) (hb : b = hasS (may.take (k + 1)) i) : (boolV (rowF may i k)).set i (.bool b) = boolV (rowF may i (k + 1)) := by
  subst hb
  apply List.ext_getElem
  · simp [boolV, rowF]
  · intro j h1 h2
    simp only [boolV, rowF, List.length_set, List.length_map, List.length_range] at h1
    rw [List.getElem_set]
    split
    · rename_i e; subst e; simp [boolV, rowF]
    · rename_i e
      have e2 : ¬ j = i := fun h => e h.symm
      simp [boolV, rowF, e2]
theorem rowF_next (may : List UInt8) (i : Nat) : rowF may i may.length = rowF may (i + 1) 0 := by
  unfold rowF
  apply List.map_congr_left
  intro j _
  rw [List.take_length, List.take_zero, hasS_nil]
  by_cases h1 : j < i
  · rw [if_pos h1, if_pos (by omega)]
  · rw [if_neg h1]
    by_cases h2 : j = i
    · rw [if_pos h2, if_pos (by omega), h2]
    · rw [if_neg h2, if_neg (by omega)]
      split <;> rfl

theorem ltr_eq (k : Nat) (hk : k < 5) (may : ByteArray) (q : Nat) (hq : q < may.size) :
    ((((⟨#[105, 115, 99, 110, 97]⟩ : ByteArray)[k]'hk).toNat : Int) == ((may[q]'hq).toNat : Int)) = (ltrL.getD k 0 == may.data.toList[q]'hq) := by
  have e1 : ltrL.getD k 0 = (⟨#[105, 115, 99, 110, 97]⟩ : ByteArray)[k]'hk := by
    have h5 : k = 0 ∨ k = 1 ∨ k = 2 ∨ k = 3 ∨ k = 4 := by omega
    rcases h5 with rfl | rfl | rfl | rfl | rfl <;> rfl
  have e2 : may.data.toList[q]'hq = may[q]'hq := rfl
  rw [e1, e2]
  by_cases h : (⟨#[105, 115, 99, 110, 97]⟩ : ByteArray)[k]'hk = may[q]'hq
  · rw [byte_eqb h]; simp [h]
  · rw [byte_neb h]; simp [h]
set_option maxHeartbeats 8000000 in
set_option maxRecDepth 100000 in
theorem func0_any (may : ByteArray) (w : World) (hz : may.size ≤ 1000) :
    Calls Tryd.prog 61 #[.string may] w fun e w' => e = .returned (.slice (some ⟨w.heap.size, 0, none⟩) 5 5) ∧ Cells w' w.heap.size 4 (boolV (rowF may.data.toList 5 0)) ∧ Below w.heap.size w w' := by
  have HM := Lib.hid (show Cells (w.alloc (.cells #[.bool false, .bool false, .bool false, .bool false, .bool false] 4 (0, 0))) w.heap.size 4 (boolV (rowF may.data.toList 0 0)) from by
    have := Cells.new w 4 [.bool false, .bool false, .bool false, .bool false, .bool false]
    have e : boolV (rowF may.data.toList 0 0) = [.bool false, .bool false, .bool false, .bool false, .bool false] := by simp [boolV, rowF, hasS_nil, List.range_succ]
    rw [e]; exact this)
  have HZ := Lib.hid hz
  have HB0 := Lib.hid ((Below.refl _ w).alloc (Nat.le_refl _) (.cells #[.bool false, .bool false, .bool false, .bool false, .bool false] 4 (0, 0)))
  have hmk : ∀ w, (Instr.makeSlice 148 (.int .i64 5) (.int .i64 5)).run Tryd.prog w = .ok (.slice (some ⟨w.heap.size, 0, none⟩) 5 5) (w.alloc (.cells #[.bool false, .bool false, .bool false, .bool false, .bool false] 4 (0, 0))) := fun w => by kernel_rfl
  clear hz
  go_enter Tryd.func61, Tryd.ntmps61
  go_wp2_with fail
  go_loopw [5] (fun i wr => ∃ k : Nat, k ≤ 5 ∧ i = .int .i64 k ∧ Cells wr w.heap.size 4 (boolV (rowF may.data.toList k 0)) ∧ Below w.heap.size w wr) (fun i _ => 5 - (intOf i).toNat)
  case atStart => exact ⟨0, Nat.zero_le _, rfl, HM.out, HB0.out⟩
  case round =>
    obtain ⟨k, hk, rfl, hC, hB⟩ := hrel
    have HC := Lib.hid hC
    have HB := Lib.hid hB
    clear hC hB HM HB0 hmk
    by_cases hlt : k < 5
    · have hki : (k : Int) < 5 := by omega
      have hk0 : (0 : Int) ≤ (k : Int) := by omega
      go_wp2_with fail
      have HM := Lib.hid (HC.out)
      go_loopw [6] (fun i wr => ∃ q : Nat, q ≤ may.size ∧ i = .int .i64 q ∧ Cells wr w.heap.size 4 (boolV (rowF may.data.toList k q)) ∧ Below w.heap.size w wr) (fun i _ => may.size - (intOf i).toNat)
      case atStart => exact ⟨0, Nat.zero_le _, rfl, HC.out, HB.out⟩
      case round =>
        obtain ⟨q, hq, rfl, hC, hB⟩ := hrel
        have HC2 := Lib.hid hC
        have HB2 := Lib.hid hB
        clear hC hB HM HC HB
        by_cases hlq : q < may.size
        · have hqi : (q : Int) < (may.size : Int) := by omega
          have hq0 : (0 : Int) ≤ (q : Int) := by omega
          have hqz : (q : Int) ≤ 1000 := by have := HZ.out; omega
          have c := HC2.out.cell k
          rw [rowF_get _ _ _ hlt] at c
          have f := HC2.out.frozen k
          have hsn := hasS_snoc may.data.toList k q hlq
          cases hb : hasS (may.data.toList.take q) k with
          | true =>
            rw [hb] at c
            have HC3 := Lib.hid (HC2.out.set_ k (.bool true))
            rw [rowF_set _ _ _ true (by rw [hsn, hb]; rfl)] at HC3
            clear hb hsn
            go_wp2_with fail
            go_region
            go_wp2
            go_roundw
            case rel => exact ⟨q + 1, by omega, by go_num, HC3.out, (HB2.out.setCell (p := ⟨w.heap.size, k, none⟩) (Nat.le_refl _) (.bool true)).drew⟩
            case measure => simp [intOf]; omega
          | false =>
            rw [hb] at c
            have HC3 := Lib.hid (HC2.out.set_ k (.bool (ltrL.getD k 0 == may.data.toList[q])))
            rw [rowF_set _ _ _ _ (by rw [hsn, hb]; rfl)] at HC3
            rw [← ltr_eq k hlt may q hlq] at HC3
            clear hb hsn
            go_wp2_with fail
            go_region
            go_wp2
            go_roundw
            case rel => exact ⟨q + 1, by omega, by go_num, HC3.out, (HB2.out.setCell (p := ⟨w.heap.size, k, none⟩) (Nat.le_refl _) _).drew⟩
            case measure => simp [intOf]; omega
        · have hqn : ¬ (q : Int) < (may.size : Int) := by omega
          have hqe : q = may.data.toList.length := by have h1 : may.data.toList.length = may.size := rfl; omega
          rw [hqe, rowF_next] at HC2
          clear hqe
          go_wp2
          go_roundw
          case rel => exact ⟨k + 1, by omega, by go_num, HC2.out, HB2.out⟩
          case measure => simp [intOf]; omega
    · obtain rfl : k = 5 := by omega
      go_wp2
      go_ret
      exact ⟨rfl, HC.out, HB.out⟩
end Go.Proofs.YtkipjbmckpmmfaaDoor
end
section
/- The reference of layer 2: the form of a part. Printed by wip/trb.py. -/
open Go Go.RowKit
namespace Go.Proofs.YtkipjbmckpmmfaaDoor
set_option linter.unusedSimpArgs false
set_option linter.unusedVariables false

def bareS (i : Int) (s : ByteArray) (c : Int) (nn an : Nat) (f0 f1 f2 f3 f4 : Bool) : Bool :=
  (f0 || decide (i = 0)) && (f1 || decide (s = ⟨#[]⟩)) && (f2 || decide (c = 0)) && (f3 || decide (nn = 0)) && (f4 || decide (an = 0))
theorem bare_empty (k i : Int) (s : ByteArray) (c : Int) (nn an : Nat) :
    (k = 1 → bareS i s c nn an true false false false false = emptyS k i s c nn an false false false) ∧ (k ≠ 1 → bareS i s c nn an false true false false false = emptyS k i s c nn an true false false ∧
    bareS i s c nn an false true true true false = emptyS k i s c nn an true true false ∧ bareS i s c nn an false false false false true = emptyS k i s c nn an false false true ∧
    bareS i s c nn an false false false false false = emptyS k i s c nn an false false false) := by
  unfold bareS emptyS
  constructor
  · intro h
    simp only [h, decide_true]
    generalize decide (i = 0) = x0; generalize decide (s = _) = x1; generalize decide (c = 0) = x2; generalize decide (nn = 0) = x3; generalize decide (an = 0) = x4
    cases x0 <;> cases x1 <;> cases x2 <;> cases x3 <;> cases x4 <;> rfl
  · intro h
    simp only [h, decide_false]
    generalize decide (i = 0) = x0; generalize decide (s = _) = x1; generalize decide (c = 0) = x2; generalize decide (nn = 0) = x3; generalize decide (an = 0) = x4
    cases x0 <;> cases x1 <;> cases x2 <;> cases x3 <;> cases x4 <;> exact ⟨rfl, rfl, rfl, rfl⟩

set_option maxHeartbeats 8000000 in
set_option maxRecDepth 100000 in
theorem bare_i (k i : Int) (s : ByteArray) (c : Int) (na aa : Option Addr) (nn nc an ac : Nat) (w : World) :
    Calls Tryd.prog 51 #[.agg #[.int .i64 k, .int .i64 i, .string s, .int .u32 c, .slice na nn nc, .slice aa an ac], .string ⟨#[105]⟩] w fun e w' => e = .returned (.bool (bareS i s c nn an true false false false false)) ∧ Below w.heap.size w w' := by
  have HF := Lib.hid (fun W => func0_any ⟨#[105]⟩ W (by decide))
  have HFL := Lib.hid (show boolV (rowF (⟨#[105]⟩ : ByteArray).data.toList 5 0) = [.bool true, .bool false, .bool false, .bool false, .bool false] from by rw [show rowF (⟨#[105]⟩ : ByteArray).data.toList 5 0 = [true, false, false, false, false] from by decide +kernel]; rfl)
  rw [HFL.out] at HF
  have HB0 := Lib.hid ((Below.refl _ w).alloc (Nat.le_refl _) (.cells #[.int .i64 k, .int .i64 i, .string s, .int .u32 c, .slice na nn nc, .slice aa an ac] 27 (0, 0)))
  have M0 := Lib.hid (Cells.new w 27 [.int .i64 k, .int .i64 i, .string s, .int .u32 c, .slice na nn nc, .slice aa an ac])
  generalize hE : bareS i s c nn an true false false false false = E0
  by_cases h1 : s = ⟨#[]⟩
  · subst h1
    by_cases h2 : c = 0
    · subst h2
      by_cases h3 : nn = 0
      · subst h3
        by_cases h4 : an = 0
        · subst h4
          have HR := Lib.hid (show E0 = true by rw [← hE]; simp [bareS, *])
          clear hE HFL 
          go_enter Tryd.func51, Tryd.ntmps51
          go_wp2_with fail
          refine (HF.out _).mono ?_
          rintro e w2 ⟨rfl, hC, hb⟩
          rw [World.size_alloc] at hC
          have HB2 := Lib.hid (HB0.out.trans (hb.mono HB0.out.size))
          have M2 := Lib.hid (M0.out.below hb)
          have b0 := hC.cell 0
          have b1 := hC.cell 1
          have b2 := hC.cell 2
          have b3 := hC.cell 3
          have b4 := hC.cell 4
          have m1 := M2.out.cell 1
          have m2 := M2.out.cell 2
          have m3 := M2.out.cell 3
          have m4 := M2.out.cell 4
          have m5 := M2.out.cell 5
          simp only [List.getElem?_cons_zero, List.getElem?_cons_succ] at b0 b1 b2 b3 b4 m1 m2 m3 m4 m5
          clear hb hC
          go_wp2
          go_ret
          exact ⟨by rw [HR.out]; rfl, HB2.out⟩
        have qa : ((an : Int) == 0) = false := beq_eq_false_iff_ne.2 (by omega)
        have HR := Lib.hid (show E0 = false by rw [← hE]; simp [bareS, *])
        clear hE HFL h4
        go_enter Tryd.func51, Tryd.ntmps51
        go_wp2_with fail
        refine (HF.out _).mono ?_
        rintro e w2 ⟨rfl, hC, hb⟩
        rw [World.size_alloc] at hC
        have HB2 := Lib.hid (HB0.out.trans (hb.mono HB0.out.size))
        have M2 := Lib.hid (M0.out.below hb)
        have b0 := hC.cell 0
        have b1 := hC.cell 1
        have b2 := hC.cell 2
        have b3 := hC.cell 3
        have b4 := hC.cell 4
        have m1 := M2.out.cell 1
        have m2 := M2.out.cell 2
        have m3 := M2.out.cell 3
        have m4 := M2.out.cell 4
        have m5 := M2.out.cell 5
        simp only [List.getElem?_cons_zero, List.getElem?_cons_succ] at b0 b1 b2 b3 b4 m1 m2 m3 m4 m5
        clear hb hC
        go_wp2
        go_ret
        exact ⟨by rw [HR.out]; rfl, HB2.out⟩
      have qn : ((nn : Int) == 0) = false := beq_eq_false_iff_ne.2 (by omega)
      have HR := Lib.hid (show E0 = false by rw [← hE]; simp [bareS, *])
      clear hE HFL h3
      go_enter Tryd.func51, Tryd.ntmps51
      go_wp2_with fail
      refine (HF.out _).mono ?_
      rintro e w2 ⟨rfl, hC, hb⟩
      rw [World.size_alloc] at hC
      have HB2 := Lib.hid (HB0.out.trans (hb.mono HB0.out.size))
      have M2 := Lib.hid (M0.out.below hb)
      have b0 := hC.cell 0
      have b1 := hC.cell 1
      have b2 := hC.cell 2
      have b3 := hC.cell 3
      have b4 := hC.cell 4
      have m1 := M2.out.cell 1
      have m2 := M2.out.cell 2
      have m3 := M2.out.cell 3
      have m4 := M2.out.cell 4
      have m5 := M2.out.cell 5
      simp only [List.getElem?_cons_zero, List.getElem?_cons_succ] at b0 b1 b2 b3 b4 m1 m2 m3 m4 m5
      clear hb hC
      go_wp2
      go_ret
      exact ⟨by rw [HR.out]; rfl, HB2.out⟩
    have qc : (c == 0) = false := beq_eq_false_iff_ne.2 h2
    have HR := Lib.hid (show E0 = false by rw [← hE]; simp [bareS, *])
    clear hE HFL h2
    go_enter Tryd.func51, Tryd.ntmps51
    go_wp2_with fail
    refine (HF.out _).mono ?_
    rintro e w2 ⟨rfl, hC, hb⟩
    rw [World.size_alloc] at hC
    have HB2 := Lib.hid (HB0.out.trans (hb.mono HB0.out.size))
    have M2 := Lib.hid (M0.out.below hb)
    have b0 := hC.cell 0
    have b1 := hC.cell 1
    have b2 := hC.cell 2
    have b3 := hC.cell 3
    have b4 := hC.cell 4
    have m1 := M2.out.cell 1
    have m2 := M2.out.cell 2
    have m3 := M2.out.cell 3
    have m4 := M2.out.cell 4
    have m5 := M2.out.cell 5
    simp only [List.getElem?_cons_zero, List.getElem?_cons_succ] at b0 b1 b2 b3 b4 m1 m2 m3 m4 m5
    clear hb hC
    go_wp2
    go_ret
    exact ⟨by rw [HR.out]; rfl, HB2.out⟩
  obtain ⟨q1, q2⟩ := str_ne h1
  have HR := Lib.hid (show E0 = false by rw [← hE]; simp [bareS, *])
  clear hE HFL h1
  go_enter Tryd.func51, Tryd.ntmps51
  go_wp2_with fail
  refine (HF.out _).mono ?_
  rintro e w2 ⟨rfl, hC, hb⟩
  rw [World.size_alloc] at hC
  have HB2 := Lib.hid (HB0.out.trans (hb.mono HB0.out.size))
  have M2 := Lib.hid (M0.out.below hb)
  have b0 := hC.cell 0
  have b1 := hC.cell 1
  have b2 := hC.cell 2
  have b3 := hC.cell 3
  have b4 := hC.cell 4
  have m1 := M2.out.cell 1
  have m2 := M2.out.cell 2
  have m3 := M2.out.cell 3
  have m4 := M2.out.cell 4
  have m5 := M2.out.cell 5
  simp only [List.getElem?_cons_zero, List.getElem?_cons_succ] at b0 b1 b2 b3 b4 m1 m2 m3 m4 m5
  clear hb hC
  go_wp2
  go_ret
  exact ⟨by rw [HR.out]; rfl, HB2.out⟩

set_option maxHeartbeats 8000000 in
set_option maxRecDepth 100000 in
theorem bare_s (k i : Int) (s : ByteArray) (c : Int) (na aa : Option Addr) (nn nc an ac : Nat) (w : World) :
    Calls Tryd.prog 51 #[.agg #[.int .i64 k, .int .i64 i, .string s, .int .u32 c, .slice na nn nc, .slice aa an ac], .string ⟨#[115]⟩] w fun e w' => e = .returned (.bool (bareS i s c nn an false true false false false)) ∧ Below w.heap.size w w' := by
  have HF := Lib.hid (fun W => func0_any ⟨#[115]⟩ W (by decide))
  have HFL := Lib.hid (show boolV (rowF (⟨#[115]⟩ : ByteArray).data.toList 5 0) = [.bool false, .bool true, .bool false, .bool false, .bool false] from by rw [show rowF (⟨#[115]⟩ : ByteArray).data.toList 5 0 = [false, true, false, false, false] from by decide +kernel]; rfl)
  rw [HFL.out] at HF
  have HB0 := Lib.hid ((Below.refl _ w).alloc (Nat.le_refl _) (.cells #[.int .i64 k, .int .i64 i, .string s, .int .u32 c, .slice na nn nc, .slice aa an ac] 27 (0, 0)))
  have M0 := Lib.hid (Cells.new w 27 [.int .i64 k, .int .i64 i, .string s, .int .u32 c, .slice na nn nc, .slice aa an ac])
  generalize hE : bareS i s c nn an false true false false false = E0
  by_cases h0 : i = 0
  · subst h0
    by_cases h2 : c = 0
    · subst h2
      by_cases h3 : nn = 0
      · subst h3
        by_cases h4 : an = 0
        · subst h4
          have HR := Lib.hid (show E0 = true by rw [← hE]; simp [bareS, *])
          clear hE HFL 
          go_enter Tryd.func51, Tryd.ntmps51
          go_wp2_with fail
          refine (HF.out _).mono ?_
          rintro e w2 ⟨rfl, hC, hb⟩
          rw [World.size_alloc] at hC
          have HB2 := Lib.hid (HB0.out.trans (hb.mono HB0.out.size))
          have M2 := Lib.hid (M0.out.below hb)
          have b0 := hC.cell 0
          have b1 := hC.cell 1
          have b2 := hC.cell 2
          have b3 := hC.cell 3
          have b4 := hC.cell 4
          have m1 := M2.out.cell 1
          have m2 := M2.out.cell 2
          have m3 := M2.out.cell 3
          have m4 := M2.out.cell 4
          have m5 := M2.out.cell 5
          simp only [List.getElem?_cons_zero, List.getElem?_cons_succ] at b0 b1 b2 b3 b4 m1 m2 m3 m4 m5
          clear hb hC
          go_wp2
          go_ret
          exact ⟨by rw [HR.out]; rfl, HB2.out⟩
        have qa : ((an : Int) == 0) = false := beq_eq_false_iff_ne.2 (by omega)
        have HR := Lib.hid (show E0 = false by rw [← hE]; simp [bareS, *])
        clear hE HFL h4
        go_enter Tryd.func51, Tryd.ntmps51
        go_wp2_with fail
        refine (HF.out _).mono ?_
        rintro e w2 ⟨rfl, hC, hb⟩
        rw [World.size_alloc] at hC
        have HB2 := Lib.hid (HB0.out.trans (hb.mono HB0.out.size))
        have M2 := Lib.hid (M0.out.below hb)
        have b0 := hC.cell 0
        have b1 := hC.cell 1
        have b2 := hC.cell 2
        have b3 := hC.cell 3
        have b4 := hC.cell 4
        have m1 := M2.out.cell 1
        have m2 := M2.out.cell 2
        have m3 := M2.out.cell 3
        have m4 := M2.out.cell 4
        have m5 := M2.out.cell 5
        simp only [List.getElem?_cons_zero, List.getElem?_cons_succ] at b0 b1 b2 b3 b4 m1 m2 m3 m4 m5
        clear hb hC
        go_wp2
        go_ret
        exact ⟨by rw [HR.out]; rfl, HB2.out⟩
      have qn : ((nn : Int) == 0) = false := beq_eq_false_iff_ne.2 (by omega)
      have HR := Lib.hid (show E0 = false by rw [← hE]; simp [bareS, *])
      clear hE HFL h3
      go_enter Tryd.func51, Tryd.ntmps51
      go_wp2_with fail
      refine (HF.out _).mono ?_
      rintro e w2 ⟨rfl, hC, hb⟩
      rw [World.size_alloc] at hC
      have HB2 := Lib.hid (HB0.out.trans (hb.mono HB0.out.size))
      have M2 := Lib.hid (M0.out.below hb)
      have b0 := hC.cell 0
      have b1 := hC.cell 1
      have b2 := hC.cell 2
      have b3 := hC.cell 3
      have b4 := hC.cell 4
      have m1 := M2.out.cell 1
      have m2 := M2.out.cell 2
      have m3 := M2.out.cell 3
      have m4 := M2.out.cell 4
      have m5 := M2.out.cell 5
      simp only [List.getElem?_cons_zero, List.getElem?_cons_succ] at b0 b1 b2 b3 b4 m1 m2 m3 m4 m5
      clear hb hC
      go_wp2
      go_ret
      exact ⟨by rw [HR.out]; rfl, HB2.out⟩
    have qc : (c == 0) = false := beq_eq_false_iff_ne.2 h2
    have HR := Lib.hid (show E0 = false by rw [← hE]; simp [bareS, *])
    clear hE HFL h2
    go_enter Tryd.func51, Tryd.ntmps51
    go_wp2_with fail
    refine (HF.out _).mono ?_
    rintro e w2 ⟨rfl, hC, hb⟩
    rw [World.size_alloc] at hC
    have HB2 := Lib.hid (HB0.out.trans (hb.mono HB0.out.size))
    have M2 := Lib.hid (M0.out.below hb)
    have b0 := hC.cell 0
    have b1 := hC.cell 1
    have b2 := hC.cell 2
    have b3 := hC.cell 3
    have b4 := hC.cell 4
    have m1 := M2.out.cell 1
    have m2 := M2.out.cell 2
    have m3 := M2.out.cell 3
    have m4 := M2.out.cell 4
    have m5 := M2.out.cell 5
    simp only [List.getElem?_cons_zero, List.getElem?_cons_succ] at b0 b1 b2 b3 b4 m1 m2 m3 m4 m5
    clear hb hC
    go_wp2
    go_ret
    exact ⟨by rw [HR.out]; rfl, HB2.out⟩
  have qi : (i == 0) = false := beq_eq_false_iff_ne.2 h0
  have HR := Lib.hid (show E0 = false by rw [← hE]; simp [bareS, *])
  clear hE HFL h0
  go_enter Tryd.func51, Tryd.ntmps51
  go_wp2_with fail
  refine (HF.out _).mono ?_
  rintro e w2 ⟨rfl, hC, hb⟩
  rw [World.size_alloc] at hC
  have HB2 := Lib.hid (HB0.out.trans (hb.mono HB0.out.size))
  have M2 := Lib.hid (M0.out.below hb)
  have b0 := hC.cell 0
  have b1 := hC.cell 1
  have b2 := hC.cell 2
  have b3 := hC.cell 3
  have b4 := hC.cell 4
  have m1 := M2.out.cell 1
  have m2 := M2.out.cell 2
  have m3 := M2.out.cell 3
  have m4 := M2.out.cell 4
  have m5 := M2.out.cell 5
  simp only [List.getElem?_cons_zero, List.getElem?_cons_succ] at b0 b1 b2 b3 b4 m1 m2 m3 m4 m5
  clear hb hC
  go_wp2
  go_ret
  exact ⟨by rw [HR.out]; rfl, HB2.out⟩

set_option maxHeartbeats 8000000 in
set_option maxRecDepth 100000 in
theorem bare_scn (k i : Int) (s : ByteArray) (c : Int) (na aa : Option Addr) (nn nc an ac : Nat) (w : World) :
    Calls Tryd.prog 51 #[.agg #[.int .i64 k, .int .i64 i, .string s, .int .u32 c, .slice na nn nc, .slice aa an ac], .string ⟨#[115, 99, 110]⟩] w fun e w' => e = .returned (.bool (bareS i s c nn an false true true true false)) ∧ Below w.heap.size w w' := by
  have HF := Lib.hid (fun W => func0_any ⟨#[115, 99, 110]⟩ W (by decide))
  have HFL := Lib.hid (show boolV (rowF (⟨#[115, 99, 110]⟩ : ByteArray).data.toList 5 0) = [.bool false, .bool true, .bool true, .bool true, .bool false] from by rw [show rowF (⟨#[115, 99, 110]⟩ : ByteArray).data.toList 5 0 = [false, true, true, true, false] from by decide +kernel]; rfl)
  rw [HFL.out] at HF
  have HB0 := Lib.hid ((Below.refl _ w).alloc (Nat.le_refl _) (.cells #[.int .i64 k, .int .i64 i, .string s, .int .u32 c, .slice na nn nc, .slice aa an ac] 27 (0, 0)))
  have M0 := Lib.hid (Cells.new w 27 [.int .i64 k, .int .i64 i, .string s, .int .u32 c, .slice na nn nc, .slice aa an ac])
  generalize hE : bareS i s c nn an false true true true false = E0
  by_cases h0 : i = 0
  · subst h0
    by_cases h4 : an = 0
    · subst h4
      have HR := Lib.hid (show E0 = true by rw [← hE]; simp [bareS, *])
      clear hE HFL 
      go_enter Tryd.func51, Tryd.ntmps51
      go_wp2_with fail
      refine (HF.out _).mono ?_
      rintro e w2 ⟨rfl, hC, hb⟩
      rw [World.size_alloc] at hC
      have HB2 := Lib.hid (HB0.out.trans (hb.mono HB0.out.size))
      have M2 := Lib.hid (M0.out.below hb)
      have b0 := hC.cell 0
      have b1 := hC.cell 1
      have b2 := hC.cell 2
      have b3 := hC.cell 3
      have b4 := hC.cell 4
      have m1 := M2.out.cell 1
      have m2 := M2.out.cell 2
      have m3 := M2.out.cell 3
      have m4 := M2.out.cell 4
      have m5 := M2.out.cell 5
      simp only [List.getElem?_cons_zero, List.getElem?_cons_succ] at b0 b1 b2 b3 b4 m1 m2 m3 m4 m5
      clear hb hC
      go_wp2
      go_ret
      exact ⟨by rw [HR.out]; rfl, HB2.out⟩
    have qa : ((an : Int) == 0) = false := beq_eq_false_iff_ne.2 (by omega)
    have HR := Lib.hid (show E0 = false by rw [← hE]; simp [bareS, *])
    clear hE HFL h4
    go_enter Tryd.func51, Tryd.ntmps51
    go_wp2_with fail
    refine (HF.out _).mono ?_
    rintro e w2 ⟨rfl, hC, hb⟩
    rw [World.size_alloc] at hC
    have HB2 := Lib.hid (HB0.out.trans (hb.mono HB0.out.size))
    have M2 := Lib.hid (M0.out.below hb)
    have b0 := hC.cell 0
    have b1 := hC.cell 1
    have b2 := hC.cell 2
    have b3 := hC.cell 3
    have b4 := hC.cell 4
    have m1 := M2.out.cell 1
    have m2 := M2.out.cell 2
    have m3 := M2.out.cell 3
    have m4 := M2.out.cell 4
    have m5 := M2.out.cell 5
    simp only [List.getElem?_cons_zero, List.getElem?_cons_succ] at b0 b1 b2 b3 b4 m1 m2 m3 m4 m5
    clear hb hC
    go_wp2
    go_ret
    exact ⟨by rw [HR.out]; rfl, HB2.out⟩
  have qi : (i == 0) = false := beq_eq_false_iff_ne.2 h0
  have HR := Lib.hid (show E0 = false by rw [← hE]; simp [bareS, *])
  clear hE HFL h0
  go_enter Tryd.func51, Tryd.ntmps51
  go_wp2_with fail
  refine (HF.out _).mono ?_
  rintro e w2 ⟨rfl, hC, hb⟩
  rw [World.size_alloc] at hC
  have HB2 := Lib.hid (HB0.out.trans (hb.mono HB0.out.size))
  have M2 := Lib.hid (M0.out.below hb)
  have b0 := hC.cell 0
  have b1 := hC.cell 1
  have b2 := hC.cell 2
  have b3 := hC.cell 3
  have b4 := hC.cell 4
  have m1 := M2.out.cell 1
  have m2 := M2.out.cell 2
  have m3 := M2.out.cell 3
  have m4 := M2.out.cell 4
  have m5 := M2.out.cell 5
  simp only [List.getElem?_cons_zero, List.getElem?_cons_succ] at b0 b1 b2 b3 b4 m1 m2 m3 m4 m5
  clear hb hC
  go_wp2
  go_ret
  exact ⟨by rw [HR.out]; rfl, HB2.out⟩

set_option maxHeartbeats 8000000 in
set_option maxRecDepth 100000 in
theorem bare_a (k i : Int) (s : ByteArray) (c : Int) (na aa : Option Addr) (nn nc an ac : Nat) (w : World) :
    Calls Tryd.prog 51 #[.agg #[.int .i64 k, .int .i64 i, .string s, .int .u32 c, .slice na nn nc, .slice aa an ac], .string ⟨#[97]⟩] w fun e w' => e = .returned (.bool (bareS i s c nn an false false false false true)) ∧ Below w.heap.size w w' := by
  have HF := Lib.hid (fun W => func0_any ⟨#[97]⟩ W (by decide))
  have HFL := Lib.hid (show boolV (rowF (⟨#[97]⟩ : ByteArray).data.toList 5 0) = [.bool false, .bool false, .bool false, .bool false, .bool true] from by rw [show rowF (⟨#[97]⟩ : ByteArray).data.toList 5 0 = [false, false, false, false, true] from by decide +kernel]; rfl)
  rw [HFL.out] at HF
  have HB0 := Lib.hid ((Below.refl _ w).alloc (Nat.le_refl _) (.cells #[.int .i64 k, .int .i64 i, .string s, .int .u32 c, .slice na nn nc, .slice aa an ac] 27 (0, 0)))
  have M0 := Lib.hid (Cells.new w 27 [.int .i64 k, .int .i64 i, .string s, .int .u32 c, .slice na nn nc, .slice aa an ac])
  generalize hE : bareS i s c nn an false false false false true = E0
  by_cases h0 : i = 0
  · subst h0
    by_cases h1 : s = ⟨#[]⟩
    · subst h1
      by_cases h2 : c = 0
      · subst h2
        by_cases h3 : nn = 0
        · subst h3
          have HR := Lib.hid (show E0 = true by rw [← hE]; simp [bareS, *])
          clear hE HFL 
          go_enter Tryd.func51, Tryd.ntmps51
          go_wp2_with fail
          refine (HF.out _).mono ?_
          rintro e w2 ⟨rfl, hC, hb⟩
          rw [World.size_alloc] at hC
          have HB2 := Lib.hid (HB0.out.trans (hb.mono HB0.out.size))
          have M2 := Lib.hid (M0.out.below hb)
          have b0 := hC.cell 0
          have b1 := hC.cell 1
          have b2 := hC.cell 2
          have b3 := hC.cell 3
          have b4 := hC.cell 4
          have m1 := M2.out.cell 1
          have m2 := M2.out.cell 2
          have m3 := M2.out.cell 3
          have m4 := M2.out.cell 4
          have m5 := M2.out.cell 5
          simp only [List.getElem?_cons_zero, List.getElem?_cons_succ] at b0 b1 b2 b3 b4 m1 m2 m3 m4 m5
          clear hb hC
          go_wp2
          go_ret
          exact ⟨by rw [HR.out]; rfl, HB2.out⟩
        have qn : ((nn : Int) == 0) = false := beq_eq_false_iff_ne.2 (by omega)
        have HR := Lib.hid (show E0 = false by rw [← hE]; simp [bareS, *])
        clear hE HFL h3
        go_enter Tryd.func51, Tryd.ntmps51
        go_wp2_with fail
        refine (HF.out _).mono ?_
        rintro e w2 ⟨rfl, hC, hb⟩
        rw [World.size_alloc] at hC
        have HB2 := Lib.hid (HB0.out.trans (hb.mono HB0.out.size))
        have M2 := Lib.hid (M0.out.below hb)
        have b0 := hC.cell 0
        have b1 := hC.cell 1
        have b2 := hC.cell 2
        have b3 := hC.cell 3
        have b4 := hC.cell 4
        have m1 := M2.out.cell 1
        have m2 := M2.out.cell 2
        have m3 := M2.out.cell 3
        have m4 := M2.out.cell 4
        have m5 := M2.out.cell 5
        simp only [List.getElem?_cons_zero, List.getElem?_cons_succ] at b0 b1 b2 b3 b4 m1 m2 m3 m4 m5
        clear hb hC
        go_wp2
        go_ret
        exact ⟨by rw [HR.out]; rfl, HB2.out⟩
      have qc : (c == 0) = false := beq_eq_false_iff_ne.2 h2
      have HR := Lib.hid (show E0 = false by rw [← hE]; simp [bareS, *])
      clear hE HFL h2
      go_enter Tryd.func51, Tryd.ntmps51
      go_wp2_with fail
      refine (HF.out _).mono ?_
      rintro e w2 ⟨rfl, hC, hb⟩
      rw [World.size_alloc] at hC
      have HB2 := Lib.hid (HB0.out.trans (hb.mono HB0.out.size))
      have M2 := Lib.hid (M0.out.below hb)
      have b0 := hC.cell 0
      have b1 := hC.cell 1
      have b2 := hC.cell 2
      have b3 := hC.cell 3
      have b4 := hC.cell 4
      have m1 := M2.out.cell 1
      have m2 := M2.out.cell 2
      have m3 := M2.out.cell 3
      have m4 := M2.out.cell 4
      have m5 := M2.out.cell 5
      simp only [List.getElem?_cons_zero, List.getElem?_cons_succ] at b0 b1 b2 b3 b4 m1 m2 m3 m4 m5
      clear hb hC
      go_wp2
      go_ret
      exact ⟨by rw [HR.out]; rfl, HB2.out⟩
    obtain ⟨q1, q2⟩ := str_ne h1
    have HR := Lib.hid (show E0 = false by rw [← hE]; simp [bareS, *])
    clear hE HFL h1
    go_enter Tryd.func51, Tryd.ntmps51
    go_wp2_with fail
    refine (HF.out _).mono ?_
    rintro e w2 ⟨rfl, hC, hb⟩
    rw [World.size_alloc] at hC
    have HB2 := Lib.hid (HB0.out.trans (hb.mono HB0.out.size))
    have M2 := Lib.hid (M0.out.below hb)
    have b0 := hC.cell 0
    have b1 := hC.cell 1
    have b2 := hC.cell 2
    have b3 := hC.cell 3
    have b4 := hC.cell 4
    have m1 := M2.out.cell 1
    have m2 := M2.out.cell 2
    have m3 := M2.out.cell 3
    have m4 := M2.out.cell 4
    have m5 := M2.out.cell 5
    simp only [List.getElem?_cons_zero, List.getElem?_cons_succ] at b0 b1 b2 b3 b4 m1 m2 m3 m4 m5
    clear hb hC
    go_wp2
    go_ret
    exact ⟨by rw [HR.out]; rfl, HB2.out⟩
  have qi : (i == 0) = false := beq_eq_false_iff_ne.2 h0
  have HR := Lib.hid (show E0 = false by rw [← hE]; simp [bareS, *])
  clear hE HFL h0
  go_enter Tryd.func51, Tryd.ntmps51
  go_wp2_with fail
  refine (HF.out _).mono ?_
  rintro e w2 ⟨rfl, hC, hb⟩
  rw [World.size_alloc] at hC
  have HB2 := Lib.hid (HB0.out.trans (hb.mono HB0.out.size))
  have M2 := Lib.hid (M0.out.below hb)
  have b0 := hC.cell 0
  have b1 := hC.cell 1
  have b2 := hC.cell 2
  have b3 := hC.cell 3
  have b4 := hC.cell 4
  have m1 := M2.out.cell 1
  have m2 := M2.out.cell 2
  have m3 := M2.out.cell 3
  have m4 := M2.out.cell 4
  have m5 := M2.out.cell 5
  simp only [List.getElem?_cons_zero, List.getElem?_cons_succ] at b0 b1 b2 b3 b4 m1 m2 m3 m4 m5
  clear hb hC
  go_wp2
  go_ret
  exact ⟨by rw [HR.out]; rfl, HB2.out⟩

set_option maxHeartbeats 8000000 in
set_option maxRecDepth 100000 in
theorem bare_z (k i : Int) (s : ByteArray) (c : Int) (na aa : Option Addr) (nn nc an ac : Nat) (w : World) :
    Calls Tryd.prog 51 #[.agg #[.int .i64 k, .int .i64 i, .string s, .int .u32 c, .slice na nn nc, .slice aa an ac], .string ⟨#[]⟩] w fun e w' => e = .returned (.bool (bareS i s c nn an false false false false false)) ∧ Below w.heap.size w w' := by
  have HF := Lib.hid (fun W => func0_any ⟨#[]⟩ W (by decide))
  have HFL := Lib.hid (show boolV (rowF (⟨#[]⟩ : ByteArray).data.toList 5 0) = [.bool false, .bool false, .bool false, .bool false, .bool false] from by rw [show rowF (⟨#[]⟩ : ByteArray).data.toList 5 0 = [false, false, false, false, false] from by decide +kernel]; rfl)
  rw [HFL.out] at HF
  have HB0 := Lib.hid ((Below.refl _ w).alloc (Nat.le_refl _) (.cells #[.int .i64 k, .int .i64 i, .string s, .int .u32 c, .slice na nn nc, .slice aa an ac] 27 (0, 0)))
  have M0 := Lib.hid (Cells.new w 27 [.int .i64 k, .int .i64 i, .string s, .int .u32 c, .slice na nn nc, .slice aa an ac])
  generalize hE : bareS i s c nn an false false false false false = E0
  by_cases h0 : i = 0
  · subst h0
    by_cases h1 : s = ⟨#[]⟩
    · subst h1
      by_cases h2 : c = 0
      · subst h2
        by_cases h3 : nn = 0
        · subst h3
          by_cases h4 : an = 0
          · subst h4
            have HR := Lib.hid (show E0 = true by rw [← hE]; simp [bareS, *])
            clear hE HFL 
            go_enter Tryd.func51, Tryd.ntmps51
            go_wp2_with fail
            refine (HF.out _).mono ?_
            rintro e w2 ⟨rfl, hC, hb⟩
            rw [World.size_alloc] at hC
            have HB2 := Lib.hid (HB0.out.trans (hb.mono HB0.out.size))
            have M2 := Lib.hid (M0.out.below hb)
            have b0 := hC.cell 0
            have b1 := hC.cell 1
            have b2 := hC.cell 2
            have b3 := hC.cell 3
            have b4 := hC.cell 4
            have m1 := M2.out.cell 1
            have m2 := M2.out.cell 2
            have m3 := M2.out.cell 3
            have m4 := M2.out.cell 4
            have m5 := M2.out.cell 5
            simp only [List.getElem?_cons_zero, List.getElem?_cons_succ] at b0 b1 b2 b3 b4 m1 m2 m3 m4 m5
            clear hb hC
            go_wp2
            go_ret
            exact ⟨by rw [HR.out]; rfl, HB2.out⟩
          have qa : ((an : Int) == 0) = false := beq_eq_false_iff_ne.2 (by omega)
          have HR := Lib.hid (show E0 = false by rw [← hE]; simp [bareS, *])
          clear hE HFL h4
          go_enter Tryd.func51, Tryd.ntmps51
          go_wp2_with fail
          refine (HF.out _).mono ?_
          rintro e w2 ⟨rfl, hC, hb⟩
          rw [World.size_alloc] at hC
          have HB2 := Lib.hid (HB0.out.trans (hb.mono HB0.out.size))
          have M2 := Lib.hid (M0.out.below hb)
          have b0 := hC.cell 0
          have b1 := hC.cell 1
          have b2 := hC.cell 2
          have b3 := hC.cell 3
          have b4 := hC.cell 4
          have m1 := M2.out.cell 1
          have m2 := M2.out.cell 2
          have m3 := M2.out.cell 3
          have m4 := M2.out.cell 4
          have m5 := M2.out.cell 5
          simp only [List.getElem?_cons_zero, List.getElem?_cons_succ] at b0 b1 b2 b3 b4 m1 m2 m3 m4 m5
          clear hb hC
          go_wp2
          go_ret
          exact ⟨by rw [HR.out]; rfl, HB2.out⟩
        have qn : ((nn : Int) == 0) = false := beq_eq_false_iff_ne.2 (by omega)
        have HR := Lib.hid (show E0 = false by rw [← hE]; simp [bareS, *])
        clear hE HFL h3
        go_enter Tryd.func51, Tryd.ntmps51
        go_wp2_with fail
        refine (HF.out _).mono ?_
        rintro e w2 ⟨rfl, hC, hb⟩
        rw [World.size_alloc] at hC
        have HB2 := Lib.hid (HB0.out.trans (hb.mono HB0.out.size))
        have M2 := Lib.hid (M0.out.below hb)
        have b0 := hC.cell 0
        have b1 := hC.cell 1
        have b2 := hC.cell 2
        have b3 := hC.cell 3
        have b4 := hC.cell 4
        have m1 := M2.out.cell 1
        have m2 := M2.out.cell 2
        have m3 := M2.out.cell 3
        have m4 := M2.out.cell 4
        have m5 := M2.out.cell 5
        simp only [List.getElem?_cons_zero, List.getElem?_cons_succ] at b0 b1 b2 b3 b4 m1 m2 m3 m4 m5
        clear hb hC
        go_wp2
        go_ret
        exact ⟨by rw [HR.out]; rfl, HB2.out⟩
      have qc : (c == 0) = false := beq_eq_false_iff_ne.2 h2
      have HR := Lib.hid (show E0 = false by rw [← hE]; simp [bareS, *])
      clear hE HFL h2
      go_enter Tryd.func51, Tryd.ntmps51
      go_wp2_with fail
      refine (HF.out _).mono ?_
      rintro e w2 ⟨rfl, hC, hb⟩
      rw [World.size_alloc] at hC
      have HB2 := Lib.hid (HB0.out.trans (hb.mono HB0.out.size))
      have M2 := Lib.hid (M0.out.below hb)
      have b0 := hC.cell 0
      have b1 := hC.cell 1
      have b2 := hC.cell 2
      have b3 := hC.cell 3
      have b4 := hC.cell 4
      have m1 := M2.out.cell 1
      have m2 := M2.out.cell 2
      have m3 := M2.out.cell 3
      have m4 := M2.out.cell 4
      have m5 := M2.out.cell 5
      simp only [List.getElem?_cons_zero, List.getElem?_cons_succ] at b0 b1 b2 b3 b4 m1 m2 m3 m4 m5
      clear hb hC
      go_wp2
      go_ret
      exact ⟨by rw [HR.out]; rfl, HB2.out⟩
    obtain ⟨q1, q2⟩ := str_ne h1
    have HR := Lib.hid (show E0 = false by rw [← hE]; simp [bareS, *])
    clear hE HFL h1
    go_enter Tryd.func51, Tryd.ntmps51
    go_wp2_with fail
    refine (HF.out _).mono ?_
    rintro e w2 ⟨rfl, hC, hb⟩
    rw [World.size_alloc] at hC
    have HB2 := Lib.hid (HB0.out.trans (hb.mono HB0.out.size))
    have M2 := Lib.hid (M0.out.below hb)
    have b0 := hC.cell 0
    have b1 := hC.cell 1
    have b2 := hC.cell 2
    have b3 := hC.cell 3
    have b4 := hC.cell 4
    have m1 := M2.out.cell 1
    have m2 := M2.out.cell 2
    have m3 := M2.out.cell 3
    have m4 := M2.out.cell 4
    have m5 := M2.out.cell 5
    simp only [List.getElem?_cons_zero, List.getElem?_cons_succ] at b0 b1 b2 b3 b4 m1 m2 m3 m4 m5
    clear hb hC
    go_wp2
    go_ret
    exact ⟨by rw [HR.out]; rfl, HB2.out⟩
  have qi : (i == 0) = false := beq_eq_false_iff_ne.2 h0
  have HR := Lib.hid (show E0 = false by rw [← hE]; simp [bareS, *])
  clear hE HFL h0
  go_enter Tryd.func51, Tryd.ntmps51
  go_wp2_with fail
  refine (HF.out _).mono ?_
  rintro e w2 ⟨rfl, hC, hb⟩
  rw [World.size_alloc] at hC
  have HB2 := Lib.hid (HB0.out.trans (hb.mono HB0.out.size))
  have M2 := Lib.hid (M0.out.below hb)
  have b0 := hC.cell 0
  have b1 := hC.cell 1
  have b2 := hC.cell 2
  have b3 := hC.cell 3
  have b4 := hC.cell 4
  have m1 := M2.out.cell 1
  have m2 := M2.out.cell 2
  have m3 := M2.out.cell 3
  have m4 := M2.out.cell 4
  have m5 := M2.out.cell 5
  simp only [List.getElem?_cons_zero, List.getElem?_cons_succ] at b0 b1 b2 b3 b4 m1 m2 m3 m4 m5
  clear hb hC
  go_wp2
  go_ret
  exact ⟨by rw [HR.out]; rfl, HB2.out⟩

set_option maxHeartbeats 8000000 in
set_option maxRecDepth 100000 in
theorem formR_1 (S : Nat → Prop) (k i : Int) (s : ByteArray) (c : Int) (na : Option Addr) (nc : Nat) (ns : List Int) (aa : Option Addr) (ac : Nat) (al : List Tm) (w : World) (hk : k = 1) :
    Calls Tryd.prog 40 #[.agg #[.int .i64 k, .int .i64 i, .string s, .int .u32 c, .slice na ns.length nc, .slice aa al.length ac]] w fun e w' => e = .returned (.bool (formS (.mk k i s c ns al))) ∧ Below w.heap.size w w' := by
  have HB := Lib.hid ((Below.refl _ w).alloc (Nat.le_refl _) (.cells #[.int .i64 k, .int .i64 i, .string s, .int .u32 c, .slice na ns.length nc, .slice aa al.length ac] 27 (0, 0)))
  have HC := Lib.hid (Cells.new w 27 [.int .i64 k, .int .i64 i, .string s, .int .u32 c, .slice na ns.length nc, .slice aa al.length ac])
  subst hk
  have HE := Lib.hid (fun W => bare_i 1 i s c na aa ns.length nc al.length ac W)
  rw [(bare_empty 1 i s c ns.length al.length).1 rfl] at HE
  have HR := Lib.hid (show formS (.mk 1 i s c ns al) = emptyS 1 i s c ns.length al.length false false false by simp [formS, Tm.kind, Tm.empty, Tm.int, Tm.text, Tm.cr, Tm.nums, Tm.args, ])
  generalize emptyS 1 i s c ns.length al.length false false false = b at *
  go_enter Tryd.func40, Tryd.ntmps40
  go_wp2_with fail
  refine (HE.out _).mono ?_
  rintro e w2 ⟨rfl, hb2⟩
  have HB2 := Lib.hid (HB.out.trans (hb2.mono HB.out.size))
  have C2 := Lib.hid (HC.out.below hb2)
  have c4 := C2.out.cell 4
  have c5 := C2.out.cell 5
  simp only [List.getElem?_cons_zero, List.getElem?_cons_succ] at c4 c5
  clear hb2 c4 c5
  go_wp2
  go_ret
  exact ⟨by rw [HR.out]; rfl, HB2.out⟩

set_option maxHeartbeats 8000000 in
set_option maxRecDepth 100000 in
theorem formR_2 (S : Nat → Prop) (k i : Int) (s : ByteArray) (c : Int) (na : Option Addr) (nc : Nat) (ns : List Int) (aa : Option Addr) (ac : Nat) (al : List Tm) (w : World) (hk : k = 2) :
    Calls Tryd.prog 40 #[.agg #[.int .i64 k, .int .i64 i, .string s, .int .u32 c, .slice na ns.length nc, .slice aa al.length ac]] w fun e w' => e = .returned (.bool (formS (.mk k i s c ns al))) ∧ Below w.heap.size w w' := by
  have HB := Lib.hid ((Below.refl _ w).alloc (Nat.le_refl _) (.cells #[.int .i64 k, .int .i64 i, .string s, .int .u32 c, .slice na ns.length nc, .slice aa al.length ac] 27 (0, 0)))
  have HC := Lib.hid (Cells.new w 27 [.int .i64 k, .int .i64 i, .string s, .int .u32 c, .slice na ns.length nc, .slice aa al.length ac])
  subst hk
  have HE := Lib.hid (fun W => bare_s 2 i s c na aa ns.length nc al.length ac W)
  have hbe := (bare_empty 2 i s c ns.length al.length).2 (by decide)
  rw [hbe.1] at HE
  clear hbe
  have HR := Lib.hid (show formS (.mk 2 i s c ns al) = emptyS 2 i s c ns.length al.length true false false by simp [formS, Tm.kind, Tm.empty, Tm.int, Tm.text, Tm.cr, Tm.nums, Tm.args, ])
  generalize emptyS 2 i s c ns.length al.length true false false = b at *
  go_enter Tryd.func40, Tryd.ntmps40
  go_wp2_with fail
  refine (HE.out _).mono ?_
  rintro e w2 ⟨rfl, hb2⟩
  have HB2 := Lib.hid (HB.out.trans (hb2.mono HB.out.size))
  have C2 := Lib.hid (HC.out.below hb2)
  have c4 := C2.out.cell 4
  have c5 := C2.out.cell 5
  simp only [List.getElem?_cons_zero, List.getElem?_cons_succ] at c4 c5
  clear hb2 c4 c5
  go_wp2
  go_ret
  exact ⟨by rw [HR.out]; rfl, HB2.out⟩

set_option maxHeartbeats 8000000 in
set_option maxRecDepth 100000 in
theorem formR_5 (S : Nat → Prop) (k i : Int) (s : ByteArray) (c : Int) (na : Option Addr) (nc : Nat) (ns : List Int) (aa : Option Addr) (ac : Nat) (al : List Tm) (w : World) (hk : k = 5) :
    Calls Tryd.prog 40 #[.agg #[.int .i64 k, .int .i64 i, .string s, .int .u32 c, .slice na ns.length nc, .slice aa al.length ac]] w fun e w' => e = .returned (.bool (formS (.mk k i s c ns al))) ∧ Below w.heap.size w w' := by
  have HB := Lib.hid ((Below.refl _ w).alloc (Nat.le_refl _) (.cells #[.int .i64 k, .int .i64 i, .string s, .int .u32 c, .slice na ns.length nc, .slice aa al.length ac] 27 (0, 0)))
  have HC := Lib.hid (Cells.new w 27 [.int .i64 k, .int .i64 i, .string s, .int .u32 c, .slice na ns.length nc, .slice aa al.length ac])
  subst hk
  have HE := Lib.hid (fun W => bare_a 5 i s c na aa ns.length nc al.length ac W)
  have hbe := (bare_empty 5 i s c ns.length al.length).2 (by decide)
  rw [hbe.2.2.1] at HE
  clear hbe
  have HR := Lib.hid (show formS (.mk 5 i s c ns al) = emptyS 5 i s c ns.length al.length false false true by simp [formS, Tm.kind, Tm.empty, Tm.int, Tm.text, Tm.cr, Tm.nums, Tm.args, ])
  generalize emptyS 5 i s c ns.length al.length false false true = b at *
  go_enter Tryd.func40, Tryd.ntmps40
  go_wp2_with fail
  refine (HE.out _).mono ?_
  rintro e w2 ⟨rfl, hb2⟩
  have HB2 := Lib.hid (HB.out.trans (hb2.mono HB.out.size))
  have C2 := Lib.hid (HC.out.below hb2)
  have c4 := C2.out.cell 4
  have c5 := C2.out.cell 5
  simp only [List.getElem?_cons_zero, List.getElem?_cons_succ] at c4 c5
  clear hb2 c4 c5
  go_wp2
  go_ret
  exact ⟨by rw [HR.out]; rfl, HB2.out⟩

set_option maxHeartbeats 8000000 in
set_option maxRecDepth 100000 in
theorem formR_6 (S : Nat → Prop) (k i : Int) (s : ByteArray) (c : Int) (na : Option Addr) (nc : Nat) (ns : List Int) (aa : Option Addr) (ac : Nat) (al : List Tm) (w : World) (hk : k = 6) :
    Calls Tryd.prog 40 #[.agg #[.int .i64 k, .int .i64 i, .string s, .int .u32 c, .slice na ns.length nc, .slice aa al.length ac]] w fun e w' => e = .returned (.bool (formS (.mk k i s c ns al))) ∧ Below w.heap.size w w' := by
  have HB := Lib.hid ((Below.refl _ w).alloc (Nat.le_refl _) (.cells #[.int .i64 k, .int .i64 i, .string s, .int .u32 c, .slice na ns.length nc, .slice aa al.length ac] 27 (0, 0)))
  have HC := Lib.hid (Cells.new w 27 [.int .i64 k, .int .i64 i, .string s, .int .u32 c, .slice na ns.length nc, .slice aa al.length ac])
  subst hk
  have HE := Lib.hid (fun W => bare_z 6 i s c na aa ns.length nc al.length ac W)
  have hbe := (bare_empty 6 i s c ns.length al.length).2 (by decide)
  rw [hbe.2.2.2] at HE
  clear hbe
  have HR := Lib.hid (show formS (.mk 6 i s c ns al) = emptyS 6 i s c ns.length al.length false false false by simp [formS, Tm.kind, Tm.empty, Tm.int, Tm.text, Tm.cr, Tm.nums, Tm.args, ])
  generalize emptyS 6 i s c ns.length al.length false false false = b at *
  go_enter Tryd.func40, Tryd.ntmps40
  go_wp2_with fail
  refine (HE.out _).mono ?_
  rintro e w2 ⟨rfl, hb2⟩
  have HB2 := Lib.hid (HB.out.trans (hb2.mono HB.out.size))
  have C2 := Lib.hid (HC.out.below hb2)
  have c4 := C2.out.cell 4
  have c5 := C2.out.cell 5
  simp only [List.getElem?_cons_zero, List.getElem?_cons_succ] at c4 c5
  clear hb2 c4 c5
  go_wp2
  go_ret
  exact ⟨by rw [HR.out]; rfl, HB2.out⟩

set_option maxHeartbeats 8000000 in
set_option maxRecDepth 100000 in
theorem formR_3 (S : Nat → Prop) (k i : Int) (s : ByteArray) (c : Int) (na : Option Addr) (nc : Nat) (ns : List Int) (aa : Option Addr) (ac : Nat) (al : List Tm) (w : World) (hk : k = 3) :
    Calls Tryd.prog 40 #[.agg #[.int .i64 k, .int .i64 i, .string s, .int .u32 c, .slice na ns.length nc, .slice aa al.length ac]] w fun e w' => e = .returned (.bool (formS (.mk k i s c ns al))) ∧ Below w.heap.size w w' := by
  have HB := Lib.hid ((Below.refl _ w).alloc (Nat.le_refl _) (.cells #[.int .i64 k, .int .i64 i, .string s, .int .u32 c, .slice na ns.length nc, .slice aa al.length ac] 27 (0, 0)))
  have HC := Lib.hid (Cells.new w 27 [.int .i64 k, .int .i64 i, .string s, .int .u32 c, .slice na ns.length nc, .slice aa al.length ac])
  subst hk
  have HE := Lib.hid (fun W => bare_scn 3 i s c na aa ns.length nc al.length ac W)
  have hbe := (bare_empty 3 i s c ns.length al.length).2 (by decide)
  rw [hbe.2.1] at HE
  clear hbe
  cases hb : emptyS 3 i s c ns.length al.length true true false with
  | false =>
    rw [hb] at HE
    have HR := Lib.hid (show formS (.mk 3 i s c ns al) = false by simp [formS, Tm.kind, Tm.empty, Tm.int, Tm.text, Tm.cr, Tm.nums, Tm.args, hb])
    clear hb
    go_enter Tryd.func40, Tryd.ntmps40
    go_wp2_with fail
    refine (HE.out _).mono ?_
    rintro e w2 ⟨rfl, hb2⟩
    have HB2 := Lib.hid (HB.out.trans (hb2.mono HB.out.size))
    have C2 := Lib.hid (HC.out.below hb2)
    have c4 := C2.out.cell 4
    have c5 := C2.out.cell 5
    simp only [List.getElem?_cons_zero, List.getElem?_cons_succ] at c4 c5
    clear hb2
    go_wp2
    go_ret
    exact ⟨by rw [HR.out]; rfl, HB2.out⟩
  | true =>
    rw [hb] at HE
    by_cases hn : ns.length = 3
    · have HR := Lib.hid (show formS (.mk 3 i s c ns al) = true by rw [hn] at hb; simp [formS, Tm.kind, Tm.empty, Tm.int, Tm.text, Tm.cr, Tm.nums, Tm.args, hb, hn])
      have qn : ((ns.length : Int) == 3) = true := by rw [hn]; rfl
      clear hn hb
      go_enter Tryd.func40, Tryd.ntmps40
      go_wp2_with fail
      refine (HE.out _).mono ?_
      rintro e w2 ⟨rfl, hb2⟩
      have HB2 := Lib.hid (HB.out.trans (hb2.mono HB.out.size))
      have C2 := Lib.hid (HC.out.below hb2)
      have c4 := C2.out.cell 4
      have c5 := C2.out.cell 5
      simp only [List.getElem?_cons_zero, List.getElem?_cons_succ] at c4 c5
      clear hb2
      go_wp2
      go_ret
      exact ⟨by rw [HR.out]; rfl, HB2.out⟩
    · have HR := Lib.hid (show formS (.mk 3 i s c ns al) = false by simp [formS, Tm.kind, Tm.empty, Tm.int, Tm.text, Tm.cr, Tm.nums, Tm.args, hb, hn])
      have qn : ((ns.length : Int) == 3) = false := beq_eq_false_iff_ne.2 (by omega)
      clear hn hb
      go_enter Tryd.func40, Tryd.ntmps40
      go_wp2_with fail
      refine (HE.out _).mono ?_
      rintro e w2 ⟨rfl, hb2⟩
      have HB2 := Lib.hid (HB.out.trans (hb2.mono HB.out.size))
      have C2 := Lib.hid (HC.out.below hb2)
      have c4 := C2.out.cell 4
      have c5 := C2.out.cell 5
      simp only [List.getElem?_cons_zero, List.getElem?_cons_succ] at c4 c5
      clear hb2
      go_wp2
      go_ret
      exact ⟨by rw [HR.out]; rfl, HB2.out⟩

set_option maxHeartbeats 8000000 in
set_option maxRecDepth 100000 in
theorem formR_4 (S : Nat → Prop) (k i : Int) (s : ByteArray) (c : Int) (na : Option Addr) (nc : Nat) (ns : List Int) (aa : Option Addr) (ac : Nat) (al : List Tm) (w : World) (hk : k = 4) :
    Calls Tryd.prog 40 #[.agg #[.int .i64 k, .int .i64 i, .string s, .int .u32 c, .slice na ns.length nc, .slice aa al.length ac]] w fun e w' => e = .returned (.bool (formS (.mk k i s c ns al))) ∧ Below w.heap.size w w' := by
  have HB := Lib.hid ((Below.refl _ w).alloc (Nat.le_refl _) (.cells #[.int .i64 k, .int .i64 i, .string s, .int .u32 c, .slice na ns.length nc, .slice aa al.length ac] 27 (0, 0)))
  have HC := Lib.hid (Cells.new w 27 [.int .i64 k, .int .i64 i, .string s, .int .u32 c, .slice na ns.length nc, .slice aa al.length ac])
  subst hk
  have HE := Lib.hid (fun W => bare_scn 4 i s c na aa ns.length nc al.length ac W)
  have hbe := (bare_empty 4 i s c ns.length al.length).2 (by decide)
  rw [hbe.2.1] at HE
  clear hbe
  cases hb : emptyS 4 i s c ns.length al.length true true false with
  | false =>
    rw [hb] at HE
    have HR := Lib.hid (show formS (.mk 4 i s c ns al) = false by simp [formS, Tm.kind, Tm.empty, Tm.int, Tm.text, Tm.cr, Tm.nums, Tm.args, hb])
    clear hb
    go_enter Tryd.func40, Tryd.ntmps40
    go_wp2_with fail
    refine (HE.out _).mono ?_
    rintro e w2 ⟨rfl, hb2⟩
    have HB2 := Lib.hid (HB.out.trans (hb2.mono HB.out.size))
    have C2 := Lib.hid (HC.out.below hb2)
    have c4 := C2.out.cell 4
    have c5 := C2.out.cell 5
    simp only [List.getElem?_cons_zero, List.getElem?_cons_succ] at c4 c5
    clear hb2
    go_wp2
    go_ret
    exact ⟨by rw [HR.out]; rfl, HB2.out⟩
  | true =>
    rw [hb] at HE
    by_cases hn : ns.length = 2
    · have HR := Lib.hid (show formS (.mk 4 i s c ns al) = true by rw [hn] at hb; simp [formS, Tm.kind, Tm.empty, Tm.int, Tm.text, Tm.cr, Tm.nums, Tm.args, hb, hn])
      have qn : ((ns.length : Int) == 2) = true := by rw [hn]; rfl
      clear hn hb
      go_enter Tryd.func40, Tryd.ntmps40
      go_wp2_with fail
      refine (HE.out _).mono ?_
      rintro e w2 ⟨rfl, hb2⟩
      have HB2 := Lib.hid (HB.out.trans (hb2.mono HB.out.size))
      have C2 := Lib.hid (HC.out.below hb2)
      have c4 := C2.out.cell 4
      have c5 := C2.out.cell 5
      simp only [List.getElem?_cons_zero, List.getElem?_cons_succ] at c4 c5
      clear hb2
      go_wp2
      go_ret
      exact ⟨by rw [HR.out]; rfl, HB2.out⟩
    · have HR := Lib.hid (show formS (.mk 4 i s c ns al) = false by simp [formS, Tm.kind, Tm.empty, Tm.int, Tm.text, Tm.cr, Tm.nums, Tm.args, hb, hn])
      have qn : ((ns.length : Int) == 2) = false := beq_eq_false_iff_ne.2 (by omega)
      clear hn hb
      go_enter Tryd.func40, Tryd.ntmps40
      go_wp2_with fail
      refine (HE.out _).mono ?_
      rintro e w2 ⟨rfl, hb2⟩
      have HB2 := Lib.hid (HB.out.trans (hb2.mono HB.out.size))
      have C2 := Lib.hid (HC.out.below hb2)
      have c4 := C2.out.cell 4
      have c5 := C2.out.cell 5
      simp only [List.getElem?_cons_zero, List.getElem?_cons_succ] at c4 c5
      clear hb2
      go_wp2
      go_ret
      exact ⟨by rw [HR.out]; rfl, HB2.out⟩

set_option maxHeartbeats 8000000 in
set_option maxRecDepth 100000 in
theorem formR_7 (S : Nat → Prop) (k i : Int) (s : ByteArray) (c : Int) (na : Option Addr) (nc : Nat) (ns : List Int) (aa : Option Addr) (ac : Nat) (al : List Tm) (w : World) (ha : ArgsAt S al aa w) (hac : al.length ≤ 140737488351232) (hk : k = 7) :
    Calls Tryd.prog 40 #[.agg #[.int .i64 k, .int .i64 i, .string s, .int .u32 c, .slice na ns.length nc, .slice aa al.length ac]] w fun e w' => e = .returned (.bool (formS (.mk k i s c ns al))) ∧ Below w.heap.size w w' := by
  have HB := Lib.hid ((Below.refl _ w).alloc (Nat.le_refl _) (.cells #[.int .i64 k, .int .i64 i, .string s, .int .u32 c, .slice na ns.length nc, .slice aa al.length ac] 27 (0, 0)))
  have HC := Lib.hid (Cells.new w 27 [.int .i64 k, .int .i64 i, .string s, .int .u32 c, .slice na ns.length nc, .slice aa al.length ac])
  subst hk
  have HE := Lib.hid (fun W => bare_a 7 i s c na aa ns.length nc al.length ac W)
  have hbe := (bare_empty 7 i s c ns.length al.length).2 (by decide)
  rw [hbe.2.2.1] at HE
  clear hbe
  cases hb : emptyS 7 i s c ns.length al.length false false true with
  | false =>
    rw [hb] at HE
    have HR := Lib.hid (show formS (.mk 7 i s c ns al) = false by simp [formS, Tm.kind, Tm.empty, Tm.int, Tm.text, Tm.cr, Tm.nums, Tm.args, hb])
    clear ha hb
    go_enter Tryd.func40, Tryd.ntmps40
    go_wp2_with fail
    refine (HE.out _).mono ?_
    rintro e w2 ⟨rfl, hb2⟩
    have HB2 := Lib.hid (HB.out.trans (hb2.mono HB.out.size))
    have C2 := Lib.hid (HC.out.below hb2)
    have c4 := C2.out.cell 4
    have c5 := C2.out.cell 5
    simp only [List.getElem?_cons_zero, List.getElem?_cons_succ] at c4 c5
    clear hb2
    go_wp2
    go_ret
    exact ⟨by rw [HR.out]; rfl, HB2.out⟩
  | true =>
    rw [hb] at HE
    by_cases hn : 2 ≤ al.length
    · obtain ⟨g, o, vs, rfl, _, hcs, ht⟩ := ha.get (al.length - 1) (by omega)
      obtain ⟨-, nv, a', cap', rfl, -⟩ := ht.parts
      have h6 := hcs 0 (by omega)
      simp only [List.getElem?_cons_zero] at h6
      have hlt6 := World.block_lt_of_cell? w _ h6
      have hl7 := lastOk_get hn
      have h6' : w.cell? ⟨g, o + (al.length - 1) * 6, none⟩ = some (.int .i64 (al[al.length - 1]'(by omega)).kind) := h6
      generalize (al[al.length - 1]'(by omega)).kind = lk at hl7 h6'
      have H6 := Lib.hid h6'
      have hm : ((al.length - 1 : Nat) : Int) = (al.length : Int) - 1 := by omega
      have hlo : 0 ≤ (al.length : Int) - 1 := by omega
      have hhi : (al.length : Int) - 1 < (al.length : Int) := by omega
      have hn2 : (2 : Int) ≤ (al.length : Int) := by omega
      clear hcs ht h6 h6' ha
      by_cases hlk : lk = 7
      · have HR := Lib.hid (show formS (.mk 7 i s c ns al) = false by simp [formS, Tm.kind, Tm.empty, Tm.int, Tm.text, Tm.cr, Tm.nums, Tm.args, hb, hn, hl7, hlk])
        subst hlk
        clear hl7 hn hb
        go_enter Tryd.func40, Tryd.ntmps40
        go_wp2_with fail
        refine (HE.out _).mono ?_
        rintro e w2 ⟨rfl, hb2⟩
        have HB2 := Lib.hid (HB.out.trans (hb2.mono HB.out.size))
        have C2 := Lib.hid (HC.out.below hb2)
        have c4 := C2.out.cell 4
        have c5 := C2.out.cell 5
        simp only [List.getElem?_cons_zero, List.getElem?_cons_succ] at c4 c5
        have h9 := hb2.cell (p := ⟨g, o + (al.length - 1) * 6, none⟩) (Nat.lt_of_lt_of_le hlt6 HB.out.size)
        have h8 := HB.out.cell (p := ⟨g, o + (al.length - 1) * 6, none⟩) hlt6
        rw [h8, H6.out] at h9
        clear h8 hb2
        go_wp2
        go_ret
        exact ⟨by rw [HR.out]; rfl, HB2.out⟩
      · have HR := Lib.hid (show formS (.mk 7 i s c ns al) = true by simp [formS, Tm.kind, Tm.empty, Tm.int, Tm.text, Tm.cr, Tm.nums, Tm.args, hb, hn, hl7, hlk])
        have qk : (lk != 7) = true := bne_iff_ne.2 hlk
        clear hlk hl7 hn hb
        go_enter Tryd.func40, Tryd.ntmps40
        go_wp2_with fail
        refine (HE.out _).mono ?_
        rintro e w2 ⟨rfl, hb2⟩
        have HB2 := Lib.hid (HB.out.trans (hb2.mono HB.out.size))
        have C2 := Lib.hid (HC.out.below hb2)
        have c4 := C2.out.cell 4
        have c5 := C2.out.cell 5
        simp only [List.getElem?_cons_zero, List.getElem?_cons_succ] at c4 c5
        have h9 := hb2.cell (p := ⟨g, o + (al.length - 1) * 6, none⟩) (Nat.lt_of_lt_of_le hlt6 HB.out.size)
        have h8 := HB.out.cell (p := ⟨g, o + (al.length - 1) * 6, none⟩) hlt6
        rw [h8, H6.out] at h9
        clear h8 hb2
        go_wp2
        go_ret
        exact ⟨by rw [HR.out]; rfl, HB2.out⟩
    · have HR := Lib.hid (show formS (.mk 7 i s c ns al) = false by simp [formS, Tm.kind, Tm.empty, Tm.int, Tm.text, Tm.cr, Tm.nums, Tm.args, hb, hn])
      have hn2 : ¬ (2 : Int) ≤ (al.length : Int) := by omega
      clear ha hn hb
      go_enter Tryd.func40, Tryd.ntmps40
      go_wp2_with fail
      refine (HE.out _).mono ?_
      rintro e w2 ⟨rfl, hb2⟩
      have HB2 := Lib.hid (HB.out.trans (hb2.mono HB.out.size))
      have C2 := Lib.hid (HC.out.below hb2)
      have c4 := C2.out.cell 4
      have c5 := C2.out.cell 5
      simp only [List.getElem?_cons_zero, List.getElem?_cons_succ] at c4 c5
      clear hb2
      go_wp2
      go_ret
      exact ⟨by rw [HR.out]; rfl, HB2.out⟩

set_option maxHeartbeats 8000000 in
set_option maxRecDepth 100000 in
theorem formR_0 (S : Nat → Prop) (k i : Int) (s : ByteArray) (c : Int) (na : Option Addr) (nc : Nat) (ns : List Int) (aa : Option Addr) (ac : Nat) (al : List Tm) (w : World) (h1 : k ≠ 1) (h2 : k ≠ 2) (h3 : k ≠ 3) (h4 : k ≠ 4) (h5 : k ≠ 5) (h6 : k ≠ 6) (h7 : k ≠ 7) :
    Calls Tryd.prog 40 #[.agg #[.int .i64 k, .int .i64 i, .string s, .int .u32 c, .slice na ns.length nc, .slice aa al.length ac]] w fun e w' => e = .returned (.bool (formS (.mk k i s c ns al))) ∧ Below w.heap.size w w' := by
  have HB := Lib.hid ((Below.refl _ w).alloc (Nat.le_refl _) (.cells #[.int .i64 k, .int .i64 i, .string s, .int .u32 c, .slice na ns.length nc, .slice aa al.length ac] 27 (0, 0)))
  have HC := Lib.hid (Cells.new w 27 [.int .i64 k, .int .i64 i, .string s, .int .u32 c, .slice na ns.length nc, .slice aa al.length ac])
  have HR := Lib.hid (show formS (.mk k i s c ns al) = false by simp [formS, Tm.kind, Tm.empty, Tm.int, Tm.text, Tm.cr, Tm.nums, Tm.args, h1, h2, h3, h4, h5, h6, h7])
  have q1 : (k == 1) = false := beq_eq_false_iff_ne.2 h1
  have q2 : (k == 2) = false := beq_eq_false_iff_ne.2 h2
  have q3 : (k == 3) = false := beq_eq_false_iff_ne.2 h3
  have q4 : (k == 4) = false := beq_eq_false_iff_ne.2 h4
  have q5 : (k == 5) = false := beq_eq_false_iff_ne.2 h5
  have q6 : (k == 6) = false := beq_eq_false_iff_ne.2 h6
  have q7 : (k == 7) = false := beq_eq_false_iff_ne.2 h7
  clear h1 h2 h3 h4 h5 h6 h7
  go_enter Tryd.func40, Tryd.ntmps40
  go_wp2
  go_ret
  exact ⟨by rw [HR.out]; rfl, HB.out⟩

theorem formR_any (S : Nat → Prop) (t : Tm) (vs : List Value) (w : World) (ht : TmAt S t vs w) :
    Calls Tryd.prog 40 #[.agg vs.toArray] w fun e w' => e = .returned (.bool (formS t)) ∧ Below w.heap.size w w' := by
  cases t with
  | mk k i s c ns al =>
    obtain ⟨hp, nv, a, cap, rfl, hn, hc, hcap, ha⟩ := ht.parts
    obtain ⟨na, nc, hnv, _⟩ := hn.slice
    obtain rfl : nv = .slice na ns.length nc := hnv
    by_cases h1 : k = 1
    · exact formR_1 S k i s c na nc ns a cap al w h1
    by_cases h2 : k = 2
    · exact formR_2 S k i s c na nc ns a cap al w h2
    by_cases h3 : k = 3
    · exact formR_3 S k i s c na nc ns a cap al w h3
    by_cases h4 : k = 4
    · exact formR_4 S k i s c na nc ns a cap al w h4
    by_cases h5 : k = 5
    · exact formR_5 S k i s c na nc ns a cap al w h5
    by_cases h6 : k = 6
    · exact formR_6 S k i s c na nc ns a cap al w h6
    by_cases h7 : k = 7
    · exact formR_7 S k i s c na nc ns a cap al w ha (by have h : al.length * 88 ≤ 140737488351232 := hcap; omega) h7
    · exact formR_0 S k i s c na nc ns a cap al w h1 h2 h3 h4 h5 h6 h7
end Go.Proofs.YtkipjbmckpmmfaaDoor
end
