/- Texts laid together: TmE, MaB, MaC, MaD, MaE, MaF, MaG, MaH, MaI, Ls, Lg, RxA. -/
import Derived.Test.YtlahagabcnmdiaaGreatDoorP18
import Derived.Test.YtlahagabcnmdiaaGreatDoorP11
import Derived.Test.YtlahagabcnmdiaaGreatDoorP19
import Derived.WalkSpells
import Derived.Deep.Cut
import Derived.Test.YtlahagabcnmdiaaGreatDoorP17
import Derived.Deep.QuietTactic
import Derived.BigQuiet
import Derived.Deep.RegionHeld3
import Derived.Lib.SliceRun
import Derived.Deep.RegionLaw
import Derived.BigRegion
import Derived.Test.YtlahagabcnmdiaaGreatDoorP10
section
/- Package term: Copy. -/
open Go Go.RowKit
namespace Go.Proofs.YtlahagabcnmdiaaGreatDoor

def numsV (l : List Int) : List Value := l.map fun n => Value.int .u32 n
theorem Tryz.infoU32 : (Tryz.prog.info? 32).map (fun i => (i.zero, i.size, i.bytes)) = some (some (.int .u32 0), 1, 4) := by kernel_rfl
/-- an owned row of numbers is a row of numbers -/
theorem NumsAt.ofOwn {base : Nat} {v : Value} {l : List Int} {w : World} (h : w.ownsRow base 32 1 v l.length (numsV l)) (hb : ∀ n ∈ l, 0 ≤ n ∧ n < 4294967296) (hz : l.length * 4 ≤ 140737488351232) : NumsAt (fun b => base ≤ b) v l w := by
  obtain ⟨h1, ⟨rfl, hn⟩ | ⟨g, cap, cur, rfl, hbg, hcell, hn, hc, hcs, htake⟩⟩ := h
  · exact ⟨none, 0, by rw [hn], ⟨by omega, hz⟩, Nat.zero_le _, fun i hi => absurd hi (by omega)⟩
  · refine ⟨some ⟨g, 0, none⟩, cap, rfl, ⟨hn, hz⟩, hc, fun i hi => ?_⟩
    have hm := hb l[i] (List.getElem_mem hi)
    refine ⟨hm.1, hm.2, g, 0, rfl, hbg, ?_⟩
    have h2 : cur.toList[i]? = some (.int .u32 l[i]) := by
      have := congrArg (fun z : List Value => z[i]?) htake
      simp only [Nat.mul_one] at this
      rw [List.getElem?_take_of_lt hi] at this
      rw [this]
      simp [numsV, hi]
    have h3 : cur[i]? = some (.int .u32 l[i]) := by simpa using h2
    simp [World.cell?, hcell, h3]
theorem nums_empty (w : World) : (w.alloc (.cells #[] 32 (0, 0))).ownsRow w.heap.size 32 1 (.slice (some ⟨w.heap.size, 0, none⟩) 0 0) 0 [] :=
  ⟨rfl, .inr ⟨w.heap.size, 0, #[], rfl, Nat.le_refl _, alloc_get _ _, Nat.le_refl _, Nat.zero_le _, rfl, rfl⟩⟩
theorem nums_app {S : Nat → Prop} {base : Nat} {v : Value} {ad : Addr} {c : Nat} {l : List Int} {w : World} (hv : w.ownsRow base 32 1 v 0 []) (h : NumsAt S (.slice (some ad) l.length c) l w) (hB : base ≤ w.heap.size) :
    ∃ v' w', (Builtin.append_ #[33, 33] 33 #[v, .slice (some ad) l.length c]).run Tryz.prog w = .ok v' w' ∧ w'.ownsRow base 32 1 v' l.length (numsV l) ∧ w.grownBy w' v.ownBlock := by
  obtain ⟨i0, hi, hz0, hz1, hz2⟩ := info_parts Tryz.infoU32
  obtain ⟨a, c', he, ⟨_, h4⟩, _, hc⟩ := h
  cases he
  obtain ⟨v', w', hr, h2, h3, _⟩ := run_append_own_at (P := Tryz.prog) w base 33 33 32 i0 (.int .u32 0) 1 4 Tryz.underlying33 hi hz0 hz1 hz2 rfl (by decide) v 0 [] hv ad l.length c (numsV l) (by simp [numsV]) (fun j u hj => by
    have hlt : j < l.length := by
      have := (List.getElem?_eq_some_iff.1 hj).1
      simpa [numsV] using this
    obtain ⟨_, _, g, o, hg, _, hx⟩ := hc j hlt
    cases hg
    rw [Lib.add_plain, hx]
    simpa [numsV, hlt] using hj) (fun u hu => by
    simp only [numsV, List.mem_map] at hu
    obtain ⟨x, _, rfl⟩ := hu
    rfl) (by unfold maxLen; omega) (by omega) hB
  exact ⟨v', w', hr, by simpa using h2, h3⟩

set_option maxHeartbeats 4000000 in
set_option maxRecDepth 100000 in
theorem cloneN_any (S : Nat → Prop) (v : Value) (l : List Int) (w : World) (hv : NumsAt S v l w) :
    Calls Tryz.prog 108 #[v] w fun e w' => ∃ v', e = .returned v' ∧ NumsAt (fun b => w.heap.size ≤ b) v' l w' ∧ Below w.heap.size w w' := by
  have hq := fun (w : World) (a : Option Addr) (n c : Nat) => Lib.run_eql_slice_nil (P := Tryz.prog) w 33 32 a n c 0 0 Tryz.underlying33
  have HV := Lib.hid hv
  obtain ⟨a, c, rfl, ⟨hc1, h4⟩, hc2, hc⟩ := hv
  have hbs : ∀ n ∈ l, 0 ≤ n ∧ n < 4294967296 := fun n hn => by
    obtain ⟨i, hi, rfl⟩ := List.getElem_of_mem hn
    exact ⟨(hc i hi).1, (hc i hi).2.1⟩
  cases a with
  | none =>
    have hn : l = [] := by
      cases l with
      | nil => rfl
      | cons x r => obtain ⟨_, _, g, o, he, _⟩ := hc 0 (by simp); cases he
    subst hn
    clear hc hbs
    go_enter Tryz.func108, Tryz.ntmps108
    go_wp2
    go_ret
    exact ⟨_, rfl, ⟨none, 0, rfl, ⟨Nat.le_refl _, by decide⟩, Nat.zero_le _, fun i hi => absurd hi (Nat.not_lt_zero _)⟩, Below.refl _ _⟩
  | some ad =>
    have hb0 : Below w.heap.size w (w.alloc (.cells #[] 32 (0, 0))) := (Below.refl _ _).alloc (Nat.le_refl _) _
    obtain ⟨v', w', hrun, hown, hg⟩ := nums_app (nums_empty w) (HV.out.below hb0) (by simp)
    have HR := Lib.hid hrun
    have HO := Lib.hid hown
    have HB := Lib.hid (hb0.grown hg (by simp) (fun k hk => by cases hk; exact Nat.le_refl _))
    have HBS := Lib.hid hbs
    have H4 := Lib.hid h4
    clear hc hrun hown hg hb0 hbs h4
    go_enter Tryz.func108, Tryz.ntmps108
    go_wp2_with (at_builtin; refine stop ?_)
    refine Stopped.of ?_
    refine wp_app_eq rfl (.tmp 5) (.tmp 6) _ _ rfl _ _ v' w' rfl rfl HR.out ?_
    go_wp2
    go_ret
    exact ⟨_, rfl, NumsAt.ofOwn HO.out HBS.out H4.out, HB.out⟩

/-- a call that hands back a term in new memory -/
def RetC (w : World) (t : Tm) (e : Ending) (w' : World) : Prop := ∃ vs, e = .returned (.agg vs.toArray) ∧ TmAt (fun b => w.heap.size ≤ b) t vs w' ∧ Below w.heap.size w w'
def termZ : List Value := [.int .i64 0, .int .i64 0, .string ⟨#[]⟩, .int .u32 0, .slice none 0 0, .slice none 0 0]
set_option maxHeartbeats 8000000 in
set_option maxRecDepth 100000 in
theorem copy_ind : ∀ (N : Nat) (S : Nat → Prop) (t : Tm) (vs : List Value) (w : World), SizeOf.sizeOf t ≤ N → TmAt S t vs w →
    Calls Tryz.prog 69 #[.agg vs.toArray] w (RetC w t) := by
  intro N
  induction N with
  | zero => intro S t vs w h; cases t; simp at h
  | succ N ih =>
    intro S t vs w hN ht
    have HIH := Lib.hid ih
    have HNN := Lib.hid hN
    have HT := Lib.hid ht
    obtain ⟨hp, nv, a, cap, rfl, hnn, ⟨hc, hcm⟩, hcap, ha⟩ := ht.parts
    have HP := Lib.hid hp
    have HA := Lib.hid ha
    have HNU := Lib.hid hnn
    obtain ⟨na, nc, rfl, hnc, _⟩ := hnn.slice
    have hcl : t.args.length ≤ 140737488351232 := by omega
    have HCL := Lib.hid hcl
    have HCAP := Lib.hid hcap
    have HB0 := Lib.hid (((Below.refl _ w).alloc (Nat.le_refl _) (.cells #[.int .i64 t.kind, .int .i64 t.int, .string t.text, .int .u32 t.cr, .slice na t.nums.length nc, .slice a t.args.length cap] 35 (0, 0))).alloc (by simp) (.cells termZ.toArray 35 (0, 0)))
    have M0 := Lib.hid ((Cells.new w 35 [.int .i64 t.kind, .int .i64 t.int, .string t.text, .int .u32 t.cr, .slice na t.nums.length nc, .slice a t.args.length cap]).alloc (.cells termZ.toArray 35 (0, 0)))
    have R0 := Lib.hid (show Cells ((w.alloc (.cells #[.int .i64 t.kind, .int .i64 t.int, .string t.text, .int .u32 t.cr, .slice na t.nums.length nc, .slice a t.args.length cap] 35 (0, 0))).alloc (.cells termZ.toArray 35 (0, 0))) (w.heap.size + 1) 35 termZ from by
      have := Cells.new (w.alloc (.cells #[.int .i64 t.kind, .int .i64 t.int, .string t.text, .int .u32 t.cr, .slice na t.nums.length nc, .slice a t.args.length cap] 35 (0, 0))) 35 termZ
      rwa [World.size_alloc] at this)
    have HSZ := Lib.hid (show ((w.alloc (.cells #[.int .i64 t.kind, .int .i64 t.int, .string t.text, .int .u32 t.cr, .slice na t.nums.length nc, .slice a t.args.length cap] 35 (0, 0))).alloc (.cells termZ.toArray 35 (0, 0))).heap.size = w.heap.size + 2 by simp)
    unfold termZ at *
    clear ih hN ht hnn hp ha hcm
    go_enter Tryz.func69, Tryz.ntmps69
    go_upto_region 1 with (fail)
    generalize hW1 : World.alloc (World.alloc w _) _ = W1 at *
    clear hW1
    have HCN := Lib.hid (cloneN_any S (.slice na t.nums.length nc) t.nums W1 (HNU.out.below HB0.out))
    have m4 := M0.out.cell 4
    simp only [List.getElem?_cons_zero, List.getElem?_cons_succ] at m4
    go_wp2_with fail
    refine HCN.out.mono ?_
    rintro e w2 ⟨nv2, rfl, hnv2, hb2⟩
    obtain ⟨na2, nc2, rfl, _, _⟩ := hnv2.slice
    have M2 := Lib.hid (M0.out.below hb2)
    have R2 := Lib.hid (R0.out.below hb2)
    have n4 := M2.out.cell 4
    have f4 := M2.out.frozen 4
    have M3 := Lib.hid (show Cells _ w.heap.size 35 [.int .i64 t.kind, .int .i64 t.int, .string t.text, .int .u32 t.cr, .slice na2 t.nums.length nc2, .slice a t.args.length cap] from M2.out.set_ 4 (.slice na2 t.nums.length nc2))
    have R3 := Lib.hid (R2.out.far (p := ⟨w.heap.size, 4, none⟩) (by simp) (.slice na2 t.nums.length nc2))
    have HB3 := Lib.hid ((HB0.out.trans (hb2.mono HB0.out.size)).setCell (p := ⟨w.heap.size, 4, none⟩) (Nat.le_refl _) (.slice na2 t.nums.length nc2))
    have N3 := Lib.hid (show NumsAt (fun b => w.heap.size + 2 ≤ b) (.slice na2 t.nums.length nc2) t.nums (w2.setCell ⟨w.heap.size, 4, none⟩ (.slice na2 t.nums.length nc2)) from
      (hnv2.mono (fun b _ hb => by have := HSZ.out; omega)).frame fun b hb => Below.heap_setCell _ _ _ _ (by show b ≠ w.heap.size; omega))
    have HSZ3 := Lib.hid (show w.heap.size + 2 ≤ (w2.setCell ⟨w.heap.size, 4, none⟩ (.slice na2 t.nums.length nc2)).heap.size from by rw [World.size_setCell, ← HSZ.out]; exact hb2.size)
    have m5 := M3.out.cell 5
    simp only [List.getElem?_cons_zero, List.getElem?_cons_succ] at n4 m5
    clear hnv2 hb2 m4 M0 R0 M2 R2 HCN
    go_wp2_with fail
    generalize hW3 : World.setCell w2 _ _ = W3 at *
    clear hW3 n4 f4 m5
    go_loopw [3, 13] (fun v i wr => ∃ (kk : Nat) (S' : Nat → Prop), kk ≤ t.args.length ∧ i = .int .i64 kk ∧ TsIs W3.heap.size S' v (t.args.take kk) wr ∧ (∀ b, S' b → w.heap.size + 2 ≤ b) ∧ (∀ k, v.ownBlock = some k → ¬ S' k) ∧ Below W3.heap.size W3 wr) (fun _ i _ => t.args.length - (intOf i).toNat)
    case atStart => exact ⟨0, fun _ => False, Nat.zero_le _, rfl, TsIs.nil _ _ _, (fun b h => h.elim), (fun k hk => by cases hk), Below.refl _ _⟩
    case round =>
      obtain ⟨kk, S', hkk, rfl, hts, hS', hvS, hbr⟩ := hrel
      have HTS := Lib.hid hts
      have HS' := Lib.hid hS'
      have HVS := Lib.hid hvS
      have HBR := Lib.hid hbr
      clear hts hS' hvS hbr
      by_cases hk : kk < t.args.length
      · have hki : (kk : Int) < (t.args.length : Int) := by omega
        have hk0 : (0 : Int) ≤ (kk : Int) := by omega
        obtain ⟨g2, o2, vs2, hae, _, hcs, ht2⟩ := (HA.out.below (HB3.out.trans (HBR.out.mono HB3.out.size))).get kk hk
        subst hae
        have HT2 := Lib.hid ht2
        obtain ⟨_, nv2, a2, cap2, hv2, hnn2, _⟩ := ht2.parts
        obtain ⟨nb2, nd2, hnv2, _, _⟩ := hnn2.slice
        subst hv2
        subst hnv2
        have e0 := hcs 0 (by decide)
        have e1 := hcs 1 (by decide)
        have e2 := hcs 2 (by decide)
        have e3 := hcs 3 (by decide)
        have e4 := hcs 4 (by decide)
        have e5 := hcs 5 (by decide)
        simp only [List.getElem?_cons_zero, List.getElem?_cons_succ, ← Nat.add_assoc, Nat.add_zero] at e0 e1 e2 e3 e4 e5
        have HBA := Lib.hid ((Below.refl _ wr).alloc (Nat.le_refl _) (.cells #[.int .i64 t.args[kk].kind, .int .i64 t.args[kk].int, .string t.args[kk].text, .int .u32 t.args[kk].cr, .slice nb2 t.args[kk].nums.length nd2, .slice a2 t.args[kk].args.length cap2] 35 (0, 0)))
        have HCALL := Lib.hid (HIH.out S t.args[kk] _ _ (by have := Tm.arg_lt hk; have := HNN.out; omega) (HT2.out.below HBA.out))
        clear hcs ht2 hnn2
        go_wp2_with fail
        refine HCALL.out.mono ?_
        rintro e W5 ⟨vs3, rfl, ht3, hb5⟩
        have HT3 := Lib.hid ht3
        obtain ⟨_, nv3, a3, cap3, rfl, hnn3, _⟩ := ht3.parts
        obtain ⟨nb3, nd3, rfl, _, _⟩ := hnn3.slice
        have HW4 := Lib.hid (show (wr.alloc (.cells #[.int .i64 t.args[kk].kind, .int .i64 t.args[kk].int, .string t.args[kk].text, .int .u32 t.args[kk].cr, .slice nb2 t.args[kk].nums.length nd2, .slice a2 t.args[kk].args.length cap2] 35 (0, 0))).heap.size = wr.heap.size + 1 by simp)
        have HB5 := Lib.hid (HBR.out.trans ((HBA.out.trans (hb5.mono HBA.out.size)).mono HBR.out.size))
        have HB15 := Lib.hid (HBA.out.trans (hb5.mono HBA.out.size))
        have HZ5 := Lib.hid hb5.size
        clear ht3 hnn3 hb5 e0 e1 e2 e3 e4 e5 HCALL
        -- the row and the new term, in the world with the row of one
        have hS2 : TsIs W3.heap.size (fun b => (S' b ∧ b < wr.heap.size) ∨ (wr.heap.size < b ∧ b < W5.heap.size)) u3 (t.args.take kk) (W5.alloc (.cells #[.int .i64 t.args[kk].kind, .int .i64 t.args[kk].int, .string t.args[kk].text, .int .u32 t.args[kk].cr, .slice nb3 t.args[kk].nums.length nd3, .slice a3 t.args[kk].args.length cap3] 35 (0, 0))) :=
          ((HTS.out.mono (Nat.le_refl _) (fun b hb hs => .inl ⟨hs, hb⟩)).below HB15.out (Nat.le_refl _)).alloc _
        have hT3 : TmAt (fun b => (S' b ∧ b < wr.heap.size) ∨ (wr.heap.size < b ∧ b < W5.heap.size)) t.args[kk] _ (W5.alloc (.cells #[.int .i64 t.args[kk].kind, .int .i64 t.args[kk].int, .string t.args[kk].text, .int .u32 t.args[kk].cr, .slice nb3 t.args[kk].nums.length nd3, .slice a3 t.args[kk].args.length cap3] 35 (0, 0))) :=
          (HT3.out.mono (fun b hb hs => .inr ⟨by rw [HW4.out] at hs; omega, hb⟩)).below ((Below.refl _ _).alloc (Nat.le_refl _) _)
        have hCN := Cells.new W5 35 [.int .i64 t.args[kk].kind, .int .i64 t.args[kk].int, .string t.args[kk].text, .int .u32 t.args[kk].cr, .slice nb3 t.args[kk].nums.length nd3, .slice a3 t.args[kk].args.length cap3]
        obtain ⟨v7, w7, hrun, hts7, hg7, hob7⟩ := hS2.app hT3 W5.heap.size 0 1 (fun j hj => by rw [Nat.zero_add]; exact hCN.cell j) (by rw [List.length_take]; have := HCAP.out; omega) (by have := HB5.out.size; simp; omega) (fun k hk h => by
          rcases h with ⟨h1, _⟩ | ⟨h1, h2⟩
          · exact HVS.out k hk h1
          · have := (HTS.out.block hk).2.1; omega)
        have HRUN := Lib.hid hrun
        have HTS7 := Lib.hid hts7
        have HB7 := Lib.hid (show Below W3.heap.size W3 w7 from (HB5.out.alloc HB5.out.size _).grown hg7 (by have := HB5.out.size; simp; omega) (fun k hk => (hS2.block hk).1))
        have HVS7 := Lib.hid (show ∀ k, v7.ownBlock = some k → ¬ ((S' k ∧ k < wr.heap.size) ∨ (wr.heap.size < k ∧ k < W5.heap.size)) from fun k hk h => by
          rcases hob7 with e | e
          · rw [e] at hk
            rcases h with ⟨h1, _⟩ | ⟨h1, h2⟩
            · exact HVS.out k hk h1
            · have := (HTS.out.block hk).2.1; omega
          · rw [e] at hk
            cases hk
            simp at h
            rcases h with ⟨h1, h2⟩ | ⟨h1, h2⟩
            · have := HB15.out.size; omega
            · omega)
        have HS7 := Lib.hid (show ∀ b, ((S' b ∧ b < wr.heap.size) ∨ (wr.heap.size < b ∧ b < W5.heap.size)) → w.heap.size + 2 ≤ b from fun b hb => by
          rcases hb with ⟨h1, _⟩ | ⟨h1, _⟩
          · exact HS'.out b h1
          · have := HSZ3.out; have := HBR.out.size; omega)
        have htk : t.args.take kk ++ [t.args[kk]] = t.args.take (kk + 1) := (List.take_succ_eq_append_getElem hk).symm
        rw [htk] at HTS7
        clear hrun hts7 hg7 hob7 hS2 hT3 hCN htk
        go_wp2_with (at_builtin; refine stop ?_)
        refine Stopped.of ?_
        refine wp_app_eq rfl (.tmp 17) (.tmp 20) _ _ rfl _ _ v7 w7 rfl rfl HRUN.out ?_
        go_wp2
        go_roundw
        case rel => exact ⟨kk + 1, _, by omega, by go_num, HTS7.out, HS7.out, HVS7.out, HB7.out⟩
        case measure => simp [intOf]; omega
      · have hki : ¬ (kk : Int) < (t.args.length : Int) := by omega
        have hfull : t.args.take kk = t.args := List.take_of_length_le (by omega)
        rw [hfull] at HTS
        have HBW := Lib.hid (HB3.out.trans (HBR.out.mono HB3.out.size))
        have M4 := Lib.hid (M3.out.below HBR.out)
        have R4 := Lib.hid (R3.out.below HBR.out)
        have N4 := Lib.hid (N3.out.below HBR.out)
        obtain ⟨av, cv, hv, hcv, hav⟩ := HTS.out.args (S2 := fun b => w.heap.size + 2 ≤ b) (fun b _ hb => HS'.out b hb) (fun k hk => by have := (HTS.out.block hk).1; have := HSZ3.out; omega)
        subst hv
        have q0 := M4.out.cell 0
        have q1 := M4.out.cell 1
        have q2 := M4.out.cell 2
        have q3 := M4.out.cell 3
        have q4 := M4.out.cell 4
        have q5 := M4.out.cell 5
        have f5 := M4.out.frozen 5
        have M5 := Lib.hid (show Cells _ w.heap.size 35 [.int .i64 t.kind, .int .i64 t.int, .string t.text, .int .u32 t.cr, .slice na2 t.nums.length nc2, .slice av t.args.length cv] from M4.out.set_ 5 (.slice av t.args.length cv))
        have R5 := Lib.hid (R4.out.far (p := ⟨w.heap.size, 5, none⟩) (by simp) (.slice av t.args.length cv))
        have p0 := M5.out.cell 0
        have p1 := M5.out.cell 1
        have p2 := M5.out.cell 2
        have p3 := M5.out.cell 3
        have p4 := M5.out.cell 4
        have p5 := M5.out.cell 5
        simp only [List.getElem?_cons_zero, List.getElem?_cons_succ] at q0 q1 q2 q3 q4 q5 p0 p1 p2 p3 p4 p5
        have HAV := Lib.hid hav
        have HCV := Lib.hid hcv
        have HBS := Lib.hid (HBW.out.setCell (p := ⟨w.heap.size, 5, none⟩) (Nat.le_refl _) (.slice av t.args.length cv))
        have KS := Lib.hid (show Keep (fun b => b = w.heap.size ∨ b = w.heap.size + 1) wr (wr.setCell ⟨w.heap.size, 5, none⟩ (.slice av t.args.length cv)) from (Keep.refl _ wr).setCell (p := ⟨w.heap.size, 5, none⟩) (fun _ => .inl rfl) _)
        clear hav hcv HTS hfull
        go_wp2_with (refine wpList_store_blk rfl _ (.tmp 2) (.tmp 25) rfl (w.heap.size + 1) 0 [.int .i64 t.kind, .int .i64 t.int, .string t.text, .int .u32 t.cr, .slice na2 t.nums.length nc2, .slice av t.args.length cv] (by rfl) (by rfl) (by kernel_rfl) (by simp [Value.oneCell']) 35 _ R5.out (by show 0 + 6 ≤ 6; decide) ?_; intro w9 hC9 hg9)
        have hC9' : Cells w9 (w.heap.size + 1) 35 [.int .i64 t.kind, .int .i64 t.int, .string t.text, .int .u32 t.cr, .slice na2 t.nums.length nc2, .slice av t.args.length cv] := hC9
        have z0 := hC9'.cell 0
        have z1 := hC9'.cell 1
        have z2 := hC9'.cell 2
        have z3 := hC9'.cell 3
        have z4 := hC9'.cell 4
        have z5 := hC9'.cell 5
        simp only [List.getElem?_cons_zero, List.getElem?_cons_succ] at z0 z1 z2 z3 z4 z5
        have KS9 := Lib.hid (KS.out.grown hg9 (fun k hk _ => by cases hk; exact .inr rfl))
        have HB9 := Lib.hid (HBS.out.grown hg9 HBS.out.size (fun k hk => by cases hk; omega))
        clear hC9 hC9' hg9 q0 q1 q2 q3 q4 q5 p0 p1 p2 p3 p4 p5 f5
        go_wp2
        refine bodyPost_ret (v := .agg #[.int .i64 t.kind, .int .i64 t.int, .string t.text, .int .u32 t.cr, .slice na2 t.nums.length nc2, .slice av t.args.length cv]) (by simp [results, Tryz.results69, go_sem, z0, z1, z2, z3, z4, z5]) rfl ?_
        refine ⟨[.int .i64 t.kind, .int .i64 t.int, .string t.text, .int .u32 t.cr, .slice na2 t.nums.length nc2, .slice av t.args.length cv], rfl, TmAt.of ⟨HP.out, _, _, _, rfl, ?_, HCV.out, HCAP.out, ?_⟩, HB9.out⟩
        · exact (N4.out.keep KS9.out (fun b _ hb e => by rcases e with e | e <;> omega)).mono (fun b _ hb => by omega)
        · exact (HAV.out.keep KS9.out (fun b _ hb e => by rcases e with e | e <;> omega)).mono (fun b _ hb => by omega)
theorem copy_any (S : Nat → Prop) (t : Tm) (vs : List Value) (w : World) (ht : TmAt S t vs w) : Calls Tryz.prog 69 #[.agg vs.toArray] w (RetC w t) :=
  copy_ind _ S t vs w (Nat.le_refl _) ht
end Go.Proofs.YtlahagabcnmdiaaGreatDoor
end
section
/- Package mail: the small functions of a box that was made. -/
open Go Go.RowKit
namespace Go.Proofs.YtlahagabcnmdiaaGreatDoor
set_option linter.unusedVariables false

def bxV (b : Bx) (lv : Value) : List Value := [.bool true, lv, .int .i64 b.cur, .bool b.set, .int .i64 b.due]
/-- a box, whose blocks are among F -/
def BxIs (F : Nat → Prop) (g : Nat) (b : Bx) (w : World) : Prop :=
  F g ∧ b.l.length ≤ 4096 ∧ b.cur ≤ 4096 ∧ ∃ (lv : Value) (S : Nat → Prop), Cells w g 75 (bxV b lv) ∧ TsIs 0 S lv b.l w ∧ (∀ k, S k → F k ∧ k ≠ g) ∧ (∀ k, lv.ownBlock = some k → F k ∧ ¬ S k)
theorem BxIs.frame {F : Nat → Prop} {g : Nat} {b : Bx} {w w' : World} (h : BxIs F g b w) (hb : ∀ k, k < w.heap.size → F k → w'.heap[k]? = w.heap[k]?) : BxIs F g b w' := by
  obtain ⟨h1, h2, h3, lv, S, hC, hT, hS, hv⟩ := h
  exact ⟨h1, h2, h3, lv, S, hC.frame (hb g hC.lt h1), hT.frame (fun k hk => hb k (hT.block hk).2.1 (hv k hk).1) (fun k hlt hk => hb k hlt (hS k hk).1), hS, hv⟩
theorem BxIs.mono {F F' : Nat → Prop} {g : Nat} {b : Bx} {w : World} (h : BxIs F g b w) (hF : ∀ k, k < w.heap.size → F k → F' k) : BxIs F' g b w := by
  obtain ⟨h1, h2, h3, lv, S, hC, hT, hS, hv⟩ := h
  refine ⟨hF g hC.lt h1, h2, h3, lv, fun k => S k ∧ k < w.heap.size, hC, hT.mono (Nat.le_refl _) (fun k hlt hk => ⟨hk, hlt⟩), fun k hk => ⟨hF k hk.2 (hS k hk.1).1, (hS k hk.1).2⟩, fun k hk => ⟨hF k (hT.block hk).2.1 (hv k hk).1, fun hk2 => (hv k hk).2 hk2.1⟩⟩
theorem BxIs.below {F : Nat → Prop} {g : Nat} {b : Bx} {w w' : World} (h : BxIs F g b w) (hb : Below w.heap.size w w') : BxIs F g b w' := h.frame fun k hlt _ => hb.block k hlt
theorem BxIs.keep {F S : Nat → Prop} {g : Nat} {b : Bx} {w w' : World} (h : BxIs F g b w) (k : Keep S w w') (hS : ∀ i, i < w.heap.size → F i → ¬ S i) : BxIs F g b w' := h.frame fun i hlt hi => k.block i hlt (hS i hlt hi)
theorem BxIs.lt {F : Nat → Prop} {g : Nat} {b : Bx} {w : World} (h : BxIs F g b w) : g < w.heap.size := by
  obtain ⟨_, _, _, lv, S, hC, _⟩ := h
  exact hC.lt

theorem mNew_any (w : World) : Calls Tryz.prog 8 #[] w fun e w' => e = .returned (.pointer (some ⟨w.heap.size, 0, none⟩)) ∧ w' = w.alloc (.cells (bxV Bx.zero (.slice none 0 0)).toArray 75 (0, 0)) := by
  unfold bxV Bx.zero
  go_enter Tryz.func8, Tryz.ntmps8
  go_wp2
  go_ret
  exact ⟨rfl, rfl⟩
theorem mOk_live {g : Nat} {cs : List Value} (w : World) (h : Cells w g 75 (.bool true :: cs)) : Calls Tryz.prog 66 #[.pointer (some ⟨g, 0, none⟩)] w fun e w' => e = .returned (.bool true) ∧ w = w' := by
  have c0 := h.cell 0
  simp only [List.getElem?_cons_zero] at c0
  clear h
  go_enter Tryz.func66, Tryz.ntmps66
  go_wp2
  go_ret
  exact ⟨rfl, rfl⟩
theorem mRefused_any (c : Int) (w : World) : Calls Tryz.prog 67 #[.int .i64 c] w (RetEr w (errM c)) := by
  have H := Lib.hid (ErrIs.one (w := w) (layer := mailL) (at_ := 0) (code := c))
  unfold mailL at *
  go_enter Tryz.func67, Tryz.ntmps67
  go_wp2
  go_ret
  exact ⟨_, rfl, H.out, (Below.refl _ _).alloc (Nat.le_refl _) _⟩
theorem mOver_live (ev : Value) (k : Lk) (l : List Lk) (w : World) (her : ErrIs w ev (k :: l)) (hE : ErrT w) :
    Calls Tryz.prog 68 #[ev] w (RetEr w (overM (k :: l))) := by
  have HER := Lib.hid her
  obtain ⟨b, u, rfl, hc, hr⟩ := her
  have hb0 : Below w.heap.size w (w.alloc (.cells #[.pointer none] 96 (0, 0))) := (Below.refl _ _).alloc (Nat.le_refl _) _
  have HA := Lib.hid (as_hit2 b w.heap.size (w.alloc (.cells #[.pointer none] 96 (0, 0))) (hE.below hb0) (alloc_get _ _))
  have hblt : b < w.heap.size := (Array.getElem?_eq_some_iff.1 hc).1
  have HC := Lib.hid hc
  clear hc hr hE hb0
  go_enter Tryz.func68, Tryz.ntmps68
  go_wp2_with fail
  refine HA.out.mono ?_
  rintro e w2 ⟨rfl, hg, hf⟩
  have hb2 : Below w.heap.size w w2 := below_grownBy ((Below.refl _ w).alloc (Nat.le_refl _) _) hg (by simp) (Nat.le_refl _)
  have hc2 := (hb2.block b hblt).trans HC.out
  have c0 := cell_of_block hf 0
  have d2 := cell_of_block hc2 2
  simp only [List.getElem?_toArray, List.getElem?_cons_zero, List.getElem?_cons_succ] at c0 d2
  have HB2 := Lib.hid hb2
  have HR := Lib.hid ((HER.out.below hb2).cons ⟨mailL, 0, k.code⟩)
  unfold mailL at *
  clear hg hf hc2 hb2
  go_wp2
  go_ret
  exact ⟨_, rfl, HR.out, HB2.out.alloc HB2.out.size _⟩
theorem mClock_any (n : Int) (w : World) : Calls Tryz.prog 76 #[.int .i64 n] w fun e w' => e = .returned (.bool (clockM n)) ∧ w = w' := by
  by_cases h1 : 0 ≤ n
  · by_cases h2 : n ≤ 1099511627776
    · have HR := Lib.hid (show clockM n = true by simp [clockM, h1, h2])
      go_enter Tryz.func76, Tryz.ntmps76
      go_wp2
      go_ret
      exact ⟨by rw [HR.out]; rfl, rfl⟩
    · have HR := Lib.hid (show clockM n = false by simp [clockM, h2])
      go_enter Tryz.func76, Tryz.ntmps76
      go_wp2
      go_ret
      exact ⟨by rw [HR.out]; rfl, rfl⟩
  · have HR := Lib.hid (show clockM n = false by simp [clockM, h1])
    go_enter Tryz.func76, Tryz.ntmps76
    go_wp2
    go_ret
    exact ⟨by rw [HR.out]; rfl, rfl⟩
theorem mCome_live {g : Nat} {b : Bx} {lv : Value} (now : Int) (w : World) (h : Cells w g 75 (bxV b lv)) : Calls Tryz.prog 78 #[.pointer (some ⟨g, 0, none⟩), .int .i64 now] w fun e w' => e = .returned (.bool (comeM b now)) ∧ w = w' := by
  have c3 := h.cell 3
  have c4 := h.cell 4
  simp only [bxV, List.getElem?_cons_zero, List.getElem?_cons_succ] at c3 c4
  clear h
  cases hs : b.set with
  | false =>
    rw [hs] at c3
    have HR := Lib.hid (show comeM b now = false by simp [comeM, hs])
    clear hs
    go_enter Tryz.func78, Tryz.ntmps78
    go_wp2
    go_ret
    exact ⟨by rw [HR.out]; rfl, rfl⟩
  | true =>
    rw [hs] at c3
    by_cases h2 : b.due ≤ now
    · have HR := Lib.hid (show comeM b now = true by simp [comeM, hs, h2])
      clear hs
      go_enter Tryz.func78, Tryz.ntmps78
      go_wp2
      go_ret
      exact ⟨by rw [HR.out]; rfl, rfl⟩
    · have HR := Lib.hid (show comeM b now = false by simp [comeM, h2])
      clear hs
      go_enter Tryz.func78, Tryz.ntmps78
      go_wp2
      go_ret
      exact ⟨by rw [HR.out]; rfl, rfl⟩
end Go.Proofs.YtlahagabcnmdiaaGreatDoor
end
section
/- Package mail: what is asked of a box; Next, Wait, Expire. -/
open Go Go.RowKit
namespace Go.Proofs.YtlahagabcnmdiaaGreatDoor
set_option linter.unusedVariables false

/-- a box's cells, and that it stays one where they alone are turned -/
theorem BxIs.upd {F : Nat → Prop} {g : Nat} {b : Bx} {w : World} (h : BxIs F g b w) : ∃ lv, Cells w g 75 (bxV b lv) ∧ TsIs 0 (fun _ => True) lv b.l w ∧
    ∀ w' b', b'.l = b.l → b'.cur ≤ 4096 → Cells w' g 75 (bxV b' lv) → Keep (Blk1 g) w w' → BxIs F g b' w' ∧ Keep F w w' := by
  obtain ⟨h1, h2, h3, lv, S, hC, hT, hS, hv⟩ := h
  refine ⟨lv, hC, hT.mono (Nat.le_refl _) (fun _ _ _ => trivial), fun w' b' hl hc hC' k => ⟨⟨h1, by rw [hl]; exact h2, hc, lv, S, hC', ?_, hS, hv⟩, k.more fun i _ (hi : i = g) => by rw [hi]; exact h1⟩⟩
  rw [hl]
  refine hT.keep k (fun q hq (e : q = g) => ?_) (fun q _ hq e => (hS q hq).2 e)
  obtain ⟨_, _, cur, hcur⟩ := hT.block hq
  have h := hC
  unfold Cells at h
  rw [e, h] at hcur
  injection hcur with hcur
  injection hcur with _ h2
  exact absurd h2 (by decide)
theorem mReset_live {g : Nat} {b : Bx} {lv : Value} (w : World) (h : Cells w g 75 (bxV b lv)) : Calls Tryz.prog 72 #[.pointer (some ⟨g, 0, none⟩)] w fun e w' => e = .returned (.tuple #[]) ∧ Cells w' g 75 (bxV (resetM b) lv) ∧ Keep (Blk1 g) w w' := by
  have c2 := h.cell 2
  have f2 := h.frozen 2
  have P1 := Lib.hid (h.set_ 2 (.int .i64 0))
  have c3 := P1.out.cell 3
  have f3 := P1.out.frozen 3
  have P2 := Lib.hid (P1.out.set_ 3 (.bool false))
  have c4 := P2.out.cell 4
  have f4 := P2.out.frozen 4
  have P3 := Lib.hid (show Cells _ g 75 (bxV (resetM b) lv) from P2.out.set_ 4 (.int .i64 0))
  have K := Lib.hid (keepSet (keepSet (keepSet (Keep.refl (Blk1 g) w) 2 (.int .i64 0)) 3 (.bool false)) 4 (.int .i64 0))
  simp only [bxV, List.set_cons_zero, List.set_cons_succ, List.getElem?_cons_zero, List.getElem?_cons_succ] at c2 c3 c4
  clear h
  go_enter Tryz.func72, Tryz.ntmps72
  go_wp2
  go_end0
  exact ⟨rfl, P3.out, K.out⟩
/-- what the walk wants of a slice value -/
theorem TsIs.form {base : Nat} {S : Nat → Prop} {v : Value} {l : List Tm} {w : World} (h : TsIs base S v l w) : ∃ a c, v = .slice a l.length c := by
  rcases h.shape with ⟨rfl, rfl⟩ | ⟨g, c, rfl, _⟩
  · exact ⟨none, 0, rfl⟩
  · exact ⟨_, c, rfl⟩
set_option maxHeartbeats 4000000 in
theorem mThere_live {g : Nat} {b : Bx} {a : Option Addr} {c : Nat} (w : World) (h : Cells w g 75 (bxV b (.slice a b.l.length c))) : Calls Tryz.prog 70 #[.pointer (some ⟨g, 0, none⟩)] w fun e w' => e = .returned (.bool (decide (b.cur < b.l.length))) ∧ Below w.heap.size w w' := by
  have HO := Lib.hid (fun W (h : Cells W g 75 (bxV b (.slice a b.l.length c))) => (mOk_live W h).mono fun e w' (h : _ ∧ W = w') => (⟨h.1, h.2.symm⟩ : _ ∧ w' = W))
  have HD := Lib.hid (fun n => h.drewN n)
  have c1 := h.cell 1
  have c2 := h.cell 2
  simp only [bxV, List.getElem?_cons_zero, List.getElem?_cons_succ] at c1 c2
  clear h
  go_enter Tryz.func70, Tryz.ntmps70
  go_wp2_with fail
  go_quiet ((go_at_call 66; exact Calls.quiet_of_same (HO.out _ (HD.out _))))
  go_wp2
  go_ret
  refine ⟨ret_bool ?_, below_drewN (Below.refl _ _) _⟩
  simp
theorem mLen_live {g : Nat} {b : Bx} {a : Option Addr} {c : Nat} (w : World) (h : Cells w g 75 (bxV b (.slice a b.l.length c))) : Calls Tryz.prog 31 #[.pointer (some ⟨g, 0, none⟩)] w fun e w' => e = .returned (.int .i64 b.l.length) ∧ w = w' := by
  have HO := Lib.hid (mOk_live w h)
  have c1 := h.cell 1
  simp only [bxV, List.getElem?_cons_zero, List.getElem?_cons_succ] at c1
  clear h
  go_enter Tryz.func31, Tryz.ntmps31
  go_wp2_with fail
  refine HO.out.mono ?_
  rintro e w2 ⟨rfl, rfl⟩
  go_wp2
  go_ret
  exact ⟨rfl, rfl⟩
theorem mCursor_live {g : Nat} {b : Bx} {lv : Value} (w : World) (h : Cells w g 75 (bxV b lv)) : Calls Tryz.prog 41 #[.pointer (some ⟨g, 0, none⟩)] w fun e w' => e = .returned (.int .i64 b.cur) ∧ w = w' := by
  have HO := Lib.hid (mOk_live w h)
  have c2 := h.cell 2
  simp only [bxV, List.getElem?_cons_zero, List.getElem?_cons_succ] at c2
  clear h
  go_enter Tryz.func41, Tryz.ntmps41
  go_wp2_with fail
  refine HO.out.mono ?_
  rintro e w2 ⟨rfl, rfl⟩
  go_wp2
  go_ret
  exact ⟨rfl, rfl⟩
theorem mDeadline_live {g : Nat} {b : Bx} {lv : Value} (w : World) (h : Cells w g 75 (bxV b lv)) : Calls Tryz.prog 40 #[.pointer (some ⟨g, 0, none⟩)] w fun e w' => e = .returned (.tuple #[.int .i64 b.due, .bool b.set]) ∧ Below w.heap.size w w' := by
  have HO := Lib.hid (mOk_live w h)
  have c3 := h.cell 3
  have c4 := h.cell 4
  simp only [bxV, List.getElem?_cons_zero, List.getElem?_cons_succ] at c3 c4
  clear h
  go_enter Tryz.func40, Tryz.ntmps40
  go_wp2_with fail
  refine HO.out.mono ?_
  rintro e w2 ⟨rfl, rfl⟩
  go_wp2
  go_quiet (fail)
  go_wp2
  go_ret2
  exact ⟨rfl, below_drewN (Below.refl _ _) _⟩

/-- what an answer leaves of a box -/
def RetBx (F : Nat → Prop) (g : Nat) (w : World) (b' : Bx) (w' : World) : Prop := BxIs F g b' w' ∧ Keep F w w'
def RetNext (F : Nat → Prop) (g : Nat) (w : World) (r : List Lk × Bx) (e : Ending) (w' : World) : Prop := ∃ ev, e = .returned ev ∧ ErrIs w' ev r.1 ∧ RetBx F g w r.2 w'
theorem RetBx.same {F : Nat → Prop} {g : Nat} {b : Bx} {w w' : World} (h : BxIs F g b w) (hb : Below w.heap.size w w') : RetBx F g w b w' := ⟨h.below hb, keepB hb⟩
set_option maxHeartbeats 4000000 in
theorem mNext_live {F : Nat → Prop} {g : Nat} {b : Bx} (w : World) (h : BxIs F g b w) :
    Calls Tryz.prog 28 #[.pointer (some ⟨g, 0, none⟩)] w (RetNext F g w (nextM b)) := by
  have HBX := Lib.hid h
  have hcur := h.2.2.1
  obtain ⟨lv, hC, hT, hU⟩ := h.upd
  obtain ⟨a, c, rfl⟩ := hT.form
  have HU := Lib.hid hU
  have HC := Lib.hid hC
  have HO := Lib.hid (mOk_live w hC)
  have HTH := Lib.hid (mThere_live w hC)
  have HR := Lib.hid (fun W => mRefused_any 7 W)
  have HCU := Lib.hid hcur
  clear hC hT hU h hcur
  by_cases hlt : b.cur < b.l.length
  · have HE := Lib.hid (show nextM b = ([], { b with cur := b.cur + 1 }) by unfold nextM; rw [if_pos hlt])
    rw [decide_eq_true hlt] at HTH
    have HLT := Lib.hid hlt
    clear hlt
    go_enter Tryz.func28, Tryz.ntmps28
    go_wp2_with fail
    refine HO.out.mono ?_
    rintro e w2 ⟨rfl, rfl⟩
    go_wp2_with fail
    refine HTH.out.mono ?_
    rintro e w3 ⟨rfl, hb3⟩
    have C3 := Lib.hid (HC.out.below hb3)
    have c2 := C3.out.cell 2
    have f2 := C3.out.frozen 2
    simp only [bxV, List.getElem?_cons_zero, List.getElem?_cons_succ] at c2
    have hc0 : (0 : Int) ≤ (b.cur : Int) := by omega
    have hc1 : (b.cur : Int) ≤ 4096 := by have := HCU.out; omega
    have C4 := Lib.hid (C3.out.set_ 2 (.int .i64 ((b.cur : Int) + 1)))
    have K4 := Lib.hid (keepSet (keepB (S := Blk1 g) hb3) 2 (.int .i64 ((b.cur : Int) + 1)))
    clear hb3
    go_wp2
    go_ret
    rw [HE.out]
    have hl4 := HBX.out.2.1
    have hlt := HLT.out
    exact ⟨_, rfl, rfl, HU.out _ { b with cur := b.cur + 1 } rfl (by show b.cur + 1 ≤ 4096; omega) C4.out K4.out⟩
  · have HE := Lib.hid (show nextM b = (errM 7, b) by unfold nextM; rw [if_neg hlt])
    rw [decide_eq_false hlt] at HTH
    clear hlt
    go_enter Tryz.func28, Tryz.ntmps28
    go_wp2_with fail
    refine HO.out.mono ?_
    rintro e w2 ⟨rfl, rfl⟩
    go_wp2_with fail
    refine HTH.out.mono ?_
    rintro e w3 ⟨rfl, hb3⟩
    go_wp2_with fail
    refine (HR.out _).mono ?_
    rintro e w4 ⟨ev, rfl, her, hb4⟩
    have HER := Lib.hid her
    have HB4 := Lib.hid (hb3.trans (hb4.mono hb3.size))
    clear her hb3 hb4
    go_wp2
    go_ret
    rw [HE.out]
    exact ⟨_, rfl, HER.out, RetBx.same HBX.out HB4.out⟩
end Go.Proofs.YtlahagabcnmdiaaGreatDoor
end
section
/- Package mail: how long a term says to wait; Wait, Expire. Printed by wip/mad.py. -/
open Go Go.RowKit
namespace Go.Proofs.YtlahagabcnmdiaaGreatDoor
set_option linter.unusedVariables false
set_option linter.unusedSimpArgs false

theorem lit_neT {s : ByteArray} {l : List UInt8} (h : s ≠ ⟨l.toArray⟩) : (s.toList == l) = false := by
  refine beq_eq_false_iff_ne.2 fun e => h ?_
  rw [toList_data] at e
  subst e
  rfl
theorem inf_eq : (infL.toList == [105, 110, 102, 105, 110, 105, 116, 121]) = true := by rw [toList_data]; rfl
def longR (r : Option (Option Int)) : Int × Bool × List Lk := match r with | none => (0, false, errM 340) | some none => (0, false, []) | some (some n) => (n, true, [])
def RetLong (w : World) (r : Int × Bool × List Lk) (e : Ending) (w' : World) : Prop := ∃ ev, e = .returned (.tuple #[.int .i64 r.1, .bool r.2.1, ev]) ∧ ErrIs w' ev r.2.2 ∧ Below w.heap.size w w'
set_option maxHeartbeats 8000000 in
set_option maxRecDepth 100000 in
theorem mLong_any (S : Nat → Prop) (t : Tm) (vs : List Value) (w : World) (ht : TmAt S t vs w) (hS : ∀ b, S b → b < w.heap.size) (hG : Gt w) :
    Calls Tryz.prog 77 #[.agg vs.toArray] w (RetLong w (longR (longM t))) := by
  have HT := Lib.hid ht
  obtain ⟨hp, nv, a, cap, rfl, hnn, -⟩ := ht.parts
  obtain ⟨na, nc, rfl, _, _⟩ := hnn.slice
  have HB := Lib.hid ((Below.refl _ w).alloc (Nat.le_refl _) (.cells #[.int .i64 t.kind, .int .i64 t.int, .string t.text, .int .u32 t.cr, .slice na t.nums.length nc, .slice a t.args.length cap] 35 (0, 0)))
  have M1 := Lib.hid (Cells.new w 35 [.int .i64 t.kind, .int .i64 t.int, .string t.text, .int .u32 t.cr, .slice na t.nums.length nc, .slice a t.args.length cap])
  have HCK := Lib.hid (fun W (hb : Below w.heap.size w W) => check_any S t [.int .i64 t.kind, .int .i64 t.int, .string t.text, .int .u32 t.cr, .slice na t.nums.length nc, .slice a t.args.length cap] W (HT.out.below hb) (fun b h => Nat.lt_of_lt_of_le (hS b h) hb.size) (hG.below hb))
  have HRF := Lib.hid (fun W => mRefused_any 340 W)
  clear ht hp hnn hS hG
  by_cases k1 : t.kind = 1
  · have q1 : (t.kind == 1) = true := beq_iff_eq.2 k1
    have q2 : (t.kind == 2) = false := beq_eq_false_iff_ne.2 (by omega)
    by_cases hr : 0 ≤ t.int ∧ t.int ≤ 1099511627776
    · have KK := Lib.hid (And.intro k1 hr)
      obtain ⟨hr1, hr2⟩ := hr
      clear k1
      go_enter Tryz.func77, Tryz.ntmps77
      go_wp2_with fail
      refine (HCK.out _ HB.out).mono ?_
      rintro e w2 ⟨ev2, rfl, her2, hb2⟩
      have HB2 := Lib.hid (HB.out.trans (hb2.mono HB.out.size))
      have M2 := Lib.hid (M1.out.below hb2)
      have m0 := M2.out.cell 0
      have m1 := M2.out.cell 1
      have m2 := M2.out.cell 2
      simp only [List.getElem?_cons_zero, List.getElem?_cons_succ] at m0 m1 m2
      clear hb2
      cases hc : checkS t with
      | nil =>
        rw [hc] at her2
        obtain rfl : ev2 = .nilIface := her2
        have HR := Lib.hid (show longR (longM t) = (t.int, true, []) by unfold longM; rw [if_neg (by simp [hc]), if_pos KK.out.1, if_pos KK.out.2]; rfl)
        clear hc
        go_wp2
        go_ret3
        rw [HR.out]
        exact ⟨_, rfl, rfl, HB2.out⟩
      | cons q r =>
        rw [hc] at her2
        obtain ⟨eb, eu, rfl, _, _⟩ := her2
        have HR := Lib.hid (show longR (longM t) = (0, false, errM 340) by unfold longM; rw [if_pos (by simp [hc])]; rfl)
        clear hc
        by_cases hx : t.text = infL
        · have qx : (t.text.toList == [105, 110, 102, 105, 110, 105, 116, 121]) = true := by rw [hx]; exact inf_eq
          clear hx
          go_wp2_with fail
          refine (HRF.out _).mono ?_
          rintro e w9 ⟨ev, rfl, her, hb9⟩
          have HER := Lib.hid her
          have HB9 := Lib.hid (HB2.out.trans (hb9.mono HB2.out.size))
          clear her hb9
          go_wp2
          go_ret3
          rw [HR.out]
          exact ⟨_, rfl, HER.out, HB9.out⟩
        · have qx : (t.text.toList == [105, 110, 102, 105, 110, 105, 116, 121]) = false := lit_neT hx
          clear hx
          go_wp2_with fail
          refine (HRF.out _).mono ?_
          rintro e w9 ⟨ev, rfl, her, hb9⟩
          have HER := Lib.hid her
          have HB9 := Lib.hid (HB2.out.trans (hb9.mono HB2.out.size))
          clear her hb9
          go_wp2
          go_ret3
          rw [HR.out]
          exact ⟨_, rfl, HER.out, HB9.out⟩
    · have HR := Lib.hid (show longR (longM t) = (0, false, errM 340) by
        have hn : longM t = none := by
          unfold longM
          by_cases hc : checkS t ≠ []
          · rw [if_pos hc]
          · rw [if_neg hc, if_pos k1, if_neg hr]
        rw [hn]; rfl)
      by_cases hr1 : 0 ≤ t.int
      · have hr2 : ¬ t.int ≤ 1099511627776 := fun h => hr ⟨hr1, h⟩
        clear k1 hr
        by_cases hx : t.text = infL
        · have qx : (t.text.toList == [105, 110, 102, 105, 110, 105, 116, 121]) = true := by rw [hx]; exact inf_eq
          clear hx
          go_enter Tryz.func77, Tryz.ntmps77
          go_wp2_with fail
          refine (HRF.out _).mono ?_
          rintro e w9 ⟨ev, rfl, her, hb9⟩
          have HER := Lib.hid her
          have HB9 := Lib.hid (HB.out.trans (hb9.mono HB.out.size))
          clear her hb9
          go_wp2
          go_ret3
          rw [HR.out]
          exact ⟨_, rfl, HER.out, HB9.out⟩
        · have qx : (t.text.toList == [105, 110, 102, 105, 110, 105, 116, 121]) = false := lit_neT hx
          clear hx
          go_enter Tryz.func77, Tryz.ntmps77
          go_wp2_with fail
          refine (HRF.out _).mono ?_
          rintro e w9 ⟨ev, rfl, her, hb9⟩
          have HER := Lib.hid her
          have HB9 := Lib.hid (HB.out.trans (hb9.mono HB.out.size))
          clear her hb9
          go_wp2
          go_ret3
          rw [HR.out]
          exact ⟨_, rfl, HER.out, HB9.out⟩
      · clear k1 hr
        by_cases hx : t.text = infL
        · have qx : (t.text.toList == [105, 110, 102, 105, 110, 105, 116, 121]) = true := by rw [hx]; exact inf_eq
          clear hx
          go_enter Tryz.func77, Tryz.ntmps77
          go_wp2_with fail
          refine (HRF.out _).mono ?_
          rintro e w9 ⟨ev, rfl, her, hb9⟩
          have HER := Lib.hid her
          have HB9 := Lib.hid (HB.out.trans (hb9.mono HB.out.size))
          clear her hb9
          go_wp2
          go_ret3
          rw [HR.out]
          exact ⟨_, rfl, HER.out, HB9.out⟩
        · have qx : (t.text.toList == [105, 110, 102, 105, 110, 105, 116, 121]) = false := lit_neT hx
          clear hx
          go_enter Tryz.func77, Tryz.ntmps77
          go_wp2_with fail
          refine (HRF.out _).mono ?_
          rintro e w9 ⟨ev, rfl, her, hb9⟩
          have HER := Lib.hid her
          have HB9 := Lib.hid (HB.out.trans (hb9.mono HB.out.size))
          clear her hb9
          go_wp2
          go_ret3
          rw [HR.out]
          exact ⟨_, rfl, HER.out, HB9.out⟩
  have q1 : (t.kind == 1) = false := beq_eq_false_iff_ne.2 k1
  by_cases k2 : t.kind = 2
  · have q2 : (t.kind == 2) = true := beq_iff_eq.2 k2
    by_cases hx : t.text = infL
    · have qx : (t.text.toList == [105, 110, 102, 105, 110, 105, 116, 121]) = true := by rw [hx]; exact inf_eq
      have KK := Lib.hid (And.intro k1 (And.intro k2 hx))
      clear k1 k2 hx
      go_enter Tryz.func77, Tryz.ntmps77
      go_wp2_with fail
      refine (HCK.out _ HB.out).mono ?_
      rintro e w2 ⟨ev2, rfl, her2, hb2⟩
      have HB2 := Lib.hid (HB.out.trans (hb2.mono HB.out.size))
      have M2 := Lib.hid (M1.out.below hb2)
      have m0 := M2.out.cell 0
      have m1 := M2.out.cell 1
      have m2 := M2.out.cell 2
      simp only [List.getElem?_cons_zero, List.getElem?_cons_succ] at m0 m1 m2
      clear hb2
      cases hc : checkS t with
      | nil =>
        rw [hc] at her2
        obtain rfl : ev2 = .nilIface := her2
        have HR := Lib.hid (show longR (longM t) = (0, false, []) by unfold longM; rw [if_neg (by simp [hc]), if_neg KK.out.1, if_pos KK.out.2]; rfl)
        clear hc
        go_wp2
        go_ret3
        rw [HR.out]
        exact ⟨_, rfl, rfl, HB2.out⟩
      | cons q r =>
        rw [hc] at her2
        obtain ⟨eb, eu, rfl, _, _⟩ := her2
        have HR := Lib.hid (show longR (longM t) = (0, false, errM 340) by unfold longM; rw [if_pos (by simp [hc])]; rfl)
        clear hc
        go_wp2_with fail
        refine (HRF.out _).mono ?_
        rintro e w9 ⟨ev, rfl, her, hb9⟩
        have HER := Lib.hid her
        have HB9 := Lib.hid (HB2.out.trans (hb9.mono HB2.out.size))
        clear her hb9
        go_wp2
        go_ret3
        rw [HR.out]
        exact ⟨_, rfl, HER.out, HB9.out⟩
    · have qx : (t.text.toList == [105, 110, 102, 105, 110, 105, 116, 121]) = false := lit_neT hx
      have HR := Lib.hid (show longR (longM t) = (0, false, errM 340) by
        have hn : longM t = none := by
          unfold longM
          by_cases hc : checkS t ≠ []
          · rw [if_pos hc]
          · rw [if_neg hc, if_neg k1, if_neg (fun h => hx h.2)]
        rw [hn]; rfl)
      clear k1 k2 hx
      go_enter Tryz.func77, Tryz.ntmps77
      go_wp2_with fail
      refine (HRF.out _).mono ?_
      rintro e w9 ⟨ev, rfl, her, hb9⟩
      have HER := Lib.hid her
      have HB9 := Lib.hid (HB.out.trans (hb9.mono HB.out.size))
      clear her hb9
      go_wp2
      go_ret3
      rw [HR.out]
      exact ⟨_, rfl, HER.out, HB9.out⟩
  · have q2 : (t.kind == 2) = false := beq_eq_false_iff_ne.2 k2
    have HR := Lib.hid (show longR (longM t) = (0, false, errM 340) by
      have hn : longM t = none := by
        unfold longM
        by_cases hc : checkS t ≠ []
        · rw [if_pos hc]
        · rw [if_neg hc, if_neg k1, if_neg (fun h => k2 h.1)]
      rw [hn]; rfl)
    clear k1 k2
    go_enter Tryz.func77, Tryz.ntmps77
    go_wp2_with fail
    refine (HRF.out _).mono ?_
    rintro e w9 ⟨ev, rfl, her, hb9⟩
    have HER := Lib.hid her
    have HB9 := Lib.hid (HB.out.trans (hb9.mono HB.out.size))
    clear her hb9
    go_wp2
    go_ret3
    rw [HR.out]
    exact ⟨_, rfl, HER.out, HB9.out⟩
end Go.Proofs.YtlahagabcnmdiaaGreatDoor
end
section
/- Package mail: Wait, Expire. Printed by wip/mae.py. -/
open Go Go.RowKit
namespace Go.Proofs.YtlahagabcnmdiaaGreatDoor
set_option linter.unusedVariables false
set_option linter.unusedSimpArgs false

def RetWait (F : Nat → Prop) (g : Nat) (w : World) (r : Bool × List Lk × Bx) (e : Ending) (w' : World) : Prop := ∃ ev, e = .returned (.tuple #[.bool r.1, ev]) ∧ ErrIs w' ev r.2.1 ∧ RetBx F g w r.2.2 w'

theorem longM_bd (t : Tm) : ∀ n, longM t = some (some n) → 0 ≤ n ∧ n ≤ 1099511627776 := by
  intro n h
  unfold longM at h
  split at h
  · cases h
  · split at h
    · split at h
      · rename_i h2
        cases h
        exact h2
      · cases h
    · split at h <;> cases h
set_option maxHeartbeats 8000000 in
set_option maxRecDepth 100000 in
theorem mExpire_live {F : Nat → Prop} {g : Nat} {b : Bx} (now : Int) (w : World) (h : BxIs F g b w) :
    Calls Tryz.prog 38 #[.pointer (some ⟨g, 0, none⟩), .int .i64 now] w (RetWait F g w (expireM b now)) := by
  have HBX := Lib.hid h
  obtain ⟨lv, hC, hT, hU⟩ := h.upd
  have HU := Lib.hid hU
  have HC := Lib.hid hC
  have HO := Lib.hid (mOk_live w hC)
  have HCL := Lib.hid (mClock_any now w)
  have HCO := Lib.hid (mCome_live now w hC)
  have HRF := Lib.hid (fun c W => mRefused_any c W)
  have HB := Lib.hid (Below.refl w.heap.size w)
  clear hC hT hU h
  cases hcl : clockM now with
  | false =>
    have HR := Lib.hid (show expireM b now = (false, errM 2, b) by unfold expireM; rw [if_pos hcl])
    rw [hcl] at HCL
    clear hcl
    go_enter Tryz.func38, Tryz.ntmps38
    go_wp2_with fail
    refine HO.out.mono ?_
    rintro e w2 ⟨rfl, rfl⟩
    go_wp2_with fail
    refine HCL.out.mono ?_
    rintro e w2 ⟨rfl, rfl⟩
    go_wp2_with fail
    refine (HRF.out 2 _).mono ?_
    rintro e w9 ⟨ev, rfl, her, hb9⟩
    have HER := Lib.hid her
    have HB9 := Lib.hid (HB.out.trans (hb9.mono HB.out.size))
    clear her hb9
    go_wp2
    go_ret2
    rw [HR.out]
    exact ⟨_, rfl, HER.out, RetBx.same HBX.out HB9.out⟩
  | true =>
    rw [hcl] at HCL
    cases hco : comeM b now with
    | false =>
      have HR := Lib.hid (show expireM b now = (false, [], b) by unfold expireM; rw [if_neg (by simp [hcl]), if_neg (by simp [hco])])
      rw [hco] at HCO
      clear hcl hco
      go_enter Tryz.func38, Tryz.ntmps38
      go_wp2_with fail
      refine HO.out.mono ?_
      rintro e w2 ⟨rfl, rfl⟩
      go_wp2_with fail
      refine HCL.out.mono ?_
      rintro e w2 ⟨rfl, rfl⟩
      go_wp2_with fail
      refine HCO.out.mono ?_
      rintro e w2 ⟨rfl, rfl⟩
      go_wp2
      go_ret2
      rw [HR.out]
      exact ⟨_, rfl, rfl, RetBx.same HBX.out HB.out⟩
    | true =>
      have HR := Lib.hid (show expireM b now = (true, [], resetM b) by unfold expireM; rw [if_neg (by simp [hcl]), if_pos hco])
      rw [hco] at HCO
      clear hcl hco
      go_enter Tryz.func38, Tryz.ntmps38
      go_wp2_with fail
      refine HO.out.mono ?_
      rintro e w2 ⟨rfl, rfl⟩
      go_wp2_with fail
      refine HCL.out.mono ?_
      rintro e w2 ⟨rfl, rfl⟩
      go_wp2_with fail
      refine HCO.out.mono ?_
      rintro e w2 ⟨rfl, rfl⟩
      go_wp2_with fail
      refine (mReset_live _ HC.out).mono ?_
      rintro e w8 ⟨rfl, hC8, hk8⟩
      have HC8 := Lib.hid hC8
      have HK8 := Lib.hid ((keepB (S := Blk1 g) HB.out).trans hk8 (fun _ _ h => h))
      clear hC8 hk8
      go_wp2
      go_ret2
      rw [HR.out]
      exact ⟨_, rfl, rfl, HU.out _ (resetM b) rfl (Nat.zero_le _) HC8.out HK8.out⟩


set_option maxHeartbeats 8000000 in
set_option maxRecDepth 100000 in
theorem mWait_live {F : Nat → Prop} {g : Nat} {b : Bx} (now : Int) (S : Nat → Prop) (t : Tm) (vs : List Value) (w : World) (h : BxIs F g b w) (ht : TmAt S t vs w) (hS : ∀ b, S b → b < w.heap.size) (hG : Gt w) :
    Calls Tryz.prog 36 #[.pointer (some ⟨g, 0, none⟩), .int .i64 now, .agg vs.toArray] w (RetWait F g w (waitM b now t)) := by
  have HBX := Lib.hid h
  obtain ⟨lv, hC, hT, hU⟩ := h.upd
  have HU := Lib.hid hU
  have HC0 := Lib.hid hC
  have HT := Lib.hid ht
  obtain ⟨hp, nv, a, cap, rfl, hnn, -⟩ := ht.parts
  obtain ⟨na, nc, rfl, _, _⟩ := hnn.slice
  have HB := Lib.hid ((Below.refl _ w).alloc (Nat.le_refl _) (.cells #[.int .i64 t.kind, .int .i64 t.int, .string t.text, .int .u32 t.cr, .slice na t.nums.length nc, .slice a t.args.length cap] 35 (0, 0)))
  have HC := Lib.hid (hC.alloc (.cells #[.int .i64 t.kind, .int .i64 t.int, .string t.text, .int .u32 t.cr, .slice na t.nums.length nc, .slice a t.args.length cap] 35 (0, 0)))
  have HO := Lib.hid (mOk_live _ HC.out)
  have HCL := Lib.hid (fun W => mClock_any now W)
  have HCO := Lib.hid (fun W (h : Cells W g 75 (bxV b lv)) => mCome_live now W h)
  have HLO := Lib.hid (mLong_any S t [.int .i64 t.kind, .int .i64 t.int, .string t.text, .int .u32 t.cr, .slice na t.nums.length nc, .slice a t.args.length cap] _ (HT.out.below HB.out) (fun b h => Nat.lt_of_lt_of_le (hS b h) HB.out.size) (hG.below HB.out))
  have HRF := Lib.hid (fun c W => mRefused_any c W)
  clear hC hT hU h ht hp hnn hS hG
  cases hcl : clockM now with
  | false =>
    have HR := Lib.hid (show waitM b now t = (false, errM 2, b) by unfold waitM; rw [if_pos hcl])
    rw [hcl] at HCL
    clear hcl
    go_enter Tryz.func36, Tryz.ntmps36
    go_wp2_with fail
    refine HO.out.mono ?_
    rintro e w2 ⟨rfl, rfl⟩
    go_wp2_with fail
    refine (HCL.out _).mono ?_
    rintro e w2 ⟨rfl, rfl⟩
    go_wp2_with fail
    refine (HRF.out 2 _).mono ?_
    rintro e w9 ⟨ev, rfl, her, hb9⟩
    have HER := Lib.hid her
    have HB9 := Lib.hid (HB.out.trans (hb9.mono HB.out.size))
    clear her hb9
    go_wp2
    go_ret2
    rw [HR.out]
    exact ⟨_, rfl, HER.out, RetBx.same HBX.out HB9.out⟩
  | true =>
    have HW := Lib.hid (show waitM b now t = waitR b now (longM t) by unfold waitM; rw [if_neg (by simp [hcl])])
    have hnw : 0 ≤ now ∧ now ≤ 1099511627776 := by
      unfold clockM at hcl
      simp only [Bool.and_eq_true, decide_eq_true_eq] at hcl
      exact hcl
    obtain ⟨hn0, hn1⟩ := hnw
    have HLB := Lib.hid (longM_bd t)
    rw [hcl] at HCL
    clear hcl
    go_enter Tryz.func36, Tryz.ntmps36
    go_wp2_with fail
    refine HO.out.mono ?_
    rintro e w2 ⟨rfl, rfl⟩
    go_wp2_with fail
    refine (HCL.out _).mono ?_
    rintro e w2 ⟨rfl, rfl⟩
    go_wp2_with fail
    refine HLO.out.mono ?_
    rintro e w3 ⟨ev, rfl, her, hb3⟩
    have HB3 := Lib.hid (HB.out.trans (hb3.mono HB.out.size))
    have C3 := Lib.hid (HC.out.below hb3)
    have HER := Lib.hid her
    clear hb3
    cases hlo : longM t with
    | none =>
      rw [hlo] at her HER
      have HR := Lib.hid (show waitM b now t = (false, errM 340, b) by rw [HW.out, hlo]; rfl)
      obtain ⟨eb, eu, rfl, _, _⟩ := her
      clear hlo
      go_wp2
      go_ret2
      rw [HR.out]
      exact ⟨_, rfl, HER.out, RetBx.same HBX.out HB3.out⟩
    | some o =>
      rw [hlo] at her HW HLB
      cases o with
      | none =>
        obtain rfl : ev = .nilIface := her
        have HCO3 := Lib.hid (HCO.out _ C3.out)
        cases hco : comeM b now with
        | true =>
          have HR := Lib.hid (show waitM b now t = (false, [], resetM b) by rw [HW.out]; simp [waitR, hco])
          rw [hco] at HCO3
          clear hco hlo
          unfold longR
          go_wp2_with fail
          refine HCO3.out.mono ?_
          rintro e w4 ⟨rfl, rfl⟩
          go_wp2_with fail
          refine (mReset_live _ C3.out).mono ?_
          rintro e w8 ⟨rfl, hC8, hk8⟩
          have HC8 := Lib.hid hC8
          have HK8 := Lib.hid ((keepB (S := Blk1 g) HB3.out).trans hk8 (fun _ _ h => h))
          clear hC8 hk8
          go_wp2
          go_ret2
          rw [HR.out]
          exact ⟨_, rfl, rfl, HU.out _ (resetM b) rfl (Nat.zero_le _) HC8.out HK8.out⟩
        | false =>
          have HR := Lib.hid (show waitM b now t = (true, [], b) by rw [HW.out]; simp [waitR, hco])
          rw [hco] at HCO3
          clear hco hlo
          unfold longR
          go_wp2_with fail
          refine HCO3.out.mono ?_
          rintro e w4 ⟨rfl, rfl⟩
          go_wp2
          go_ret2
          rw [HR.out]
          exact ⟨_, rfl, rfl, RetBx.same HBX.out HB3.out⟩
      | some n =>
        obtain rfl : ev = .nilIface := her
        have HCO3 := Lib.hid (HCO.out _ C3.out)
        obtain ⟨hz0, hz1⟩ := HLB.out n rfl
        by_cases hz : n = 0
        · have HR := Lib.hid (show waitM b now t = (false, [], resetM b) by rw [HW.out]; simp [waitR, hz])
          subst hz
          clear hlo
          unfold longR
          go_wp2_with fail
          refine (mReset_live _ C3.out).mono ?_
          rintro e w8 ⟨rfl, hC8, hk8⟩
          have HC8 := Lib.hid hC8
          have HK8 := Lib.hid ((keepB (S := Blk1 g) HB3.out).trans hk8 (fun _ _ h => h))
          clear hC8 hk8
          go_wp2
          go_ret2
          rw [HR.out]
          exact ⟨_, rfl, rfl, HU.out _ (resetM b) rfl (Nat.zero_le _) HC8.out HK8.out⟩
        have qz : (n == 0) = false := beq_eq_false_iff_ne.2 hz
        cases hco : comeM b now with
        | true =>
          have HR := Lib.hid (show waitM b now t = (false, [], resetM b) by rw [HW.out]; simp [waitR, hco])
          rw [hco] at HCO3
          clear hco hlo hz
          unfold longR
          go_wp2_with fail
          refine HCO3.out.mono ?_
          rintro e w4 ⟨rfl, rfl⟩
          go_wp2_with fail
          refine (mReset_live _ C3.out).mono ?_
          rintro e w8 ⟨rfl, hC8, hk8⟩
          have HC8 := Lib.hid hC8
          have HK8 := Lib.hid ((keepB (S := Blk1 g) HB3.out).trans hk8 (fun _ _ h => h))
          clear hC8 hk8
          go_wp2
          go_ret2
          rw [HR.out]
          exact ⟨_, rfl, rfl, HU.out _ (resetM b) rfl (Nat.zero_le _) HC8.out HK8.out⟩
        | false =>
          have c3 := C3.out.cell 3
          simp only [bxV, List.getElem?_cons_zero, List.getElem?_cons_succ] at c3
          rw [hco] at HCO3
          cases hs : b.set with
          | true =>
            rw [hs] at c3
            have HR := Lib.hid (show waitM b now t = (true, [], b) by rw [HW.out]; simp [waitR, hco, hz, hs])
            clear hco hlo hz hs
            unfold longR
            go_wp2_with fail
            refine HCO3.out.mono ?_
            rintro e w4 ⟨rfl, rfl⟩
            go_wp2
            go_ret2
            rw [HR.out]
            exact ⟨_, rfl, rfl, RetBx.same HBX.out HB3.out⟩
          | false =>
            rw [hs] at c3
            have HR := Lib.hid (show waitM b now t = (true, [], ⟨b.l, b.cur, true, now + n⟩) by rw [HW.out]; simp [waitR, hco, hz, hs])
            have f3 := C3.out.frozen 3
            have P1 := Lib.hid (C3.out.set_ 3 (.bool true))
            have c4 := P1.out.cell 4
            have f4 := P1.out.frozen 4
            have P2 := Lib.hid (show Cells _ g 75 (bxV ⟨b.l, b.cur, true, now + n⟩ lv) from P1.out.set_ 4 (.int .i64 (now + n)))
            have K2 := Lib.hid (keepSet (keepSet (keepB (S := Blk1 g) HB3.out) 3 (.bool true)) 4 (.int .i64 (now + n)))
            simp only [bxV, List.set_cons_zero, List.set_cons_succ, List.getElem?_cons_zero, List.getElem?_cons_succ] at c4
            have HCU := Lib.hid HBX.out.2.2.1
            clear hco hlo hz hs
            unfold longR
            go_wp2_with fail
            refine HCO3.out.mono ?_
            rintro e w4 ⟨rfl, rfl⟩
            go_wp2
            go_ret2
            rw [HR.out]
            exact ⟨_, rfl, rfl, HU.out _ ⟨b.l, b.cur, true, now + n⟩ rfl HCU.out P2.out K2.out⟩
end Go.Proofs.YtlahagabcnmdiaaGreatDoor
end
section
/- Package mail: Peek. Printed by wip/maf.py over its own head. -/
open Go Go.RowKit
namespace Go.Proofs.YtlahagabcnmdiaaGreatDoor
set_option linter.unusedVariables false
set_option linter.unusedSimpArgs false

/-- a struct stored into a block that is known whole, as one step of a region that draws -/
theorem step_store_blk {P : Program} {ops : Array Oper} {o : Oper} {a : Act} {K : Act → World → Prop} {Q : Exit → Act → World → Prop} {E : Prop} {w : World} (hgd : o.guard = none) (ty : TypeId) (x y : Operand) (ho : o.op = .store ty x y)
    (g off : Nat) (vs : List Value) (hx : a.eval x = .pointer (some ⟨g, off, none⟩)) (hy : a.eval y = .agg vs.toArray) (hi : (P.info? ty).map (·.size) = some vs.length) (h1 : ∀ v ∈ vs, v.oneCell' = true)
    (t : TypeId) (cs : List Value) (hC : Cells w g t cs) (hn : off + vs.length ≤ cs.length)
    (h : ∀ w', Cells w' g t (setFrom cs off vs) → w.grownBy w' (some g) → K (a.put o.dst undef) w') : if Region.wanted o (yielded ops a.tmps) = true then Oper.wp P o a w K Q else E := by
  have hw : Region.wanted o (yielded ops a.tmps) = true := by simp [Region.wanted, hgd]
  rw [if_pos hw]
  exact wp_store_mid ty x y ho g off vs.toArray hx hy (by simpa using hC.there off vs.length hn) (by simpa using hi) (all_oneCell_toArray h1) (by simpa using h _ (hC.setCells vs off) (grown_setCells vs w off))
/-- what Peek hands back -/
def RetPeek (w : World) (r : Option Tm) (e : Ending) (w' : World) : Prop := Below w.heap.size w w' ∧ match r with
  | some t => ∃ vs, e = .returned (.tuple #[.agg vs.toArray, .bool true]) ∧ TmAt (fun b => w.heap.size ≤ b) t vs w'
  | none => e = .returned (.tuple #[.agg termZ.toArray, .bool false])
/-- the element at a place of a row that is not empty -/
theorem TsIs.elem {base : Nat} {S : Nat → Prop} {v : Value} {l : List Tm} {w : World} (h : TsIs base S v l w) (i : Nat) (hi : i < l.length) :
    ∃ k c vs, v = .slice (some ⟨k, 0, none⟩) l.length c ∧ (∀ j, j < 6 → w.cell? ⟨k, i * 6 + j, none⟩ = vs[j]?) ∧ TmAt S l[i] vs w := by
  rcases h.shape with ⟨_, hn⟩ | ⟨k, c, rfl, _⟩
  · rw [hn] at hi; exact absurd hi (Nat.not_lt_zero _)
  · obtain ⟨vs, h1, h2⟩ := h.at_ i hi
    exact ⟨k, c, vs, rfl, h1, h2⟩
set_option maxHeartbeats 8000000 in
set_option maxRecDepth 100000 in
theorem mPeek_live {F : Nat → Prop} {g : Nat} {b : Bx} (w : World) (h : BxIs F g b w) :
    Calls Tryz.prog 30 #[.pointer (some ⟨g, 0, none⟩)] w (RetPeek w b.l[b.cur]?) := by
  obtain ⟨lv, hC, hT, hU⟩ := h.upd
  have hl46 := h.2.1
  have hc46 := h.2.2.1
  obtain ⟨a, c, rfl⟩ := hT.form
  have HC := Lib.hid hC
  have HT := Lib.hid hT
  have HB0 := Lib.hid ((Below.refl w.heap.size w).alloc (Nat.le_refl _) (.cells termZ.toArray 35 (0, 0)))
  have HTH := Lib.hid (mThere_live _ (hC.below HB0.out))
  have R0 := Lib.hid (Cells.new w 35 termZ)
  unfold termZ at *
  by_cases hlt : b.cur < b.l.length
  · have HR := Lib.hid (show b.l[b.cur]? = some b.l[b.cur] from List.getElem?_eq_getElem hlt)
    rw [decide_eq_true hlt] at HTH
    obtain ⟨k, c', vs, hv, hcs, ht⟩ := hT.elem b.cur hlt
    cases hv
    have HTM := Lib.hid ht
    obtain ⟨_, nv, a2, cap2, rfl, hnn, _⟩ := ht.parts
    obtain ⟨na2, nc2, rfl, _, _⟩ := hnn.slice
    have HCS := Lib.hid hcs
    have hci : (b.cur : Int) < (b.l.length : Int) := by omega
    have hc0 : (0 : Int) ≤ (b.cur : Int) := by omega
    clear hC hT hU h hcs ht hnn
    go_enter Tryz.func30, Tryz.ntmps30
    go_wp2_with fail
    refine HTH.out.mono ?_
    rintro e w2 ⟨rfl, hb2⟩
    have HB2 := Lib.hid (HB0.out.trans (hb2.mono HB0.out.size))
    have C2 := Lib.hid (HC.out.below HB2.out)
    have R2 := Lib.hid (R0.out.below hb2)
    have e0 := HCS.out 0 (by decide)
    have e1 := HCS.out 1 (by decide)
    have e2 := HCS.out 2 (by decide)
    have e3 := HCS.out 3 (by decide)
    have e4 := HCS.out 4 (by decide)
    have e5 := HCS.out 5 (by decide)
    simp only [List.getElem?_cons_zero, List.getElem?_cons_succ, Nat.add_zero] at e0 e1 e2 e3 e4 e5
    have hk : k < w.heap.size := World.block_lt_of_cell? w _ e0
    have HL1 := Lib.hid (fun W (h : Below w.heap.size w W) => show W.cell? ⟨g, 1, none⟩ = some (.slice (some ⟨k, 0, none⟩) b.l.length c) from (HC.out.below h).cell 1)
    have HL2 := Lib.hid (fun W (h : Below w.heap.size w W) => show W.cell? ⟨g, 2, none⟩ = some (.int .i64 b.cur) from (HC.out.below h).cell 2)
    have HE0 := Lib.hid (fun W (h : Below w.heap.size w W) => (h.cell (p := ⟨k, b.cur * 6, none⟩) hk).trans e0)
    have HE1 := Lib.hid (fun W (h : Below w.heap.size w W) => (h.cell (p := ⟨k, b.cur * 6 + 1, none⟩) hk).trans e1)
    have HE2 := Lib.hid (fun W (h : Below w.heap.size w W) => (h.cell (p := ⟨k, b.cur * 6 + 2, none⟩) hk).trans e2)
    have HE3 := Lib.hid (fun W (h : Below w.heap.size w W) => (h.cell (p := ⟨k, b.cur * 6 + 3, none⟩) hk).trans e3)
    have HE4 := Lib.hid (fun W (h : Below w.heap.size w W) => (h.cell (p := ⟨k, b.cur * 6 + 4, none⟩) hk).trans e4)
    have HE5 := Lib.hid (fun W (h : Below w.heap.size w W) => (h.cell (p := ⟨k, b.cur * 6 + 5, none⟩) hk).trans e5)
    have HTM2 := Lib.hid (fun W (h : Below w.heap.size w W) => copy_any _ b.l[b.cur] _ W (HTM.out.below h))
    clear hb2 HTH hk e0 e1 e2 e3 e4 e5
    go_wp2_with fail
    refine wp_region_held_drew (S := fun W => Below w.heap.size w W) (by kernel_rfl) (HB2.out.drew) (fun hHeld => ?_)
    refine wpAnyH_take (i := 0) (v := (.pointer (some ⟨g, 0, none⟩))) (by simp only [List.getElem?_toArray, List.getElem?_cons_succ, List.getElem?_cons_zero]; rfl) (by kernel_rfl) (by kernel_rfl) (by kernel_rfl) (by exact fun _ _ _ h => h) (Or.inl ⟨by rfl, fun _ _ => rfl⟩) (by assumption) ?_
    try simp only [Act.put, List.setIfInBounds_toArray, List.set_cons_zero, List.set_cons_succ]
    refine wpAnyH_take (i := 1) (v := (.pointer (some ⟨g, 0, none⟩))) (by simp only [List.getElem?_toArray, List.getElem?_cons_succ, List.getElem?_cons_zero]; rfl) (by kernel_rfl) (by kernel_rfl) (by kernel_rfl) (by exact fun _ _ _ h => h) (Or.inl ⟨by rfl, by intro W hSw; go_simp⟩) (by assumption) ?_
    try simp only [Act.put, List.setIfInBounds_toArray, List.set_cons_zero, List.set_cons_succ]
    refine wpAnyH_take (i := 2) (v := (.pointer (some ⟨g, 1, none⟩))) (by simp only [List.getElem?_toArray, List.getElem?_cons_succ, List.getElem?_cons_zero]; rfl) (by kernel_rfl) (by kernel_rfl) (by kernel_rfl) (by exact fun _ _ _ h => h) (Or.inl ⟨by rfl, fun _ _ => rfl⟩) (by assumption) ?_
    try simp only [Act.put, List.setIfInBounds_toArray, List.set_cons_zero, List.set_cons_succ]
    refine wpAnyH_take (i := 3) (v := (.slice (some ⟨k, 0, none⟩) b.l.length c)) (by simp only [List.getElem?_toArray, List.getElem?_cons_succ, List.getElem?_cons_zero]; rfl) (by kernel_rfl) (by kernel_rfl) (by kernel_rfl) (by exact fun _ _ _ h => h) (Or.inl ⟨by rfl, by intro W hSw; have x0 := HL1.out W hSw; go_simp⟩) (by assumption) ?_
    try simp only [Act.put, List.setIfInBounds_toArray, List.set_cons_zero, List.set_cons_succ]
    refine wpAnyH_take (i := 4) (v := (.pointer (some ⟨g, 0, none⟩))) (by simp only [List.getElem?_toArray, List.getElem?_cons_succ, List.getElem?_cons_zero]; rfl) (by kernel_rfl) (by kernel_rfl) (by kernel_rfl) (by exact fun _ _ _ h => h) (Or.inl ⟨by rfl, fun _ _ => rfl⟩) (by assumption) ?_
    try simp only [Act.put, List.setIfInBounds_toArray, List.set_cons_zero, List.set_cons_succ]
    refine wpAnyH_take (i := 5) (v := (.pointer (some ⟨g, 0, none⟩))) (by simp only [List.getElem?_toArray, List.getElem?_cons_succ, List.getElem?_cons_zero]; rfl) (by kernel_rfl) (by kernel_rfl) (by kernel_rfl) (by exact fun _ _ _ h => h) (Or.inl ⟨by rfl, by intro W hSw; go_simp⟩) (by assumption) ?_
    try simp only [Act.put, List.setIfInBounds_toArray, List.set_cons_zero, List.set_cons_succ]
    refine wpAnyH_take (i := 6) (v := (.pointer (some ⟨g, 2, none⟩))) (by simp only [List.getElem?_toArray, List.getElem?_cons_succ, List.getElem?_cons_zero]; rfl) (by kernel_rfl) (by kernel_rfl) (by kernel_rfl) (by exact fun _ _ _ h => h) (Or.inl ⟨by rfl, fun _ _ => rfl⟩) (by assumption) ?_
    try simp only [Act.put, List.setIfInBounds_toArray, List.set_cons_zero, List.set_cons_succ]
    refine wpAnyH_take (i := 7) (v := (.int .i64 b.cur)) (by simp only [List.getElem?_toArray, List.getElem?_cons_succ, List.getElem?_cons_zero]; rfl) (by kernel_rfl) (by kernel_rfl) (by kernel_rfl) (by exact fun _ _ _ h => h) (Or.inl ⟨by rfl, by intro W hSw; have x0 := HL2.out W hSw; go_simp⟩) (by assumption) ?_
    try simp only [Act.put, List.setIfInBounds_toArray, List.set_cons_zero, List.set_cons_succ]
    refine wpAnyH_take (i := 8) (v := (.pointer (some ⟨k, b.cur * 6, none⟩))) (by simp only [List.getElem?_toArray, List.getElem?_cons_succ, List.getElem?_cons_zero]; rfl) (by kernel_rfl) (by kernel_rfl) (by kernel_rfl) (by exact fun _ _ _ h => h) (Or.inl ⟨by rfl, by intro W hSw; go_simp⟩) (by assumption) ?_
    try simp only [Act.put, List.setIfInBounds_toArray, List.set_cons_zero, List.set_cons_succ]
    refine wpAnyH_take (i := 9) (v := (.agg #[.int .i64 b.l[b.cur].kind, .int .i64 b.l[b.cur].int, .string b.l[b.cur].text, .int .u32 b.l[b.cur].cr, .slice na2 b.l[b.cur].nums.length nc2, .slice a2 b.l[b.cur].args.length cap2])) (by simp only [List.getElem?_toArray, List.getElem?_cons_succ, List.getElem?_cons_zero]; rfl) (by kernel_rfl) (by kernel_rfl) (by kernel_rfl) (by exact fun _ _ _ h => h) (Or.inl ⟨by rfl, by intro W hSw; have x0 := HE0.out W hSw; have x1 := HE1.out W hSw; have x2 := HE2.out W hSw; have x3 := HE3.out W hSw; have x4 := HE4.out W hSw; have x5 := HE5.out W hSw; go_simp⟩) (by assumption) ?_
    try simp only [Act.put, List.setIfInBounds_toArray, List.set_cons_zero, List.set_cons_succ]
    refine wpAnyH_ready (rs := [10]) (by kernel_rfl) (by simp) ?_
    refine AllReadyH.cons (by simp only [List.getElem?_toArray, List.getElem?_cons_succ, List.getElem?_cons_zero]; rfl) (fun K hK => ?_) AllReadyH.nil
    go_simp
    refine (HTM2.out _ hHeld).mono ?_
    rintro e w3 ⟨vs3, rfl, ht3, hb3⟩
    have HTM3 := Lib.hid ht3
    have hb23 : Below w2.heap.size w2 w3 := (Below.drew (Below.refl w2.heap.size w2)).trans hb3
    have HB3 := Lib.hid (HB2.out.trans (hb23.mono HB2.out.size))
    have HSZ2 := Lib.hid (show w.heap.size + 1 ≤ w2.heap.size from R2.out.lt)
    obtain ⟨_, nv3, a3, cap3, rfl, hnn3, _⟩ := ht3.parts
    obtain ⟨na3, nc3, rfl, _, _⟩ := hnn3.slice
    have R3 := Lib.hid (R2.out.below hb23)
    clear hb3 hb23 ht3 hnn3 HTM2
    refine hK.out _ _ (HB3.out) (fun hHeld => ?_)
    try simp only [Act.put, List.setIfInBounds_toArray, List.set_cons_zero, List.set_cons_succ]
    refine wpAnyH_ready (rs := [11]) (by kernel_rfl) (by simp) ?_
    refine AllReadyH.cons (by simp only [List.getElem?_toArray, List.getElem?_cons_succ, List.getElem?_cons_zero]; rfl) (fun K hK => ?_) AllReadyH.nil
    refine step_store_blk (by rfl) _ (.tmp 2) (.tmp 18) (by rfl) w.heap.size 0 [.int .i64 b.l[b.cur].kind, .int .i64 b.l[b.cur].int, .string b.l[b.cur].text, .int .u32 b.l[b.cur].cr, .slice na3 b.l[b.cur].nums.length nc3, .slice a3 b.l[b.cur].args.length cap3] (by rfl) (by rfl) (by kernel_rfl) (by simp [Value.oneCell']) 35 _ R3.out (by show 0 + 6 ≤ 6; decide) ?_
    intro w4 hC4 hg4
    have HC4 := Lib.hid (show Cells w4 w.heap.size 35 [.int .i64 b.l[b.cur].kind, .int .i64 b.l[b.cur].int, .string b.l[b.cur].text, .int .u32 b.l[b.cur].cr, .slice na3 b.l[b.cur].nums.length nc3, .slice a3 b.l[b.cur].args.length cap3] from hC4)
    have HB4 := Lib.hid (HB3.out.grown hg4 HB3.out.size (fun q hq => by cases hq; exact Nat.le_refl _))
    have HT4 := Lib.hid (TmAt.frame (w' := w4) (S := fun q => (w.heap.size + 1 ≤ q ∧ q < w3.heap.size)) (fun q hq => hg4.block q hq.2 (fun e => by cases e; omega)) (HTM3.out.mono (fun q hlt hq => ⟨by have := HSZ2.out; have hq' : w2.heap.size ≤ q := hq; omega, hlt⟩)))
    clear hC4 hg4
    refine hK.out _ _ (HB4.out) (fun hHeld => ?_)
    try simp only [Act.put, List.setIfInBounds_toArray, List.set_cons_zero, List.set_cons_succ]
    refine wpAnyH_take (i := 12) (v := (.bool true)) (by simp only [List.getElem?_toArray, List.getElem?_cons_succ, List.getElem?_cons_zero]; rfl) (by kernel_rfl) (by kernel_rfl) (by kernel_rfl) (by exact fun _ _ _ h => h) (Or.inl ⟨by rfl, fun _ _ => rfl⟩) (by assumption) ?_
    try simp only [Act.put, List.setIfInBounds_toArray, List.set_cons_zero, List.set_cons_succ]
    refine wpAnyH_done (by kernel_rfl) ?_ _
    have q0 := HC4.out.cell 0
    have q1 := HC4.out.cell 1
    have q2 := HC4.out.cell 2
    have q3 := HC4.out.cell 3
    have q4 := HC4.out.cell 4
    have q5 := HC4.out.cell 5
    simp only [List.getElem?_cons_zero, List.getElem?_cons_succ] at q0 q1 q2 q3 q4 q5
    go_wp2
    refine bodyPost_ret (v := .tuple #[.agg #[.int .i64 b.l[b.cur].kind, .int .i64 b.l[b.cur].int, .string b.l[b.cur].text, .int .u32 b.l[b.cur].cr, .slice na3 b.l[b.cur].nums.length nc3, .slice a3 b.l[b.cur].args.length cap3], .bool true]) (by simp [results, Tryz.results30, go_sem, q0, q1, q2, q3, q4, q5]) rfl ?_
    rw [HR.out]
    exact ⟨HB4.out, _, rfl, HT4.out.mono (fun q _ hq => by omega)⟩
  · have HR := Lib.hid (show b.l[b.cur]? = none from List.getElem?_eq_none (by omega))
    rw [decide_eq_false hlt] at HTH
    clear hC hT hU h hlt
    go_enter Tryz.func30, Tryz.ntmps30
    go_wp2_with fail
    refine HTH.out.mono ?_
    rintro e w2 ⟨rfl, hb2⟩
    have HB2 := Lib.hid (HB0.out.trans (hb2.mono HB0.out.size))
    have R2 := Lib.hid (R0.out.below hb2)
    clear hb2
    go_wp2_with (refine wpList_store_blk rfl _ (.tmp 2) (.tmp 7) rfl w.heap.size 0 termZ (by rfl) (by rfl) (by kernel_rfl) (by simp [termZ, Value.oneCell']) 35 _ R2.out (by decide) ?_; intro w4 hC4 hg4)
    have hC4' : Cells w4 w.heap.size 35 termZ := hC4
    have HB4 := Lib.hid (HB2.out.grown hg4 HB2.out.size (fun q hq => by cases hq; exact Nat.le_refl _))
    unfold termZ at hC4'
    have q0 := hC4'.cell 0
    have q1 := hC4'.cell 1
    have q2 := hC4'.cell 2
    have q3 := hC4'.cell 3
    have q4 := hC4'.cell 4
    have q5 := hC4'.cell 5
    simp only [List.getElem?_cons_zero, List.getElem?_cons_succ] at q0 q1 q2 q3 q4 q5
    clear hC4 hC4' hg4
    go_wp2
    refine bodyPost_ret (v := .tuple #[.agg termZ.toArray, .bool false]) (by simp [results, Tryz.results30, go_sem, q0, q1, q2, q3, q4, q5, termZ]) rfl ?_
    rw [HR.out]
    exact ⟨HB4.out, rfl⟩
end Go.Proofs.YtlahagabcnmdiaaGreatDoor
end
section
/- slices.Delete of one term. -/
open Go Go.RowKit
namespace Go.Proofs.YtlahagabcnmdiaaGreatDoor
set_option linter.unusedVariables false

theorem setFrom_eq : ∀ (vs l : List Value) (o : Nat), o + vs.length ≤ l.length → setFrom l o vs = l.take o ++ vs ++ l.drop (o + vs.length)
  | [], l, o, h => by simp [setFrom]
  | v :: r, l, o, h => by
    simp only [List.length_cons] at h
    rw [setFrom, setFrom_eq r (l.set o v) (o + 1) (by rw [List.length_set]; omega)]
    have h1 : (l.set o v).take (o + 1) = l.take o ++ [v] := by
      rw [List.take_add_one, List.take_set_of_le (Nat.le_refl o)]
      simp [show o < l.length by omega]
    have h2 : (l.set o v).drop (o + 1 + r.length) = l.drop (o + 1 + r.length) := List.drop_set_of_lt (by omega)
    rw [h1, h2, List.append_assoc (l.take o), List.singleton_append, List.length_cons, show o + (r.length + 1) = o + 1 + r.length by omega]
theorem flat_drop (css : List (List Value)) (h : ∀ cs ∈ css, cs.length = 6) : ∀ m, css.flatten.drop (m * 6) = (css.drop m).flatten := by
  induction css with
  | nil => intro m; simp
  | cons c r ih =>
    intro m
    cases m with
    | zero => simp
    | succ m =>
      rw [List.flatten_cons, List.drop_succ_cons, ← ih (fun x hx => h x (List.mem_cons_of_mem _ hx)) m, show (m + 1) * 6 = c.length + m * 6 by rw [h c (List.mem_cons_self ..)]; omega, List.drop_append]
      simp
theorem flat_take (css : List (List Value)) (h : ∀ cs ∈ css, cs.length = 6) : ∀ m, css.flatten.take (m * 6) = (css.take m).flatten := by
  induction css with
  | nil => intro m; simp
  | cons c r ih =>
    intro m
    cases m with
    | zero => simp
    | succ m =>
      rw [List.flatten_cons, List.take_succ_cons, List.flatten_cons, ← ih (fun x hx => h x (List.mem_cons_of_mem _ hx)) m, show (m + 1) * 6 = c.length + m * 6 by rw [h c (List.mem_cons_self ..)]; omega, List.take_append]
      rw [List.take_of_length_le (Nat.le_add_right _ _)]
      simp
theorem Tryz.zeroTerm (w : World) : (zeroValue 35).run Tryz.prog w = .ok (.agg termZ.toArray) w := by kernel_rfl
theorem run_clear_term (w : World) (ty : TypeId) (k o c : Nat) (hc : ∀ j, j < 6 → (w.cell? ⟨k, o + j, none⟩).isSome = true) (hf : ∀ j, j < 6 → w.frozen? ⟨k, o + j, none⟩ = false) :
    (Builtin.clear_ #[26] ty #[.slice (some ⟨k, o, none⟩) 1 c]).run Tryz.prog w = .ok (.tuple #[]) (w.setCells k o termZ) := by
  have hzc : (Builtin.zeroCells (Value.agg termZ.toArray).cells 1).toList = termZ := by kernel_rfl
  have hst := run_storeCells_cells (P := Tryz.prog) k o termZ 0 w (by simpa [termZ] using hc) (by simpa [termZ] using hf) (by intro v hv; simp [termZ] at hv; rcases hv with rfl | rfl | rfl | rfl <;> rfl)
  simp only [Nat.add_zero] at hst
  have hv := Tryz.zeroTerm
  simp [Builtin.clear_, run_underlying Tryz.underlying26, hv, hzc, hst]

set_option maxHeartbeats 4000000 in
set_option maxRecDepth 100000 in
theorem delete_any {base : Nat} {S : Nat → Prop} {l : List Tm} {k c : Nat} (i : Nat) (w : World) (h : TsIs base S (.slice (some ⟨k, 0, none⟩) l.length c) l w) (hi : i < l.length) (hl : l.length ≤ 4096) (hkS : ¬ S k) :
    Calls Tryz.prog 71 #[.slice (some ⟨k, 0, none⟩) l.length c, .int .i64 i, .int .i64 ((i : Int) + 1)] w fun e w' => e = .returned (.slice (some ⟨k, 0, none⟩) (l.length - 1) c) ∧ TsIs base S (.slice (some ⟨k, 0, none⟩) (l.length - 1) c) (l.eraseIdx i) w' ∧ Keep (Blk1 k) w w' := by
  obtain ⟨i0, hi0, hz0, hz1, hz2⟩ := info_parts Tryz.infoTerm
  obtain ⟨css, hcl, ⟨hxl, ⟨hn, _⟩ | ⟨k', c', cur, hv, hbk, hcell, hlc, hcm, hcs, htake⟩⟩, hts⟩ := h
  · cases hn
  cases hv
  have h6 : ∀ cs ∈ css, cs.length = 6 := fun cs hcs => by
    obtain ⟨q, hq, rfl⟩ := List.getElem_of_mem hcs
    exact (hts q hq (by omega)).six
  have C0 : Cells w k 35 cur.toList := by unfold Cells; rw [hcell]
  have hcsz : cur.toList.length = c * 6 := by simpa using hcs
  -- what is moved to the left
  obtain ⟨news, hnews⟩ : ∃ news, news = (css.drop (i + 1)).flatten := ⟨_, rfl⟩
  have hnl : news.length = (l.length - (i + 1)) * 6 := by
    rw [hnews, flat_len _ (fun cs hcs => h6 cs (List.mem_of_mem_drop hcs)), List.length_drop, hcl]
  have hget : ∀ t u, news[t]? = some u → w.cell? ⟨k, (i + 1) * 6 + t, none⟩ = some u := fun t u ht => by
    have htl : t < news.length := (List.getElem?_eq_some_iff.1 ht).1
    rw [hnews, ← flat_drop css h6, ← htake, List.getElem?_drop, List.getElem?_take_of_lt (by omega)] at ht
    rw [C0.cell]; exact ht
  obtain ⟨A, hA, hsrc⟩ : ∃ A : Addr, (if c = i + 1 then some (⟨k, 0, none⟩ : Addr) else some ⟨k, (i + 1) * 6, none⟩) = some A ∧ Hid (∀ t u, news[t]? = some u → w.drew.cell? (A.add t) = some u) := by
    by_cases hci : c = i + 1
    · refine ⟨⟨k, 0, none⟩, by simp [hci], fun t u hu => ?_⟩
      have h0 : news.length = 0 := by rw [hnl]; omega
      rw [List.length_eq_zero_iff.1 h0] at hu
      simp at hu
    · refine ⟨⟨k, (i + 1) * 6, none⟩, by simp [hci], fun t u hu => ?_⟩
      rw [Lib.add_plain]
      exact hget t u hu
  have s2 : Hid (∀ u ∈ news, u.oneCell' = true) := by
    intro u hu
    rw [hnews] at hu
    obtain ⟨cs, hcs, hu⟩ := List.mem_flatten.1 hu
    obtain ⟨q, hq, rfl⟩ := List.getElem_of_mem (List.mem_of_mem_drop hcs)
    exact (hts q hq (by omega)).one u hu
  have s3 : Hid (∀ t, t < news.length → (w.drew.cell? ⟨k, 0 + i * 6 + t, none⟩).isSome = true ∧ w.drew.frozen? ⟨k, 0 + i * 6 + t, none⟩ = false) := by
    intro t ht
    rw [hnl] at ht
    refine ⟨?_, C0.drew.frozen _⟩
    rw [C0.drew.cell, List.getElem?_eq_getElem (by rw [hcsz]; omega)]
    rfl
  obtain ⟨W1, hW1⟩ : ∃ W1, W1 = w.drew.setCells k (0 + i * 6) news := ⟨_, rfl⟩
  have C1 : Cells W1 k 35 (setFrom cur.toList (i * 6) news) := by rw [hW1, Nat.zero_add]; exact C0.drew.setCells news (i * 6)
  have hl1 : (setFrom cur.toList (i * 6) news).length = c * 6 := by rw [setFrom_length, hcsz]
  have hclr := fun ty => run_clear_term W1 ty k ((l.length - 1) * 6) (c - (l.length - 1)) (fun j hj => by rw [C1.cell, List.getElem?_eq_getElem (by rw [hl1]; omega)]; rfl) (fun j _ => C1.frozen _)
  have e1 : i + (l.length - (i + 1)) = l.length - 1 := by omega
  have hclr2 : ∀ ty, (Builtin.clear_ #[26] ty #[.slice (some ⟨k, (i + (l.length - (i + 1))) * 6, none⟩) (l.length - (i + (l.length - (i + 1)))) (c - (i + (l.length - (i + 1))))]).run Tryz.prog W1 = .ok (.tuple #[]) (W1.setCells k ((l.length - 1) * 6) termZ) := fun ty => by
    rw [e1, show l.length - (l.length - 1) = 1 by omega]
    exact hclr ty
  have E1 := Lib.hid e1
  clear hclr e1
  have C2 := C1.setCells termZ ((l.length - 1) * 6)
  have KW : Keep (Blk1 k) w (W1.setCells k ((l.length - 1) * 6) termZ) := by
    rw [hW1]
    exact (((Keep.refl (Blk1 k) w).drew.grown (grown_setCells news w.drew (0 + i * 6)) (fun q hq _ => by cases hq; rfl)).grown (grown_setCells termZ _ _) (fun q hq _ => by cases hq; rfl))
  have HT2 := Lib.hid (show TsIs base S (.slice (some ⟨k, 0, none⟩) (l.length - 1) c) (l.eraseIdx i) (W1.setCells k ((l.length - 1) * 6) termZ) from by
    have hel : (l.eraseIdx i).length = l.length - 1 := List.length_eraseIdx_of_lt hi
    refine ⟨css.eraseIdx i, by rw [hel, List.length_eraseIdx_of_lt (by omega), hcl], ?_, fun q hq hq2 => ?_⟩
    · rw [hel]
      have h6e : ∀ cs ∈ css.eraseIdx i, cs.length = 6 := fun cs hcs => h6 cs (List.mem_of_mem_eraseIdx hcs)
      refine ⟨by rw [flat_len _ h6e, List.length_eraseIdx_of_lt (by omega), hcl], .inr ⟨k, c, _, rfl, hbk, C2, by omega, hcm, ?_, ?_⟩⟩
      · rw [List.size_toArray, setFrom_length, hl1]
      · rw [setFrom_eq termZ _ _ (by rw [hl1]; show _ + 6 ≤ _; omega), List.append_assoc, List.take_append_of_le_length (by rw [List.length_take, hl1]; omega), List.take_take, Nat.min_self,
          setFrom_eq news _ _ (by rw [hnl, hcsz]; omega), List.take_append_of_le_length (by rw [List.length_append, List.length_take, hnl, hcsz]; omega),
          List.take_of_length_le (by rw [List.length_append, List.length_take, hnl, hcsz]; omega)]
        have hti : cur.toList.take (i * 6) = (css.take i).flatten := by
          rw [← flat_take css h6, ← htake, List.take_take, Nat.min_eq_left (by omega)]
        rw [hti, hnews, List.eraseIdx_eq_take_drop_succ, List.flatten_append]
    · have hk : ∀ {t : Tm} {cs : List Value}, TmAt S t cs w → TmAt S t cs (W1.setCells k ((l.length - 1) * 6) termZ) := fun h => h.keep KW (fun b _ hb e => hkS (by rw [← (show b = k from e)]; exact hb))
      by_cases hqi : q < i
      · have e1 : (css.eraseIdx i)[q] = css[q]'(by omega) := List.getElem_eraseIdx_of_lt _ hqi
        have e2 : (l.eraseIdx i)[q] = l[q]'(by omega) := List.getElem_eraseIdx_of_lt _ hqi
        rw [e1, e2]
        exact hk (hts q (by omega) (by omega))
      · have hq1 : q + 1 < l.length := by rw [hel] at hq2; omega
        have e1 : (css.eraseIdx i)[q] = css[q + 1]'(by omega) := List.getElem_eraseIdx_of_ge _ (by omega)
        have e2 : (l.eraseIdx i)[q] = l[q + 1]'(by omega) := List.getElem_eraseIdx_of_ge _ (by omega)
        rw [e1, e2]
        exact hk (hts (q + 1) (by omega) (by omega)))
  have HKW := Lib.hid KW
  have HW := Lib.hid hW1
  have s1 := Lib.hid hnl
  have hic : i ≤ c := by omega
  have hjc : i + 1 ≤ c := by omega
  have hb0 : (0 : Int) ≤ (i : Int) + 1 := by omega
  have hb1 : (i : Int) + 1 ≤ (l.length : Int) := by omega
  have hl463 : c ≤ 9223372036854775807 := hcm
  clear hts h6 htake hcell hxl C0 hcsz hnews hnl hget hW1 C1 hl1 C2 KW hcl hcs hcm hz0 hz2
  go_enter Tryz.func71, Tryz.ntmps71
  go_wp2_with fail
  go_region_law (refine step_append_room rfl (.tmp 22) (.tmp 25) 26 rfl 35 i0 6 Tryz.underlying26 hi0 hz1 k 0 i c (by simp [Act.eval, Act.put]) A (l.length - (i + 1)) (c - (i + 1)) news (by simp [Act.eval, Act.put]) s1.out hsrc.out s2.out (by omega) s3.out ?_; rw [← HW.out])
  go_wp2
  go_ret
  exact ⟨by rw [← E1.out]; rfl, HT2.out, HKW.out⟩
end Go.Proofs.YtlahagabcnmdiaaGreatDoor
end
section
/- Package mail: Take. Printed by wip/mah.py. -/
open Go Go.RowKit
namespace Go.Proofs.YtlahagabcnmdiaaGreatDoor
set_option linter.unusedVariables false
set_option linter.unusedSimpArgs false

/-- a box, its terms in blocks that there are -/
theorem BxIs.bound {F : Nat → Prop} {g : Nat} {b : Bx} {w : World} (h : BxIs F g b w) : F g ∧ b.l.length ≤ 4096 ∧ b.cur ≤ 4096 ∧ ∃ (lv : Value) (S : Nat → Prop), Cells w g 75 (bxV b lv) ∧ TsIs 0 S lv b.l w ∧ (∀ k, S k → F k ∧ k ≠ g) ∧ (∀ k, lv.ownBlock = some k → F k ∧ ¬ S k) ∧ ¬ S w.heap.size := by
  obtain ⟨h1, h2, h3, lv, S, hC, hT, hS, hv⟩ := h
  exact ⟨h1, h2, h3, lv, fun k => S k ∧ k < w.heap.size, hC, hT.mono (Nat.le_refl _) (fun k hlt hk => ⟨hk, hlt⟩), fun k hk => hS k hk.1, fun k hk => ⟨(hv k hk).1, fun hk2 => (hv k hk).2 hk2.1⟩, fun h => Nat.lt_irrefl _ h.2⟩
def RetTake (F : Nat → Prop) (g : Nat) (w : World) (r : Option Tm × List Lk × Bx) (e : Ending) (w' : World) : Prop := ∃ vs ev, e = .returned (.tuple #[.agg vs.toArray, ev]) ∧ ErrIs w' ev r.2.1 ∧ RetBx F g w r.2.2 w' ∧
  match r.1 with | some t => ∃ S, TmAt S t vs w' ∧ (∀ b, S b → F b ∧ b ≠ g) | none => vs = termZ
set_option maxHeartbeats 8000000 in
set_option maxRecDepth 100000 in
theorem mTake_live {F : Nat → Prop} {g : Nat} {b : Bx} (w : World) (h : BxIs F g b w) :
    Calls Tryz.prog 29 #[.pointer (some ⟨g, 0, none⟩)] w (RetTake F g w (takeM b)) := by
  have HBX := Lib.hid h
  obtain ⟨hFg, hl46, hc46, lv, S, hC, hT, hS, hvS, hSW⟩ := h.bound
  have HSW := Lib.hid hSW
  obtain ⟨a, c, rfl⟩ := hT.form
  have HC := Lib.hid hC
  have HT := Lib.hid hT
  have HS := Lib.hid hS
  have HVS := Lib.hid hvS
  have HB0 := Lib.hid ((Below.refl w.heap.size w).alloc (Nat.le_refl _) (.cells termZ.toArray 35 (0, 0)))
  have HO := Lib.hid (mOk_live _ (hC.below HB0.out))
  have HTH := Lib.hid (mThere_live _ (hC.below HB0.out))
  have HRF := Lib.hid (fun W => mRefused_any 7 W)
  have R0 := Lib.hid (Cells.new w 35 termZ)
  unfold termZ at *
  by_cases hlt : b.cur < b.l.length
  · have HR := Lib.hid (show takeM b = (some b.l[b.cur], [], ⟨b.l.eraseIdx b.cur, 0, false, 0⟩) from by unfold takeM; rw [List.getElem?_eq_getElem hlt])
    rw [decide_eq_true hlt] at HTH
    obtain ⟨k, c', vs, hv, hcs, ht⟩ := hT.elem b.cur hlt
    cases hv
    have HTM := Lib.hid ht
    obtain ⟨_, nv, a2, cap2, rfl, hnn, _⟩ := ht.parts
    obtain ⟨na2, nc2, rfl, _, _⟩ := hnn.slice
    have hci : (b.cur : Int) < (b.l.length : Int) := by omega
    have hc0 : (0 : Int) ≤ (b.cur : Int) := by omega
    have hc1 : (b.cur : Int) ≤ 4096 := by omega
    have hcw : IntKind.i64.wrap ((b.cur : Int) + 1) = (b.cur : Int) + 1 := IntWalk.i64_in _ (by omega)
    have e0 := hcs 0 (by decide)
    have e1 := hcs 1 (by decide)
    have e2 := hcs 2 (by decide)
    have e3 := hcs 3 (by decide)
    have e4 := hcs 4 (by decide)
    have e5 := hcs 5 (by decide)
    simp only [List.getElem?_cons_zero, List.getElem?_cons_succ, Nat.add_zero] at e0 e1 e2 e3 e4 e5
    have HK := Lib.hid (World.block_lt_of_cell? w _ e0)
    have HLT := Lib.hid hlt
    have HKG := Lib.hid (show k ≠ g from fun e => by
      obtain ⟨_, _, cur, hcur⟩ := hT.block (g := k) rfl
      have h := hC
      unfold Cells at h
      rw [e, h] at hcur
      injection hcur with hcur
      injection hcur with _ h2
      exact absurd h2 (by decide))
    have HL46 := Lib.hid hl46
    have HFG := Lib.hid hFg
    go_enter Tryz.func29, Tryz.ntmps29
    go_wp2_with fail
    refine HO.out.mono ?_
    rintro e w1 ⟨rfl, rfl⟩
    go_wp2_with fail
    refine HTH.out.mono ?_
    rintro e w2 ⟨rfl, hb2⟩
    have HB2 := Lib.hid (HB0.out.trans (hb2.mono HB0.out.size))
    have C2 := Lib.hid (HC.out.below HB2.out)
    have R2 := Lib.hid (R0.out.below hb2)
    have HL1 := Lib.hid (fun W (h : Below w.heap.size w W) => show W.cell? ⟨g, 1, none⟩ = some (.slice (some ⟨k, 0, none⟩) b.l.length c) from (HC.out.below h).cell 1)
    have HL2 := Lib.hid (fun W (h : Below w.heap.size w W) => show W.cell? ⟨g, 2, none⟩ = some (.int .i64 b.cur) from (HC.out.below h).cell 2)
    have HE0 := Lib.hid (fun W (h : Below w.heap.size w W) => (h.cell (p := ⟨k, b.cur * 6, none⟩) HK.out).trans e0)
    have HE1 := Lib.hid (fun W (h : Below w.heap.size w W) => (h.cell (p := ⟨k, b.cur * 6 + 1, none⟩) HK.out).trans e1)
    have HE2 := Lib.hid (fun W (h : Below w.heap.size w W) => (h.cell (p := ⟨k, b.cur * 6 + 2, none⟩) HK.out).trans e2)
    have HE3 := Lib.hid (fun W (h : Below w.heap.size w W) => (h.cell (p := ⟨k, b.cur * 6 + 3, none⟩) HK.out).trans e3)
    have HE4 := Lib.hid (fun W (h : Below w.heap.size w W) => (h.cell (p := ⟨k, b.cur * 6 + 4, none⟩) HK.out).trans e4)
    have HE5 := Lib.hid (fun W (h : Below w.heap.size w W) => (h.cell (p := ⟨k, b.cur * 6 + 5, none⟩) HK.out).trans e5)
    have HSZ := Lib.hid (show k < w2.heap.size from by have := HB2.out.size; have := HK.out; omega)
    have HG0 := Lib.hid (show w.heap.size ≠ g from by have := HC.out.lt; omega)
    have HG2 := Lib.hid (show w2.heap.size ≠ g from by have := HC.out.lt; have := HB2.out.size; omega)
    have HFIN := Lib.hid (show ∀ w8, Cells w8 g 75 (bxV (resetM ⟨b.l.eraseIdx b.cur, b.cur, b.set, b.due⟩) (.slice (some ⟨k, 0, none⟩) (b.l.length - 1) c)) → Keep (fun q => q = k ∨ q = g) w w8 → TsIs 0 S (.slice (some ⟨k, 0, none⟩) (b.l.length - 1) c) (b.l.eraseIdx b.cur) w8 →
        RetTake F g w (some b.l[b.cur], [], ⟨b.l.eraseIdx b.cur, 0, false, 0⟩) (.returned (.tuple #[.agg #[.int .i64 b.l[b.cur].kind, .int .i64 b.l[b.cur].int, .string b.l[b.cur].text, .int .u32 b.l[b.cur].cr, .slice na2 b.l[b.cur].nums.length nc2, .slice a2 b.l[b.cur].args.length cap2], .nilIface])) w8 from by
      intro w8 C8 K8 T8
      have hkF := (HVS.out k rfl).1
      have hkS := (HVS.out k rfl).2
      refine ⟨_, _, rfl, rfl, ⟨⟨HFG.out, ?_, Nat.zero_le _, _, S, C8, T8, HS.out, fun q hq => by cases hq; exact ⟨hkF, hkS⟩⟩, K8.more (fun q _ hq => ?_)⟩, S, HTM.out.keep K8 (fun q _ hq e => ?_), HS.out⟩
      · show (b.l.eraseIdx b.cur).length ≤ 4096
        rw [List.length_eraseIdx_of_lt HLT.out]; have := HL46.out; omega
      · rcases hq with rfl | rfl
        · exact hkF
        · exact HFG.out
      · rcases e with rfl | rfl
        · exact hkS hq
        · exact (HS.out _ hq).2 rfl)
    have HB2' := Lib.hid hb2
    clear hb2 HTH hC hT hS hvS hcs ht hnn hl46 hFg hc46 e0 e1 e2 e3 e4 e5
    go_wp2_with fail
    refine wp_region_held_drew (S := fun W => Below w.heap.size w W) (by kernel_rfl) (HB2.out.drew) (fun hHeld => ?_)
    refine wpAnyH_take (i := 0) (v := (.pointer (some ⟨g, 0, none⟩))) (by simp only [List.getElem?_toArray, List.getElem?_cons_succ, List.getElem?_cons_zero]; rfl) (by kernel_rfl) (by kernel_rfl) (by kernel_rfl) (by exact fun _ _ _ h => h) (Or.inl ⟨by rfl, fun _ _ => rfl⟩) (by assumption) ?_
    try simp only [Act.put, List.setIfInBounds_toArray, List.set_cons_zero, List.set_cons_succ]
    refine wpAnyH_take (i := 1) (v := (.pointer (some ⟨g, 0, none⟩))) (by simp only [List.getElem?_toArray, List.getElem?_cons_succ, List.getElem?_cons_zero]; rfl) (by kernel_rfl) (by kernel_rfl) (by kernel_rfl) (by exact fun _ _ _ h => h) (Or.inl ⟨by rfl, by intro W hSw; go_simp; all_goals first | rfl | exact ⟨rfl, rfl, rfl, rfl, rfl, rfl⟩⟩) (by assumption) ?_
    try simp only [Act.put, List.setIfInBounds_toArray, List.set_cons_zero, List.set_cons_succ]
    refine wpAnyH_take (i := 2) (v := (.pointer (some ⟨g, 1, none⟩))) (by simp only [List.getElem?_toArray, List.getElem?_cons_succ, List.getElem?_cons_zero]; rfl) (by kernel_rfl) (by kernel_rfl) (by kernel_rfl) (by exact fun _ _ _ h => h) (Or.inl ⟨by rfl, fun _ _ => rfl⟩) (by assumption) ?_
    try simp only [Act.put, List.setIfInBounds_toArray, List.set_cons_zero, List.set_cons_succ]
    refine wpAnyH_take (i := 3) (v := (.slice (some ⟨k, 0, none⟩) b.l.length c)) (by simp only [List.getElem?_toArray, List.getElem?_cons_succ, List.getElem?_cons_zero]; rfl) (by kernel_rfl) (by kernel_rfl) (by kernel_rfl) (by exact fun _ _ _ h => h) (Or.inl ⟨by rfl, by intro W hSw; have x0 := HL1.out W hSw; go_simp; all_goals first | rfl | exact ⟨rfl, rfl, rfl, rfl, rfl, rfl⟩⟩) (by assumption) ?_
    try simp only [Act.put, List.setIfInBounds_toArray, List.set_cons_zero, List.set_cons_succ]
    refine wpAnyH_take (i := 4) (v := (.pointer (some ⟨g, 0, none⟩))) (by simp only [List.getElem?_toArray, List.getElem?_cons_succ, List.getElem?_cons_zero]; rfl) (by kernel_rfl) (by kernel_rfl) (by kernel_rfl) (by exact fun _ _ _ h => h) (Or.inl ⟨by rfl, fun _ _ => rfl⟩) (by assumption) ?_
    try simp only [Act.put, List.setIfInBounds_toArray, List.set_cons_zero, List.set_cons_succ]
    refine wpAnyH_take (i := 5) (v := (.pointer (some ⟨g, 0, none⟩))) (by simp only [List.getElem?_toArray, List.getElem?_cons_succ, List.getElem?_cons_zero]; rfl) (by kernel_rfl) (by kernel_rfl) (by kernel_rfl) (by exact fun _ _ _ h => h) (Or.inl ⟨by rfl, by intro W hSw; go_simp; all_goals first | rfl | exact ⟨rfl, rfl, rfl, rfl, rfl, rfl⟩⟩) (by assumption) ?_
    try simp only [Act.put, List.setIfInBounds_toArray, List.set_cons_zero, List.set_cons_succ]
    refine wpAnyH_take (i := 6) (v := (.pointer (some ⟨g, 2, none⟩))) (by simp only [List.getElem?_toArray, List.getElem?_cons_succ, List.getElem?_cons_zero]; rfl) (by kernel_rfl) (by kernel_rfl) (by kernel_rfl) (by exact fun _ _ _ h => h) (Or.inl ⟨by rfl, fun _ _ => rfl⟩) (by assumption) ?_
    try simp only [Act.put, List.setIfInBounds_toArray, List.set_cons_zero, List.set_cons_succ]
    refine wpAnyH_take (i := 7) (v := (.int .i64 b.cur)) (by simp only [List.getElem?_toArray, List.getElem?_cons_succ, List.getElem?_cons_zero]; rfl) (by kernel_rfl) (by kernel_rfl) (by kernel_rfl) (by exact fun _ _ _ h => h) (Or.inl ⟨by rfl, by intro W hSw; have x0 := HL2.out W hSw; go_simp; all_goals first | rfl | exact ⟨rfl, rfl, rfl, rfl, rfl, rfl⟩⟩) (by assumption) ?_
    try simp only [Act.put, List.setIfInBounds_toArray, List.set_cons_zero, List.set_cons_succ]
    refine wpAnyH_take (i := 8) (v := (.pointer (some ⟨k, b.cur * 6, none⟩))) (by simp only [List.getElem?_toArray, List.getElem?_cons_succ, List.getElem?_cons_zero]; rfl) (by kernel_rfl) (by kernel_rfl) (by kernel_rfl) (by exact fun _ _ _ h => h) (Or.inl ⟨by rfl, by intro W hSw; go_simp; all_goals first | rfl | exact ⟨rfl, rfl, rfl, rfl, rfl, rfl⟩⟩) (by assumption) ?_
    try simp only [Act.put, List.setIfInBounds_toArray, List.set_cons_zero, List.set_cons_succ]
    refine wpAnyH_take (i := 9) (v := (.agg #[.int .i64 b.l[b.cur].kind, .int .i64 b.l[b.cur].int, .string b.l[b.cur].text, .int .u32 b.l[b.cur].cr, .slice na2 b.l[b.cur].nums.length nc2, .slice a2 b.l[b.cur].args.length cap2])) (by simp only [List.getElem?_toArray, List.getElem?_cons_succ, List.getElem?_cons_zero]; rfl) (by kernel_rfl) (by kernel_rfl) (by kernel_rfl) (by exact fun _ _ _ h => h) (Or.inl ⟨by rfl, by intro W hSw; have x0 := HE0.out W hSw; have x1 := HE1.out W hSw; have x2 := HE2.out W hSw; have x3 := HE3.out W hSw; have x4 := HE4.out W hSw; have x5 := HE5.out W hSw; go_simp; all_goals first | rfl | exact ⟨rfl, rfl, rfl, rfl, rfl, rfl⟩⟩) (by assumption) ?_
    try simp only [Act.put, List.setIfInBounds_toArray, List.set_cons_zero, List.set_cons_succ]
    refine wpAnyH_ready (rs := [10]) (by kernel_rfl) (by simp) ?_
    refine AllReadyH.cons (by simp only [List.getElem?_toArray, List.getElem?_cons_succ, List.getElem?_cons_zero]; rfl) (fun K hK => ?_) AllReadyH.nil
    go_simp
    refine hK.out _ _ (hHeld.alloc hHeld.size _) (fun hHeld => ?_)
    try simp only [Act.put, List.setIfInBounds_toArray, List.set_cons_zero, List.set_cons_succ]
    refine wpAnyH_ready (rs := [11]) (by kernel_rfl) (by simp) ?_
    refine AllReadyH.cons (by simp only [List.getElem?_toArray, List.getElem?_cons_succ, List.getElem?_cons_zero]; rfl) (fun K hK => ?_) AllReadyH.nil
    refine step_store_blk (by rfl) _ (.tmp 4) (.tmp 26) (by rfl) w2.heap.size 0 [.int .i64 b.l[b.cur].kind, .int .i64 b.l[b.cur].int, .string b.l[b.cur].text, .int .u32 b.l[b.cur].cr, .slice na2 b.l[b.cur].nums.length nc2, .slice a2 b.l[b.cur].args.length cap2] (by rfl) (by rfl) (by kernel_rfl) (by simp [Value.oneCell']) 35 _ (Cells.new w2.drew 35 termZ) (by show 0 + 6 ≤ 6; decide) ?_
    intro w4 hC4 hg4
    have HC4 := Lib.hid (show Cells w4 w2.heap.size 35 [.int .i64 b.l[b.cur].kind, .int .i64 b.l[b.cur].int, .string b.l[b.cur].text, .int .u32 b.l[b.cur].cr, .slice na2 b.l[b.cur].nums.length nc2, .slice a2 b.l[b.cur].args.length cap2] from hC4)
    have HB24 := Lib.hid (show Below w2.heap.size w2 w4 from ((Below.drew (Below.refl w2.heap.size w2)).alloc (Nat.le_refl _) _).grown hg4 (Nat.le_of_lt (Cells.new w2.drew 35 termZ).lt) (fun q hq => by cases hq; exact Nat.le_refl _))
    have HB4 := Lib.hid (HB2.out.trans (HB24.out.mono HB2.out.size))
    clear hC4 hg4
    refine hK.out _ _ (HB4.out) (fun hHeld => ?_)
    try simp only [Act.put, List.setIfInBounds_toArray, List.set_cons_zero, List.set_cons_succ]
    refine wpAnyH_done (by kernel_rfl) ?_ _
    have C4 := Lib.hid (HC.out.below HB4.out)
    have R4 := Lib.hid (R2.out.below HB24.out)
    have T4 := Lib.hid (HT.out.below HB4.out (Nat.le_refl _))
    have HDL := Lib.hid (delete_any b.cur w4.drew (T4.out.drewN 1) hlt HL46.out (HVS.out k rfl).2)
    have c1 := C4.out.cell 1
    have c2 := C4.out.cell 2
    simp only [bxV, List.getElem?_cons_zero, List.getElem?_cons_succ] at c1 c2
    go_wp2_with fail
    go_region_law (first
      | (go_simp; go_at_call 71; refine HDL.out.mono ?_; rintro e w5 ⟨rfl, hT5, hK5⟩; have C5 := Lib.hid (C4.out.drew.keep hK5 (fun e => HKG.out e.symm)); have T5 := Lib.hid hT5; have K5 := Lib.hid hK5; clear hT5 hK5; have d1 := C5.out.cell 1; have f1 := C5.out.frozen 1; simp only [bxV, List.getElem?_cons_zero, List.getElem?_cons_succ] at d1; go_simp))
    all_goals clear c1 c2 d1 f1
    all_goals
      have C6 := Lib.hid (show Cells (w5.setCell ⟨g, 1, none⟩ (.slice (some ⟨k, 0, none⟩) (b.l.length - 1) c)) g 75 (bxV ⟨b.l.eraseIdx b.cur, b.cur, b.set, b.due⟩ (.slice (some ⟨k, 0, none⟩) (b.l.length - 1) c)) from C5.out.set_ 1 _)
      have K6 := Lib.hid ((((keepB (S := fun q => q = k ∨ q = g) HB4.out).drew).trans K5.out (fun _ _ e => .inl e)).setCell (p := ⟨g, 1, none⟩) (fun _ => .inr rfl) (.slice (some ⟨k, 0, none⟩) (b.l.length - 1) c))
      have D6 := Lib.hid (((HC4.out.drew).keep K5.out (fun e => by have e : w2.heap.size = k := e; have := HSZ.out; omega)).far (p := ⟨g, 1, none⟩) HG2.out (.slice (some ⟨k, 0, none⟩) (b.l.length - 1) c))
      have R6 := Lib.hid (((R4.out.drew).keep K5.out (fun e => by have e : w.heap.size = k := e; have := HK.out; omega)).far (p := ⟨g, 1, none⟩) HG0.out (.slice (some ⟨k, 0, none⟩) (b.l.length - 1) c))
      have T6 := Lib.hid (T5.out.keep (keepSet (Keep.refl (Blk1 g) w5) 1 (.slice (some ⟨k, 0, none⟩) (b.l.length - 1) c)) (fun q hq e => HKG.out (by cases hq; exact e)) (fun q _ hq e => (HS.out q hq).2 e))
      generalize w5.setCell ⟨g, 1, none⟩ (.slice (some ⟨k, 0, none⟩) (b.l.length - 1) c) = w6 at *
      clear C5 T5 K5 HDL
      go_wp2_with fail
      refine (mReset_live _ C6.out).mono ?_
      rintro e w7 ⟨rfl, hC7, hK7⟩
      have C7 := Lib.hid hC7
      have K7 := Lib.hid (K6.out.trans hK7 (fun _ _ e => .inr e))
      have T7 := Lib.hid (T6.out.keep hK7 (fun q hq e => HKG.out (by cases hq; exact e)) (fun q _ hq e => (HS.out q hq).2 e))
      have R7 := Lib.hid (R6.out.keep hK7 HG0.out)
      have D7 := D6.out.keep hK7 HG2.out
      have q0 := D7.cell 0
      have q1 := D7.cell 1
      have q2 := D7.cell 2
      have q3 := D7.cell 3
      have q4 := D7.cell 4
      have q5 := D7.cell 5
      simp only [List.getElem?_cons_zero, List.getElem?_cons_succ] at q0 q1 q2 q3 q4 q5
      clear D7 hK7 hC7 D6 R6 T6 C6
      go_wp2_with (refine wpList_store_blk rfl _ (.tmp 2) (.tmp 46) rfl w.heap.size 0 [.int .i64 b.l[b.cur].kind, .int .i64 b.l[b.cur].int, .string b.l[b.cur].text, .int .u32 b.l[b.cur].cr, .slice na2 b.l[b.cur].nums.length nc2, .slice a2 b.l[b.cur].args.length cap2] (by rfl) (by rfl) (by kernel_rfl) (by simp [Value.oneCell']) 35 _ R7.out (by show 0 + 6 ≤ 6; decide) ?_; intro w8 hC8 hg8)
      have hC8' : Cells w8 w.heap.size 35 [.int .i64 b.l[b.cur].kind, .int .i64 b.l[b.cur].int, .string b.l[b.cur].text, .int .u32 b.l[b.cur].cr, .slice na2 b.l[b.cur].nums.length nc2, .slice a2 b.l[b.cur].args.length cap2] := hC8
      have K8 := Lib.hid (K7.out.grown hg8 (fun q hq hlt => by cases hq; omega))
      have C8 := Lib.hid (C7.out.grown hg8 (fun e => HG0.out (by cases e; rfl)))
      have T8 := Lib.hid (TsIs.frame (w' := w8) T7.out (fun q hq => hg8.block q (T7.out.block hq).2.1 (fun e => by cases hq; have e : k = w.heap.size := Option.some.inj e; have := HK.out; omega)) (fun q hlt hq => hg8.block q hlt (fun e => HSW.out (by rw [← Option.some.inj e]; exact hq))))
      clear q0 q1 q2 q3 q4 q5
      have q0 := hC8'.cell 0
      have q1 := hC8'.cell 1
      have q2 := hC8'.cell 2
      have q3 := hC8'.cell 3
      have q4 := hC8'.cell 4
      have q5 := hC8'.cell 5
      simp only [List.getElem?_cons_zero, List.getElem?_cons_succ] at q0 q1 q2 q3 q4 q5
      clear hC8 hC8' hg8
      go_wp2
      refine bodyPost_ret (v := .tuple #[.agg #[.int .i64 b.l[b.cur].kind, .int .i64 b.l[b.cur].int, .string b.l[b.cur].text, .int .u32 b.l[b.cur].cr, .slice na2 b.l[b.cur].nums.length nc2, .slice a2 b.l[b.cur].args.length cap2], .nilIface]) (by simp [results, Tryz.results29, go_sem, q0, q1, q2, q3, q4, q5]) rfl ?_
      rw [HR.out]
      exact HFIN.out w8 C8.out K8.out T8.out
  · have HR := Lib.hid (show takeM b = (none, errM 7, b) from by unfold takeM; rw [List.getElem?_eq_none (by omega)])
    rw [decide_eq_false hlt] at HTH
    clear hC hT hS hvS hlt hSW h hl46 hc46 hFg HSW HVS HS
    go_enter Tryz.func29, Tryz.ntmps29
    go_wp2_with fail
    refine HO.out.mono ?_
    rintro e w1 ⟨rfl, rfl⟩
    go_wp2_with fail
    refine HTH.out.mono ?_
    rintro e w2 ⟨rfl, hb2⟩
    have HB2 := Lib.hid (HB0.out.trans (hb2.mono HB0.out.size))
    have R2 := Lib.hid (R0.out.below hb2)
    clear hb2
    go_wp2_with fail
    refine (HRF.out _).mono ?_
    rintro e w3 ⟨ev, rfl, her, hb3⟩
    have HER := Lib.hid her
    have HB3 := Lib.hid (HB2.out.trans (hb3.mono HB2.out.size))
    have R3 := Lib.hid (R2.out.below hb3)
    clear her hb3 R2
    go_wp2_with (refine wpList_store_blk rfl _ (.tmp 2) (.tmp 15) rfl w.heap.size 0 [.int .i64 0, .int .i64 0, .string ⟨#[]⟩, .int .u32 0, .slice none 0 0, .slice none 0 0] (by rfl) (by rfl) (by kernel_rfl) (by simp [Value.oneCell']) 35 _ R3.out (by show 0 + 6 ≤ 6; decide) ?_; intro w8 hC8 hg8)
    have hC8' : Cells w8 w.heap.size 35 [.int .i64 0, .int .i64 0, .string ⟨#[]⟩, .int .u32 0, .slice none 0 0, .slice none 0 0] := hC8
    have HB8 := Lib.hid (HB3.out.grown hg8 HB3.out.size (fun q hq => by cases hq; exact Nat.le_refl _))
    have HER8 := Lib.hid (show ErrIs w8 ev (errM 7) from HER.out.keep (S := Blk1 w.heap.size) ((Keep.refl _ w3).grown hg8 (fun q hq _ => by cases hq; rfl)) (fun q (hq : q = w.heap.size) => by rw [hq]; exact NF.cells R3.out (by decide)))
    have q0 := hC8'.cell 0
    have q1 := hC8'.cell 1
    have q2 := hC8'.cell 2
    have q3 := hC8'.cell 3
    have q4 := hC8'.cell 4
    have q5 := hC8'.cell 5
    simp only [List.getElem?_cons_zero, List.getElem?_cons_succ] at q0 q1 q2 q3 q4 q5
    clear hC8 hC8' hg8
    go_wp2
    refine bodyPost_ret (v := .tuple #[.agg #[.int .i64 0, .int .i64 0, .string ⟨#[]⟩, .int .u32 0, .slice none 0 0, .slice none 0 0], ev]) (by simp [results, Tryz.results29, go_sem, q0, q1, q2, q3, q4, q5]) rfl ?_
    rw [HR.out]
    exact ⟨_, _, rfl, HER8.out, RetBx.same HBX.out HB8.out, rfl⟩
end Go.Proofs.YtlahagabcnmdiaaGreatDoor
end
section
/- A row of terms: one of them turned. -/
open Go Go.RowKit
namespace Go.Proofs.YtlahagabcnmdiaaGreatDoor
set_option linter.unusedVariables false

theorem TsIs.turn {base : Nat} {S : Nat → Prop} {k c : Nat} {l : List Tm} {t t0 : Tm} {vs : List Value} {w : World} (h : TsIs base S (.slice (some ⟨k, 0, none⟩) (l.length + 1) c) (l ++ [t0]) w) (ht : TmAt S t vs w) (hkS : ¬ S k) :
    ∃ cs, Cells w k 35 cs ∧ l.length * 6 + 6 ≤ cs.length ∧ ∀ w', Cells w' k 35 (setFrom cs (l.length * 6) vs) → w.grownBy w' (some k) → TsIs base S (.slice (some ⟨k, 0, none⟩) (l.length + 1) c) (l ++ [t]) w' := by
  have hll : (l ++ [t0]).length = l.length + 1 := by simp
  obtain ⟨css, hcl, hown, hts⟩ := h
  rw [hll] at hcl hown
  obtain ⟨hxl, ⟨hn, _⟩ | ⟨k', c', cur, hv, hbk, hcell, hlc, hcm, hcs, htake⟩⟩ := hown
  · cases hn
  cases hv
  have h6 : ∀ cs ∈ css, cs.length = 6 := fun cs hcs => by
    obtain ⟨q, hq, rfl⟩ := List.getElem_of_mem hcs
    exact (hts q hq (by rw [hll]; omega)).six
  have h6v := ht.six
  have hcsz : cur.toList.length = c * 6 := by simpa using hcs
  refine ⟨cur.toList, by unfold Cells; rw [hcell], by omega, fun w' hC hg => ⟨css.take l.length ++ [vs], by simp; omega, ⟨?_, .inr ⟨k, c, _, by simp, hbk, hC, by simp; omega, hcm, ?_, ?_⟩⟩, fun q hq hq2 => ?_⟩⟩
  · rw [flat_len _ (fun cs hcs => by
      rcases List.mem_append.1 hcs with h | h
      · exact h6 cs (List.mem_of_mem_take h)
      · rw [List.mem_singleton] at h; rw [h]; exact h6v)]
    simp; omega
  · rw [List.size_toArray, setFrom_length, hcsz]
  · have hti : cur.toList.take (l.length * 6) = (css.take l.length).flatten := by
      rw [← flat_take css h6, ← htake, List.take_take, Nat.min_eq_left (by omega)]
    rw [setFrom_eq vs _ _ (by rw [h6v, hcsz]; omega), hti]
    have hfl : (css.take l.length).flatten.length = l.length * 6 := by
      rw [flat_len _ (fun cs hcs => h6 cs (List.mem_of_mem_take hcs)), List.length_take]; congr 1; omega
    have e9 : (l ++ [t]).length = l.length + 1 := by simp
    have e8 : ((css.take l.length).flatten ++ vs).length = l.length * 6 + 6 := by rw [List.length_append, hfl, h6v]
    rw [e9, List.take_append_of_le_length (by rw [e8]; omega), List.take_of_length_le (by rw [e8]; omega)]
    simp
  · have hk : ∀ {t : Tm} {cs : List Value}, TmAt S t cs w → TmAt S t cs w' := fun h => by
      have h1 : TmAt (fun b => b < w.heap.size ∧ S b) _ _ w := h.mono fun b hb hS => ⟨hb, hS⟩
      exact (h1.frame (w' := w') fun b hb => hg.block b hb.1 (fun e => hkS (by rw [← Option.some.inj e]; exact hb.2))).mono fun _ _ hS => hS.2
    by_cases hql : q < l.length
    · have e1 : (css.take l.length ++ [vs])[q] = css[q]'(by omega) := by
        rw [List.getElem_append_left (by rw [List.length_take]; omega), List.getElem_take]
      have e2 : (l ++ [t])[q] = l[q] := List.getElem_append_left hql
      have e3 : (l ++ [t0])[q]'(by rw [hll]; omega) = l[q] := List.getElem_append_left hql
      rw [e1, e2, ← e3]
      exact hk (hts q (by omega) (by rw [hll]; omega))
    · have hq3 : q = l.length := by simp at hq2; omega
      subst hq3
      have e1 : (css.take l.length ++ [vs])[l.length] = vs := by
        rw [List.getElem_append_right (by rw [List.length_take]; omega)]
        simp [List.length_take]
      have e2 : (l ++ [t])[l.length] = t := by simp
      rw [e1, e2]
      exact hk ht
/-- the zero term -/
def Tm.zero : Tm := .mk 0 0 ⟨#[]⟩ 0 [] []
theorem zero_at (S : Nat → Prop) (w : World) : TmAt S Tm.zero termZ w := by
  unfold Tm.zero termZ
  rw [TmAt]
  refine ⟨by constructor <;> decide, .slice none 0 0, none, 0, rfl, ?_, by simp [maxLen], by simp, ?_⟩
  · exact ⟨none, 0, rfl, ⟨Nat.le_refl _, by simp⟩, by simp [maxLen], fun i hi => absurd hi (Nat.not_lt_zero _)⟩
  · rw [ArgsAt]; trivial
end Go.Proofs.YtlahagabcnmdiaaGreatDoor
end
section
/- A row of terms in a cell of a block, and one term more in it. No function of the program is looked at here. -/
open Go Go.RowKit
namespace Go.Proofs.YtlahagabcnmdiaaGreatDoor
set_option linter.unusedVariables false

/-- cell j of block g holds the row v of the terms l, whose own rows lie in S; all of it from base on -/
structure LsAt (base g : Nat) (T : TypeId) (cs : List Value) (j : Nat) (v : Value) (S : Nat → Prop) (l : List Tm) (W : World) : Prop where
  cells : Cells W g T cs
  at_ : cs[j]? = some v
  rows : TsIs base S v l W
  hS : ∀ q, S q → base ≤ q ∧ q < W.heap.size ∧ q ≠ g
  hv : ∀ q, v.ownBlock = some q → base ≤ q ∧ q ≠ g ∧ ¬ S q
/-- what one term more may turn -/
def LsK (g : Nat) (v : Value) : Nat → Prop := fun q => q = g ∨ v.ownBlock = some q
theorem LsAt.keep {S' : Nat → Prop} {base g j : Nat} {T : TypeId} {cs : List Value} {v : Value} {S : Nat → Prop} {l : List Tm} {W W' : World} (h : LsAt base g T cs j v S l W) (k : Keep S' W W') (hg : ¬ S' g) (hv : ∀ q, v.ownBlock = some q → ¬ S' q) (hS : ∀ q, S q → ¬ S' q) : LsAt base g T cs j v S l W' :=
  ⟨h.cells.keep k hg, h.at_, h.rows.keep k hv (fun q _ hq => hS q hq), fun q hq => ⟨(h.hS q hq).1, Nat.lt_of_lt_of_le (h.hS q hq).2.1 k.size, (h.hS q hq).2.2⟩, h.hv⟩
theorem LsAt.below {base g j : Nat} {T : TypeId} {cs : List Value} {v : Value} {S : Nat → Prop} {l : List Tm} {W W' : World} (h : LsAt base g T cs j v S l W) (hb : Below W.heap.size W W') : LsAt base g T cs j v S l W' :=
  h.keep (S' := Nob) (keepB hb) (fun e => e) (fun _ _ e => e) (fun _ _ e => e)
theorem LsAt.nil {base g : Nat} {T : TypeId} {cs : List Value} {j : Nat} {W : World} (hC : Cells W g T cs) (hj : cs[j]? = some (.slice none 0 0)) : LsAt base g T cs j (.slice none 0 0) (fun _ => False) [] W :=
  ⟨hC, hj, TsIs.nil _ _ _, fun _ h => h.elim, fun _ h => by cases h⟩
theorem LsAt.form {base g j : Nat} {T : TypeId} {cs : List Value} {v : Value} {S : Nat → Prop} {l : List Tm} {W : World} (h : LsAt base g T cs j v S l W) : ∃ a c, v = .slice a l.length c ∧ (l.length ≤ c ∧ c ≤ maxLen) := by
  rcases h.rows.shape with ⟨rfl, rfl⟩ | ⟨k, c, rfl, _, _, h1, h2⟩
  · exact ⟨none, 0, rfl, Nat.le_refl _, Nat.zero_le _⟩
  · exact ⟨_, c, rfl, h1, h2⟩
theorem keepSet' {S : Nat → Prop} {a w : World} {g : Nat} (h : Keep S a w) (hg : S g) (i : Nat) (u : Value) : Keep S a (w.setCell ⟨g, i, none⟩ u) := h.setCell (p := ⟨g, i, none⟩) (fun _ => hg) u
/-- the append and both orders of the stores -/
def LsEnd (base g : Nat) (T : TypeId) (cs : List Value) (j : Nat) (v v2 : Value) (S SC : Nat → Prop) (kk : Nat) (vs3 : List Value) (l : List Tm) (t : Tm) (W W2 : World) : Prop :=
  Keep (LsK g v) W W2 ∧ Cells W2 g T cs ∧
  (∃ cs', Cells W2 kk 35 cs' ∧ l.length * 6 + 6 ≤ cs'.length ∧ ∀ W5, Cells W5 kk 35 (setFrom cs' (l.length * 6) vs3) → W2.grownBy W5 (some kk) →
    Keep (LsK g v) W W5 ∧ Cells W5 g T cs ∧ Keep (LsK g v) W (W5.setCell ⟨g, j, none⟩ v2) ∧ ∃ S2, (∀ q, S2 q → S q ∨ SC q) ∧ LsAt base g T (cs.set j v2) j v2 S2 (l ++ [t]) (W5.setCell ⟨g, j, none⟩ v2)) ∧
  (Keep (LsK g v) W (W2.setCell ⟨g, j, none⟩ v2) ∧ ∃ cs', Cells (W2.setCell ⟨g, j, none⟩ v2) kk 35 cs' ∧ l.length * 6 + 6 ≤ cs'.length ∧ ∀ W5, Cells W5 kk 35 (setFrom cs' (l.length * 6) vs3) → (W2.setCell ⟨g, j, none⟩ v2).grownBy W5 (some kk) →
    Keep (LsK g v) W W5 ∧ ∃ S2, (∀ q, S2 q → S q ∨ SC q) ∧ LsAt base g T (cs.set j v2) j v2 S2 (l ++ [t]) W5)
theorem ls_app {base g j zb : Nat} {T : TypeId} {cs : List Value} {v : Value} {S SC : Nat → Prop} {l : List Tm} {t : Tm} {vs3 : List Value} {W : World} (h : LsAt base g T cs j v S l W) (hl : l.length < 1000000000000) (hbg : base ≤ W.heap.size)
    (hZ : Cells W zb 35 termZ) (hT : TmAt SC t vs3 W) (hSC : ∀ q, SC q → base ≤ q ∧ q < W.heap.size ∧ q ≠ g ∧ v.ownBlock ≠ some q) :
    ∃ kk cc W2, (Builtin.append_ #[26, 26] 26 #[v, .slice (some ⟨zb, 0, none⟩) 1 1]).run Tryz.prog W = .ok (.slice (some ⟨kk, 0, none⟩) (l.length + 1) cc) W2 ∧ l.length + 1 ≤ cc ∧ cc ≤ maxLen ∧
      (base ≤ kk ∧ kk ≠ g) ∧ LsEnd base g T cs j v (.slice (some ⟨kk, 0, none⟩) (l.length + 1) cc) S SC kk vs3 l t W W2 := by
  have hglt := h.cells.lt
  obtain ⟨S2, hS2⟩ : ∃ S2 : Nat → Prop, ∀ q, S2 q ↔ S q ∨ SC q := ⟨_, fun _ => Iff.rfl⟩
  have hTW : TsIs base S2 v l W := h.rows.mono (Nat.le_refl _) (fun q hlt hq => (hS2 q).2 (.inl hq))
  have hvS2 : ∀ k, v.ownBlock = some k → ¬ S2 k := fun k hk h2 => by
    rcases (hS2 k).1 h2 with h1 | h1
    · exact (h.hv k hk).2.2 h1
    · exact (hSC k h1).2.2.2 hk
  obtain ⟨v2, W2, hrun, hTS, hg, hob⟩ := hTW.app (zero_at S2 W) zb 0 1 (fun j hj => by rw [Nat.zero_add]; exact hZ.cell j) (by omega) hbg hvS2
  obtain ⟨_, hn⟩ | ⟨kk, cc, rfl, _, hkk, hcc, hcm⟩ := hTS.shape
  · simp at hn
  have hlen : (l ++ [Tm.zero]).length = l.length + 1 := by simp
  rw [hlen] at hrun hTS hob hcc
  have hkc : (v.ownBlock = some kk ∧ kk < W.heap.size) ∨ kk = W.heap.size := by
    rcases hob with e | e
    · exact .inl ⟨e.symm, (h.rows.block e.symm).2.1⟩
    · exact .inr (Option.some.inj e)
  have hkg : kk ≠ g := by rcases hkc with ⟨h1, _⟩ | h1; exact (h.hv kk h1).2.1; omega
  have hkS : ¬ S2 kk := by
    rcases hkc with ⟨h1, _⟩ | h1
    · exact hvS2 kk h1
    · intro h2
      rcases (hS2 kk).1 h2 with h3 | h3
      · have := (h.hS kk h3).2.1; omega
      · have := (hSC kk h3).2.1; omega
  have hkb : base ≤ kk := by rcases hkc with ⟨h1, _⟩ | h1; exact (h.hv kk h1).1; omega
  have hkK : kk < W.heap.size → LsK g v kk := fun hlt => by rcases hkc with ⟨h1, _⟩ | h1; exact .inr h1; omega
  have hS2g : ∀ q, S2 q → base ≤ q ∧ q < W.heap.size ∧ q ≠ g := fun q hq => by
    rcases (hS2 q).1 hq with h1 | h1
    · exact h.hS q h1
    · have := hSC q h1; exact ⟨this.1, this.2.1, this.2.2.1⟩
  have hK2 : Keep (LsK g v) W W2 := (Keep.refl _ W).grown hg (fun k hk _ => .inr hk)
  have hC2 : Cells W2 g T cs := h.cells.grown hg (fun e => (h.hv g e).2.1 rfl)
  have hTC2 : TmAt S2 t vs3 W2 := (TmAt.frame (w' := W2) (fun q hq => hg.block q (hSC q hq).2.1 (fun e => (hSC q hq).2.2.2 e.symm)) hT).mono (fun q _ hq => (hS2 q).2 (.inr hq))
  have hat : (cs.set j (.slice (some ⟨kk, 0, none⟩) (l.length + 1) cc))[j]? = some (.slice (some ⟨kk, 0, none⟩) (l.length + 1) cc) := by
    have := (List.getElem?_eq_some_iff.1 h.at_).1
    simp [this]
  refine ⟨kk, cc, W2, hrun, hcc, hcm, ⟨hkb, hkg⟩, hK2, hC2, ?_, ?_⟩
  · obtain ⟨cs', h1, h2, h3⟩ := TsIs.turn hTS hTC2 hkS
    refine ⟨cs', h1, h2, fun W5 h5 hg5 => ?_⟩
    have C5 := hC2.grown hg5 (fun e => hkg (Option.some.inj e))
    have T5 := h3 W5 h5 hg5
    have K5 := hK2.grown hg5 (fun k hk hlt => by cases hk; exact hkK hlt)
    refine ⟨K5, C5, keepSet' K5 (.inl rfl) _ _, S2, fun q hq => (hS2 q).1 hq, C5.set_ j _, hat, ?_, fun q hq => ?_, fun q hq => ?_⟩
    · exact T5.keep (keepSet (Keep.refl (Blk1 g) W5) j _) (fun q hq e => by cases hq; exact hkg e) (fun q _ hq e => (hS2g q hq).2.2 e)
    · have := hS2g q hq
      have hsz := K5.size
      exact ⟨this.1, by show q < (W5.setCell _ _).heap.size; rw [World.size_setCell]; omega, this.2.2⟩
    · cases hq; exact ⟨hkb, hkg, hkS⟩
  · have C4 := hC2.set_ j (.slice (some ⟨kk, 0, none⟩) (l.length + 1) cc)
    have KS := keepSet (Keep.refl (Blk1 g) W2) j (.slice (some ⟨kk, 0, none⟩) (l.length + 1) cc)
    have T4 := hTS.keep KS (fun q hq e => by cases hq; exact hkg e) (fun q _ hq e => (hS2g q hq).2.2 e)
    have TC4 := hTC2.keep KS (fun q _ hq e => (hS2g q hq).2.2 e)
    have K4 := keepSet' hK2 (show LsK g v g from .inl rfl) j (.slice (some ⟨kk, 0, none⟩) (l.length + 1) cc)
    refine ⟨K4, ?_⟩
    obtain ⟨cs', h1, h2, h3⟩ := TsIs.turn T4 TC4 hkS
    refine ⟨cs', h1, h2, fun W5 h5 hg5 => ?_⟩
    have C5 := C4.grown hg5 (fun e => hkg (Option.some.inj e))
    have K5 := K4.grown hg5 (fun k hk hlt => by cases hk; exact hkK hlt)
    refine ⟨K5, S2, fun q hq => (hS2 q).1 hq, C5, hat, h3 W5 h5 hg5, fun q hq => ?_, fun q hq => ?_⟩
    · have := hS2g q hq
      have hsz := K5.size
      exact ⟨this.1, by omega, this.2.2⟩
    · cases hq; exact ⟨hkb, hkg, hkS⟩
end Go.Proofs.YtlahagabcnmdiaaGreatDoor
end
section
/- A row of terms in a cell of a block, and one term more in it, where the terms' own rows may lie anywhere. No function of the program is looked at here. -/
open Go Go.RowKit
namespace Go.Proofs.YtlahagabcnmdiaaGreatDoor
set_option linter.unusedVariables false

/-- cell j of block g holds the row v of the terms l, whose own rows lie in S; all of it from base on -/
structure LgAt (base g : Nat) (T : TypeId) (cs : List Value) (j : Nat) (v : Value) (S : Nat → Prop) (l : List Tm) (W : World) : Prop where
  cells : Cells W g T cs
  at_ : cs[j]? = some v
  rows : TsIs base S v l W
  hS : ∀ q, S q → q < W.heap.size ∧ q ≠ g
  hv : ∀ q, v.ownBlock = some q → base ≤ q ∧ q ≠ g ∧ ¬ S q
theorem LgAt.keep {S' : Nat → Prop} {base g j : Nat} {T : TypeId} {cs : List Value} {v : Value} {S : Nat → Prop} {l : List Tm} {W W' : World} (h : LgAt base g T cs j v S l W) (k : Keep S' W W') (hg : ¬ S' g) (hv : ∀ q, v.ownBlock = some q → ¬ S' q) (hS : ∀ q, S q → ¬ S' q) : LgAt base g T cs j v S l W' :=
  ⟨h.cells.keep k hg, h.at_, h.rows.keep k hv (fun q _ hq => hS q hq), fun q hq => ⟨Nat.lt_of_lt_of_le (h.hS q hq).1 k.size, (h.hS q hq).2⟩, h.hv⟩
theorem LgAt.below {base g j : Nat} {T : TypeId} {cs : List Value} {v : Value} {S : Nat → Prop} {l : List Tm} {W W' : World} (h : LgAt base g T cs j v S l W) (hb : Below W.heap.size W W') : LgAt base g T cs j v S l W' :=
  h.keep (S' := Nob) (keepB hb) (fun e => e) (fun _ _ e => e) (fun _ _ e => e)
theorem LgAt.nil {base g : Nat} {T : TypeId} {cs : List Value} {j : Nat} {W : World} (hC : Cells W g T cs) (hj : cs[j]? = some (.slice none 0 0)) : LgAt base g T cs j (.slice none 0 0) (fun _ => False) [] W :=
  ⟨hC, hj, TsIs.nil _ _ _, fun _ h => h.elim, fun _ h => by cases h⟩
theorem LgAt.form {base g j : Nat} {T : TypeId} {cs : List Value} {v : Value} {S : Nat → Prop} {l : List Tm} {W : World} (h : LgAt base g T cs j v S l W) : ∃ a c, v = .slice a l.length c ∧ (l.length ≤ c ∧ c ≤ maxLen) := by
  rcases h.rows.shape with ⟨rfl, rfl⟩ | ⟨k, c, rfl, _, _, h1, h2⟩
  · exact ⟨none, 0, rfl, Nat.le_refl _, Nat.zero_le _⟩
  · exact ⟨_, c, rfl, h1, h2⟩
/-- the append and both orders of the stores -/
def LgEnd (base g : Nat) (T : TypeId) (cs : List Value) (j : Nat) (v v2 : Value) (S SC : Nat → Prop) (kk : Nat) (vs3 : List Value) (l : List Tm) (t : Tm) (W W2 : World) : Prop :=
  Keep (LsK g v) W W2 ∧ Cells W2 g T cs ∧
  (∃ cs', Cells W2 kk 35 cs' ∧ l.length * 6 + 6 ≤ cs'.length ∧ ∀ W5, Cells W5 kk 35 (setFrom cs' (l.length * 6) vs3) → W2.grownBy W5 (some kk) →
    Keep (LsK g v) W W5 ∧ Cells W5 g T cs ∧ Keep (LsK g v) W (W5.setCell ⟨g, j, none⟩ v2) ∧ ∃ S2, (∀ q, S2 q → S q ∨ SC q) ∧ LgAt base g T (cs.set j v2) j v2 S2 (l ++ [t]) (W5.setCell ⟨g, j, none⟩ v2)) ∧
  (Keep (LsK g v) W (W2.setCell ⟨g, j, none⟩ v2) ∧ ∃ cs', Cells (W2.setCell ⟨g, j, none⟩ v2) kk 35 cs' ∧ l.length * 6 + 6 ≤ cs'.length ∧ ∀ W5, Cells W5 kk 35 (setFrom cs' (l.length * 6) vs3) → (W2.setCell ⟨g, j, none⟩ v2).grownBy W5 (some kk) →
    Keep (LsK g v) W W5 ∧ ∃ S2, (∀ q, S2 q → S q ∨ SC q) ∧ LgAt base g T (cs.set j v2) j v2 S2 (l ++ [t]) W5)
theorem lg_app {base g j zb : Nat} {T : TypeId} {cs : List Value} {v : Value} {S SC : Nat → Prop} {l : List Tm} {t : Tm} {vs3 : List Value} {W : World} (h : LgAt base g T cs j v S l W) (hl : l.length < 1000000000000) (hbg : base ≤ W.heap.size)
    (hZ : Cells W zb 35 termZ) (hT : TmAt SC t vs3 W) (hSC : ∀ q, SC q → q < W.heap.size ∧ q ≠ g ∧ v.ownBlock ≠ some q) :
    ∃ kk cc W2, (Builtin.append_ #[26, 26] 26 #[v, .slice (some ⟨zb, 0, none⟩) 1 1]).run Tryz.prog W = .ok (.slice (some ⟨kk, 0, none⟩) (l.length + 1) cc) W2 ∧ l.length + 1 ≤ cc ∧ cc ≤ maxLen ∧
      (base ≤ kk ∧ kk ≠ g ∧ (v.ownBlock = some kk ∨ kk = W.heap.size)) ∧ LgEnd base g T cs j v (.slice (some ⟨kk, 0, none⟩) (l.length + 1) cc) S SC kk vs3 l t W W2 := by
  have hglt := h.cells.lt
  obtain ⟨S2, hS2⟩ : ∃ S2 : Nat → Prop, ∀ q, S2 q ↔ S q ∨ SC q := ⟨_, fun _ => Iff.rfl⟩
  have hTW : TsIs base S2 v l W := h.rows.mono (Nat.le_refl _) (fun q hlt hq => (hS2 q).2 (.inl hq))
  have hvS2 : ∀ k, v.ownBlock = some k → ¬ S2 k := fun k hk h2 => by
    rcases (hS2 k).1 h2 with h1 | h1
    · exact (h.hv k hk).2.2 h1
    · exact (hSC k h1).2.2 hk
  obtain ⟨v2, W2, hrun, hTS, hg, hob⟩ := hTW.app (zero_at S2 W) zb 0 1 (fun j hj => by rw [Nat.zero_add]; exact hZ.cell j) (by omega) hbg hvS2
  obtain ⟨_, hn⟩ | ⟨kk, cc, rfl, _, hkk, hcc, hcm⟩ := hTS.shape
  · simp at hn
  have hlen : (l ++ [Tm.zero]).length = l.length + 1 := by simp
  rw [hlen] at hrun hTS hob hcc
  have hkc : (v.ownBlock = some kk ∧ kk < W.heap.size) ∨ kk = W.heap.size := by
    rcases hob with e | e
    · exact .inl ⟨e.symm, (h.rows.block e.symm).2.1⟩
    · exact .inr (Option.some.inj e)
  have hkg : kk ≠ g := by rcases hkc with ⟨h1, _⟩ | h1; exact (h.hv kk h1).2.1; omega
  have hkS : ¬ S2 kk := by
    rcases hkc with ⟨h1, _⟩ | h1
    · exact hvS2 kk h1
    · intro h2
      rcases (hS2 kk).1 h2 with h3 | h3
      · have := (h.hS kk h3).1; omega
      · have := (hSC kk h3).1; omega
  have hkb : base ≤ kk := by rcases hkc with ⟨h1, _⟩ | h1; exact (h.hv kk h1).1; omega
  have hkK : kk < W.heap.size → LsK g v kk := fun hlt => by rcases hkc with ⟨h1, _⟩ | h1; exact .inr h1; omega
  have hS2g : ∀ q, S2 q → q < W.heap.size ∧ q ≠ g := fun q hq => by
    rcases (hS2 q).1 hq with h1 | h1
    · exact h.hS q h1
    · have := hSC q h1; exact ⟨this.1, this.2.1⟩
  have hK2 : Keep (LsK g v) W W2 := (Keep.refl _ W).grown hg (fun k hk _ => .inr hk)
  have hC2 : Cells W2 g T cs := h.cells.grown hg (fun e => (h.hv g e).2.1 rfl)
  have hTC2 : TmAt S2 t vs3 W2 := (TmAt.frame (w' := W2) (fun q hq => hg.block q (hSC q hq).1 (fun e => (hSC q hq).2.2 e.symm)) hT).mono (fun q _ hq => (hS2 q).2 (.inr hq))
  have hat : (cs.set j (.slice (some ⟨kk, 0, none⟩) (l.length + 1) cc))[j]? = some (.slice (some ⟨kk, 0, none⟩) (l.length + 1) cc) := by
    have := (List.getElem?_eq_some_iff.1 h.at_).1
    simp [this]
  refine ⟨kk, cc, W2, hrun, hcc, hcm, ⟨hkb, hkg, hkc.imp_left (fun h => h.1)⟩, hK2, hC2, ?_, ?_⟩
  · obtain ⟨cs', h1, h2, h3⟩ := TsIs.turn hTS hTC2 hkS
    refine ⟨cs', h1, h2, fun W5 h5 hg5 => ?_⟩
    have C5 := hC2.grown hg5 (fun e => hkg (Option.some.inj e))
    have T5 := h3 W5 h5 hg5
    have K5 := hK2.grown hg5 (fun k hk hlt => by cases hk; exact hkK hlt)
    refine ⟨K5, C5, keepSet' K5 (.inl rfl) _ _, S2, fun q hq => (hS2 q).1 hq, C5.set_ j _, hat, ?_, fun q hq => ?_, fun q hq => ?_⟩
    · exact T5.keep (keepSet (Keep.refl (Blk1 g) W5) j _) (fun q hq e => by cases hq; exact hkg e) (fun q _ hq e => (hS2g q hq).2 e)
    · have := hS2g q hq
      have hsz := K5.size
      exact ⟨by show q < (W5.setCell _ _).heap.size; rw [World.size_setCell]; omega, this.2⟩
    · cases hq; exact ⟨hkb, hkg, hkS⟩
  · have C4 := hC2.set_ j (.slice (some ⟨kk, 0, none⟩) (l.length + 1) cc)
    have KS := keepSet (Keep.refl (Blk1 g) W2) j (.slice (some ⟨kk, 0, none⟩) (l.length + 1) cc)
    have T4 := hTS.keep KS (fun q hq e => by cases hq; exact hkg e) (fun q _ hq e => (hS2g q hq).2 e)
    have TC4 := hTC2.keep KS (fun q _ hq e => (hS2g q hq).2 e)
    have K4 := keepSet' hK2 (show LsK g v g from .inl rfl) j (.slice (some ⟨kk, 0, none⟩) (l.length + 1) cc)
    refine ⟨K4, ?_⟩
    obtain ⟨cs', h1, h2, h3⟩ := TsIs.turn T4 TC4 hkS
    refine ⟨cs', h1, h2, fun W5 h5 hg5 => ?_⟩
    have C5 := C4.grown hg5 (fun e => hkg (Option.some.inj e))
    have K5 := K4.grown hg5 (fun k hk hlt => by cases hk; exact hkK hlt)
    refine ⟨K5, S2, fun q hq => (hS2 q).1 hq, C5, hat, h3 W5 h5 hg5, fun q hq => ?_, fun q hq => ?_⟩
    · have := hS2g q hq
      have hsz := K5.size
      exact ⟨by omega, this.2⟩
    · cases hq; exact ⟨hkb, hkg, hkS⟩
end Go.Proofs.YtlahagabcnmdiaaGreatDoor
end
section
/- The reference of layer 17: what a box is; no, reset, clock, Next, Expire. -/
open Go Go.RowKit
namespace Go.Proofs.YtlahagabcnmdiaaGreatDoor
set_option linter.unusedVariables false
set_option linter.unusedSimpArgs false

def rxV (b : Bx) (lv : Value) : List Value := [lv, .int .i64 b.cur, .bool b.set, .int .i64 b.due]
/-- a box of the reference, whose terms' rows lie below base -/
structure Rx (base g : Nat) (b : Bx) (lv : Value) (w : World) : Prop where
  hg : base ≤ g
  len : b.l.length ≤ 4096
  cur : b.cur ≤ 4096
  at_ : LgAt base g 28 (rxV b lv) 0 lv (fun q => q < base) b.l w
/-- what an answer leaves -/
def RxRes (base g : Nat) (lv : Value) (w : World) (b' : Bx) (w' : World) : Prop :=
  ∃ lv', Rx base g b' lv' w' ∧ Keep (LsK g lv) w w' ∧ ∀ q, lv'.ownBlock = some q → lv.ownBlock = some q ∨ w.heap.size ≤ q
theorem Rx.below {base g : Nat} {b : Bx} {lv : Value} {w w' : World} (h : Rx base g b lv w) (hb : Below w.heap.size w w') : Rx base g b lv w' := ⟨h.hg, h.len, h.cur, h.at_.below hb⟩
theorem Rx.keep {S : Nat → Prop} {base g : Nat} {b : Bx} {lv : Value} {w w' : World} (h : Rx base g b lv w) (k : Keep S w w') (hS : ∀ q, LsK g lv q → ¬ S q) (hb : ∀ q, q < base → ¬ S q) : Rx base g b lv w' :=
  ⟨h.hg, h.len, h.cur, h.at_.keep k (hS g (.inl rfl)) (fun q hq => hS q (.inr hq)) (fun q hq => hb q hq)⟩
theorem Rx.same {base g : Nat} {b : Bx} {lv : Value} {w w' : World} (h : Rx base g b lv w) (hb : Below w.heap.size w w') : RxRes base g lv w b w' := ⟨lv, h.below hb, keepB hb, fun _ hq => .inl hq⟩
/-- the other cells are turned -/
theorem Rx.turn {base g : Nat} {b b' : Bx} {lv : Value} {w w' : World} (h : Rx base g b lv w) (hl : b'.l = b.l) (hc : b'.cur ≤ 4096) (hC : Cells w' g 28 (rxV b' lv)) (k : Keep (Blk1 g) w w') : RxRes base g lv w b' w' := by
  refine ⟨lv, ⟨h.hg, by rw [hl]; exact h.len, hc, ⟨hC, rfl, ?_, fun q hq => ⟨?_, (h.at_.hS q hq).2⟩, h.at_.hv⟩⟩, k.more (fun q _ hq => .inl hq), fun _ hq => .inl hq⟩
  · rw [hl]
    exact h.at_.rows.keep k (fun q hq e => (h.at_.hv q hq).2.1 e) (fun q _ hq e => (h.at_.hS q hq).2 e)
  · exact Nat.lt_of_lt_of_le (h.at_.hS q hq).1 k.size
theorem Rx.form {base g : Nat} {b : Bx} {lv : Value} {w : World} (h : Rx base g b lv w) : ∃ a c, lv = .slice a b.l.length c ∧ (b.l.length ≤ c ∧ c ≤ maxLen) := h.at_.form

theorem no17_any (c : Int) (w : World) : Calls Tryz.prog 74 #[.int .i64 c] w fun e w' => ∃ v, e = .returned v ∧ LinksIs w.heap.size v (errM c) w' ∧ Below w.heap.size w w' := by
  have H1 := Lib.hid (LinksIs.lit (base := w.heap.size) (w := w) ⟨mailL, 0, c⟩ (Nat.le_refl _))
  have HB := Lib.hid ((Below.refl w.heap.size w).alloc (Nat.le_refl _) (.cells #[.string mailL, .int .i64 0, .int .i64 c] 112 (0, 0)))
  go_enter Tryz.func74, Tryz.ntmps74
  go_wp2_with fail
  refine (one_any _ _ _ _).mono ?_
  rintro e w1 ⟨rfl, rfl⟩
  go_wp2
  go_ret
  exact ⟨_, rfl, H1.out, HB.out⟩
theorem clock17_any (n : Int) (w : World) : Calls Tryz.prog 79 #[.int .i64 n] w fun e w' => e = .returned (.bool (clockM n)) ∧ w = w' := by
  by_cases h1 : 0 ≤ n
  · by_cases h2 : n ≤ 1099511627776
    · have HR := Lib.hid (show clockM n = true by simp [clockM, h1, h2])
      go_enter Tryz.func79, Tryz.ntmps79
      go_wp2
      go_ret
      exact ⟨by rw [HR.out]; rfl, rfl⟩
    · have HR := Lib.hid (show clockM n = false by simp [clockM, h2])
      go_enter Tryz.func79, Tryz.ntmps79
      go_wp2
      go_ret
      exact ⟨by rw [HR.out]; rfl, rfl⟩
  · have HR := Lib.hid (show clockM n = false by simp [clockM, h1])
    go_enter Tryz.func79, Tryz.ntmps79
    go_wp2
    go_ret
    exact ⟨by rw [HR.out]; rfl, rfl⟩
theorem reset17_any {g : Nat} {b : Bx} {lv : Value} (w : World) (h : Cells w g 28 (rxV b lv)) : Calls Tryz.prog 75 #[.pointer (some ⟨g, 0, none⟩)] w fun e w' => e = .returned (.tuple #[]) ∧ Cells w' g 28 (rxV (resetM b) lv) ∧ Keep (Blk1 g) w w' := by
  have c2 := h.cell 1
  have f2 := h.frozen 1
  have P1 := Lib.hid (h.set_ 1 (.int .i64 0))
  have c3 := P1.out.cell 2
  have f3 := P1.out.frozen 2
  have P2 := Lib.hid (P1.out.set_ 2 (.bool false))
  have c4 := P2.out.cell 3
  have f4 := P2.out.frozen 3
  have P3 := Lib.hid (show Cells _ g 28 (rxV (resetM b) lv) from P2.out.set_ 3 (.int .i64 0))
  have K := Lib.hid (keepSet (keepSet (keepSet (Keep.refl (Blk1 g) w) 1 (.int .i64 0)) 2 (.bool false)) 3 (.int .i64 0))
  simp only [rxV, List.set_cons_zero, List.set_cons_succ, List.getElem?_cons_zero, List.getElem?_cons_succ] at c2 c3 c4
  clear h
  go_enter Tryz.func75, Tryz.ntmps75
  go_wp2
  go_end0
  exact ⟨rfl, P3.out, K.out⟩
def RetRN (base g : Nat) (lv : Value) (w : World) (r : List Lk × Bx) (e : Ending) (w' : World) : Prop := ∃ v, e = .returned v ∧ LinksIs w.heap.size v r.1 w' ∧ RxRes base g lv w r.2 w'
set_option maxHeartbeats 4000000 in
theorem next17_any {base g : Nat} {b : Bx} {lv : Value} (w : World) (h : Rx base g b lv w) :
    Calls Tryz.prog 34 #[.pointer (some ⟨g, 0, none⟩)] w (RetRN base g lv w (nextM b)) := by
  have HX := Lib.hid h
  obtain ⟨a, c, rfl, -, -⟩ := h.form
  have hl4 := h.len
  have hcu := h.cur
  have c0 := h.at_.cells.cell 0
  have c1 := h.at_.cells.cell 1
  have f1 := h.at_.cells.frozen 1
  simp only [rxV, List.getElem?_cons_zero, List.getElem?_cons_succ] at c0 c1
  have HN := Lib.hid (fun W => no17_any 7 W)
  clear h
  by_cases hlt : b.cur < b.l.length
  · have HE := Lib.hid (show nextM b = ([], { b with cur := b.cur + 1 }) by unfold nextM; rw [if_pos hlt])
    have q1 : decide ((b.l.length : Int) ≤ (b.cur : Int)) = false := by simp; omega
    have hc0 : (0 : Int) ≤ (b.cur : Int) := by omega
    have hc1 : (b.cur : Int) ≤ 4096 := by omega
    have HT := Lib.hid (fun n => HX.out.turn (w' := (w.drewN n).setCell ⟨g, 1, none⟩ (.int .i64 ((b.cur : Int) + 1))) (b' := { b with cur := b.cur + 1 }) rfl (by show b.cur + 1 ≤ 4096; omega) ((HX.out.at_.cells.drewN n).set_ 1 (.int .i64 ((b.cur : Int) + 1))) (keepSet ((Keep.refl (Blk1 g) w).drewN n) 1 (.int .i64 ((b.cur : Int) + 1))))
    have hlt2 : ¬ b.l.length ≤ b.cur := by omega
    clear hlt
    go_enter Tryz.func34, Tryz.ntmps34
    go_wp2
    go_quiet (fail)
    go_wp2
    go_ret
    rw [HE.out]
    exact ⟨_, rfl, LinksIs.nil _ _, HT.out _⟩
  · have HE := Lib.hid (show nextM b = (errM 7, b) by unfold nextM; rw [if_neg hlt])
    have hlt2 : b.l.length ≤ b.cur := by omega
    clear hlt
    go_enter Tryz.func34, Tryz.ntmps34
    go_wp2
    go_quiet (fail)
    go_wp2_with fail
    refine (HN.out _).mono ?_
    rintro e w4 ⟨v, rfl, hl, hb⟩
    have HL := Lib.hid hl
    have HB := Lib.hid ((below_drewN (Below.refl w.heap.size w) _).trans hb)
    clear hl hb
    go_wp2
    go_ret
    rw [HE.out]
    exact ⟨_, rfl, HL.out, HX.out.same HB.out⟩
def RetRW (base g : Nat) (lv : Value) (w : World) (r : Bool × List Lk × Bx) (e : Ending) (w' : World) : Prop := ∃ v, e = .returned (.tuple #[.bool r.1, v]) ∧ LinksIs w.heap.size v r.2.1 w' ∧ RxRes base g lv w r.2.2 w'
set_option maxHeartbeats 4000000 in
theorem expire17_any {base g : Nat} {b : Bx} {lv : Value} (now : Int) (w : World) (h : Rx base g b lv w) :
    Calls Tryz.prog 39 #[.pointer (some ⟨g, 0, none⟩), .int .i64 now] w (RetRW base g lv w (expireM b now)) := by
  have HX := Lib.hid h
  have c2 := h.at_.cells.cell 2
  have c3 := h.at_.cells.cell 3
  simp only [rxV, List.getElem?_cons_zero, List.getElem?_cons_succ] at c2 c3
  have HN := Lib.hid (fun W => no17_any 2 W)
  have HCL := Lib.hid (clock17_any now w)
  have HRS := Lib.hid (reset17_any w h.at_.cells)
  clear h
  cases hcl : clockM now with
  | false =>
    have HR := Lib.hid (show expireM b now = (false, errM 2, b) by unfold expireM; rw [if_pos hcl])
    rw [hcl] at HCL
    clear hcl
    go_enter Tryz.func39, Tryz.ntmps39
    go_wp2_with fail
    refine HCL.out.mono ?_
    rintro e w2 ⟨rfl, rfl⟩
    go_wp2_with fail
    refine (HN.out _).mono ?_
    rintro e w4 ⟨v, rfl, hl, hb⟩
    have HL := Lib.hid hl
    have HB := Lib.hid hb
    clear hl hb
    go_wp2
    go_ret2
    rw [HR.out]
    exact ⟨_, rfl, HL.out, HX.out.same HB.out⟩
  | true =>
    rw [hcl] at HCL
    cases hs : b.set with
    | false =>
      have HR := Lib.hid (show expireM b now = (false, [], b) by unfold expireM; rw [if_neg (by simp [hcl])]; simp [comeM, hs])
      rw [hs] at c2
      clear hcl hs
      go_enter Tryz.func39, Tryz.ntmps39
      go_wp2_with fail
      refine HCL.out.mono ?_
      rintro e w2 ⟨rfl, rfl⟩
      go_wp2
      go_ret2
      rw [HR.out]
      exact ⟨_, rfl, LinksIs.nil _ _, HX.out.same (Below.refl _ _)⟩
    | true =>
      rw [hs] at c2
      by_cases hd : b.due ≤ now
      · have HR := Lib.hid (show expireM b now = (true, [], resetM b) by unfold expireM; rw [if_neg (by simp [hcl])]; simp [comeM, hs, hd])
        have hd2 : ¬ now < b.due := by omega
        clear hcl hs hd
        go_enter Tryz.func39, Tryz.ntmps39
        go_wp2_with fail
        refine HCL.out.mono ?_
        rintro e w2 ⟨rfl, rfl⟩
        go_wp2_with fail
        refine HRS.out.mono ?_
        rintro e w3 ⟨rfl, hC, hk⟩
        have HT := Lib.hid (HX.out.turn (b' := resetM b) rfl (Nat.zero_le _) hC hk)
        clear hC hk
        go_wp2
        go_ret2
        rw [HR.out]
        exact ⟨_, rfl, LinksIs.nil _ _, HT.out⟩
      · have HR := Lib.hid (show expireM b now = (false, [], b) by unfold expireM; rw [if_neg (by simp [hcl])]; simp [comeM, hs, hd])
        have hd2 : now < b.due := by omega
        clear hcl hs hd
        go_enter Tryz.func39, Tryz.ntmps39
        go_wp2_with fail
        refine HCL.out.mono ?_
        rintro e w2 ⟨rfl, rfl⟩
        go_wp2
        go_ret2
        rw [HR.out]
        exact ⟨_, rfl, LinksIs.nil _ _, HX.out.same (Below.refl _ _)⟩
end Go.Proofs.YtlahagabcnmdiaaGreatDoor
end
