/- Texts laid together: TmE, Same, Core, EtS, EtA. -/
import Derived.Test.YtlahagabcnmdiaaDoorQ19
import Derived.Test.YtlahagabcnmdiaaDoorQ12
import Derived.Test.YtlahagabcnmdiaaDoorQ20
import Derived.WalkSpells
import Derived.Deep.Cut
import Derived.BigQuiet
import Derived.Deep.QuietTactic
import Derived.Deep.RegionHeld3
import Derived.Test.YtlahagabcnmdiaaDoorQ2
import Derived.Test.YtlahagabcnmdiaaDoorQ11
import Derived.BigRegion
import Derived.Lib.SliceRun
import Derived.Deep.RegionLaw
import Derived.StillTailTactics
section
/- Package term: Copy. -/
open Go Go.RowKit
namespace Go.Proofs.YtlahagabcnmdiaaDoor

def numsV (l : List Int) : List Value := l.map fun n => Value.int .u32 n
theorem Tryd.infoU32 : (Tryd.prog.info? 26).map (fun i => (i.zero, i.size, i.bytes)) = some (some (.int .u32 0), 1, 4) := by kernel_rfl
/-- an owned row of numbers is a row of numbers -/
theorem NumsAt.ofOwn {base : Nat} {v : Value} {l : List Int} {w : World} (h : w.ownsRow base 26 1 v l.length (numsV l)) (hb : ∀ n ∈ l, 0 ≤ n ∧ n < 4294967296) (hz : l.length * 4 ≤ 140737488351232) : NumsAt (fun b => base ≤ b) v l w := by
  obtain ⟨h1, ⟨rfl, hn⟩ | ⟨g, cap, cur, rfl, hbg, hcell, hn, hc, hcs, htake⟩⟩ := h
  · exact ⟨none, 0, by rw [hn], ⟨by omega, hz⟩, Nat.zero_le _, fun i hi => absurd hi (by omega)⟩
  · refine ⟨some ⟨g, 0, none⟩, cap, rfl, ⟨hn, hz⟩, hc, fun i hi => ?_⟩
    have hm := hb l[i] (List.getElem_mem hi)
    refine ⟨hm.1, hm.2, g, 0, rfl, hbg, ?_⟩
    have h2 : cur.toList[i]? = some (.int .u32 l[i]) := by
      have := congrArg (fun z : List Value => z[i]?) htake
      simp only [Nat.mul_one] at this
      rw [List.getElem?_take_of_lt hi] at this
      rw [this]
      simp [numsV, hi]
    have h3 : cur[i]? = some (.int .u32 l[i]) := by simpa using h2
    simp [World.cell?, hcell, h3]
theorem nums_empty (w : World) : (w.alloc (.cells #[] 26 (0, 0))).ownsRow w.heap.size 26 1 (.slice (some ⟨w.heap.size, 0, none⟩) 0 0) 0 [] :=
  ⟨rfl, .inr ⟨w.heap.size, 0, #[], rfl, Nat.le_refl _, alloc_get _ _, Nat.le_refl _, Nat.zero_le _, rfl, rfl⟩⟩
theorem nums_app {S : Nat → Prop} {base : Nat} {v : Value} {ad : Addr} {c : Nat} {l : List Int} {w : World} (hv : w.ownsRow base 26 1 v 0 []) (h : NumsAt S (.slice (some ad) l.length c) l w) (hB : base ≤ w.heap.size) :
    ∃ v' w', (Builtin.append_ #[27, 27] 27 #[v, .slice (some ad) l.length c]).run Tryd.prog w = .ok v' w' ∧ w'.ownsRow base 26 1 v' l.length (numsV l) ∧ w.grownBy w' v.ownBlock := by
  obtain ⟨i0, hi, hz0, hz1, hz2⟩ := info_parts Tryd.infoU32
  obtain ⟨a, c', he, ⟨_, h4⟩, _, hc⟩ := h
  cases he
  obtain ⟨v', w', hr, h2, h3, _⟩ := run_append_own_at (P := Tryd.prog) w base 27 27 26 i0 (.int .u32 0) 1 4 Tryd.underlying27 hi hz0 hz1 hz2 rfl (by decide) v 0 [] hv ad l.length c (numsV l) (by simp [numsV]) (fun j u hj => by
    have hlt : j < l.length := by
      have := (List.getElem?_eq_some_iff.1 hj).1
      simpa [numsV] using this
    obtain ⟨_, _, g, o, hg, _, hx⟩ := hc j hlt
    cases hg
    rw [Lib.add_plain, hx]
    simpa [numsV, hlt] using hj) (fun u hu => by
    simp only [numsV, List.mem_map] at hu
    obtain ⟨x, _, rfl⟩ := hu
    rfl) (by unfold maxLen; omega) (by omega) hB
  exact ⟨v', w', hr, by simpa using h2, h3⟩

set_option maxHeartbeats 4000000 in
set_option maxRecDepth 100000 in
theorem cloneN_any (S : Nat → Prop) (v : Value) (l : List Int) (w : World) (hv : NumsAt S v l w) :
    Calls Tryd.prog 54 #[v] w fun e w' => ∃ v', e = .returned v' ∧ NumsAt (fun b => w.heap.size ≤ b) v' l w' ∧ Below w.heap.size w w' := by
  have hq := fun (w : World) (a : Option Addr) (n c : Nat) => Lib.run_eql_slice_nil (P := Tryd.prog) w 27 26 a n c 0 0 Tryd.underlying27
  have HV := Lib.hid hv
  obtain ⟨a, c, rfl, ⟨hc1, h4⟩, hc2, hc⟩ := hv
  have hbs : ∀ n ∈ l, 0 ≤ n ∧ n < 4294967296 := fun n hn => by
    obtain ⟨i, hi, rfl⟩ := List.getElem_of_mem hn
    exact ⟨(hc i hi).1, (hc i hi).2.1⟩
  cases a with
  | none =>
    have hn : l = [] := by
      cases l with
      | nil => rfl
      | cons x r => obtain ⟨_, _, g, o, he, _⟩ := hc 0 (by simp); cases he
    subst hn
    clear hc hbs
    go_enter Tryd.func54, Tryd.ntmps54
    go_wp2
    go_ret
    exact ⟨_, rfl, ⟨none, 0, rfl, ⟨Nat.le_refl _, by decide⟩, Nat.zero_le _, fun i hi => absurd hi (Nat.not_lt_zero _)⟩, Below.refl _ _⟩
  | some ad =>
    have hb0 : Below w.heap.size w (w.alloc (.cells #[] 26 (0, 0))) := (Below.refl _ _).alloc (Nat.le_refl _) _
    obtain ⟨v', w', hrun, hown, hg⟩ := nums_app (nums_empty w) (HV.out.below hb0) (by simp)
    have HR := Lib.hid hrun
    have HO := Lib.hid hown
    have HB := Lib.hid (hb0.grown hg (by simp) (fun k hk => by cases hk; exact Nat.le_refl _))
    have HBS := Lib.hid hbs
    have H4 := Lib.hid h4
    clear hc hrun hown hg hb0 hbs h4
    go_enter Tryd.func54, Tryd.ntmps54
    go_wp2_with (at_builtin; refine stop ?_)
    refine Stopped.of ?_
    refine wp_app_eq rfl (.tmp 5) (.tmp 6) _ _ rfl _ _ v' w' rfl rfl HR.out ?_
    go_wp2
    go_ret
    exact ⟨_, rfl, NumsAt.ofOwn HO.out HBS.out H4.out, HB.out⟩

/-- a call that hands back a term in new memory -/
def RetC (w : World) (t : Tm) (e : Ending) (w' : World) : Prop := ∃ vs, e = .returned (.agg vs.toArray) ∧ TmAt (fun b => w.heap.size ≤ b) t vs w' ∧ Below w.heap.size w w'
def termZ : List Value := [.int .i64 0, .int .i64 0, .string ⟨#[]⟩, .int .u32 0, .slice none 0 0, .slice none 0 0]
set_option maxHeartbeats 8000000 in
set_option maxRecDepth 100000 in
theorem copy_ind : ∀ (N : Nat) (S : Nat → Prop) (t : Tm) (vs : List Value) (w : World), SizeOf.sizeOf t ≤ N → TmAt S t vs w →
    Calls Tryd.prog 35 #[.agg vs.toArray] w (RetC w t) := by
  intro N
  induction N with
  | zero => intro S t vs w h; cases t; simp at h
  | succ N ih =>
    intro S t vs w hN ht
    have HIH := Lib.hid ih
    have HNN := Lib.hid hN
    have HT := Lib.hid ht
    obtain ⟨hp, nv, a, cap, rfl, hnn, ⟨hc, hcm⟩, hcap, ha⟩ := ht.parts
    have HP := Lib.hid hp
    have HA := Lib.hid ha
    have HNU := Lib.hid hnn
    obtain ⟨na, nc, rfl, hnc, _⟩ := hnn.slice
    have hcl : t.args.length ≤ 140737488351232 := by omega
    have HCL := Lib.hid hcl
    have HCAP := Lib.hid hcap
    have HB0 := Lib.hid (((Below.refl _ w).alloc (Nat.le_refl _) (.cells #[.int .i64 t.kind, .int .i64 t.int, .string t.text, .int .u32 t.cr, .slice na t.nums.length nc, .slice a t.args.length cap] 30 (0, 0))).alloc (by simp) (.cells termZ.toArray 30 (0, 0)))
    have M0 := Lib.hid ((Cells.new w 30 [.int .i64 t.kind, .int .i64 t.int, .string t.text, .int .u32 t.cr, .slice na t.nums.length nc, .slice a t.args.length cap]).alloc (.cells termZ.toArray 30 (0, 0)))
    have R0 := Lib.hid (show Cells ((w.alloc (.cells #[.int .i64 t.kind, .int .i64 t.int, .string t.text, .int .u32 t.cr, .slice na t.nums.length nc, .slice a t.args.length cap] 30 (0, 0))).alloc (.cells termZ.toArray 30 (0, 0))) (w.heap.size + 1) 30 termZ from by
      have := Cells.new (w.alloc (.cells #[.int .i64 t.kind, .int .i64 t.int, .string t.text, .int .u32 t.cr, .slice na t.nums.length nc, .slice a t.args.length cap] 30 (0, 0))) 30 termZ
      rwa [World.size_alloc] at this)
    have HSZ := Lib.hid (show ((w.alloc (.cells #[.int .i64 t.kind, .int .i64 t.int, .string t.text, .int .u32 t.cr, .slice na t.nums.length nc, .slice a t.args.length cap] 30 (0, 0))).alloc (.cells termZ.toArray 30 (0, 0))).heap.size = w.heap.size + 2 by simp)
    unfold termZ at *
    clear ih hN ht hnn hp ha hcm
    go_enter Tryd.func35, Tryd.ntmps35
    go_upto_region 1 with (fail)
    generalize hW1 : World.alloc (World.alloc w _) _ = W1 at *
    clear hW1
    have HCN := Lib.hid (cloneN_any S (.slice na t.nums.length nc) t.nums W1 (HNU.out.below HB0.out))
    have m4 := M0.out.cell 4
    simp only [List.getElem?_cons_zero, List.getElem?_cons_succ] at m4
    go_wp2_with fail
    refine HCN.out.mono ?_
    rintro e w2 ⟨nv2, rfl, hnv2, hb2⟩
    obtain ⟨na2, nc2, rfl, _, _⟩ := hnv2.slice
    have M2 := Lib.hid (M0.out.below hb2)
    have R2 := Lib.hid (R0.out.below hb2)
    have n4 := M2.out.cell 4
    have f4 := M2.out.frozen 4
    have M3 := Lib.hid (show Cells _ w.heap.size 30 [.int .i64 t.kind, .int .i64 t.int, .string t.text, .int .u32 t.cr, .slice na2 t.nums.length nc2, .slice a t.args.length cap] from M2.out.set_ 4 (.slice na2 t.nums.length nc2))
    have R3 := Lib.hid (R2.out.far (p := ⟨w.heap.size, 4, none⟩) (by simp) (.slice na2 t.nums.length nc2))
    have HB3 := Lib.hid ((HB0.out.trans (hb2.mono HB0.out.size)).setCell (p := ⟨w.heap.size, 4, none⟩) (Nat.le_refl _) (.slice na2 t.nums.length nc2))
    have N3 := Lib.hid (show NumsAt (fun b => w.heap.size + 2 ≤ b) (.slice na2 t.nums.length nc2) t.nums (w2.setCell ⟨w.heap.size, 4, none⟩ (.slice na2 t.nums.length nc2)) from
      (hnv2.mono (fun b _ hb => by have := HSZ.out; omega)).frame fun b hb => Below.heap_setCell _ _ _ _ (by show b ≠ w.heap.size; omega))
    have HSZ3 := Lib.hid (show w.heap.size + 2 ≤ (w2.setCell ⟨w.heap.size, 4, none⟩ (.slice na2 t.nums.length nc2)).heap.size from by rw [World.size_setCell, ← HSZ.out]; exact hb2.size)
    have m5 := M3.out.cell 5
    simp only [List.getElem?_cons_zero, List.getElem?_cons_succ] at n4 m5
    clear hnv2 hb2 m4 M0 R0 M2 R2 HCN
    go_wp2_with fail
    generalize hW3 : World.setCell w2 _ _ = W3 at *
    clear hW3 n4 f4 m5
    go_loopw [3, 13] (fun v i wr => ∃ (kk : Nat) (S' : Nat → Prop), kk ≤ t.args.length ∧ i = .int .i64 kk ∧ TsIs W3.heap.size S' v (t.args.take kk) wr ∧ (∀ b, S' b → w.heap.size + 2 ≤ b) ∧ (∀ k, v.ownBlock = some k → ¬ S' k) ∧ Below W3.heap.size W3 wr) (fun _ i _ => t.args.length - (intOf i).toNat)
    case atStart => exact ⟨0, fun _ => False, Nat.zero_le _, rfl, TsIs.nil _ _ _, (fun b h => h.elim), (fun k hk => by cases hk), Below.refl _ _⟩
    case round =>
      obtain ⟨kk, S', hkk, rfl, hts, hS', hvS, hbr⟩ := hrel
      have HTS := Lib.hid hts
      have HS' := Lib.hid hS'
      have HVS := Lib.hid hvS
      have HBR := Lib.hid hbr
      clear hts hS' hvS hbr
      by_cases hk : kk < t.args.length
      · have hki : (kk : Int) < (t.args.length : Int) := by omega
        have hk0 : (0 : Int) ≤ (kk : Int) := by omega
        obtain ⟨g2, o2, vs2, hae, _, hcs, ht2⟩ := (HA.out.below (HB3.out.trans (HBR.out.mono HB3.out.size))).get kk hk
        subst hae
        have HT2 := Lib.hid ht2
        obtain ⟨_, nv2, a2, cap2, hv2, hnn2, _⟩ := ht2.parts
        obtain ⟨nb2, nd2, hnv2, _, _⟩ := hnn2.slice
        subst hv2
        subst hnv2
        have e0 := hcs 0 (by decide)
        have e1 := hcs 1 (by decide)
        have e2 := hcs 2 (by decide)
        have e3 := hcs 3 (by decide)
        have e4 := hcs 4 (by decide)
        have e5 := hcs 5 (by decide)
        simp only [List.getElem?_cons_zero, List.getElem?_cons_succ, ← Nat.add_assoc, Nat.add_zero] at e0 e1 e2 e3 e4 e5
        have HBA := Lib.hid ((Below.refl _ wr).alloc (Nat.le_refl _) (.cells #[.int .i64 t.args[kk].kind, .int .i64 t.args[kk].int, .string t.args[kk].text, .int .u32 t.args[kk].cr, .slice nb2 t.args[kk].nums.length nd2, .slice a2 t.args[kk].args.length cap2] 30 (0, 0)))
        have HCALL := Lib.hid (HIH.out S t.args[kk] _ _ (by have := Tm.arg_lt hk; have := HNN.out; omega) (HT2.out.below HBA.out))
        clear hcs ht2 hnn2
        go_wp2_with fail
        refine HCALL.out.mono ?_
        rintro e W5 ⟨vs3, rfl, ht3, hb5⟩
        have HT3 := Lib.hid ht3
        obtain ⟨_, nv3, a3, cap3, rfl, hnn3, _⟩ := ht3.parts
        obtain ⟨nb3, nd3, rfl, _, _⟩ := hnn3.slice
        have HW4 := Lib.hid (show (wr.alloc (.cells #[.int .i64 t.args[kk].kind, .int .i64 t.args[kk].int, .string t.args[kk].text, .int .u32 t.args[kk].cr, .slice nb2 t.args[kk].nums.length nd2, .slice a2 t.args[kk].args.length cap2] 30 (0, 0))).heap.size = wr.heap.size + 1 by simp)
        have HB5 := Lib.hid (HBR.out.trans ((HBA.out.trans (hb5.mono HBA.out.size)).mono HBR.out.size))
        have HB15 := Lib.hid (HBA.out.trans (hb5.mono HBA.out.size))
        have HZ5 := Lib.hid hb5.size
        clear ht3 hnn3 hb5 e0 e1 e2 e3 e4 e5 HCALL
        -- the row and the new term, in the world with the row of one
        have hS2 : TsIs W3.heap.size (fun b => (S' b ∧ b < wr.heap.size) ∨ (wr.heap.size < b ∧ b < W5.heap.size)) u3 (t.args.take kk) (W5.alloc (.cells #[.int .i64 t.args[kk].kind, .int .i64 t.args[kk].int, .string t.args[kk].text, .int .u32 t.args[kk].cr, .slice nb3 t.args[kk].nums.length nd3, .slice a3 t.args[kk].args.length cap3] 30 (0, 0))) :=
          ((HTS.out.mono (Nat.le_refl _) (fun b hb hs => .inl ⟨hs, hb⟩)).below HB15.out (Nat.le_refl _)).alloc _
        have hT3 : TmAt (fun b => (S' b ∧ b < wr.heap.size) ∨ (wr.heap.size < b ∧ b < W5.heap.size)) t.args[kk] _ (W5.alloc (.cells #[.int .i64 t.args[kk].kind, .int .i64 t.args[kk].int, .string t.args[kk].text, .int .u32 t.args[kk].cr, .slice nb3 t.args[kk].nums.length nd3, .slice a3 t.args[kk].args.length cap3] 30 (0, 0))) :=
          (HT3.out.mono (fun b hb hs => .inr ⟨by rw [HW4.out] at hs; omega, hb⟩)).below ((Below.refl _ _).alloc (Nat.le_refl _) _)
        have hCN := Cells.new W5 30 [.int .i64 t.args[kk].kind, .int .i64 t.args[kk].int, .string t.args[kk].text, .int .u32 t.args[kk].cr, .slice nb3 t.args[kk].nums.length nd3, .slice a3 t.args[kk].args.length cap3]
        obtain ⟨v7, w7, hrun, hts7, hg7, hob7⟩ := hS2.app hT3 W5.heap.size 0 1 (fun j hj => by rw [Nat.zero_add]; exact hCN.cell j) (by rw [List.length_take]; have := HCAP.out; omega) (by have := HB5.out.size; simp; omega) (fun k hk h => by
          rcases h with ⟨h1, _⟩ | ⟨h1, h2⟩
          · exact HVS.out k hk h1
          · have := (HTS.out.block hk).2.1; omega)
        have HRUN := Lib.hid hrun
        have HTS7 := Lib.hid hts7
        have HB7 := Lib.hid (show Below W3.heap.size W3 w7 from (HB5.out.alloc HB5.out.size _).grown hg7 (by have := HB5.out.size; simp; omega) (fun k hk => (hS2.block hk).1))
        have HVS7 := Lib.hid (show ∀ k, v7.ownBlock = some k → ¬ ((S' k ∧ k < wr.heap.size) ∨ (wr.heap.size < k ∧ k < W5.heap.size)) from fun k hk h => by
          rcases hob7 with e | e
          · rw [e] at hk
            rcases h with ⟨h1, _⟩ | ⟨h1, h2⟩
            · exact HVS.out k hk h1
            · have := (HTS.out.block hk).2.1; omega
          · rw [e] at hk
            cases hk
            simp at h
            rcases h with ⟨h1, h2⟩ | ⟨h1, h2⟩
            · have := HB15.out.size; omega
            · omega)
        have HS7 := Lib.hid (show ∀ b, ((S' b ∧ b < wr.heap.size) ∨ (wr.heap.size < b ∧ b < W5.heap.size)) → w.heap.size + 2 ≤ b from fun b hb => by
          rcases hb with ⟨h1, _⟩ | ⟨h1, _⟩
          · exact HS'.out b h1
          · have := HSZ3.out; have := HBR.out.size; omega)
        have htk : t.args.take kk ++ [t.args[kk]] = t.args.take (kk + 1) := (List.take_succ_eq_append_getElem hk).symm
        rw [htk] at HTS7
        clear hrun hts7 hg7 hob7 hS2 hT3 hCN htk
        go_wp2_with (at_builtin; refine stop ?_)
        refine Stopped.of ?_
        refine wp_app_eq rfl (.tmp 17) (.tmp 20) _ _ rfl _ _ v7 w7 rfl rfl HRUN.out ?_
        go_wp2
        go_roundw
        case rel => exact ⟨kk + 1, _, by omega, by go_num, HTS7.out, HS7.out, HVS7.out, HB7.out⟩
        case measure => simp [intOf]; omega
      · have hki : ¬ (kk : Int) < (t.args.length : Int) := by omega
        have hfull : t.args.take kk = t.args := List.take_of_length_le (by omega)
        rw [hfull] at HTS
        have HBW := Lib.hid (HB3.out.trans (HBR.out.mono HB3.out.size))
        have M4 := Lib.hid (M3.out.below HBR.out)
        have R4 := Lib.hid (R3.out.below HBR.out)
        have N4 := Lib.hid (N3.out.below HBR.out)
        obtain ⟨av, cv, hv, hcv, hav⟩ := HTS.out.args (S2 := fun b => w.heap.size + 2 ≤ b) (fun b _ hb => HS'.out b hb) (fun k hk => by have := (HTS.out.block hk).1; have := HSZ3.out; omega)
        subst hv
        have q0 := M4.out.cell 0
        have q1 := M4.out.cell 1
        have q2 := M4.out.cell 2
        have q3 := M4.out.cell 3
        have q4 := M4.out.cell 4
        have q5 := M4.out.cell 5
        have f5 := M4.out.frozen 5
        have M5 := Lib.hid (show Cells _ w.heap.size 30 [.int .i64 t.kind, .int .i64 t.int, .string t.text, .int .u32 t.cr, .slice na2 t.nums.length nc2, .slice av t.args.length cv] from M4.out.set_ 5 (.slice av t.args.length cv))
        have R5 := Lib.hid (R4.out.far (p := ⟨w.heap.size, 5, none⟩) (by simp) (.slice av t.args.length cv))
        have p0 := M5.out.cell 0
        have p1 := M5.out.cell 1
        have p2 := M5.out.cell 2
        have p3 := M5.out.cell 3
        have p4 := M5.out.cell 4
        have p5 := M5.out.cell 5
        simp only [List.getElem?_cons_zero, List.getElem?_cons_succ] at q0 q1 q2 q3 q4 q5 p0 p1 p2 p3 p4 p5
        have HAV := Lib.hid hav
        have HCV := Lib.hid hcv
        have HBS := Lib.hid (HBW.out.setCell (p := ⟨w.heap.size, 5, none⟩) (Nat.le_refl _) (.slice av t.args.length cv))
        have KS := Lib.hid (show Keep (fun b => b = w.heap.size ∨ b = w.heap.size + 1) wr (wr.setCell ⟨w.heap.size, 5, none⟩ (.slice av t.args.length cv)) from (Keep.refl _ wr).setCell (p := ⟨w.heap.size, 5, none⟩) (fun _ => .inl rfl) _)
        clear hav hcv HTS hfull
        go_wp2_with (refine wpList_store_blk rfl _ (.tmp 2) (.tmp 25) rfl (w.heap.size + 1) 0 [.int .i64 t.kind, .int .i64 t.int, .string t.text, .int .u32 t.cr, .slice na2 t.nums.length nc2, .slice av t.args.length cv] (by rfl) (by rfl) (by kernel_rfl) (by simp [Value.oneCell']) 30 _ R5.out (by show 0 + 6 ≤ 6; decide) ?_; intro w9 hC9 hg9)
        have hC9' : Cells w9 (w.heap.size + 1) 30 [.int .i64 t.kind, .int .i64 t.int, .string t.text, .int .u32 t.cr, .slice na2 t.nums.length nc2, .slice av t.args.length cv] := hC9
        have z0 := hC9'.cell 0
        have z1 := hC9'.cell 1
        have z2 := hC9'.cell 2
        have z3 := hC9'.cell 3
        have z4 := hC9'.cell 4
        have z5 := hC9'.cell 5
        simp only [List.getElem?_cons_zero, List.getElem?_cons_succ] at z0 z1 z2 z3 z4 z5
        have KS9 := Lib.hid (KS.out.grown hg9 (fun k hk _ => by cases hk; exact .inr rfl))
        have HB9 := Lib.hid (HBS.out.grown hg9 HBS.out.size (fun k hk => by cases hk; omega))
        clear hC9 hC9' hg9 q0 q1 q2 q3 q4 q5 p0 p1 p2 p3 p4 p5 f5
        go_wp2
        refine bodyPost_ret (v := .agg #[.int .i64 t.kind, .int .i64 t.int, .string t.text, .int .u32 t.cr, .slice na2 t.nums.length nc2, .slice av t.args.length cv]) (by simp [results, Tryd.results35, go_sem, z0, z1, z2, z3, z4, z5]) rfl ?_
        refine ⟨[.int .i64 t.kind, .int .i64 t.int, .string t.text, .int .u32 t.cr, .slice na2 t.nums.length nc2, .slice av t.args.length cv], rfl, TmAt.of ⟨HP.out, _, _, _, rfl, ?_, HCV.out, HCAP.out, ?_⟩, HB9.out⟩
        · exact (N4.out.keep KS9.out (fun b _ hb e => by rcases e with e | e <;> omega)).mono (fun b _ hb => by omega)
        · exact (HAV.out.keep KS9.out (fun b _ hb e => by rcases e with e | e <;> omega)).mono (fun b _ hb => by omega)
theorem copy_any (S : Nat → Prop) (t : Tm) (vs : List Value) (w : World) (ht : TmAt S t vs w) : Calls Tryd.prog 35 #[.agg vs.toArray] w (RetC w t) :=
  copy_ind _ S t vs w (Nat.le_refl _) ht
end Go.Proofs.YtlahagabcnmdiaaDoor
end
section
/- heddleref02.Same, of a term and itself. Printed by wip/sam.py. -/
open Go Go.RowKit
namespace Go.Proofs.YtlahagabcnmdiaaDoor
set_option linter.unusedVariables false
set_option linter.unusedSimpArgs false

theorem NumsAt.get {S : Nat → Prop} {v : Value} {l : List Int} {w : World} (h : NumsAt S v l w) : ∃ a c, v = .slice a l.length c ∧ ∀ i (hi : i < l.length), ∃ g o, a = some ⟨g, o, none⟩ ∧ w.cell? ⟨g, o + i, none⟩ = some (.int .u32 l[i]) := by
  obtain ⟨a, c, h1, _, _, h4⟩ := h
  exact ⟨a, c, h1, fun i hi => by obtain ⟨_, _, g, o, ha, _, hc⟩ := h4 i hi; exact ⟨g, o, ha, hc⟩⟩
set_option maxHeartbeats 16000000 in
set_option maxRecDepth 100000 in
theorem same_ind : ∀ (N : Nat) (S1 S2 : Nat → Prop) (t : Tm) (vs1 vs2 : List Value) (w : World), SizeOf.sizeOf t ≤ N → TmAt S1 t vs1 w → TmAt S2 t vs2 w →
    Calls Tryd.prog 29 #[.agg vs1.toArray, .agg vs2.toArray] w fun e w' => e = .returned (.bool true) ∧ Below w.heap.size w w' := by
  intro N
  induction N with
  | zero => intro S1 S2 t vs1 vs2 w h; cases t; simp at h
  | succ N ih =>
    intro S1 S2 t vs1 vs2 w hN ht1 ht2
    have HIH := Lib.hid ih
    have HNN := Lib.hid hN
    obtain ⟨hp, nv, a, cap, rfl, hnn, ⟨hc, hcm⟩, hcap, ha⟩ := ht1.parts
    obtain ⟨-, nv', a', cap', rfl, hnn', ⟨hc', hcm'⟩, hcap', ha'⟩ := ht2.parts
    have hnl : t.nums.length ≤ 140737488351232 := by
      obtain ⟨_, _, _, h, _⟩ := hnn
      have := h.2; omega
    obtain ⟨na, nc, rfl, hnum⟩ := hnn.get
    obtain ⟨na', nc', rfl, hnum'⟩ := hnn'.get
    have HN1 := Lib.hid hnum
    have HN2 := Lib.hid hnum'
    have HA1 := Lib.hid ha
    have HA2 := Lib.hid ha'
    have hal : t.args.length ≤ 140737488351232 := by omega
    have HB0 := Lib.hid (((Below.refl _ w).alloc (Nat.le_refl _) (.cells #[.int .i64 t.kind, .int .i64 t.int, .string t.text, .int .u32 t.cr, .slice na t.nums.length nc, .slice a t.args.length cap] 30 (0, 0))).alloc (by simp) (.cells #[.int .i64 t.kind, .int .i64 t.int, .string t.text, .int .u32 t.cr, .slice na' t.nums.length nc', .slice a' t.args.length cap'] 30 (0, 0)))
    have M1 := Lib.hid ((Cells.new w 30 [.int .i64 t.kind, .int .i64 t.int, .string t.text, .int .u32 t.cr, .slice na t.nums.length nc, .slice a t.args.length cap]).alloc (.cells #[.int .i64 t.kind, .int .i64 t.int, .string t.text, .int .u32 t.cr, .slice na' t.nums.length nc', .slice a' t.args.length cap'] 30 (0, 0)))
    have M2 := Lib.hid (show Cells ((w.alloc (.cells #[.int .i64 t.kind, .int .i64 t.int, .string t.text, .int .u32 t.cr, .slice na t.nums.length nc, .slice a t.args.length cap] 30 (0, 0))).alloc (.cells #[.int .i64 t.kind, .int .i64 t.int, .string t.text, .int .u32 t.cr, .slice na' t.nums.length nc', .slice a' t.args.length cap'] 30 (0, 0))) (w.heap.size + 1) 30 [.int .i64 t.kind, .int .i64 t.int, .string t.text, .int .u32 t.cr, .slice na' t.nums.length nc', .slice a' t.args.length cap'] from by
      have := Cells.new (w.alloc (.cells #[.int .i64 t.kind, .int .i64 t.int, .string t.text, .int .u32 t.cr, .slice na t.nums.length nc, .slice a t.args.length cap] 30 (0, 0))) 30 [.int .i64 t.kind, .int .i64 t.int, .string t.text, .int .u32 t.cr, .slice na' t.nums.length nc', .slice a' t.args.length cap']
      rwa [World.size_alloc] at this)
    clear ih hN ht1 ht2 hnn hnn' ha ha' hcm hcm' hnum hnum' hp hc hc' hcap hcap'
    go_enter Tryd.func29, Tryd.ntmps29
    go_upto_region 1 with (fail)
    generalize (w.alloc (.cells #[.int .i64 t.kind, .int .i64 t.int, .string t.text, .int .u32 t.cr, .slice na t.nums.length nc, .slice a t.args.length cap] 30 (0, 0))).alloc (.cells #[.int .i64 t.kind, .int .i64 t.int, .string t.text, .int .u32 t.cr, .slice na' t.nums.length nc', .slice a' t.args.length cap'] 30 (0, 0)) = w1 at *
    have p0 := M1.out.cell 0
    have p1 := M1.out.cell 1
    have p2 := M1.out.cell 2
    have p3 := M1.out.cell 3
    have p4 := M1.out.cell 4
    have p5 := M1.out.cell 5
    have q0 := M2.out.cell 0
    have q1 := M2.out.cell 1
    have q2 := M2.out.cell 2
    have q3 := M2.out.cell 3
    have q4 := M2.out.cell 4
    have q5 := M2.out.cell 5
    simp only [List.getElem?_cons_zero, List.getElem?_cons_succ] at p0 p1 p2 p3 p4 p5 q0 q1 q2 q3 q4 q5
    go_wp2
    clear p0 p1 p2 p3 p4 p5 q0 q1 q2 q3 q4 q5
    go_loopw [5] (fun i wr => ∃ kk : Nat, kk ≤ t.nums.length ∧ i = .int .i64 kk ∧ Below w1.heap.size w1 wr) (fun i _ => t.nums.length - (intOf i).toNat)
    case atStart => exact ⟨0, Nat.zero_le _, rfl, Below.refl _ _⟩
    case round =>
      obtain ⟨kk, hkk, rfl, hbr⟩ := hrel
      have HBR := Lib.hid hbr
      clear hbr
      have p4 := (M1.out.below HBR.out).cell 4
      have q4 := (M2.out.below HBR.out).cell 4
      simp only [List.getElem?_cons_zero, List.getElem?_cons_succ] at p4 q4
      by_cases hk : kk < t.nums.length
      · obtain ⟨g, o, rfl, hg⟩ := HN1.out kk hk
        obtain ⟨g', o', rfl, hg'⟩ := HN2.out kk hk
        have d1 := ((HB0.out.trans (HBR.out.mono HB0.out.size)).cell (p := ⟨g, o + kk, none⟩) (World.block_lt_of_cell? w _ hg)).trans hg
        have d2 := ((HB0.out.trans (HBR.out.mono HB0.out.size)).cell (p := ⟨g', o' + kk, none⟩) (World.block_lt_of_cell? w _ hg')).trans hg'
        have hki : (kk : Int) < (t.nums.length : Int) := by omega
        have hk0 : (0 : Int) ≤ (kk : Int) := by omega
        have hk1 : (kk : Int) ≤ 140737488351232 := by omega
        clear hg hg'
        go_wp2
        go_quiet (fail)
        go_wp2
        go_roundw
        case rel => exact ⟨kk + 1, by omega, by go_num, below_drewN HBR.out _⟩
        case measure => simp [intOf]; omega
      · have hki : ¬ (kk : Int) < (t.nums.length : Int) := by omega
        clear hk hkk
        go_wp2
        clear p4 q4
        obtain ⟨wo, rfl⟩ : ∃ wo : World, wo = wr := ⟨_, rfl⟩
        go_loopw [6] (fun i wr => ∃ kk : Nat, kk ≤ t.args.length ∧ i = .int .i64 kk ∧ Below w1.heap.size w1 wr) (fun i _ => t.args.length - (intOf i).toNat)
        case atStart => exact ⟨0, Nat.zero_le _, rfl, HBR.out⟩
        case round =>
          obtain ⟨kk, hkk, rfl, hbr⟩ := hrel
          have HB2 := Lib.hid hbr
          clear hbr
          have p5 := (M1.out.below HB2.out).cell 5
          simp only [List.getElem?_cons_zero, List.getElem?_cons_succ] at p5
          by_cases hk : kk < t.args.length
          · obtain ⟨g, o, vs, rfl, -, hcs, ht⟩ := HA1.out.get kk hk
            obtain ⟨g', o', vs', rfl, -, hcs', ht'⟩ := HA2.out.get kk hk
            have HT1 := Lib.hid ht
            have HT2 := Lib.hid ht'
            obtain ⟨-, mv, b, bap, rfl, hmm, -⟩ := ht.parts
            obtain ⟨ma, mc, rfl, -, -⟩ := hmm.slice
            obtain ⟨-, mv', b', bap', rfl, hmm', -⟩ := ht'.parts
            obtain ⟨ma', mc', rfl, -, -⟩ := hmm'.slice
            have e0 := hcs 0 (by decide)
            have hgl : g < w.heap.size := World.block_lt_of_cell? w _ e0
            have f0 := hcs' 0 (by decide)
            have hgl' : g' < w.heap.size := World.block_lt_of_cell? w _ f0
            have HWX := Lib.hid (fun W (h : Below wr.heap.size wr W) => HB0.out.trans ((HB2.out.trans (h.mono HB2.out.size)).mono HB0.out.size))
            have HE := Lib.hid (fun W (h : Below wr.heap.size wr W) j (hj : j < 6) => ((HWX.out W h).cell (p := ⟨g, o + (kk * 6 + j), none⟩) hgl).trans (hcs j hj))
            have HF := Lib.hid (fun W (h : Below wr.heap.size wr W) j (hj : j < 6) => ((HWX.out W h).cell (p := ⟨g', o' + (kk * 6 + j), none⟩) hgl').trans (hcs' j hj))
            have HP5 := Lib.hid (fun W (h : Below wr.heap.size wr W) => show W.cell? ⟨w.heap.size, 5, none⟩ = some (.slice (some ⟨g, o, none⟩) t.args.length cap) from ((M1.out.below HB2.out).below h).cell 5)
            have HQ5 := Lib.hid (fun W (h : Below wr.heap.size wr W) => show W.cell? ⟨w.heap.size + 1, 5, none⟩ = some (.slice (some ⟨g', o', none⟩) t.args.length cap') from ((M2.out.below HB2.out).below h).cell 5)
            have hki : (kk : Int) < (t.args.length : Int) := by omega
            have hk0 : (0 : Int) ≤ (kk : Int) := by omega
            have hk1 : (kk : Int) ≤ 140737488351232 := by omega
            have HSZ := Lib.hid (show SizeOf.sizeOf t.args[kk] ≤ N from by have := Tm.arg_lt hk; have := HNN.out; omega)
            clear hcs hcs' ht ht' hmm hmm' e0 f0 hgl hgl'
            go_wp2
            refine wp_region_held_drew (S := fun W => Below wr.heap.size wr W) (by kernel_rfl) (Below.drew (Below.refl _ _)) (fun hHeld => ?_)
            refine wpAnyH_take (i := 0) (v := (.pointer (some ⟨w.heap.size, 5, none⟩))) (by simp only [List.getElem?_toArray, List.getElem?_cons_succ, List.getElem?_cons_zero]; rfl) (by kernel_rfl) (by kernel_rfl) (by kernel_rfl) (by exact fun _ _ _ h => h) (Or.inl ⟨by rfl, fun _ _ => rfl⟩) (by assumption) ?_
            try simp only [Act.put, List.setIfInBounds_toArray, List.set_cons_zero, List.set_cons_succ]
            refine wpAnyH_take (i := 1) (v := (.slice (some ⟨g, o, none⟩) t.args.length cap)) (by simp only [List.getElem?_toArray, List.getElem?_cons_succ, List.getElem?_cons_zero]; rfl) (by kernel_rfl) (by kernel_rfl) (by kernel_rfl) (by exact fun _ _ _ h => h) (Or.inl ⟨by rfl, by intro W hSw; have x0 := HP5.out W hSw; go_simp; all_goals first | rfl | exact ⟨rfl, rfl, rfl, rfl, rfl, rfl⟩⟩) (by assumption) ?_
            try simp only [Act.put, List.setIfInBounds_toArray, List.set_cons_zero, List.set_cons_succ]
            refine wpAnyH_take (i := 2) (v := (.int .i64 kk)) (by simp only [List.getElem?_toArray, List.getElem?_cons_succ, List.getElem?_cons_zero]; rfl) (by kernel_rfl) (by kernel_rfl) (by kernel_rfl) (by exact fun _ _ _ h => h) (Or.inl ⟨by rfl, fun _ _ => rfl⟩) (by assumption) ?_
            try simp only [Act.put, List.setIfInBounds_toArray, List.set_cons_zero, List.set_cons_succ]
            refine wpAnyH_take (i := 3) (v := (.pointer (some ⟨g, o + kk * 6, none⟩))) (by simp only [List.getElem?_toArray, List.getElem?_cons_succ, List.getElem?_cons_zero]; rfl) (by kernel_rfl) (by kernel_rfl) (by kernel_rfl) (by exact fun _ _ _ h => h) (Or.inl ⟨by rfl, by intro W hSw; go_simp; all_goals first | rfl | exact ⟨rfl, rfl, rfl, rfl, rfl, rfl⟩⟩) (by assumption) ?_
            try simp only [Act.put, List.setIfInBounds_toArray, List.set_cons_zero, List.set_cons_succ]
            refine wpAnyH_take (i := 4) (v := (.agg #[.int .i64 t.args[kk].kind, .int .i64 t.args[kk].int, .string t.args[kk].text, .int .u32 t.args[kk].cr, .slice ma t.args[kk].nums.length mc, .slice b t.args[kk].args.length bap])) (by simp only [List.getElem?_toArray, List.getElem?_cons_succ, List.getElem?_cons_zero]; rfl) (by kernel_rfl) (by kernel_rfl) (by kernel_rfl) (by exact fun _ _ _ h => h) (Or.inl ⟨by rfl, by intro W hSw; have x0 := HE.out W hSw 0 (by decide); have x1 := HE.out W hSw 1 (by decide); have x2 := HE.out W hSw 2 (by decide); have x3 := HE.out W hSw 3 (by decide); have x4 := HE.out W hSw 4 (by decide); have x5 := HE.out W hSw 5 (by decide); simp only [List.getElem?_cons_zero, List.getElem?_cons_succ, ← Nat.add_assoc, Nat.add_zero] at x0 x1 x2 x3 x4 x5; go_simp; all_goals first | rfl | exact ⟨rfl, rfl, rfl, rfl, rfl, rfl⟩⟩) (by assumption) ?_
            try simp only [Act.put, List.setIfInBounds_toArray, List.set_cons_zero, List.set_cons_succ]
            refine wpAnyH_take (i := 5) (v := (.pointer (some ⟨w.heap.size + 1, 5, none⟩))) (by simp only [List.getElem?_toArray, List.getElem?_cons_succ, List.getElem?_cons_zero]; rfl) (by kernel_rfl) (by kernel_rfl) (by kernel_rfl) (by exact fun _ _ _ h => h) (Or.inl ⟨by rfl, fun _ _ => rfl⟩) (by assumption) ?_
            try simp only [Act.put, List.setIfInBounds_toArray, List.set_cons_zero, List.set_cons_succ]
            refine wpAnyH_take (i := 6) (v := (.slice (some ⟨g', o', none⟩) t.args.length cap')) (by simp only [List.getElem?_toArray, List.getElem?_cons_succ, List.getElem?_cons_zero]; rfl) (by kernel_rfl) (by kernel_rfl) (by kernel_rfl) (by exact fun _ _ _ h => h) (Or.inl ⟨by rfl, by intro W hSw; have x0 := HQ5.out W hSw; go_simp; all_goals first | rfl | exact ⟨rfl, rfl, rfl, rfl, rfl, rfl⟩⟩) (by assumption) ?_
            try simp only [Act.put, List.setIfInBounds_toArray, List.set_cons_zero, List.set_cons_succ]
            refine wpAnyH_take (i := 7) (v := (.int .i64 kk)) (by simp only [List.getElem?_toArray, List.getElem?_cons_succ, List.getElem?_cons_zero]; rfl) (by kernel_rfl) (by kernel_rfl) (by kernel_rfl) (by exact fun _ _ _ h => h) (Or.inl ⟨by rfl, fun _ _ => rfl⟩) (by assumption) ?_
            try simp only [Act.put, List.setIfInBounds_toArray, List.set_cons_zero, List.set_cons_succ]
            refine wpAnyH_take (i := 8) (v := (.pointer (some ⟨g', o' + kk * 6, none⟩))) (by simp only [List.getElem?_toArray, List.getElem?_cons_succ, List.getElem?_cons_zero]; rfl) (by kernel_rfl) (by kernel_rfl) (by kernel_rfl) (by exact fun _ _ _ h => h) (Or.inl ⟨by rfl, by intro W hSw; go_simp; all_goals first | rfl | exact ⟨rfl, rfl, rfl, rfl, rfl, rfl⟩⟩) (by assumption) ?_
            try simp only [Act.put, List.setIfInBounds_toArray, List.set_cons_zero, List.set_cons_succ]
            refine wpAnyH_take (i := 9) (v := (.agg #[.int .i64 t.args[kk].kind, .int .i64 t.args[kk].int, .string t.args[kk].text, .int .u32 t.args[kk].cr, .slice ma' t.args[kk].nums.length mc', .slice b' t.args[kk].args.length bap'])) (by simp only [List.getElem?_toArray, List.getElem?_cons_succ, List.getElem?_cons_zero]; rfl) (by kernel_rfl) (by kernel_rfl) (by kernel_rfl) (by exact fun _ _ _ h => h) (Or.inl ⟨by rfl, by intro W hSw; have x0 := HF.out W hSw 0 (by decide); have x1 := HF.out W hSw 1 (by decide); have x2 := HF.out W hSw 2 (by decide); have x3 := HF.out W hSw 3 (by decide); have x4 := HF.out W hSw 4 (by decide); have x5 := HF.out W hSw 5 (by decide); simp only [List.getElem?_cons_zero, List.getElem?_cons_succ, ← Nat.add_assoc, Nat.add_zero] at x0 x1 x2 x3 x4 x5; go_simp; all_goals first | rfl | exact ⟨rfl, rfl, rfl, rfl, rfl, rfl⟩⟩) (by assumption) ?_
            try simp only [Act.put, List.setIfInBounds_toArray, List.set_cons_zero, List.set_cons_succ]
            refine wpAnyH_ready (rs := [10]) (by kernel_rfl) (by simp) ?_
            refine AllReadyH.cons (by simp only [List.getElem?_toArray, List.getElem?_cons_succ, List.getElem?_cons_zero]; rfl) (fun K hK => ?_) AllReadyH.nil
            go_simp
            refine (HIH.out S1 S2 t.args[kk] [.int .i64 t.args[kk].kind, .int .i64 t.args[kk].int, .string t.args[kk].text, .int .u32 t.args[kk].cr, .slice ma t.args[kk].nums.length mc, .slice b t.args[kk].args.length bap] [.int .i64 t.args[kk].kind, .int .i64 t.args[kk].int, .string t.args[kk].text, .int .u32 t.args[kk].cr, .slice ma' t.args[kk].nums.length mc', .slice b' t.args[kk].args.length bap'] _ HSZ.out (HT1.out.below (HWX.out _ hHeld)) (HT2.out.below (HWX.out _ hHeld))).mono ?_
            rintro e w5 ⟨rfl, hb5⟩
            have HB5 := Lib.hid ((hHeld).trans (hb5.mono hHeld.size))
            clear hb5
            refine hK.out _ _ (HB5.out) (fun hHeld => ?_)
            try simp only [Act.put, List.setIfInBounds_toArray, List.set_cons_zero, List.set_cons_succ]
            refine wpAnyH_take (i := 11) (v := (.bool false)) (by simp only [List.getElem?_toArray, List.getElem?_cons_succ, List.getElem?_cons_zero]; rfl) (by kernel_rfl) (by kernel_rfl) (by kernel_rfl) (by exact fun _ _ _ h => h) (Or.inl ⟨by rfl, by intro W hSw; go_simp; all_goals first | rfl | exact ⟨rfl, rfl, rfl, rfl, rfl, rfl⟩⟩) (by assumption) ?_
            try simp only [Act.put, List.setIfInBounds_toArray, List.set_cons_zero, List.set_cons_succ]
            refine wpAnyH_done (by kernel_rfl) ?_ _
            have HB6 := Lib.hid (HB2.out.trans (HB5.out.mono HB2.out.size))
            go_wp2
            go_roundw
            case rel => exact ⟨kk + 1, by omega, by go_num, HB6.out⟩
            case measure => simp [intOf]; omega
          · have hki : ¬ (kk : Int) < (t.args.length : Int) := by omega
            have HBF := Lib.hid (HB0.out.trans (HB2.out.mono HB0.out.size))
            clear hk hkk
            go_wp2
            go_ret
            exact ⟨rfl, HBF.out⟩
theorem sameTm_any (S1 S2 : Nat → Prop) (t : Tm) (vs1 vs2 : List Value) (w : World) (h1 : TmAt S1 t vs1 w) (h2 : TmAt S2 t vs2 w) :
    Calls Tryd.prog 29 #[.agg vs1.toArray, .agg vs2.toArray] w fun e w' => e = .returned (.bool true) ∧ Below w.heap.size w w' :=
  same_ind _ S1 S2 t vs1 vs2 w (Nat.le_refl _) h1 h2
end Go.Proofs.YtlahagabcnmdiaaDoor
end
section
/- What layer 4 takes from other texts: rows of terms, the blocks of a growing slice, a store of a struct into a block. No function of the program is looked at here. -/
open Go Go.RowKit
namespace Go.Proofs.YtlahagabcnmdiaaDoor
set_option linter.unusedVariables false
set_option linter.unusedSimpArgs false

def LsK (g : Nat) (v : Value) : Nat → Prop := fun q => q = g ∨ v.ownBlock = some q
/-- a struct stored into a block that is known whole, as one step of a region that draws -/
theorem step_store_blk {P : Program} {ops : Array Oper} {o : Oper} {a : Act} {K : Act → World → Prop} {Q : Exit → Act → World → Prop} {E : Prop} {w : World} (hgd : o.guard = none) (ty : TypeId) (x y : Operand) (ho : o.op = .store ty x y)
    (g off : Nat) (vs : List Value) (hx : a.eval x = .pointer (some ⟨g, off, none⟩)) (hy : a.eval y = .agg vs.toArray) (hi : (P.info? ty).map (·.size) = some vs.length) (h1 : ∀ v ∈ vs, v.oneCell' = true)
    (t : TypeId) (cs : List Value) (hC : Cells w g t cs) (hn : off + vs.length ≤ cs.length)
    (h : ∀ w', Cells w' g t (setFrom cs off vs) → w.grownBy w' (some g) → K (a.put o.dst undef) w') : if Region.wanted o (yielded ops a.tmps) = true then Oper.wp P o a w K Q else E := by
  have hw : Region.wanted o (yielded ops a.tmps) = true := by simp [Region.wanted, hgd]
  rw [if_pos hw]
  exact wp_store_mid ty x y ho g off vs.toArray hx hy (by simpa using hC.there off vs.length hn) (by simpa using hi) (all_oneCell_toArray h1) (by simpa using h _ (hC.setCells vs off) (grown_setCells vs w off))
theorem TsIs.empty {base z : Nat} {S : Nat → Prop} {w : World} (hz : base ≤ z) (h : Cells w z 30 []) : TsIs base S (.slice (some ⟨z, 0, none⟩) 0 0) [] w :=
  ⟨[], rfl, ⟨rfl, .inr ⟨z, 0, #[], rfl, hz, h, Nat.le_refl _, Nat.zero_le _, rfl, rfl⟩⟩, fun _ h => absurd h (Nat.not_lt_zero _)⟩
/-- the terms of a row that lies at a place -/
def RowAt (S : Nat → Prop) (g o : Nat) (d : List Tm) (w : World) : Prop := ∀ i (h : i < d.length), ∃ vs, (∀ j, j < 6 → w.cell? ⟨g, o + (i * 6 + j), none⟩ = vs[j]?) ∧ TmAt S d[i] vs w
theorem RowAt.tail {S : Nat → Prop} {g o : Nat} {t : Tm} {d : List Tm} {w : World} (h : RowAt S g o (t :: d) w) : RowAt S g (o + 6) d w := fun i hi => by
  obtain ⟨vs, h1, h2⟩ := h (i + 1) (by simpa using hi)
  exact ⟨vs, fun j hj => by have := h1 j hj; rwa [show o + ((i + 1) * 6 + j) = o + 6 + (i * 6 + j) by omega] at this, h2⟩
/-- the cells of such a row -/
theorem RowAt.cells {S : Nat → Prop} {g : Nat} {w : World} : ∀ {d : List Tm} {o : Nat}, RowAt S g o d w → ∃ css : List (List Value), css.length = d.length ∧ (∀ cs ∈ css, cs.length = 6) ∧ (∀ i (h : i < css.length) (h2 : i < d.length), TmAt S d[i] css[i] w) ∧ ∀ j u, css.flatten[j]? = some u → w.cell? ⟨g, o + j, none⟩ = some u
  | [], o, _ => ⟨[], rfl, (fun _ h => absurd h List.not_mem_nil), fun _ h => absurd h (Nat.not_lt_zero _), fun j u h => by simp at h⟩
  | t :: d, o, h => by
    obtain ⟨vs, h1, h2⟩ := h 0 (Nat.zero_lt_succ _)
    obtain ⟨css, k1, k2, k3, k4⟩ := RowAt.cells h.tail
    have h6 := h2.six
    refine ⟨vs :: css, by simp [k1], fun cs hcs => ?_, fun i hi hi2 => ?_, fun j u hj => ?_⟩
    · rcases List.mem_cons.1 hcs with rfl | hcs
      · exact h6
      · exact k2 cs hcs
    · cases i with
      | zero => exact h2
      | succ i => exact k3 i (by simpa using hi) (by simpa using hi2)
    · rw [List.flatten_cons] at hj
      by_cases e : j < 6
      · rw [List.getElem?_append_left (by omega)] at hj
        have := h1 j e
        rw [show o + (0 * 6 + j) = o + j by omega] at this
        rw [this]; exact hj
      · rw [List.getElem?_append_right (by omega), h6] at hj
        have := k4 _ _ hj
        rwa [show o + 6 + (j - 6) = o + j by omega] at this
theorem TsIs.appAll {base : Nat} {S : Nat → Prop} {v : Value} {l d : List Tm} {w : World} (h : TsIs base S v l w) (g o c : Nat) (hd : RowAt S g o d w)
    (hl : (l.length + d.length) * 88 ≤ 140737488355328) (hB : base ≤ w.heap.size) (hv : ∀ k, v.ownBlock = some k → ¬ S k) :
    ∃ v' w', (Builtin.append_ #[28, 28] 28 #[v, .slice (some ⟨g, o, none⟩) d.length c]).run Tryd.prog w = .ok v' w' ∧ TsIs base S v' (l ++ d) w' ∧ w.grownBy w' v.ownBlock ∧ (v'.ownBlock = v.ownBlock ∨ v'.ownBlock = some w.heap.size) := by
  obtain ⟨i0, hi, hz0, hz1, hz2⟩ := info_parts Tryd.infoTerm
  obtain ⟨css, hlen, hown, hts⟩ := h
  obtain ⟨dss, k1, k2, k3, k4⟩ := hd.cells
  obtain ⟨v', w', hr, h2, h3, _, h4⟩ := run_append_own_at (P := Tryd.prog) w base 28 28 30 i0 _ 6 88 Tryd.underlying28 hi hz0 hz1 hz2 rfl (by decide) v l.length css.flatten hown ⟨g, o, none⟩ d.length c dss.flatten (by rw [flat_len dss k2, k1]) (fun j u hj => by
    rw [Lib.add_plain]; exact k4 j u hj) (fun u hu => by
      obtain ⟨cs, hcs, hu⟩ := List.mem_flatten.1 hu
      obtain ⟨i, hi, rfl⟩ := List.getElem_of_mem hcs
      exact (k3 i hi (by omega)).one u hu) (by unfold maxLen; omega) hl hB
  refine ⟨v', w', hr, ⟨css ++ dss, by simp [hlen, k1], ?_, fun i hi hi2 => ?_⟩, h3, h4⟩
  · rw [List.length_append, List.flatten_append]
    exact h2
  · have hkeep : ∀ {t : Tm} {cs : List Value}, TmAt S t cs w → TmAt S t cs w' := fun h => by
      have h1 : TmAt (fun b => b < w.heap.size ∧ S b) _ _ w := h.mono fun b hb hS => ⟨hb, hS⟩
      exact (h1.frame (w' := w') fun b hb => h3.block b hb.1 (fun e => hv b e.symm hb.2)).mono fun _ _ hS => hS.2
    by_cases e : i < l.length
    · have e1 : (css ++ dss)[i] = css[i]'(by omega) := List.getElem_append_left (by omega)
      have e2 : (l ++ d)[i] = l[i] := List.getElem_append_left e
      rw [e1, e2]
      exact hkeep (hts i (by omega) e)
    · have e1 : (css ++ dss)[i] = dss[i - css.length]'(by simp at hi; omega) := List.getElem_append_right (by omega)
      have e2 : (l ++ d)[i] = d[i - l.length]'(by simp at hi2; omega) := List.getElem_append_right (by omega)
      rw [e1, e2]
      have := hkeep (k3 (i - l.length) (by simp at hi2; omega) (by simp at hi2; omega))
      simpa [hlen] using this
/-- a part of a row, where it lies -/
theorem TsIs.rowAt {base : Nat} {S : Nat → Prop} {l : List Tm} {w : World} {g n c : Nat} (h : TsIs base S (.slice (some ⟨g, 0, none⟩) n c) l w) (a m : Nat) (hm : a + m ≤ l.length) : RowAt S g (a * 6) ((l.drop a).take m) w := fun i hi => by
  have hi2 : i < m := by simp at hi; omega
  obtain ⟨vs, h1, h2⟩ := h.at_ (a + i) (by omega)
  refine ⟨vs, fun j hj => by have := h1 j hj; rwa [show (a + i) * 6 + j = a * 6 + (i * 6 + j) by omega] at this, ?_⟩
  have e : ((l.drop a).take m)[i] = l[a + i] := by simp
  rw [e]; exact h2
theorem RowAt.frame {S : Nat → Prop} {g o : Nat} {d : List Tm} {w w' : World} (h : RowAt S g o d w) (hg : w'.heap[g]? = w.heap[g]?) (hb : ∀ b, S b → w'.heap[b]? = w.heap[b]?) : RowAt S g o d w' := fun i hi => by
  obtain ⟨vs, h1, h2⟩ := h i hi
  exact ⟨vs, fun j hj => by rw [← h1 j hj]; unfold World.cell?; rw [hg], h2.frame hb⟩
end Go.Proofs.YtlahagabcnmdiaaDoor
end
section
/- Layer 4, plain: the bytes of a term. -/
open Go Go.RowKit
namespace Go.Proofs.YtlahagabcnmdiaaDoor
set_option linter.unusedVariables false

def etfL : ByteArray := ⟨#[101, 116, 102]⟩
/-- four bytes, the greatest first -/
def fourB (n : Int) : List UInt8 := [UInt8.ofNat (n.toNat / 16777216), UInt8.ofNat (n.toNat / 65536), UInt8.ofNat (n.toNat / 256), UInt8.ofNat n.toNat]
def atomB (s : ByteArray) : List UInt8 := 119 :: UInt8.ofNat s.size :: s.data.toList
/-- an int that is too wide for the wire -/
def wideI (k i : Int) : Bool := decide (k = 1) && (decide (i < -2147483648) || decide (2147483647 < i))
/-- a part's own bytes -/
def headB (k i : Int) (s : ByteArray) (c : Int) (ns : List Int) (n : Nat) : List UInt8 :=
  if k = 1 then (if wideI k i then [] else if 0 ≤ i ∧ i ≤ 255 then [97, UInt8.ofNat i.toNat] else 98 :: fourB (i % 4294967296))
  else if k = 2 then atomB s
  else if k = 5 then (if n < 256 then [104, UInt8.ofNat n] else 105 :: fourB n)
  else if k = 6 then [106]
  else if k = 7 then 108 :: fourB ((n : Int) - 1)
  else if k = 4 then 88 :: (atomB s ++ fourB (ns.getD 0 0) ++ fourB (ns.getD 1 0) ++ fourB c)
  else if k = 3 then [90, 0, 3] ++ atomB s ++ fourB c ++ ns.flatMap fourB
  else []
/-- what a writer has -/
structure Wr where
  b : List UInt8
  part : Nat
  wide : Int
def Wr.head (st : Wr) (k i : Int) (s : ByteArray) (c : Int) (ns : List Int) (n : Nat) : Wr :=
  ⟨st.b ++ headB k i s c ns n, st.part + 1, if wideI k i && decide (st.wide < 0) then st.part else st.wide⟩
mutual
/-- what the program's writer does -/
def wrT : Tm → Wr → Wr
  | .mk k i s c ns al, st => wrL al (st.head k i s c ns al.length)
def wrL : List Tm → Wr → Wr
  | [], st => st
  | t :: r, st => wrL r (wrT t st)
end
mutual
def sizeT : Tm → Nat
  | .mk _ _ _ _ _ al => 1 + sizeTL al
def sizeTL : List Tm → Nat
  | [] => 0
  | t :: r => sizeT t + sizeTL r
end
mutual
def encT : Tm → List UInt8
  | .mk k i s c ns al => headB k i s c ns al.length ++ encTL al
def encTL : List Tm → List UInt8
  | [] => []
  | t :: r => encT t ++ encTL r
end
mutual
/-- the first part that is too wide (below 0: none), and how far the looking went -/
def wideT : Tm → Nat → Int × Nat
  | .mk k i _ _ _ al, n => if wideI k i then (n, n + 1) else wideTL al (n + 1)
def wideTL : List Tm → Nat → Int × Nat
  | [], n => (-1, n)
  | t :: r, n => if 0 ≤ (wideT t n).1 then wideT t n else wideTL r (wideT t n).2
end
mutual
/-- what is written of what was checked -/
def okT : Tm → Prop
  | .mk k i s c ns al => partS (.mk k i s c ns al) 0 = [] ∧ okTL al
def okTL : List Tm → Prop
  | [] => True
  | t :: r => okT t ∧ okTL r
end
theorem partS_at (t : Tm) (a b : Int) : partS t a = [] ↔ partS t b = [] := by
  unfold partS
  split
  · simp
  · split
    · split <;> simp
    · split
      · simp [overL_nil]
      · split
        · simp [overL_nil]
        · simp
mutual
theorem walkS_ok : ∀ (t : Tm) (n dm d : Nat), (walkS t n dm d).1 = [] → okT t ∧ (walkS t n dm d).2.1 = n + sizeT t
  | .mk k i s c ns al, n, dm, d, h => by
    rw [walkS] at h ⊢
    split at h
    · cases h
    · split at h
      · cases h
      · split at h
        · rename_i hp; exact absurd h hp
        · rename_i h1 h2 h3
          rw [if_neg h1, if_neg h2, if_neg h3]
          obtain ⟨k1, k2⟩ := walkLS_ok al _ _ _ h
          refine ⟨?_, ?_⟩
          · rw [okT]; exact ⟨(partS_at _ _ _).1 (Classical.not_not.1 h3), k1⟩
          · rw [k2, sizeT]; omega
theorem walkLS_ok : ∀ (l : List Tm) (n dm d : Nat), (walkLS l n dm d).1 = [] → okTL l ∧ (walkLS l n dm d).2.1 = n + sizeTL l
  | [], n, dm, d, _ => by rw [walkLS, okTL, sizeTL]; exact ⟨trivial, rfl⟩
  | t :: r, n, dm, d, h => by
    rw [walkLS] at h ⊢
    split at h
    · rename_i h1; exact absurd h h1
    · rename_i h1
      rw [if_neg h1]
      obtain ⟨k1, k2⟩ := walkS_ok t n dm d (Classical.not_not.1 h1)
      obtain ⟨k3, k4⟩ := walkLS_ok r _ _ _ h
      rw [okTL, sizeTL]
      exact ⟨⟨k1, k3⟩, by rw [k4, k2]; omega⟩
end
theorem checkS_ok {t : Tm} (h : checkS t = []) : okT t ∧ sizeT t ≤ 4096 := by
  obtain ⟨h1, h2⟩ := walkS_ok t 0 0 1 h
  have := (walkS_le t 0 0 1 (by omega) (by omega) (by omega)).1
  exact ⟨h1, by omega⟩
theorem text_ok {t : Tm} (h : partS t 0 = []) : t.text.size ≤ 255 := by
  unfold partS at h
  split at h
  · cases h
  · rename_i hf
    have hfm : formS t = true := by simpa using hf
    have hemp : ∀ {nn an : Nat} {nu ar : Bool}, emptyS t.kind t.int t.text t.cr nn an false nu ar = true → t.text.size ≤ 255 := by
      intro nn an nu ar he
      unfold emptyS at he
      simp only [Bool.false_or, Bool.and_eq_true, decide_eq_true_eq] at he
      rw [he.1.1.1]; decide
    by_cases k2 : t.kind = 2
    · rw [if_neg (by omega), if_pos k2, overL_nil] at h
      unfold quoteS at h
      split at h
      · cases h
      · omega
    · by_cases k34 : t.kind = 3 ∨ t.kind = 4
      · rw [if_neg (by omega), if_neg k2, if_pos k34, overL_nil] at h
        unfold nodeS at h
        split at h
        · rename_i hg
          unfold goodAll goodS at hg
          simp only [Bool.and_eq_true, decide_eq_true_eq] at hg
          have := hg.1.1.1.2
          omega
        · cases h
      · unfold formS at hfm
        split at hfm
        · exact hemp hfm
        · rw [if_neg (by omega), if_neg (by omega)] at hfm
          split at hfm
          · exact hemp hfm
          · split at hfm
            · exact hemp hfm
            · split at hfm
              · simp only [Bool.and_eq_true] at hfm; exact hemp hfm.1.1
              · cases hfm
end Go.Proofs.YtlahagabcnmdiaaDoor
end
section
/- Package etf: fault; the writer, four bytes, an atom. -/
open Go Go.RowKit
namespace Go.Proofs.YtlahagabcnmdiaaDoor
set_option linter.unusedVariables false
set_option linter.unusedSimpArgs false

theorem byteV_of (m : Nat) (y : Int) (h : (m : Int) % 256 = y) : byteV (UInt8.ofNat m) = .int .u8 y := by
  unfold byteV
  rw [← h]
  simp
/-- a writer -/
structure WrIs (base g : Nat) (st : Wr) (bv : Value) (w : World) : Prop where
  hg : base ≤ g
  cells : Cells w g 100 [bv, .int .i64 st.part, .int .i64 st.wide]
  buf : BufIs base bv st.b w
def WrRes (base g : Nat) (bv : Value) (w : World) (st : Wr) (w' : World) : Prop :=
  ∃ bv', WrIs base g st bv' w' ∧ Keep (LsK g bv) w w' ∧ ∀ q, bv'.ownBlock = some q → bv.ownBlock = some q ∨ w.heap.size ≤ q
theorem WrIs.ne {base g : Nat} {st : Wr} {bv : Value} {w : World} (h : WrIs base g st bv w) {q : Nat} (hq : bv.ownBlock = some q) : q ≠ g := by
  intro e
  obtain ⟨_, ⟨hv, _⟩ | ⟨g', cap, cur, hv, hbg, hcell, _⟩⟩ := h.buf
  · rw [hv] at hq; cases hq
  · rw [hv] at hq; cases hq
    have hC := h.cells
    unfold Cells at hC
    rw [← e, hcell] at hC
    injection hC with hC
    injection hC with _ h2
    exact absurd h2 (by decide)
theorem WrIs.form {base g : Nat} {st : Wr} {bv : Value} {w : World} (h : WrIs base g st bv w) : ∃ a c, bv = .slice a st.b.length c := by
  rcases h.buf.shape with ⟨rfl, hn⟩ | ⟨g, c, rfl, _⟩
  · exact ⟨none, 0, by rw [hn]; rfl⟩
  · exact ⟨_, c, rfl⟩
theorem WrIs.below {base g : Nat} {st : Wr} {bv : Value} {w w' : World} (h : WrIs base g st bv w) (hb : Below w.heap.size w w') : WrIs base g st bv w' := ⟨h.hg, h.cells.below hb, h.buf.below hb (Nat.le_refl _)⟩
/-- more bytes -/
theorem WrIs.app {base g : Nat} {st : Wr} {bv dv : Value} {d : List UInt8} {w : World} (h : WrIs base g st bv w) (hd : RSl dv d w) (hl : st.b.length + d.length ≤ 140737488355328) :
    ∃ a' n' c' w', (Builtin.append_ #[64, 64] 64 #[bv, dv]).run Tryd.prog w = .ok (.slice a' n' c') w' ∧ Cells w' g 100 [bv, .int .i64 st.part, .int .i64 st.wide] ∧
      WrRes base g bv w ⟨st.b ++ d, st.part, st.wide⟩ (w'.setCell ⟨g, 0, none⟩ (.slice a' n' c')) := by
  have hB : base ≤ w.heap.size := Nat.le_of_lt (Nat.lt_of_le_of_lt h.hg h.cells.lt)
  obtain ⟨v', w', hr, h2, hg, hob⟩ := h.buf.app2 hd hl hB
  obtain ⟨a', n', c', rfl⟩ : ∃ a n c, v' = .slice a n c := by
    rcases h2.shape with ⟨rfl, _⟩ | ⟨_, _, rfl, _⟩ <;> exact ⟨_, _, _, rfl⟩
  have hC := h.cells.grown hg (fun e => h.ne e rfl)
  have hvg : ∀ q, (Value.slice a' n' c').ownBlock = some q → q ≠ g := fun q hq => by
    rcases hob with e | e
    · rw [e] at hq; exact h.ne hq
    · rw [e] at hq; cases hq; have := h.cells.lt; omega
  refine ⟨a', n', c', w', hr, hC, .slice a' n' c', ⟨h.hg, hC.set_ 0 _, h2.frame fun q hq => Below.heap_setCell _ _ _ _ (hvg q hq)⟩, ((Keep.refl _ w).grown hg (fun k hk _ => .inr hk)).setCell (p := ⟨g, 0, none⟩) (fun _ => .inl rfl) _, fun q hq => ?_⟩
  rcases hob with e | e
  · rw [e] at hq; exact .inl hq
  · rw [e] at hq; cases hq; exact .inr (Nat.le_refl _)
theorem WrRes.trans {base g : Nat} {bv : Value} {w w1 w2 : World} {st : Wr} (hg : g < w.heap.size) (hv : ∀ q, bv.ownBlock = some q → q < w.heap.size) {bv1 : Value} (h1 : Keep (LsK g bv) w w1) (hv1 : ∀ q, bv1.ownBlock = some q → bv.ownBlock = some q ∨ w.heap.size ≤ q) (h : WrRes base g bv1 w1 st w2) : WrRes base g bv w st w2 := by
  obtain ⟨bv2, k1, k2, k3⟩ := h
  refine ⟨bv2, k1, h1.trans k2 (fun q hq e => ?_), fun q hq => ?_⟩
  · rcases e with e | e
    · exact .inl e
    · rcases hv1 q e with e | e
      · exact .inr e
      · omega
  · rcases k3 q hq with e | e
    · exact hv1 q e
    · exact .inr (Nat.le_trans h1.size e)
theorem WrIs.lt {base g : Nat} {st : Wr} {bv : Value} {w : World} (h : WrIs base g st bv w) {q : Nat} (hq : LsK g bv q) : q < w.heap.size ∧ base ≤ q := by
  rcases hq with rfl | hq
  · exact ⟨h.cells.lt, h.hg⟩
  · exact ⟨(h.buf.block hq).2, (h.buf.block hq).1⟩
theorem etFault_any (at_ code : Int) (u : Value) (l : List Lk) (w : World) (h : ErrIs w u l) :
    Calls Tryd.prog 47 #[.int .i64 at_, .int .i64 code, u] w fun e w' => ∃ b, e = .returned (.pointer (some ⟨b, 0, none⟩)) ∧ ErrIs w' (.iface 92 (.pointer (some ⟨b, 0, none⟩))) (⟨etfL, at_, code⟩ :: l) ∧ Below w.heap.size w w' := by
  have H1 := Lib.hid (h.cons ⟨etfL, at_, code⟩)
  have HB := Lib.hid ((Below.refl w.heap.size w).alloc (Nat.le_refl _) (.cells #[.string etfL, .int .i64 at_, .int .i64 code, u] 97 (0, 0)))
  have hf := h.form
  unfold etfL at *
  obtain ⟨rfl, rfl⟩ | ⟨hne, b, rfl⟩ := hf
  all_goals
    clear h
    try clear hne
    go_enter Tryd.func47, Tryd.ntmps47
    go_wp2
    go_ret
    exact ⟨_, rfl, H1.out, HB.out⟩
set_option maxHeartbeats 4000000 in
set_option maxRecDepth 100000 in
theorem etFour_any {base g : Nat} {st : Wr} {bv : Value} (n : Int) (w : World) (h : WrIs base g st bv w) (h0 : 0 ≤ n) (h1 : n < 4294967296) (hl : st.b.length ≤ 1000000000) :
    Calls Tryd.prog 67 #[.pointer (some ⟨g, 0, none⟩), .int .u32 n] w fun e w' => e = .returned (.tuple #[]) ∧ WrRes base g bv w ⟨st.b ++ fourB n, st.part, st.wide⟩ w' := by
  have HW := Lib.hid h
  obtain ⟨a, c, rfl⟩ := h.form
  have c0 := h.cells.cell 0
  simp only [List.getElem?_cons_zero] at c0
  clear h
  go_enter Tryd.func67, Tryd.ntmps67
  have HB := Lib.hid ((Below.refl w.heap.size w).alloc (Nat.le_refl _) (.cells #[.int .u8 (n / 16777216), .int .u8 (n / 65536 % 256), .int .u8 (n / 256 % 256), .int .u8 (n % 256)] 5 (0, 0)))
  have HD := Lib.hid (show RSl (.slice (some ⟨w.heap.size, 0, none⟩) 4 4) (fourB n) (w.alloc (.cells #[.int .u8 (n / 16777216), .int .u8 (n / 65536 % 256), .int .u8 (n / 256 % 256), .int .u8 (n % 256)] 5 (0, 0))) from by
    have h2 := (BufIs.lit (base := 0) (w := w) (fourB n) (Nat.zero_le _) (by simp [fourB, maxLen])).rsl
    have e : (bytesV (fourB n)).toArray = #[.int .u8 (n / 16777216), .int .u8 (n / 65536 % 256), .int .u8 (n / 256 % 256), .int .u8 (n % 256)] := by
      have q1 : byteV (UInt8.ofNat (n.toNat / 16777216)) = .int .u8 (n / 16777216) := byteV_of _ _ (by omega)
      have q2 : byteV (UInt8.ofNat (n.toNat / 65536)) = .int .u8 (n / 65536 % 256) := byteV_of _ _ (by omega)
      have q3 : byteV (UInt8.ofNat (n.toNat / 256)) = .int .u8 (n / 256 % 256) := byteV_of _ _ (by omega)
      have q4 : byteV (UInt8.ofNat n.toNat) = .int .u8 (n % 256) := byteV_of _ _ (by omega)
      simp only [fourB, bytesV, List.map_cons, List.map_nil, q1, q2, q3, q4]
    rw [e] at h2
    exact h2)
  have hlit : 0 < 1 := by decide
  obtain ⟨a', n', c', w', hr, hC, hres⟩ := (HW.out.below HB.out).app HD.out (by have : (fourB n).length = 4 := rfl; omega)
  have HR := Lib.hid hr
  have HC := Lib.hid hC
  have HRES := Lib.hid hres
  clear hr hC hres hlit
  go_wp2_with (at_builtin; refine stop ?_)
  refine Stopped.of ?_
  refine wp_app_eq rfl (.tmp 8) (.tmp 20) _ _ rfl _ _ (.slice a' n' c') w' rfl rfl HR.out ?_
  have d0 := HC.out.cell 0
  have f0 := HC.out.frozen 0
  simp only [List.getElem?_cons_zero] at d0
  go_wp2
  go_end0
  exact ⟨rfl, WrRes.trans HW.out.cells.lt (fun q hq => (HW.out.buf.block hq).2) (keepB HB.out) (fun q hq => .inl hq) HRES.out⟩
theorem RSl.lit (w : World) (l : List UInt8) (hl : l.length ≤ maxLen) : RSl (.slice (some ⟨w.heap.size, 0, none⟩) l.length l.length) l (w.alloc (.cells (bytesV l).toArray 5 (0, 0))) := (BufIs.lit (base := 0) (w := w) l (Nat.zero_le _) hl).rsl
theorem WrIs.appStr {base g : Nat} {st : Wr} {bv : Value} {w : World} (h : WrIs base g st bv w) (s : ByteArray) (hl : st.b.length + s.size ≤ 140737488355328) :
    ∃ a' n' c' w', (Builtin.append_ #[64, 9] 64 #[bv, .string s]).run Tryd.prog w = .ok (.slice a' n' c') w' ∧ Cells w' g 100 [bv, .int .i64 st.part, .int .i64 st.wide] ∧
      WrRes base g bv w ⟨st.b ++ s.data.toList, st.part, st.wide⟩ (w'.setCell ⟨g, 0, none⟩ (.slice a' n' c')) := by
  have hB : base ≤ w.heap.size := Nat.le_of_lt (Nat.lt_of_le_of_lt h.hg h.cells.lt)
  obtain ⟨v', w', hr, h2, hg, hob⟩ := h.buf.appStr s hl hB
  obtain ⟨a', n', c', rfl⟩ : ∃ a n c, v' = .slice a n c := by
    rcases h2.shape with ⟨rfl, _⟩ | ⟨_, _, rfl, _⟩ <;> exact ⟨_, _, _, rfl⟩
  have hC := h.cells.grown hg (fun e => h.ne e rfl)
  have hvg : ∀ q, (Value.slice a' n' c').ownBlock = some q → q ≠ g := fun q hq => by
    rcases hob with e | e
    · rw [e] at hq; exact h.ne hq
    · rw [e] at hq; cases hq; have := h.cells.lt; omega
  refine ⟨a', n', c', w', hr, hC, .slice a' n' c', ⟨h.hg, hC.set_ 0 _, h2.frame fun q hq => Below.heap_setCell _ _ _ _ (hvg q hq)⟩, ((Keep.refl _ w).grown hg (fun k hk _ => .inr hk)).setCell (p := ⟨g, 0, none⟩) (fun _ => .inl rfl) _, fun q hq => ?_⟩
  rcases hob with e | e
  · rw [e] at hq; exact .inl hq
  · rw [e] at hq; cases hq; exact .inr (Nat.le_refl _)
set_option maxHeartbeats 4000000 in
set_option maxRecDepth 100000 in
theorem etAtom_any {base g : Nat} {st : Wr} {bv : Value} (s : ByteArray) (w : World) (h : WrIs base g st bv w) (hs : s.size ≤ 255) (hl : st.b.length ≤ 1000000000) :
    Calls Tryd.prog 68 #[.pointer (some ⟨g, 0, none⟩), .string s] w fun e w' => e = .returned (.tuple #[]) ∧ WrRes base g bv w ⟨st.b ++ atomB s, st.part, st.wide⟩ w' := by
  have HW := Lib.hid h
  obtain ⟨a, c, rfl⟩ := h.form
  have c0 := h.cells.cell 0
  simp only [List.getElem?_cons_zero] at c0
  clear h
  go_enter Tryd.func68, Tryd.ntmps68
  have HB := Lib.hid ((Below.refl w.heap.size w).alloc (Nat.le_refl _) (.cells #[.int .u8 119, .int .u8 s.size] 5 (0, 0)))
  have HD := Lib.hid (show RSl (.slice (some ⟨w.heap.size, 0, none⟩) 2 2) [119, UInt8.ofNat s.size] (w.alloc (.cells #[.int .u8 119, .int .u8 s.size] 5 (0, 0))) from by
    have h2 := RSl.lit w [119, UInt8.ofNat s.size] (by simp [maxLen])
    have e : (bytesV [119, UInt8.ofNat s.size]).toArray = #[.int .u8 119, .int .u8 s.size] := by
      have q1 : byteV (UInt8.ofNat s.size) = .int .u8 s.size := byteV_of _ _ (by omega)
      simp only [bytesV, List.map_cons, List.map_nil, q1]
      rfl
    rw [e] at h2
    exact h2)
  obtain ⟨a', n', c', w', hr, hC, hres⟩ := (HW.out.below HB.out).app HD.out (by simp; omega)
  have HR := Lib.hid hr
  have HC := Lib.hid hC
  obtain ⟨v2, hw2, hk2, hv2⟩ := WrRes.trans HW.out.cells.lt (fun q hq => (HW.out.buf.block hq).2) (keepB HB.out) (fun q hq => .inl hq) hres
  obtain ⟨a3, n3, c3, w3, hr3, hC3, hres3⟩ := hw2.appStr s (by simp; omega)
  obtain ⟨a2, c2, rfl⟩ := hw2.form
  generalize (List.length (st.b ++ [119, UInt8.ofNat s.size])) = n2 at *
  have HR3 := Lib.hid hr3
  have HC3 := Lib.hid hC3
  have e2 := hw2.cells.cell 0
  have HRES := Lib.hid (WrRes.trans HW.out.cells.lt (fun q hq => (HW.out.buf.block hq).2) hk2 hv2 hres3)
  simp only [List.getElem?_cons_zero] at e2
  clear hr hC hres hr3 hC3 hres3 hw2 hk2 hv2
  go_wp2_with (at_builtin; refine stop ?_)
  refine Stopped.of ?_
  refine wp_app_eq rfl (.tmp 8) (.tmp 12) _ _ rfl _ _ (.slice a' n' c') w' rfl rfl HR.out ?_
  have d0 := HC.out.cell 0
  have f0 := HC.out.frozen 0
  simp only [List.getElem?_cons_zero] at d0
  go_wp2_with (at_builtin; refine stop ?_)
  refine Stopped.of ?_
  refine wp_app_eq rfl (.tmp 20) (.tmp 21) _ _ rfl _ _ (.slice a3 n3 c3) w3 rfl rfl HR3.out ?_
  have d3 := HC3.out.cell 0
  have f3 := HC3.out.frozen 0
  simp only [List.getElem?_cons_zero] at d3
  go_wp2
  go_end0
  exact ⟨rfl, by have := HRES.out; simpa [atomB] using this⟩
end Go.Proofs.YtlahagabcnmdiaaDoor
end
