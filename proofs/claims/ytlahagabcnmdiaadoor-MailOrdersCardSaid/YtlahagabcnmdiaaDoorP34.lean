/- Texts laid together: MaR, OrA, OrB. -/
import Derived.Test.YtlahagabcnmdiaaDoorP32
import Derived.Test.YtlahagabcnmdiaaDoorP33
import Derived.Shelf.Abstract
import Derived.Test.YtlahagabcnmdiaaDoorP24
import Derived.Test.YtlahagabcnmdiaaDoorP29
section
/- Package mail: All. Printed by wip/mar.py. -/
open Go Go.RowKit
namespace Go.Proofs.YtlahagabcnmdiaaDoor
set_option linter.unusedVariables false
set_option linter.unusedSimpArgs false

def RetAll (w : World) (l : List Tm) (e : Ending) (w' : World) : Prop := ∃ v, e = .returned v ∧ TsIs w.heap.size (fun q => w.heap.size ≤ q) v l w' ∧ Below w.heap.size w w'
/-- what holds between two rounds -/
def AllJ (l : List Tm) (g : Nat) (w : World) (L : Nat) (k : Nat) (W : World) : Prop :=
  Below w.heap.size w W ∧ Cells W (w.heap.size + 1) 23 [.pointer (some ⟨g, 0, none⟩)] ∧ ∃ v S, LsAt w.heap.size w.heap.size 28 [v] 0 v S (l.take k) W ∧ ∀ q, S q → q ≠ L ∧ q + 1 ≠ L
theorem AllJ.below {l : List Tm} {g L k : Nat} {w W W' : World} (h : AllJ l g w L k W) (hb : Below W.heap.size W W') : AllJ l g w L k W' := by
  obtain ⟨h1, h2, v, S, h3, h4⟩ := h
  exact ⟨h1.trans (hb.mono h1.size), h2.below hb, v, S, h3.below hb, h4⟩
theorem not_loop {W : World} {q L : Nat} {cs : Array Value} {t : TypeId} {f : Nat × Nat} {r : Loop} (h : W.heap[q]? = some (.cells cs t f)) (hL : W.heap[L]? = some (.loop r)) : q ≠ L := by
  intro e; rw [e, hL] at h; injection h with h; cases h
theorem not_deferred {W : World} {q L : Nat} {cs : Array Value} {t : TypeId} {f : Nat × Nat} {r : Option (List Deferred)} (h : W.heap[q]? = some (.cells cs t f)) (hL : W.heap[L]? = some (.deferred r)) : q ≠ L := by
  intro e; rw [e, hL] at h; injection h with h; cases h
theorem keepPut (W : World) (L : Nat) (o : Obj) : Keep (Blk1 L) W (W.putObj L o) :=
  ⟨rfl, rfl, rfl, by rw [World.putObj_size]; exact Nat.le_refl _, fun k _ hk => World.putObj_heap_other (fun e => hk e)⟩
theorem AllJ.put {l : List Tm} {g L k : Nat} {w W : World} {r : Loop} (o : Loop) (hwL : w.heap.size ≤ L) (h : AllJ l g w L k W) (hL : W.heap[L]? = some (.loop r)) : AllJ l g w L k (W.putObj L (.loop o)) := by
  obtain ⟨h1, h2, v, S, h3, h4⟩ := h
  refine ⟨?_, h2.keep (keepPut _ _ _) (not_loop h2 hL), v, S, h3.keep (keepPut _ _ _) (not_loop h3.cells hL) (fun q hq => ?_) (fun q hq => (h4 q hq).1), h4⟩
  · exact below_keep h1 (keepPut W L _) h1.size (fun k hk => by rw [show k = L from hk]; exact hwL)
  · obtain ⟨_, _, cur, hcur⟩ := h3.rows.block hq
    exact not_loop hcur hL
theorem AllJ.next {l : List Tm} {g L k : Nat} {w W0 W : World} {v v2 : Value} {S S2 : Nat → Prop} (hk : k < l.length) (hwL : L < W0.heap.size) (hb : Below w.heap.size w W0) (hM : Cells W0 (w.heap.size + 1) 23 [.pointer (some ⟨g, 0, none⟩)])
    (h0 : LsAt w.heap.size w.heap.size 28 [v] 0 v S (l.take k) W0) (hS : ∀ q, S q → q ≠ L ∧ q + 1 ≠ L) (K : Keep (LsK w.heap.size v) W0 W)
    (h : LsAt w.heap.size w.heap.size 28 ([v].set 0 v2) 0 v2 S2 (l.take k ++ [l[k]]) W) (hS2 : ∀ q, S2 q → S q ∨ W0.heap.size ≤ q) : AllJ l g w L (k + 1) W := by
  refine ⟨below_keep hb K hb.size (fun q hq => ?_), hM.keep K ?_, v2, S2, ?_, fun q hq => ?_⟩
  · rcases hq with e | e
    · rw [e]; exact Nat.le_refl _
    · exact (h0.hv q e).1
  · rintro (e | e)
    · omega
    · obtain ⟨_, _, cur, hcur⟩ := h0.rows.block e
      unfold Cells at hM
      rw [hM] at hcur
      injection hcur with hcur
      injection hcur with _ h2
      exact absurd h2 (by decide)
  · rw [List.take_succ_eq_append_getElem hk]; exact h
  · rcases hS2 q hq with h1 | h1
    · exact hS q h1
    · omega
set_option maxHeartbeats 8000000 in
set_option maxRecDepth 100000 in
theorem mAll_live {F : Nat → Prop} {g : Nat} {b : Bx} (w : World) (h : BxIs F g b w) :
    Calls Tryd.prog 14 #[.pointer (some ⟨g, 0, none⟩)] w (RetAll w b.l) := by
  obtain ⟨lv, hC, hT, _⟩ := h.upd
  have hl46 := h.2.1
  obtain ⟨a, c, rfl⟩ := hT.form
  obtain ⟨vss, hV⟩ := hT.vals
  have HC := Lib.hid hC
  have HV := Lib.hid hV
  have HO := Lib.hid (mOk_live w hC)
  have HL46 := Lib.hid hl46
  have B1 := Lib.hid ((Below.refl w.heap.size w).alloc (Nat.le_refl _) (.cells #[.slice none 0 0] 28 (0, 0)))
  have C1 := Lib.hid (Cells.new w 28 [.slice none 0 0])
  have B2 := Lib.hid (B1.out.alloc (by simp) (.cells #[.pointer (some ⟨g, 0, none⟩)] 23 (0, 0)))
  have C2 := Lib.hid (C1.out.alloc (.cells #[.pointer (some ⟨g, 0, none⟩)] 23 (0, 0)))
  have M2 := Lib.hid (Cells.new (w.alloc (.cells #[.slice none 0 0] 28 (0, 0))) 23 [.pointer (some ⟨g, 0, none⟩)])
  clear hC hT hV h hl46
  refine calls_of_marks Tryd.func14 rfl ?_
  simp only [Tryd.ntmps14, List.size_toArray, List.length_cons, List.length_nil, Nat.reduceAdd, Nat.reduceSub, Array.replicate_succ, Array.replicate_zero, List.push_toArray, List.append_toArray, List.nil_append, List.cons_append]
  go_wp2_with fail
  refine HO.out.mono ?_
  rintro e w1 ⟨rfl, rfl⟩
  go_wp2_with fail
  refine (messages_any g _).mono ?_
  rintro e w2 ⟨rfl, rfl⟩
  go_wp2
  have HSZ := Lib.hid (show ((w.alloc (.cells #[.slice none 0 0] 28 (0, 0))).alloc (.cells #[.pointer (some ⟨g, 0, none⟩)] 23 (0, 0))).heap.size = w.heap.size + 2 by simp)
  have J0 := Lib.hid (show AllJ b.l g w (w.heap.size + 3) 0 ((w.alloc (.cells #[.slice none 0 0] 28 (0, 0))).alloc (.cells #[.pointer (some ⟨g, 0, none⟩)] 23 (0, 0))) from
    ⟨B2.out, by simpa using M2.out, _, _, LsAt.nil C2.out rfl, fun _ h => h.elim⟩)
  clear B1 C1 B2 C2 M2
  generalize (w.alloc (.cells #[.slice none 0 0] 28 (0, 0))).alloc (.cells #[.pointer (some ⟨g, 0, none⟩)] 23 (0, 0)) = wr at *
  refine wp_rangeFunc_all (gf := 55) (lb := #[.pointer (some ⟨w.heap.size + 1, 0, none⟩)]) rfl (Go.Proofs.enters_of Tryd.func55 (by kernel_rfl) rfl) (AllJ b.l g w (w.heap.size + 3)) b.l.length (fun k => #[.agg (vss k).toArray]) (fun _ => rfl)
    (fun k W W' h hb => h.below hb) (fun k W r o h hL => by rw [HSZ.out] at hL ⊢; exact h.put o (by omega) hL) J0.out ?hit ?round ?done
  case hit =>
    intro l J' hb hJ W h0 hY
    exact messages1_in g (w.heap.size + 1) l b a c _ vss J' w HL46.out HC.out (fun k W h => (hJ k W h).2.1) HV.out (fun k W h => (hJ k W h).1) hb W h0 hY
  case done =>
    intro W hJ hD
    rw [HSZ.out] at hD
    obtain ⟨hb, hm, v, S, hls, hsl⟩ := hJ
    have c0 := hls.cells.cell 0
    simp only [List.getElem?_cons_zero] at c0
    have HLS := Lib.hid hls
    have HSL := Lib.hid hsl
    have HD := Lib.hid hD
    have HB := Lib.hid hb
    clear hb hm hls hsl hD
    go_wp2
    refine ⟨by simp, .inl ⟨_, _, rfl, run_takeDeferred (by rw [HSZ.out]; exact HD.out), ?_⟩⟩
    refine ⟨_, results_tmp rfl _ _ _, v, rfl, ?_, ?_⟩
    · have h1 := HLS.out.keep (keepPut W (w.heap.size + 2) (.deferred none)) (not_deferred HLS.out.cells HD.out) (fun q hq => by
        obtain ⟨_, _, cur, hcur⟩ := HLS.out.rows.block hq
        exact not_deferred hcur HD.out) (fun q hq e => (HSL.out q hq).2 (by have e : q = w.heap.size + 2 := e; omega))
      have h2 := h1.rows
      rw [List.take_length] at h2
      rw [HSZ.out]
      exact h2.mono (Nat.le_refl _) (fun q _ hq => (HLS.out.hS q hq).1)
    · rw [HSZ.out]
      exact below_keep HB.out (keepPut W (w.heap.size + 2) _) HB.out.size (fun q (e : q = _) => by omega)
  case round =>
    intro k W hk hJ ⟨r, hL⟩ ⟨od, hD⟩
    rw [HSZ.out] at hL hD ⊢
    obtain ⟨row, c', hv, hcs, ht⟩ := HV.out k hk
    obtain ⟨_, nv, a2, cap2, hvs, hnn, _⟩ := ht.parts
    obtain ⟨na2, nc2, rfl, _, _⟩ := hnn.slice
    rw [hvs] at ht
    have HTM := Lib.hid ht
    have HJ := Lib.hid hJ
    have HL := Lib.hid hL
    have HD := Lib.hid hD
    have HK := Lib.hid hk
    simp only [hvs]
    clear hv hcs ht hvs hnn hJ hL hD
    refine region_round_list ?_ (by rintro ⟨_, _, h⟩; exact h) ?_
    · kernel_rfl
    go_wp2
    refine ⟨(Below.refl _ _).alloc (Nat.le_refl _) _, fun o => ?_⟩
    have HA := Lib.hid ((Below.refl W.heap.size W).alloc (Nat.le_refl _) (.cells #[.int .i64 b.l[k].kind, .int .i64 b.l[k].int, .string b.l[k].text, .int .u32 b.l[k].cr, .slice na2 b.l[k].nums.length nc2, .slice a2 b.l[k].args.length cap2] 30 (0, 0)))
    have HL1 := Lib.hid ((HA.out.block _ (Array.getElem?_eq_some_iff.1 HL.out).1).trans HL.out)
    have HD1 := Lib.hid ((HA.out.block _ (Array.getElem?_eq_some_iff.1 HD.out).1).trans HD.out)
    have HJ1 := Lib.hid ((HJ.out.below HA.out).put o (by omega) HL1.out)
    have HNL := Lib.hid (show W.heap.size ≠ w.heap.size + 2 + 1 from fun e => by have := (Array.getElem?_eq_some_iff.1 HL.out).1; omega)
    have HND := Lib.hid (show W.heap.size ≠ w.heap.size + 2 from fun e => by have := (Array.getElem?_eq_some_iff.1 HD.out).1; omega)
    have CT1 := Lib.hid (show Cells _ W.heap.size 30 [.int .i64 b.l[k].kind, .int .i64 b.l[k].int, .string b.l[k].text, .int .u32 b.l[k].cr, .slice na2 b.l[k].nums.length nc2, .slice a2 b.l[k].args.length cap2] from (Cells.new W 30 [.int .i64 b.l[k].kind, .int .i64 b.l[k].int, .string b.l[k].text, .int .u32 b.l[k].cr, .slice na2 b.l[k].nums.length nc2, .slice a2 b.l[k].args.length cap2]).keep (keepPut _ (w.heap.size + 2 + 1) (.loop o)) HNL.out)
    have HL2 := Lib.hid (World.putObj_heap_same (o := .loop o) (Array.getElem?_eq_some_iff.1 HL1.out).1)
    have HD2 := Lib.hid ((World.putObj_heap_other (w := W.alloc (.cells #[.int .i64 b.l[k].kind, .int .i64 b.l[k].int, .string b.l[k].text, .int .u32 b.l[k].cr, .slice na2 b.l[k].nums.length nc2, .slice a2 b.l[k].args.length cap2] 30 (0, 0))) (r := w.heap.size + 2 + 1) (o := .loop o) (show w.heap.size + 2 ≠ w.heap.size + 2 + 1 by omega)).trans HD1.out)
    have HWW := Lib.hid (show w.heap.size < W.heap.size from by have := (Array.getElem?_eq_some_iff.1 HL.out).1; omega)
    obtain ⟨_, _, v, S, hls0, hsl⟩ := HJ.out
    have HOB := Lib.hid (fun q (hq : v.ownBlock = some q) => (hls0.rows.block hq).2.1)
    have HLX := Lib.hid ((hls0.below HA.out).keep (keepPut _ (w.heap.size + 2 + 1) (.loop o)) (not_loop (hls0.below HA.out).cells HL1.out) (fun q hq => by
        obtain ⟨_, _, cur, hcur⟩ := (hls0.below HA.out).rows.block hq
        exact not_loop hcur HL1.out) (fun q hq => (hsl q hq).1))
    clear HA HL1 HD1 HJ HNL HND hls0
    generalize (W.alloc (.cells #[.int .i64 b.l[k].kind, .int .i64 b.l[k].int, .string b.l[k].text, .int .u32 b.l[k].cr, .slice na2 b.l[k].nums.length nc2, .slice a2 b.l[k].args.length cap2] 30 (0, 0))).putObj (w.heap.size + 2 + 1) (.loop o) = wx at *
    obtain ⟨BX, MX, _⟩ := HJ1.out
    obtain ⟨a4, c4, rfl, -, -⟩ := HLX.out.form
    have hls := HLX.out
    have HTK := Lib.hid (show (b.l.take k).length = k by rw [List.length_take]; omega)
    rw [HTK.out] at hls HOB
    have HLS := Lib.hid hls
    have HBX := Lib.hid BX
    have HFIN := Lib.hid (show ∀ W3 v2 S2, Keep (LsK w.heap.size (.slice a4 k c4)) wx W3 → LsAt w.heap.size w.heap.size 28 [v2] 0 v2 S2 (b.l.take k ++ [b.l[k]]) W3 → (∀ q, S2 q → S q ∨ wx.heap.size ≤ q) →
        Exit.normal = Exit.normal ∧ AllJ b.l g w (w.heap.size + 3) (k + 1) W3 ∧ W3.heap[w.heap.size + 2 + 1]? = wx.heap[w.heap.size + 2 + 1]? ∧ W3.heap[w.heap.size + 2]? = wx.heap[w.heap.size + 2]? from fun W3 v2 S2 K L6 h2 =>
      ⟨rfl, AllJ.next hk (Array.getElem?_eq_some_iff.1 HL2.out).1 BX MX hls hsl K L6 h2,
        K.block _ (Array.getElem?_eq_some_iff.1 HL2.out).1 (fun e => by
          rcases e with e | e
          · omega
          · obtain ⟨_, _, cur, hcur⟩ := hls.rows.block e
            exact not_loop hcur HL2.out rfl),
        K.block _ (Array.getElem?_eq_some_iff.1 HD2.out).1 (fun e => by
          rcases e with e | e
          · omega
          · obtain ⟨_, _, cur, hcur⟩ := hls.rows.block e
            exact not_deferred hcur HD2.out rfl)⟩)
    have HNB := Lib.hid (show ¬ LsK w.heap.size (.slice a4 k c4) W.heap.size from fun e => by
      rcases e with e | e
      · have := HWW.out; omega
      · exact Nat.lt_irrefl _ (HOB.out _ e))
    have hx0 : (0 : Int) ≤ (k : Int) := by omega
    have hx1 : (k : Int) < (k : Int) + 1 := by omega
    have HLEN := Lib.hid (show (b.l.take k).length < 1000000000000 from by rw [HTK.out]; have := HL46.out; omega)
    clear BX MX hls hsl HJ1 HL2 HD2 HLX HOB
    refine wpIn_block ?_
    refine region_round (S := fun X => Cells X W.heap.size 30 [.int .i64 b.l[k].kind, .int .i64 b.l[k].int, .string b.l[k].text, .int .u32 b.l[k].cr, .slice na2 b.l[k].nums.length nc2, .slice a2 b.l[k].args.length cap2]) (by kernel_rfl) (by rintro ⟨_, _, h, _⟩; cases h) (by kernel_rfl) (CT1.out.drew) (fun hHeld => ?_)
    refine wpAnyH_take (i := 1) (v := (.agg #[.int .i64 b.l[k].kind, .int .i64 b.l[k].int, .string b.l[k].text, .int .u32 b.l[k].cr, .slice na2 b.l[k].nums.length nc2, .slice a2 b.l[k].args.length cap2])) (by simp only [List.getElem?_toArray, List.getElem?_cons_succ, List.getElem?_cons_zero]; rfl) (by kernel_rfl) (by kernel_rfl) (by kernel_rfl) (by exact fun _ _ _ h => h) (Or.inl ⟨by rfl, by intro W hSw; have x0 := hSw.cell 0; have x1 := hSw.cell 1; have x2 := hSw.cell 2; have x3 := hSw.cell 3; have x4 := hSw.cell 4; have x5 := hSw.cell 5; go_simp; all_goals first | rfl | exact ⟨rfl, rfl, rfl, rfl, rfl, rfl⟩⟩) (by assumption) ?_
    try simp only [Act.put, List.setIfInBounds_toArray, List.set_cons_zero, List.set_cons_succ]
    have KD := Lib.hid (show Keep (LsK w.heap.size (.slice a4 k c4)) wx wx.drew from (Keep.refl _ wx).drew)
    have HLSD := Lib.hid (HLS.out.below (Below.drew (Below.refl _ wx)))
    have HBXD := Lib.hid (HBX.out.drew)
    have HSZX := Lib.hid (show wx.drew.heap.size = wx.heap.size from rfl)
    generalize wx.drew = w0 at *
    have BW := Lib.hid (Below.refl w0.heap.size w0)
    have HCT := Lib.hid hHeld
    refine wpAnyH_ready (rs := [0, 2, 4]) (by kernel_rfl) (by simp) ?_
    refine AllReadyH.cons (by simp only [List.getElem?_toArray, List.getElem?_cons_succ, List.getElem?_cons_zero]; rfl) (fun K hK => ?_) ?_
    · have c1 : w0.cell? ⟨w.heap.size, 0, none⟩ = some (.slice a4 k c4) := by have := (HLSD.out.cells.below BW.out).cell 0; rw [this]; exact HLSD.out.at_
      go_simp
      clear c1
      refine hK.out _ _ (hHeld) (fun hHeld => ?_)
      try simp only [Act.put, List.setIfInBounds_toArray, List.set_cons_zero, List.set_cons_succ]
      refine wpAnyH_take (i := 3) (v := (.int .i64 k)) (by simp only [List.getElem?_toArray, List.getElem?_cons_succ, List.getElem?_cons_zero]; rfl) (by kernel_rfl) (by kernel_rfl) (by kernel_rfl) (by exact fun _ _ _ h => h) (Or.inl ⟨by rfl, by intro W hSw; go_simp; all_goals first | rfl | exact ⟨rfl, rfl, rfl, rfl, rfl, rfl⟩⟩) (by assumption) ?_
      try simp only [Act.put, List.setIfInBounds_toArray, List.set_cons_zero, List.set_cons_succ]
      refine wpAnyH_ready (rs := [2, 4]) (by kernel_rfl) (by simp) ?_
      refine AllReadyH.cons (by simp only [List.getElem?_toArray, List.getElem?_cons_succ, List.getElem?_cons_zero]; rfl) (fun K hK => ?_) ?_
      · go_simp
        refine (copy_any _ b.l[k] [.int .i64 b.l[k].kind, .int .i64 b.l[k].int, .string b.l[k].text, .int .u32 b.l[k].cr, .slice na2 b.l[k].nums.length nc2, .slice a2 b.l[k].args.length cap2] w0 (HTM.out.below (HBXD.out.trans (BW.out.mono HBXD.out.size)))).mono ?_
        rintro e w11 ⟨vs3, rfl, ht3, hb3⟩
        obtain ⟨_, nv3, a3, cap3, rfl, hnn3, _⟩ := id ht3.parts
        obtain ⟨na3, nc3, rfl, _, _⟩ := hnn3.slice
        clear hnn3
        obtain ⟨SC, hSC⟩ : ∃ SC : Nat → Prop, ∀ q, SC q ↔ (w0.heap.size ≤ q ∧ q < w11.heap.size) := ⟨_, fun _ => Iff.rfl⟩
        have TW := Lib.hid (ht3.mono (S' := SC) (fun q hlt hq => (hSC q).2 ⟨hq, hlt⟩))
        have HSC := Lib.hid (show ∀ q, SC q → w0.heap.size ≤ q ∧ q < w11.heap.size from fun q hq => ⟨Nat.le_trans BW.out.size ((hSC q).1 hq).1, ((hSC q).1 hq).2⟩)
        have BW := Lib.hid (BW.out.trans (hb3.mono BW.out.size))
        have hHeld := hHeld.below hb3
        clear hSC ht3 hb3
        refine hK.out _ _ (hHeld) (fun hHeld => ?_)
        try simp only [Act.put, List.setIfInBounds_toArray, List.set_cons_zero, List.set_cons_succ]
        refine wpAnyH_ready (rs := [4]) (by kernel_rfl) (by simp) ?_
        refine AllReadyH.cons (by simp only [List.getElem?_toArray, List.getElem?_cons_succ, List.getElem?_cons_zero]; rfl) (fun K hK => ?_) AllReadyH.nil
        go_simp
        have ZW := Lib.hid (show Cells (w11.alloc (.cells #[.int .i64 0, .int .i64 0, .string ⟨#[]⟩, .int .u32 0, .slice none 0 0, .slice none 0 0] 30)) w11.heap.size 30 termZ from Cells.new w11 30 termZ)
        have BA := Lib.hid ((Below.refl _ _).alloc (Nat.le_refl w11.heap.size) (.cells #[.int .i64 0, .int .i64 0, .string ⟨#[]⟩, .int .u32 0, .slice none 0 0, .slice none 0 0] 30 (0, 0)))
        have TW := Lib.hid (TW.out.below BA.out)
        have HSC := Lib.hid (fun q (hq : SC q) => (⟨(HSC.out q hq).1, Nat.lt_of_lt_of_le (HSC.out q hq).2 BA.out.size⟩ : w0.heap.size ≤ q ∧ _))
        have BW := Lib.hid (BW.out.trans (BA.out.mono BW.out.size))
        refine hK.out _ _ (hHeld.below BA.out) (fun hHeld => ?_)
        try simp only [Act.put, List.setIfInBounds_toArray, List.set_cons_zero, List.set_cons_succ]
        clear BA
        generalize (w11.alloc (.cells #[.int .i64 0, .int .i64 0, .string ⟨#[]⟩, .int .u32 0, .slice none 0 0, .slice none 0 0] 30)) = w22 at *
        have PS := Lib.hid (ls_app (HLSD.out.below BW.out) HLEN.out (Nat.le_trans HBXD.out.size BW.out.size) ZW.out TW.out (fun q hq => ⟨Nat.le_trans HBXD.out.size (HSC.out q hq).1, (HSC.out q hq).2, fun e => Nat.lt_irrefl _ (Nat.lt_of_lt_of_le (e ▸ HLSD.out.cells.lt) (HSC.out q hq).1), fun e => Nat.lt_irrefl _ (Nat.lt_of_lt_of_le (HLSD.out.rows.block e).2.1 (HSC.out q hq).1)⟩))
        replace PS := Lib.hid (by have h := PS.out; unfold LsEnd at h; rw [HTK.out] at h; exact h)
        obtain ⟨kk, cc, W2, hrun, hcc, hcm, ⟨hkb, hkg⟩, hK2, hC2, HA, HBB⟩ := PS.out
        have HRUN := Lib.hid hrun
        have HA := Lib.hid HA
        have HBB := Lib.hid HBB
        have KW := Lib.hid (Keep.of_below (B := w0.heap.size) BW.out (Nat.le_refl _) (LsK w.heap.size (.slice a4 k c4)))
        clear PS hrun
        have C2 := Lib.hid hC2
        have K2 := Lib.hid (KW.out.trans hK2 (fun _ _ h => h))
        clear hC2 hK2
        refine wpAnyH_ready (rs := [5]) (by kernel_rfl) (by simp) ?_
        refine AllReadyH.cons (by simp only [List.getElem?_toArray, List.getElem?_cons_succ, List.getElem?_cons_zero]; rfl) (fun K hK => ?_) AllReadyH.nil
        refine step_app_eq (by rfl) _ _ _ _ (by rfl) _ _ (.slice (some ⟨kk, 0, none⟩) (k + 1) cc) W2 (by rfl) (by rfl) HRUN.out ?_
        refine hK.out _ _ (HCT.out.keep (K2.out) HNB.out) (fun hHeld => ?_)
        try simp only [Act.put, List.setIfInBounds_toArray, List.set_cons_zero, List.set_cons_succ]
        refine wpAnyH_take (i := 6) (v := (.pointer (some ⟨kk, k * 6, none⟩))) (by simp only [List.getElem?_toArray, List.getElem?_cons_succ, List.getElem?_cons_zero]; rfl) (by kernel_rfl) (by kernel_rfl) (by kernel_rfl) (by exact fun _ _ _ h => h) (Or.inl ⟨by rfl, by intro W hSw; have x0 := hx0; have x1 := hx1; go_simp; all_goals first | rfl | exact ⟨rfl, rfl, rfl, rfl, rfl, rfl⟩⟩) (by assumption) ?_
        try simp only [Act.put, List.setIfInBounds_toArray, List.set_cons_zero, List.set_cons_succ]
        refine wpAnyH_ready (rs := [7, 8]) (by kernel_rfl) (by simp) ?_
        refine AllReadyH.cons (by simp only [List.getElem?_toArray, List.getElem?_cons_succ, List.getElem?_cons_zero]; rfl) (fun K hK => ?_) ?_
        · obtain ⟨cs, hcs, hcl, hf⟩ := HA.out
          refine step_store_blk (by rfl) _ (.tmp 17) (.tmp 13) (by rfl) kk (k * 6) [.int .i64 b.l[k].kind, .int .i64 b.l[k].int, .string b.l[k].text, .int .u32 b.l[k].cr, .slice na3 b.l[k].nums.length nc3, .slice a3 b.l[k].args.length cap3] (by rfl) (by rfl) (by kernel_rfl) (by simp [Value.oneCell']) 30 cs hcs hcl ?_
          intro w30 hC30 hg30
          obtain ⟨K5, C5, K6, S2, hS2, L6⟩ := hf w30 hC30 hg30
          have K5 := Lib.hid (KW.out.trans K5 (fun _ _ h => h))
          have K6 := Lib.hid (KW.out.trans K6 (fun _ _ h => h))
          have L6 := Lib.hid L6
          have HS2 := Lib.hid hS2
          have C5 := Lib.hid C5
          clear hC30 hg30 hcs hcl hf hS2
          refine hK.out _ _ (HCT.out.keep (K5.out) HNB.out) (fun hHeld => ?_)
          try simp only [Act.put, List.setIfInBounds_toArray, List.set_cons_zero, List.set_cons_succ]
          have c1 : w30.cell? ⟨w.heap.size, 0, none⟩ = some (.slice a4 k c4) := by rw [C5.out.cell 0]; exact HLSD.out.at_
          have f1 := C5.out.frozen 0
          refine wpAnyH_ready (rs := [8]) (by kernel_rfl) (by simp) ?_
          refine AllReadyH.cons (by simp only [List.getElem?_toArray, List.getElem?_cons_succ, List.getElem?_cons_zero]; rfl) (fun K hK => ?_) AllReadyH.nil
          go_simp
          refine hK.out _ _ (HCT.out.keep (K6.out) HNB.out) (fun hHeld => ?_)
          try simp only [Act.put, List.setIfInBounds_toArray, List.set_cons_zero, List.set_cons_succ]
          refine wpAnyH_done (by kernel_rfl) ?_ _
          exact HFIN.out _ _ _ (KD.out.trans (K6.out) (fun _ _ h => h)) (L6.out) (fun q hq => (HS2.out q hq).imp_right (fun h => by have := (HSC.out q h).1; have := HSZX.out; omega))
        refine AllReadyH.cons (by simp only [List.getElem?_toArray, List.getElem?_cons_succ, List.getElem?_cons_zero]; rfl) (fun K hK => ?_) ?_
        · obtain ⟨K4, cs, hcs, hcl, hf⟩ := HBB.out
          have K4 := Lib.hid (KW.out.trans K4 (fun _ _ h => h))
          have c1 : W2.cell? ⟨w.heap.size, 0, none⟩ = some (.slice a4 k c4) := by rw [C2.out.cell 0]; exact HLSD.out.at_
          have f1 := C2.out.frozen 0
          have HCS := Lib.hid hcs
          have HF := Lib.hid hf
          clear hcs hf
          go_simp
          clear c1 f1
          refine hK.out _ _ (HCT.out.keep (K4.out) HNB.out) (fun hHeld => ?_)
          try simp only [Act.put, List.setIfInBounds_toArray, List.set_cons_zero, List.set_cons_succ]
          refine wpAnyH_ready (rs := [7]) (by kernel_rfl) (by simp) ?_
          refine AllReadyH.cons (by simp only [List.getElem?_toArray, List.getElem?_cons_succ, List.getElem?_cons_zero]; rfl) (fun K hK => ?_) AllReadyH.nil
          refine step_store_blk (by rfl) _ (.tmp 17) (.tmp 13) (by rfl) kk (k * 6) [.int .i64 b.l[k].kind, .int .i64 b.l[k].int, .string b.l[k].text, .int .u32 b.l[k].cr, .slice na3 b.l[k].nums.length nc3, .slice a3 b.l[k].args.length cap3] (by rfl) (by rfl) (by kernel_rfl) (by simp [Value.oneCell']) 30 cs HCS.out hcl ?_
          intro w30 hC30 hg30
          obtain ⟨K5, S2, hS2, L6⟩ := HF.out w30 hC30 hg30
          have K6 := Lib.hid (KW.out.trans K5 (fun _ _ h => h))
          have L6 := Lib.hid L6
          have HS2 := Lib.hid hS2
          clear hC30 hg30 hcl HF HCS K5 hS2
          refine hK.out _ _ (HCT.out.keep (K6.out) HNB.out) (fun hHeld => ?_)
          try simp only [Act.put, List.setIfInBounds_toArray, List.set_cons_zero, List.set_cons_succ]
          refine wpAnyH_done (by kernel_rfl) ?_ _
          exact HFIN.out _ _ _ (KD.out.trans (K6.out) (fun _ _ h => h)) (L6.out) (fun q hq => (HS2.out q hq).imp_right (fun h => by have := (HSC.out q h).1; have := HSZX.out; omega))
        exact AllReadyH.nil
      refine AllReadyH.cons (by simp only [List.getElem?_toArray, List.getElem?_cons_succ, List.getElem?_cons_zero]; rfl) (fun K hK => ?_) ?_
      · go_simp
        have ZW := Lib.hid (show Cells (w0.alloc (.cells #[.int .i64 0, .int .i64 0, .string ⟨#[]⟩, .int .u32 0, .slice none 0 0, .slice none 0 0] 30)) w0.heap.size 30 termZ from Cells.new w0 30 termZ)
        have BA := Lib.hid ((Below.refl _ _).alloc (Nat.le_refl w0.heap.size) (.cells #[.int .i64 0, .int .i64 0, .string ⟨#[]⟩, .int .u32 0, .slice none 0 0, .slice none 0 0] 30 (0, 0)))
        have BW := Lib.hid (BW.out.trans (BA.out.mono BW.out.size))
        refine hK.out _ _ (hHeld.below BA.out) (fun hHeld => ?_)
        try simp only [Act.put, List.setIfInBounds_toArray, List.set_cons_zero, List.set_cons_succ]
        clear BA
        generalize (w0.alloc (.cells #[.int .i64 0, .int .i64 0, .string ⟨#[]⟩, .int .u32 0, .slice none 0 0, .slice none 0 0] 30)) = w21 at *
        refine wpAnyH_ready (rs := [2]) (by kernel_rfl) (by simp) ?_
        refine AllReadyH.cons (by simp only [List.getElem?_toArray, List.getElem?_cons_succ, List.getElem?_cons_zero]; rfl) (fun K hK => ?_) AllReadyH.nil
        go_simp
        refine (copy_any _ b.l[k] [.int .i64 b.l[k].kind, .int .i64 b.l[k].int, .string b.l[k].text, .int .u32 b.l[k].cr, .slice na2 b.l[k].nums.length nc2, .slice a2 b.l[k].args.length cap2] w21 (HTM.out.below (HBXD.out.trans (BW.out.mono HBXD.out.size)))).mono ?_
        rintro e w12 ⟨vs3, rfl, ht3, hb3⟩
        obtain ⟨_, nv3, a3, cap3, rfl, hnn3, _⟩ := id ht3.parts
        obtain ⟨na3, nc3, rfl, _, _⟩ := hnn3.slice
        clear hnn3
        obtain ⟨SC, hSC⟩ : ∃ SC : Nat → Prop, ∀ q, SC q ↔ (w21.heap.size ≤ q ∧ q < w12.heap.size) := ⟨_, fun _ => Iff.rfl⟩
        have TW := Lib.hid (ht3.mono (S' := SC) (fun q hlt hq => (hSC q).2 ⟨hq, hlt⟩))
        have HSC := Lib.hid (show ∀ q, SC q → w0.heap.size ≤ q ∧ q < w12.heap.size from fun q hq => ⟨Nat.le_trans BW.out.size ((hSC q).1 hq).1, ((hSC q).1 hq).2⟩)
        have ZW := Lib.hid (ZW.out.below hb3)
        have BW := Lib.hid (BW.out.trans (hb3.mono BW.out.size))
        have hHeld := hHeld.below hb3
        clear hSC ht3 hb3
        refine hK.out _ _ (hHeld) (fun hHeld => ?_)
        try simp only [Act.put, List.setIfInBounds_toArray, List.set_cons_zero, List.set_cons_succ]
        have PS := Lib.hid (ls_app (HLSD.out.below BW.out) HLEN.out (Nat.le_trans HBXD.out.size BW.out.size) ZW.out TW.out (fun q hq => ⟨Nat.le_trans HBXD.out.size (HSC.out q hq).1, (HSC.out q hq).2, fun e => Nat.lt_irrefl _ (Nat.lt_of_lt_of_le (e ▸ HLSD.out.cells.lt) (HSC.out q hq).1), fun e => Nat.lt_irrefl _ (Nat.lt_of_lt_of_le (HLSD.out.rows.block e).2.1 (HSC.out q hq).1)⟩))
        replace PS := Lib.hid (by have h := PS.out; unfold LsEnd at h; rw [HTK.out] at h; exact h)
        obtain ⟨kk, cc, W2, hrun, hcc, hcm, ⟨hkb, hkg⟩, hK2, hC2, HA, HBB⟩ := PS.out
        have HRUN := Lib.hid hrun
        have HA := Lib.hid HA
        have HBB := Lib.hid HBB
        have KW := Lib.hid (Keep.of_below (B := w0.heap.size) BW.out (Nat.le_refl _) (LsK w.heap.size (.slice a4 k c4)))
        clear PS hrun
        have C2 := Lib.hid hC2
        have K2 := Lib.hid (KW.out.trans hK2 (fun _ _ h => h))
        clear hC2 hK2
        refine wpAnyH_ready (rs := [5]) (by kernel_rfl) (by simp) ?_
        refine AllReadyH.cons (by simp only [List.getElem?_toArray, List.getElem?_cons_succ, List.getElem?_cons_zero]; rfl) (fun K hK => ?_) AllReadyH.nil
        refine step_app_eq (by rfl) _ _ _ _ (by rfl) _ _ (.slice (some ⟨kk, 0, none⟩) (k + 1) cc) W2 (by rfl) (by rfl) HRUN.out ?_
        refine hK.out _ _ (HCT.out.keep (K2.out) HNB.out) (fun hHeld => ?_)
        try simp only [Act.put, List.setIfInBounds_toArray, List.set_cons_zero, List.set_cons_succ]
        refine wpAnyH_take (i := 6) (v := (.pointer (some ⟨kk, k * 6, none⟩))) (by simp only [List.getElem?_toArray, List.getElem?_cons_succ, List.getElem?_cons_zero]; rfl) (by kernel_rfl) (by kernel_rfl) (by kernel_rfl) (by exact fun _ _ _ h => h) (Or.inl ⟨by rfl, by intro W hSw; have x0 := hx0; have x1 := hx1; go_simp; all_goals first | rfl | exact ⟨rfl, rfl, rfl, rfl, rfl, rfl⟩⟩) (by assumption) ?_
        try simp only [Act.put, List.setIfInBounds_toArray, List.set_cons_zero, List.set_cons_succ]
        refine wpAnyH_ready (rs := [7, 8]) (by kernel_rfl) (by simp) ?_
        refine AllReadyH.cons (by simp only [List.getElem?_toArray, List.getElem?_cons_succ, List.getElem?_cons_zero]; rfl) (fun K hK => ?_) ?_
        · obtain ⟨cs, hcs, hcl, hf⟩ := HA.out
          refine step_store_blk (by rfl) _ (.tmp 17) (.tmp 13) (by rfl) kk (k * 6) [.int .i64 b.l[k].kind, .int .i64 b.l[k].int, .string b.l[k].text, .int .u32 b.l[k].cr, .slice na3 b.l[k].nums.length nc3, .slice a3 b.l[k].args.length cap3] (by rfl) (by rfl) (by kernel_rfl) (by simp [Value.oneCell']) 30 cs hcs hcl ?_
          intro w30 hC30 hg30
          obtain ⟨K5, C5, K6, S2, hS2, L6⟩ := hf w30 hC30 hg30
          have K5 := Lib.hid (KW.out.trans K5 (fun _ _ h => h))
          have K6 := Lib.hid (KW.out.trans K6 (fun _ _ h => h))
          have L6 := Lib.hid L6
          have HS2 := Lib.hid hS2
          have C5 := Lib.hid C5
          clear hC30 hg30 hcs hcl hf hS2
          refine hK.out _ _ (HCT.out.keep (K5.out) HNB.out) (fun hHeld => ?_)
          try simp only [Act.put, List.setIfInBounds_toArray, List.set_cons_zero, List.set_cons_succ]
          have c1 : w30.cell? ⟨w.heap.size, 0, none⟩ = some (.slice a4 k c4) := by rw [C5.out.cell 0]; exact HLSD.out.at_
          have f1 := C5.out.frozen 0
          refine wpAnyH_ready (rs := [8]) (by kernel_rfl) (by simp) ?_
          refine AllReadyH.cons (by simp only [List.getElem?_toArray, List.getElem?_cons_succ, List.getElem?_cons_zero]; rfl) (fun K hK => ?_) AllReadyH.nil
          go_simp
          refine hK.out _ _ (HCT.out.keep (K6.out) HNB.out) (fun hHeld => ?_)
          try simp only [Act.put, List.setIfInBounds_toArray, List.set_cons_zero, List.set_cons_succ]
          refine wpAnyH_done (by kernel_rfl) ?_ _
          exact HFIN.out _ _ _ (KD.out.trans (K6.out) (fun _ _ h => h)) (L6.out) (fun q hq => (HS2.out q hq).imp_right (fun h => by have := (HSC.out q h).1; have := HSZX.out; omega))
        refine AllReadyH.cons (by simp only [List.getElem?_toArray, List.getElem?_cons_succ, List.getElem?_cons_zero]; rfl) (fun K hK => ?_) ?_
        · obtain ⟨K4, cs, hcs, hcl, hf⟩ := HBB.out
          have K4 := Lib.hid (KW.out.trans K4 (fun _ _ h => h))
          have c1 : W2.cell? ⟨w.heap.size, 0, none⟩ = some (.slice a4 k c4) := by rw [C2.out.cell 0]; exact HLSD.out.at_
          have f1 := C2.out.frozen 0
          have HCS := Lib.hid hcs
          have HF := Lib.hid hf
          clear hcs hf
          go_simp
          clear c1 f1
          refine hK.out _ _ (HCT.out.keep (K4.out) HNB.out) (fun hHeld => ?_)
          try simp only [Act.put, List.setIfInBounds_toArray, List.set_cons_zero, List.set_cons_succ]
          refine wpAnyH_ready (rs := [7]) (by kernel_rfl) (by simp) ?_
          refine AllReadyH.cons (by simp only [List.getElem?_toArray, List.getElem?_cons_succ, List.getElem?_cons_zero]; rfl) (fun K hK => ?_) AllReadyH.nil
          refine step_store_blk (by rfl) _ (.tmp 17) (.tmp 13) (by rfl) kk (k * 6) [.int .i64 b.l[k].kind, .int .i64 b.l[k].int, .string b.l[k].text, .int .u32 b.l[k].cr, .slice na3 b.l[k].nums.length nc3, .slice a3 b.l[k].args.length cap3] (by rfl) (by rfl) (by kernel_rfl) (by simp [Value.oneCell']) 30 cs HCS.out hcl ?_
          intro w30 hC30 hg30
          obtain ⟨K5, S2, hS2, L6⟩ := HF.out w30 hC30 hg30
          have K6 := Lib.hid (KW.out.trans K5 (fun _ _ h => h))
          have L6 := Lib.hid L6
          have HS2 := Lib.hid hS2
          clear hC30 hg30 hcl HF HCS K5 hS2
          refine hK.out _ _ (HCT.out.keep (K6.out) HNB.out) (fun hHeld => ?_)
          try simp only [Act.put, List.setIfInBounds_toArray, List.set_cons_zero, List.set_cons_succ]
          refine wpAnyH_done (by kernel_rfl) ?_ _
          exact HFIN.out _ _ _ (KD.out.trans (K6.out) (fun _ _ h => h)) (L6.out) (fun q hq => (HS2.out q hq).imp_right (fun h => by have := (HSC.out q h).1; have := HSZX.out; omega))
        exact AllReadyH.nil
      exact AllReadyH.nil
    refine AllReadyH.cons (by simp only [List.getElem?_toArray, List.getElem?_cons_succ, List.getElem?_cons_zero]; rfl) (fun K hK => ?_) ?_
    · go_simp
      refine (copy_any _ b.l[k] [.int .i64 b.l[k].kind, .int .i64 b.l[k].int, .string b.l[k].text, .int .u32 b.l[k].cr, .slice na2 b.l[k].nums.length nc2, .slice a2 b.l[k].args.length cap2] w0 (HTM.out.below (HBXD.out.trans (BW.out.mono HBXD.out.size)))).mono ?_
      rintro e w10 ⟨vs3, rfl, ht3, hb3⟩
      obtain ⟨_, nv3, a3, cap3, rfl, hnn3, _⟩ := id ht3.parts
      obtain ⟨na3, nc3, rfl, _, _⟩ := hnn3.slice
      clear hnn3
      obtain ⟨SC, hSC⟩ : ∃ SC : Nat → Prop, ∀ q, SC q ↔ (w0.heap.size ≤ q ∧ q < w10.heap.size) := ⟨_, fun _ => Iff.rfl⟩
      have TW := Lib.hid (ht3.mono (S' := SC) (fun q hlt hq => (hSC q).2 ⟨hq, hlt⟩))
      have HSC := Lib.hid (show ∀ q, SC q → w0.heap.size ≤ q ∧ q < w10.heap.size from fun q hq => ⟨Nat.le_trans BW.out.size ((hSC q).1 hq).1, ((hSC q).1 hq).2⟩)
      have BW := Lib.hid (BW.out.trans (hb3.mono BW.out.size))
      have hHeld := hHeld.below hb3
      clear hSC ht3 hb3
      refine hK.out _ _ (hHeld) (fun hHeld => ?_)
      try simp only [Act.put, List.setIfInBounds_toArray, List.set_cons_zero, List.set_cons_succ]
      refine wpAnyH_ready (rs := [0, 4]) (by kernel_rfl) (by simp) ?_
      refine AllReadyH.cons (by simp only [List.getElem?_toArray, List.getElem?_cons_succ, List.getElem?_cons_zero]; rfl) (fun K hK => ?_) ?_
      · have c1 : w10.cell? ⟨w.heap.size, 0, none⟩ = some (.slice a4 k c4) := by have := (HLSD.out.cells.below BW.out).cell 0; rw [this]; exact HLSD.out.at_
        go_simp
        clear c1
        refine hK.out _ _ (hHeld) (fun hHeld => ?_)
        try simp only [Act.put, List.setIfInBounds_toArray, List.set_cons_zero, List.set_cons_succ]
        refine wpAnyH_take (i := 3) (v := (.int .i64 k)) (by simp only [List.getElem?_toArray, List.getElem?_cons_succ, List.getElem?_cons_zero]; rfl) (by kernel_rfl) (by kernel_rfl) (by kernel_rfl) (by exact fun _ _ _ h => h) (Or.inl ⟨by rfl, by intro W hSw; go_simp; all_goals first | rfl | exact ⟨rfl, rfl, rfl, rfl, rfl, rfl⟩⟩) (by assumption) ?_
        try simp only [Act.put, List.setIfInBounds_toArray, List.set_cons_zero, List.set_cons_succ]
        refine wpAnyH_ready (rs := [4]) (by kernel_rfl) (by simp) ?_
        refine AllReadyH.cons (by simp only [List.getElem?_toArray, List.getElem?_cons_succ, List.getElem?_cons_zero]; rfl) (fun K hK => ?_) AllReadyH.nil
        go_simp
        have ZW := Lib.hid (show Cells (w10.alloc (.cells #[.int .i64 0, .int .i64 0, .string ⟨#[]⟩, .int .u32 0, .slice none 0 0, .slice none 0 0] 30)) w10.heap.size 30 termZ from Cells.new w10 30 termZ)
        have BA := Lib.hid ((Below.refl _ _).alloc (Nat.le_refl w10.heap.size) (.cells #[.int .i64 0, .int .i64 0, .string ⟨#[]⟩, .int .u32 0, .slice none 0 0, .slice none 0 0] 30 (0, 0)))
        have TW := Lib.hid (TW.out.below BA.out)
        have HSC := Lib.hid (fun q (hq : SC q) => (⟨(HSC.out q hq).1, Nat.lt_of_lt_of_le (HSC.out q hq).2 BA.out.size⟩ : w0.heap.size ≤ q ∧ _))
        have BW := Lib.hid (BW.out.trans (BA.out.mono BW.out.size))
        refine hK.out _ _ (hHeld.below BA.out) (fun hHeld => ?_)
        try simp only [Act.put, List.setIfInBounds_toArray, List.set_cons_zero, List.set_cons_succ]
        clear BA
        generalize (w10.alloc (.cells #[.int .i64 0, .int .i64 0, .string ⟨#[]⟩, .int .u32 0, .slice none 0 0, .slice none 0 0] 30)) = w22 at *
        have PS := Lib.hid (ls_app (HLSD.out.below BW.out) HLEN.out (Nat.le_trans HBXD.out.size BW.out.size) ZW.out TW.out (fun q hq => ⟨Nat.le_trans HBXD.out.size (HSC.out q hq).1, (HSC.out q hq).2, fun e => Nat.lt_irrefl _ (Nat.lt_of_lt_of_le (e ▸ HLSD.out.cells.lt) (HSC.out q hq).1), fun e => Nat.lt_irrefl _ (Nat.lt_of_lt_of_le (HLSD.out.rows.block e).2.1 (HSC.out q hq).1)⟩))
        replace PS := Lib.hid (by have h := PS.out; unfold LsEnd at h; rw [HTK.out] at h; exact h)
        obtain ⟨kk, cc, W2, hrun, hcc, hcm, ⟨hkb, hkg⟩, hK2, hC2, HA, HBB⟩ := PS.out
        have HRUN := Lib.hid hrun
        have HA := Lib.hid HA
        have HBB := Lib.hid HBB
        have KW := Lib.hid (Keep.of_below (B := w0.heap.size) BW.out (Nat.le_refl _) (LsK w.heap.size (.slice a4 k c4)))
        clear PS hrun
        have C2 := Lib.hid hC2
        have K2 := Lib.hid (KW.out.trans hK2 (fun _ _ h => h))
        clear hC2 hK2
        refine wpAnyH_ready (rs := [5]) (by kernel_rfl) (by simp) ?_
        refine AllReadyH.cons (by simp only [List.getElem?_toArray, List.getElem?_cons_succ, List.getElem?_cons_zero]; rfl) (fun K hK => ?_) AllReadyH.nil
        refine step_app_eq (by rfl) _ _ _ _ (by rfl) _ _ (.slice (some ⟨kk, 0, none⟩) (k + 1) cc) W2 (by rfl) (by rfl) HRUN.out ?_
        refine hK.out _ _ (HCT.out.keep (K2.out) HNB.out) (fun hHeld => ?_)
        try simp only [Act.put, List.setIfInBounds_toArray, List.set_cons_zero, List.set_cons_succ]
        refine wpAnyH_take (i := 6) (v := (.pointer (some ⟨kk, k * 6, none⟩))) (by simp only [List.getElem?_toArray, List.getElem?_cons_succ, List.getElem?_cons_zero]; rfl) (by kernel_rfl) (by kernel_rfl) (by kernel_rfl) (by exact fun _ _ _ h => h) (Or.inl ⟨by rfl, by intro W hSw; have x0 := hx0; have x1 := hx1; go_simp; all_goals first | rfl | exact ⟨rfl, rfl, rfl, rfl, rfl, rfl⟩⟩) (by assumption) ?_
        try simp only [Act.put, List.setIfInBounds_toArray, List.set_cons_zero, List.set_cons_succ]
        refine wpAnyH_ready (rs := [7, 8]) (by kernel_rfl) (by simp) ?_
        refine AllReadyH.cons (by simp only [List.getElem?_toArray, List.getElem?_cons_succ, List.getElem?_cons_zero]; rfl) (fun K hK => ?_) ?_
        · obtain ⟨cs, hcs, hcl, hf⟩ := HA.out
          refine step_store_blk (by rfl) _ (.tmp 17) (.tmp 13) (by rfl) kk (k * 6) [.int .i64 b.l[k].kind, .int .i64 b.l[k].int, .string b.l[k].text, .int .u32 b.l[k].cr, .slice na3 b.l[k].nums.length nc3, .slice a3 b.l[k].args.length cap3] (by rfl) (by rfl) (by kernel_rfl) (by simp [Value.oneCell']) 30 cs hcs hcl ?_
          intro w30 hC30 hg30
          obtain ⟨K5, C5, K6, S2, hS2, L6⟩ := hf w30 hC30 hg30
          have K5 := Lib.hid (KW.out.trans K5 (fun _ _ h => h))
          have K6 := Lib.hid (KW.out.trans K6 (fun _ _ h => h))
          have L6 := Lib.hid L6
          have HS2 := Lib.hid hS2
          have C5 := Lib.hid C5
          clear hC30 hg30 hcs hcl hf hS2
          refine hK.out _ _ (HCT.out.keep (K5.out) HNB.out) (fun hHeld => ?_)
          try simp only [Act.put, List.setIfInBounds_toArray, List.set_cons_zero, List.set_cons_succ]
          have c1 : w30.cell? ⟨w.heap.size, 0, none⟩ = some (.slice a4 k c4) := by rw [C5.out.cell 0]; exact HLSD.out.at_
          have f1 := C5.out.frozen 0
          refine wpAnyH_ready (rs := [8]) (by kernel_rfl) (by simp) ?_
          refine AllReadyH.cons (by simp only [List.getElem?_toArray, List.getElem?_cons_succ, List.getElem?_cons_zero]; rfl) (fun K hK => ?_) AllReadyH.nil
          go_simp
          refine hK.out _ _ (HCT.out.keep (K6.out) HNB.out) (fun hHeld => ?_)
          try simp only [Act.put, List.setIfInBounds_toArray, List.set_cons_zero, List.set_cons_succ]
          refine wpAnyH_done (by kernel_rfl) ?_ _
          exact HFIN.out _ _ _ (KD.out.trans (K6.out) (fun _ _ h => h)) (L6.out) (fun q hq => (HS2.out q hq).imp_right (fun h => by have := (HSC.out q h).1; have := HSZX.out; omega))
        refine AllReadyH.cons (by simp only [List.getElem?_toArray, List.getElem?_cons_succ, List.getElem?_cons_zero]; rfl) (fun K hK => ?_) ?_
        · obtain ⟨K4, cs, hcs, hcl, hf⟩ := HBB.out
          have K4 := Lib.hid (KW.out.trans K4 (fun _ _ h => h))
          have c1 : W2.cell? ⟨w.heap.size, 0, none⟩ = some (.slice a4 k c4) := by rw [C2.out.cell 0]; exact HLSD.out.at_
          have f1 := C2.out.frozen 0
          have HCS := Lib.hid hcs
          have HF := Lib.hid hf
          clear hcs hf
          go_simp
          clear c1 f1
          refine hK.out _ _ (HCT.out.keep (K4.out) HNB.out) (fun hHeld => ?_)
          try simp only [Act.put, List.setIfInBounds_toArray, List.set_cons_zero, List.set_cons_succ]
          refine wpAnyH_ready (rs := [7]) (by kernel_rfl) (by simp) ?_
          refine AllReadyH.cons (by simp only [List.getElem?_toArray, List.getElem?_cons_succ, List.getElem?_cons_zero]; rfl) (fun K hK => ?_) AllReadyH.nil
          refine step_store_blk (by rfl) _ (.tmp 17) (.tmp 13) (by rfl) kk (k * 6) [.int .i64 b.l[k].kind, .int .i64 b.l[k].int, .string b.l[k].text, .int .u32 b.l[k].cr, .slice na3 b.l[k].nums.length nc3, .slice a3 b.l[k].args.length cap3] (by rfl) (by rfl) (by kernel_rfl) (by simp [Value.oneCell']) 30 cs HCS.out hcl ?_
          intro w30 hC30 hg30
          obtain ⟨K5, S2, hS2, L6⟩ := HF.out w30 hC30 hg30
          have K6 := Lib.hid (KW.out.trans K5 (fun _ _ h => h))
          have L6 := Lib.hid L6
          have HS2 := Lib.hid hS2
          clear hC30 hg30 hcl HF HCS K5 hS2
          refine hK.out _ _ (HCT.out.keep (K6.out) HNB.out) (fun hHeld => ?_)
          try simp only [Act.put, List.setIfInBounds_toArray, List.set_cons_zero, List.set_cons_succ]
          refine wpAnyH_done (by kernel_rfl) ?_ _
          exact HFIN.out _ _ _ (KD.out.trans (K6.out) (fun _ _ h => h)) (L6.out) (fun q hq => (HS2.out q hq).imp_right (fun h => by have := (HSC.out q h).1; have := HSZX.out; omega))
        exact AllReadyH.nil
      refine AllReadyH.cons (by simp only [List.getElem?_toArray, List.getElem?_cons_succ, List.getElem?_cons_zero]; rfl) (fun K hK => ?_) ?_
      · go_simp
        have ZW := Lib.hid (show Cells (w10.alloc (.cells #[.int .i64 0, .int .i64 0, .string ⟨#[]⟩, .int .u32 0, .slice none 0 0, .slice none 0 0] 30)) w10.heap.size 30 termZ from Cells.new w10 30 termZ)
        have BA := Lib.hid ((Below.refl _ _).alloc (Nat.le_refl w10.heap.size) (.cells #[.int .i64 0, .int .i64 0, .string ⟨#[]⟩, .int .u32 0, .slice none 0 0, .slice none 0 0] 30 (0, 0)))
        have TW := Lib.hid (TW.out.below BA.out)
        have HSC := Lib.hid (fun q (hq : SC q) => (⟨(HSC.out q hq).1, Nat.lt_of_lt_of_le (HSC.out q hq).2 BA.out.size⟩ : w0.heap.size ≤ q ∧ _))
        have BW := Lib.hid (BW.out.trans (BA.out.mono BW.out.size))
        refine hK.out _ _ (hHeld.below BA.out) (fun hHeld => ?_)
        try simp only [Act.put, List.setIfInBounds_toArray, List.set_cons_zero, List.set_cons_succ]
        clear BA
        generalize (w10.alloc (.cells #[.int .i64 0, .int .i64 0, .string ⟨#[]⟩, .int .u32 0, .slice none 0 0, .slice none 0 0] 30)) = w21 at *
        refine wpAnyH_ready (rs := [0]) (by kernel_rfl) (by simp) ?_
        refine AllReadyH.cons (by simp only [List.getElem?_toArray, List.getElem?_cons_succ, List.getElem?_cons_zero]; rfl) (fun K hK => ?_) AllReadyH.nil
        have c1 : w21.cell? ⟨w.heap.size, 0, none⟩ = some (.slice a4 k c4) := by have := (HLSD.out.cells.below BW.out).cell 0; rw [this]; exact HLSD.out.at_
        go_simp
        clear c1
        refine hK.out _ _ (hHeld) (fun hHeld => ?_)
        try simp only [Act.put, List.setIfInBounds_toArray, List.set_cons_zero, List.set_cons_succ]
        refine wpAnyH_take (i := 3) (v := (.int .i64 k)) (by simp only [List.getElem?_toArray, List.getElem?_cons_succ, List.getElem?_cons_zero]; rfl) (by kernel_rfl) (by kernel_rfl) (by kernel_rfl) (by exact fun _ _ _ h => h) (Or.inl ⟨by rfl, by intro W hSw; go_simp; all_goals first | rfl | exact ⟨rfl, rfl, rfl, rfl, rfl, rfl⟩⟩) (by assumption) ?_
        try simp only [Act.put, List.setIfInBounds_toArray, List.set_cons_zero, List.set_cons_succ]
        have PS := Lib.hid (ls_app (HLSD.out.below BW.out) HLEN.out (Nat.le_trans HBXD.out.size BW.out.size) ZW.out TW.out (fun q hq => ⟨Nat.le_trans HBXD.out.size (HSC.out q hq).1, (HSC.out q hq).2, fun e => Nat.lt_irrefl _ (Nat.lt_of_lt_of_le (e ▸ HLSD.out.cells.lt) (HSC.out q hq).1), fun e => Nat.lt_irrefl _ (Nat.lt_of_lt_of_le (HLSD.out.rows.block e).2.1 (HSC.out q hq).1)⟩))
        replace PS := Lib.hid (by have h := PS.out; unfold LsEnd at h; rw [HTK.out] at h; exact h)
        obtain ⟨kk, cc, W2, hrun, hcc, hcm, ⟨hkb, hkg⟩, hK2, hC2, HA, HBB⟩ := PS.out
        have HRUN := Lib.hid hrun
        have HA := Lib.hid HA
        have HBB := Lib.hid HBB
        have KW := Lib.hid (Keep.of_below (B := w0.heap.size) BW.out (Nat.le_refl _) (LsK w.heap.size (.slice a4 k c4)))
        clear PS hrun
        have C2 := Lib.hid hC2
        have K2 := Lib.hid (KW.out.trans hK2 (fun _ _ h => h))
        clear hC2 hK2
        refine wpAnyH_ready (rs := [5]) (by kernel_rfl) (by simp) ?_
        refine AllReadyH.cons (by simp only [List.getElem?_toArray, List.getElem?_cons_succ, List.getElem?_cons_zero]; rfl) (fun K hK => ?_) AllReadyH.nil
        refine step_app_eq (by rfl) _ _ _ _ (by rfl) _ _ (.slice (some ⟨kk, 0, none⟩) (k + 1) cc) W2 (by rfl) (by rfl) HRUN.out ?_
        refine hK.out _ _ (HCT.out.keep (K2.out) HNB.out) (fun hHeld => ?_)
        try simp only [Act.put, List.setIfInBounds_toArray, List.set_cons_zero, List.set_cons_succ]
        refine wpAnyH_take (i := 6) (v := (.pointer (some ⟨kk, k * 6, none⟩))) (by simp only [List.getElem?_toArray, List.getElem?_cons_succ, List.getElem?_cons_zero]; rfl) (by kernel_rfl) (by kernel_rfl) (by kernel_rfl) (by exact fun _ _ _ h => h) (Or.inl ⟨by rfl, by intro W hSw; have x0 := hx0; have x1 := hx1; go_simp; all_goals first | rfl | exact ⟨rfl, rfl, rfl, rfl, rfl, rfl⟩⟩) (by assumption) ?_
        try simp only [Act.put, List.setIfInBounds_toArray, List.set_cons_zero, List.set_cons_succ]
        refine wpAnyH_ready (rs := [7, 8]) (by kernel_rfl) (by simp) ?_
        refine AllReadyH.cons (by simp only [List.getElem?_toArray, List.getElem?_cons_succ, List.getElem?_cons_zero]; rfl) (fun K hK => ?_) ?_
        · obtain ⟨cs, hcs, hcl, hf⟩ := HA.out
          refine step_store_blk (by rfl) _ (.tmp 17) (.tmp 13) (by rfl) kk (k * 6) [.int .i64 b.l[k].kind, .int .i64 b.l[k].int, .string b.l[k].text, .int .u32 b.l[k].cr, .slice na3 b.l[k].nums.length nc3, .slice a3 b.l[k].args.length cap3] (by rfl) (by rfl) (by kernel_rfl) (by simp [Value.oneCell']) 30 cs hcs hcl ?_
          intro w30 hC30 hg30
          obtain ⟨K5, C5, K6, S2, hS2, L6⟩ := hf w30 hC30 hg30
          have K5 := Lib.hid (KW.out.trans K5 (fun _ _ h => h))
          have K6 := Lib.hid (KW.out.trans K6 (fun _ _ h => h))
          have L6 := Lib.hid L6
          have HS2 := Lib.hid hS2
          have C5 := Lib.hid C5
          clear hC30 hg30 hcs hcl hf hS2
          refine hK.out _ _ (HCT.out.keep (K5.out) HNB.out) (fun hHeld => ?_)
          try simp only [Act.put, List.setIfInBounds_toArray, List.set_cons_zero, List.set_cons_succ]
          have c1 : w30.cell? ⟨w.heap.size, 0, none⟩ = some (.slice a4 k c4) := by rw [C5.out.cell 0]; exact HLSD.out.at_
          have f1 := C5.out.frozen 0
          refine wpAnyH_ready (rs := [8]) (by kernel_rfl) (by simp) ?_
          refine AllReadyH.cons (by simp only [List.getElem?_toArray, List.getElem?_cons_succ, List.getElem?_cons_zero]; rfl) (fun K hK => ?_) AllReadyH.nil
          go_simp
          refine hK.out _ _ (HCT.out.keep (K6.out) HNB.out) (fun hHeld => ?_)
          try simp only [Act.put, List.setIfInBounds_toArray, List.set_cons_zero, List.set_cons_succ]
          refine wpAnyH_done (by kernel_rfl) ?_ _
          exact HFIN.out _ _ _ (KD.out.trans (K6.out) (fun _ _ h => h)) (L6.out) (fun q hq => (HS2.out q hq).imp_right (fun h => by have := (HSC.out q h).1; have := HSZX.out; omega))
        refine AllReadyH.cons (by simp only [List.getElem?_toArray, List.getElem?_cons_succ, List.getElem?_cons_zero]; rfl) (fun K hK => ?_) ?_
        · obtain ⟨K4, cs, hcs, hcl, hf⟩ := HBB.out
          have K4 := Lib.hid (KW.out.trans K4 (fun _ _ h => h))
          have c1 : W2.cell? ⟨w.heap.size, 0, none⟩ = some (.slice a4 k c4) := by rw [C2.out.cell 0]; exact HLSD.out.at_
          have f1 := C2.out.frozen 0
          have HCS := Lib.hid hcs
          have HF := Lib.hid hf
          clear hcs hf
          go_simp
          clear c1 f1
          refine hK.out _ _ (HCT.out.keep (K4.out) HNB.out) (fun hHeld => ?_)
          try simp only [Act.put, List.setIfInBounds_toArray, List.set_cons_zero, List.set_cons_succ]
          refine wpAnyH_ready (rs := [7]) (by kernel_rfl) (by simp) ?_
          refine AllReadyH.cons (by simp only [List.getElem?_toArray, List.getElem?_cons_succ, List.getElem?_cons_zero]; rfl) (fun K hK => ?_) AllReadyH.nil
          refine step_store_blk (by rfl) _ (.tmp 17) (.tmp 13) (by rfl) kk (k * 6) [.int .i64 b.l[k].kind, .int .i64 b.l[k].int, .string b.l[k].text, .int .u32 b.l[k].cr, .slice na3 b.l[k].nums.length nc3, .slice a3 b.l[k].args.length cap3] (by rfl) (by rfl) (by kernel_rfl) (by simp [Value.oneCell']) 30 cs HCS.out hcl ?_
          intro w30 hC30 hg30
          obtain ⟨K5, S2, hS2, L6⟩ := HF.out w30 hC30 hg30
          have K6 := Lib.hid (KW.out.trans K5 (fun _ _ h => h))
          have L6 := Lib.hid L6
          have HS2 := Lib.hid hS2
          clear hC30 hg30 hcl HF HCS K5 hS2
          refine hK.out _ _ (HCT.out.keep (K6.out) HNB.out) (fun hHeld => ?_)
          try simp only [Act.put, List.setIfInBounds_toArray, List.set_cons_zero, List.set_cons_succ]
          refine wpAnyH_done (by kernel_rfl) ?_ _
          exact HFIN.out _ _ _ (KD.out.trans (K6.out) (fun _ _ h => h)) (L6.out) (fun q hq => (HS2.out q hq).imp_right (fun h => by have := (HSC.out q h).1; have := HSZX.out; omega))
        exact AllReadyH.nil
      exact AllReadyH.nil
    refine AllReadyH.cons (by simp only [List.getElem?_toArray, List.getElem?_cons_succ, List.getElem?_cons_zero]; rfl) (fun K hK => ?_) ?_
    · go_simp
      have ZW := Lib.hid (show Cells (w0.alloc (.cells #[.int .i64 0, .int .i64 0, .string ⟨#[]⟩, .int .u32 0, .slice none 0 0, .slice none 0 0] 30)) w0.heap.size 30 termZ from Cells.new w0 30 termZ)
      have BA := Lib.hid ((Below.refl _ _).alloc (Nat.le_refl w0.heap.size) (.cells #[.int .i64 0, .int .i64 0, .string ⟨#[]⟩, .int .u32 0, .slice none 0 0, .slice none 0 0] 30 (0, 0)))
      have BW := Lib.hid (BW.out.trans (BA.out.mono BW.out.size))
      refine hK.out _ _ (hHeld.below BA.out) (fun hHeld => ?_)
      try simp only [Act.put, List.setIfInBounds_toArray, List.set_cons_zero, List.set_cons_succ]
      clear BA
      generalize (w0.alloc (.cells #[.int .i64 0, .int .i64 0, .string ⟨#[]⟩, .int .u32 0, .slice none 0 0, .slice none 0 0] 30)) = w20 at *
      refine wpAnyH_ready (rs := [0, 2]) (by kernel_rfl) (by simp) ?_
      refine AllReadyH.cons (by simp only [List.getElem?_toArray, List.getElem?_cons_succ, List.getElem?_cons_zero]; rfl) (fun K hK => ?_) ?_
      · have c1 : w20.cell? ⟨w.heap.size, 0, none⟩ = some (.slice a4 k c4) := by have := (HLSD.out.cells.below BW.out).cell 0; rw [this]; exact HLSD.out.at_
        go_simp
        clear c1
        refine hK.out _ _ (hHeld) (fun hHeld => ?_)
        try simp only [Act.put, List.setIfInBounds_toArray, List.set_cons_zero, List.set_cons_succ]
        refine wpAnyH_take (i := 3) (v := (.int .i64 k)) (by simp only [List.getElem?_toArray, List.getElem?_cons_succ, List.getElem?_cons_zero]; rfl) (by kernel_rfl) (by kernel_rfl) (by kernel_rfl) (by exact fun _ _ _ h => h) (Or.inl ⟨by rfl, by intro W hSw; go_simp; all_goals first | rfl | exact ⟨rfl, rfl, rfl, rfl, rfl, rfl⟩⟩) (by assumption) ?_
        try simp only [Act.put, List.setIfInBounds_toArray, List.set_cons_zero, List.set_cons_succ]
        refine wpAnyH_ready (rs := [2]) (by kernel_rfl) (by simp) ?_
        refine AllReadyH.cons (by simp only [List.getElem?_toArray, List.getElem?_cons_succ, List.getElem?_cons_zero]; rfl) (fun K hK => ?_) AllReadyH.nil
        go_simp
        refine (copy_any _ b.l[k] [.int .i64 b.l[k].kind, .int .i64 b.l[k].int, .string b.l[k].text, .int .u32 b.l[k].cr, .slice na2 b.l[k].nums.length nc2, .slice a2 b.l[k].args.length cap2] w20 (HTM.out.below (HBXD.out.trans (BW.out.mono HBXD.out.size)))).mono ?_
        rintro e w12 ⟨vs3, rfl, ht3, hb3⟩
        obtain ⟨_, nv3, a3, cap3, rfl, hnn3, _⟩ := id ht3.parts
        obtain ⟨na3, nc3, rfl, _, _⟩ := hnn3.slice
        clear hnn3
        obtain ⟨SC, hSC⟩ : ∃ SC : Nat → Prop, ∀ q, SC q ↔ (w20.heap.size ≤ q ∧ q < w12.heap.size) := ⟨_, fun _ => Iff.rfl⟩
        have TW := Lib.hid (ht3.mono (S' := SC) (fun q hlt hq => (hSC q).2 ⟨hq, hlt⟩))
        have HSC := Lib.hid (show ∀ q, SC q → w0.heap.size ≤ q ∧ q < w12.heap.size from fun q hq => ⟨Nat.le_trans BW.out.size ((hSC q).1 hq).1, ((hSC q).1 hq).2⟩)
        have ZW := Lib.hid (ZW.out.below hb3)
        have BW := Lib.hid (BW.out.trans (hb3.mono BW.out.size))
        have hHeld := hHeld.below hb3
        clear hSC ht3 hb3
        refine hK.out _ _ (hHeld) (fun hHeld => ?_)
        try simp only [Act.put, List.setIfInBounds_toArray, List.set_cons_zero, List.set_cons_succ]
        have PS := Lib.hid (ls_app (HLSD.out.below BW.out) HLEN.out (Nat.le_trans HBXD.out.size BW.out.size) ZW.out TW.out (fun q hq => ⟨Nat.le_trans HBXD.out.size (HSC.out q hq).1, (HSC.out q hq).2, fun e => Nat.lt_irrefl _ (Nat.lt_of_lt_of_le (e ▸ HLSD.out.cells.lt) (HSC.out q hq).1), fun e => Nat.lt_irrefl _ (Nat.lt_of_lt_of_le (HLSD.out.rows.block e).2.1 (HSC.out q hq).1)⟩))
        replace PS := Lib.hid (by have h := PS.out; unfold LsEnd at h; rw [HTK.out] at h; exact h)
        obtain ⟨kk, cc, W2, hrun, hcc, hcm, ⟨hkb, hkg⟩, hK2, hC2, HA, HBB⟩ := PS.out
        have HRUN := Lib.hid hrun
        have HA := Lib.hid HA
        have HBB := Lib.hid HBB
        have KW := Lib.hid (Keep.of_below (B := w0.heap.size) BW.out (Nat.le_refl _) (LsK w.heap.size (.slice a4 k c4)))
        clear PS hrun
        have C2 := Lib.hid hC2
        have K2 := Lib.hid (KW.out.trans hK2 (fun _ _ h => h))
        clear hC2 hK2
        refine wpAnyH_ready (rs := [5]) (by kernel_rfl) (by simp) ?_
        refine AllReadyH.cons (by simp only [List.getElem?_toArray, List.getElem?_cons_succ, List.getElem?_cons_zero]; rfl) (fun K hK => ?_) AllReadyH.nil
        refine step_app_eq (by rfl) _ _ _ _ (by rfl) _ _ (.slice (some ⟨kk, 0, none⟩) (k + 1) cc) W2 (by rfl) (by rfl) HRUN.out ?_
        refine hK.out _ _ (HCT.out.keep (K2.out) HNB.out) (fun hHeld => ?_)
        try simp only [Act.put, List.setIfInBounds_toArray, List.set_cons_zero, List.set_cons_succ]
        refine wpAnyH_take (i := 6) (v := (.pointer (some ⟨kk, k * 6, none⟩))) (by simp only [List.getElem?_toArray, List.getElem?_cons_succ, List.getElem?_cons_zero]; rfl) (by kernel_rfl) (by kernel_rfl) (by kernel_rfl) (by exact fun _ _ _ h => h) (Or.inl ⟨by rfl, by intro W hSw; have x0 := hx0; have x1 := hx1; go_simp; all_goals first | rfl | exact ⟨rfl, rfl, rfl, rfl, rfl, rfl⟩⟩) (by assumption) ?_
        try simp only [Act.put, List.setIfInBounds_toArray, List.set_cons_zero, List.set_cons_succ]
        refine wpAnyH_ready (rs := [7, 8]) (by kernel_rfl) (by simp) ?_
        refine AllReadyH.cons (by simp only [List.getElem?_toArray, List.getElem?_cons_succ, List.getElem?_cons_zero]; rfl) (fun K hK => ?_) ?_
        · obtain ⟨cs, hcs, hcl, hf⟩ := HA.out
          refine step_store_blk (by rfl) _ (.tmp 17) (.tmp 13) (by rfl) kk (k * 6) [.int .i64 b.l[k].kind, .int .i64 b.l[k].int, .string b.l[k].text, .int .u32 b.l[k].cr, .slice na3 b.l[k].nums.length nc3, .slice a3 b.l[k].args.length cap3] (by rfl) (by rfl) (by kernel_rfl) (by simp [Value.oneCell']) 30 cs hcs hcl ?_
          intro w30 hC30 hg30
          obtain ⟨K5, C5, K6, S2, hS2, L6⟩ := hf w30 hC30 hg30
          have K5 := Lib.hid (KW.out.trans K5 (fun _ _ h => h))
          have K6 := Lib.hid (KW.out.trans K6 (fun _ _ h => h))
          have L6 := Lib.hid L6
          have HS2 := Lib.hid hS2
          have C5 := Lib.hid C5
          clear hC30 hg30 hcs hcl hf hS2
          refine hK.out _ _ (HCT.out.keep (K5.out) HNB.out) (fun hHeld => ?_)
          try simp only [Act.put, List.setIfInBounds_toArray, List.set_cons_zero, List.set_cons_succ]
          have c1 : w30.cell? ⟨w.heap.size, 0, none⟩ = some (.slice a4 k c4) := by rw [C5.out.cell 0]; exact HLSD.out.at_
          have f1 := C5.out.frozen 0
          refine wpAnyH_ready (rs := [8]) (by kernel_rfl) (by simp) ?_
          refine AllReadyH.cons (by simp only [List.getElem?_toArray, List.getElem?_cons_succ, List.getElem?_cons_zero]; rfl) (fun K hK => ?_) AllReadyH.nil
          go_simp
          refine hK.out _ _ (HCT.out.keep (K6.out) HNB.out) (fun hHeld => ?_)
          try simp only [Act.put, List.setIfInBounds_toArray, List.set_cons_zero, List.set_cons_succ]
          refine wpAnyH_done (by kernel_rfl) ?_ _
          exact HFIN.out _ _ _ (KD.out.trans (K6.out) (fun _ _ h => h)) (L6.out) (fun q hq => (HS2.out q hq).imp_right (fun h => by have := (HSC.out q h).1; have := HSZX.out; omega))
        refine AllReadyH.cons (by simp only [List.getElem?_toArray, List.getElem?_cons_succ, List.getElem?_cons_zero]; rfl) (fun K hK => ?_) ?_
        · obtain ⟨K4, cs, hcs, hcl, hf⟩ := HBB.out
          have K4 := Lib.hid (KW.out.trans K4 (fun _ _ h => h))
          have c1 : W2.cell? ⟨w.heap.size, 0, none⟩ = some (.slice a4 k c4) := by rw [C2.out.cell 0]; exact HLSD.out.at_
          have f1 := C2.out.frozen 0
          have HCS := Lib.hid hcs
          have HF := Lib.hid hf
          clear hcs hf
          go_simp
          clear c1 f1
          refine hK.out _ _ (HCT.out.keep (K4.out) HNB.out) (fun hHeld => ?_)
          try simp only [Act.put, List.setIfInBounds_toArray, List.set_cons_zero, List.set_cons_succ]
          refine wpAnyH_ready (rs := [7]) (by kernel_rfl) (by simp) ?_
          refine AllReadyH.cons (by simp only [List.getElem?_toArray, List.getElem?_cons_succ, List.getElem?_cons_zero]; rfl) (fun K hK => ?_) AllReadyH.nil
          refine step_store_blk (by rfl) _ (.tmp 17) (.tmp 13) (by rfl) kk (k * 6) [.int .i64 b.l[k].kind, .int .i64 b.l[k].int, .string b.l[k].text, .int .u32 b.l[k].cr, .slice na3 b.l[k].nums.length nc3, .slice a3 b.l[k].args.length cap3] (by rfl) (by rfl) (by kernel_rfl) (by simp [Value.oneCell']) 30 cs HCS.out hcl ?_
          intro w30 hC30 hg30
          obtain ⟨K5, S2, hS2, L6⟩ := HF.out w30 hC30 hg30
          have K6 := Lib.hid (KW.out.trans K5 (fun _ _ h => h))
          have L6 := Lib.hid L6
          have HS2 := Lib.hid hS2
          clear hC30 hg30 hcl HF HCS K5 hS2
          refine hK.out _ _ (HCT.out.keep (K6.out) HNB.out) (fun hHeld => ?_)
          try simp only [Act.put, List.setIfInBounds_toArray, List.set_cons_zero, List.set_cons_succ]
          refine wpAnyH_done (by kernel_rfl) ?_ _
          exact HFIN.out _ _ _ (KD.out.trans (K6.out) (fun _ _ h => h)) (L6.out) (fun q hq => (HS2.out q hq).imp_right (fun h => by have := (HSC.out q h).1; have := HSZX.out; omega))
        exact AllReadyH.nil
      refine AllReadyH.cons (by simp only [List.getElem?_toArray, List.getElem?_cons_succ, List.getElem?_cons_zero]; rfl) (fun K hK => ?_) ?_
      · go_simp
        refine (copy_any _ b.l[k] [.int .i64 b.l[k].kind, .int .i64 b.l[k].int, .string b.l[k].text, .int .u32 b.l[k].cr, .slice na2 b.l[k].nums.length nc2, .slice a2 b.l[k].args.length cap2] w20 (HTM.out.below (HBXD.out.trans (BW.out.mono HBXD.out.size)))).mono ?_
        rintro e w11 ⟨vs3, rfl, ht3, hb3⟩
        obtain ⟨_, nv3, a3, cap3, rfl, hnn3, _⟩ := id ht3.parts
        obtain ⟨na3, nc3, rfl, _, _⟩ := hnn3.slice
        clear hnn3
        obtain ⟨SC, hSC⟩ : ∃ SC : Nat → Prop, ∀ q, SC q ↔ (w20.heap.size ≤ q ∧ q < w11.heap.size) := ⟨_, fun _ => Iff.rfl⟩
        have TW := Lib.hid (ht3.mono (S' := SC) (fun q hlt hq => (hSC q).2 ⟨hq, hlt⟩))
        have HSC := Lib.hid (show ∀ q, SC q → w0.heap.size ≤ q ∧ q < w11.heap.size from fun q hq => ⟨Nat.le_trans BW.out.size ((hSC q).1 hq).1, ((hSC q).1 hq).2⟩)
        have ZW := Lib.hid (ZW.out.below hb3)
        have BW := Lib.hid (BW.out.trans (hb3.mono BW.out.size))
        have hHeld := hHeld.below hb3
        clear hSC ht3 hb3
        refine hK.out _ _ (hHeld) (fun hHeld => ?_)
        try simp only [Act.put, List.setIfInBounds_toArray, List.set_cons_zero, List.set_cons_succ]
        refine wpAnyH_ready (rs := [0]) (by kernel_rfl) (by simp) ?_
        refine AllReadyH.cons (by simp only [List.getElem?_toArray, List.getElem?_cons_succ, List.getElem?_cons_zero]; rfl) (fun K hK => ?_) AllReadyH.nil
        have c1 : w11.cell? ⟨w.heap.size, 0, none⟩ = some (.slice a4 k c4) := by have := (HLSD.out.cells.below BW.out).cell 0; rw [this]; exact HLSD.out.at_
        go_simp
        clear c1
        refine hK.out _ _ (hHeld) (fun hHeld => ?_)
        try simp only [Act.put, List.setIfInBounds_toArray, List.set_cons_zero, List.set_cons_succ]
        refine wpAnyH_take (i := 3) (v := (.int .i64 k)) (by simp only [List.getElem?_toArray, List.getElem?_cons_succ, List.getElem?_cons_zero]; rfl) (by kernel_rfl) (by kernel_rfl) (by kernel_rfl) (by exact fun _ _ _ h => h) (Or.inl ⟨by rfl, by intro W hSw; go_simp; all_goals first | rfl | exact ⟨rfl, rfl, rfl, rfl, rfl, rfl⟩⟩) (by assumption) ?_
        try simp only [Act.put, List.setIfInBounds_toArray, List.set_cons_zero, List.set_cons_succ]
        have PS := Lib.hid (ls_app (HLSD.out.below BW.out) HLEN.out (Nat.le_trans HBXD.out.size BW.out.size) ZW.out TW.out (fun q hq => ⟨Nat.le_trans HBXD.out.size (HSC.out q hq).1, (HSC.out q hq).2, fun e => Nat.lt_irrefl _ (Nat.lt_of_lt_of_le (e ▸ HLSD.out.cells.lt) (HSC.out q hq).1), fun e => Nat.lt_irrefl _ (Nat.lt_of_lt_of_le (HLSD.out.rows.block e).2.1 (HSC.out q hq).1)⟩))
        replace PS := Lib.hid (by have h := PS.out; unfold LsEnd at h; rw [HTK.out] at h; exact h)
        obtain ⟨kk, cc, W2, hrun, hcc, hcm, ⟨hkb, hkg⟩, hK2, hC2, HA, HBB⟩ := PS.out
        have HRUN := Lib.hid hrun
        have HA := Lib.hid HA
        have HBB := Lib.hid HBB
        have KW := Lib.hid (Keep.of_below (B := w0.heap.size) BW.out (Nat.le_refl _) (LsK w.heap.size (.slice a4 k c4)))
        clear PS hrun
        have C2 := Lib.hid hC2
        have K2 := Lib.hid (KW.out.trans hK2 (fun _ _ h => h))
        clear hC2 hK2
        refine wpAnyH_ready (rs := [5]) (by kernel_rfl) (by simp) ?_
        refine AllReadyH.cons (by simp only [List.getElem?_toArray, List.getElem?_cons_succ, List.getElem?_cons_zero]; rfl) (fun K hK => ?_) AllReadyH.nil
        refine step_app_eq (by rfl) _ _ _ _ (by rfl) _ _ (.slice (some ⟨kk, 0, none⟩) (k + 1) cc) W2 (by rfl) (by rfl) HRUN.out ?_
        refine hK.out _ _ (HCT.out.keep (K2.out) HNB.out) (fun hHeld => ?_)
        try simp only [Act.put, List.setIfInBounds_toArray, List.set_cons_zero, List.set_cons_succ]
        refine wpAnyH_take (i := 6) (v := (.pointer (some ⟨kk, k * 6, none⟩))) (by simp only [List.getElem?_toArray, List.getElem?_cons_succ, List.getElem?_cons_zero]; rfl) (by kernel_rfl) (by kernel_rfl) (by kernel_rfl) (by exact fun _ _ _ h => h) (Or.inl ⟨by rfl, by intro W hSw; have x0 := hx0; have x1 := hx1; go_simp; all_goals first | rfl | exact ⟨rfl, rfl, rfl, rfl, rfl, rfl⟩⟩) (by assumption) ?_
        try simp only [Act.put, List.setIfInBounds_toArray, List.set_cons_zero, List.set_cons_succ]
        refine wpAnyH_ready (rs := [7, 8]) (by kernel_rfl) (by simp) ?_
        refine AllReadyH.cons (by simp only [List.getElem?_toArray, List.getElem?_cons_succ, List.getElem?_cons_zero]; rfl) (fun K hK => ?_) ?_
        · obtain ⟨cs, hcs, hcl, hf⟩ := HA.out
          refine step_store_blk (by rfl) _ (.tmp 17) (.tmp 13) (by rfl) kk (k * 6) [.int .i64 b.l[k].kind, .int .i64 b.l[k].int, .string b.l[k].text, .int .u32 b.l[k].cr, .slice na3 b.l[k].nums.length nc3, .slice a3 b.l[k].args.length cap3] (by rfl) (by rfl) (by kernel_rfl) (by simp [Value.oneCell']) 30 cs hcs hcl ?_
          intro w30 hC30 hg30
          obtain ⟨K5, C5, K6, S2, hS2, L6⟩ := hf w30 hC30 hg30
          have K5 := Lib.hid (KW.out.trans K5 (fun _ _ h => h))
          have K6 := Lib.hid (KW.out.trans K6 (fun _ _ h => h))
          have L6 := Lib.hid L6
          have HS2 := Lib.hid hS2
          have C5 := Lib.hid C5
          clear hC30 hg30 hcs hcl hf hS2
          refine hK.out _ _ (HCT.out.keep (K5.out) HNB.out) (fun hHeld => ?_)
          try simp only [Act.put, List.setIfInBounds_toArray, List.set_cons_zero, List.set_cons_succ]
          have c1 : w30.cell? ⟨w.heap.size, 0, none⟩ = some (.slice a4 k c4) := by rw [C5.out.cell 0]; exact HLSD.out.at_
          have f1 := C5.out.frozen 0
          refine wpAnyH_ready (rs := [8]) (by kernel_rfl) (by simp) ?_
          refine AllReadyH.cons (by simp only [List.getElem?_toArray, List.getElem?_cons_succ, List.getElem?_cons_zero]; rfl) (fun K hK => ?_) AllReadyH.nil
          go_simp
          refine hK.out _ _ (HCT.out.keep (K6.out) HNB.out) (fun hHeld => ?_)
          try simp only [Act.put, List.setIfInBounds_toArray, List.set_cons_zero, List.set_cons_succ]
          refine wpAnyH_done (by kernel_rfl) ?_ _
          exact HFIN.out _ _ _ (KD.out.trans (K6.out) (fun _ _ h => h)) (L6.out) (fun q hq => (HS2.out q hq).imp_right (fun h => by have := (HSC.out q h).1; have := HSZX.out; omega))
        refine AllReadyH.cons (by simp only [List.getElem?_toArray, List.getElem?_cons_succ, List.getElem?_cons_zero]; rfl) (fun K hK => ?_) ?_
        · obtain ⟨K4, cs, hcs, hcl, hf⟩ := HBB.out
          have K4 := Lib.hid (KW.out.trans K4 (fun _ _ h => h))
          have c1 : W2.cell? ⟨w.heap.size, 0, none⟩ = some (.slice a4 k c4) := by rw [C2.out.cell 0]; exact HLSD.out.at_
          have f1 := C2.out.frozen 0
          have HCS := Lib.hid hcs
          have HF := Lib.hid hf
          clear hcs hf
          go_simp
          clear c1 f1
          refine hK.out _ _ (HCT.out.keep (K4.out) HNB.out) (fun hHeld => ?_)
          try simp only [Act.put, List.setIfInBounds_toArray, List.set_cons_zero, List.set_cons_succ]
          refine wpAnyH_ready (rs := [7]) (by kernel_rfl) (by simp) ?_
          refine AllReadyH.cons (by simp only [List.getElem?_toArray, List.getElem?_cons_succ, List.getElem?_cons_zero]; rfl) (fun K hK => ?_) AllReadyH.nil
          refine step_store_blk (by rfl) _ (.tmp 17) (.tmp 13) (by rfl) kk (k * 6) [.int .i64 b.l[k].kind, .int .i64 b.l[k].int, .string b.l[k].text, .int .u32 b.l[k].cr, .slice na3 b.l[k].nums.length nc3, .slice a3 b.l[k].args.length cap3] (by rfl) (by rfl) (by kernel_rfl) (by simp [Value.oneCell']) 30 cs HCS.out hcl ?_
          intro w30 hC30 hg30
          obtain ⟨K5, S2, hS2, L6⟩ := HF.out w30 hC30 hg30
          have K6 := Lib.hid (KW.out.trans K5 (fun _ _ h => h))
          have L6 := Lib.hid L6
          have HS2 := Lib.hid hS2
          clear hC30 hg30 hcl HF HCS K5 hS2
          refine hK.out _ _ (HCT.out.keep (K6.out) HNB.out) (fun hHeld => ?_)
          try simp only [Act.put, List.setIfInBounds_toArray, List.set_cons_zero, List.set_cons_succ]
          refine wpAnyH_done (by kernel_rfl) ?_ _
          exact HFIN.out _ _ _ (KD.out.trans (K6.out) (fun _ _ h => h)) (L6.out) (fun q hq => (HS2.out q hq).imp_right (fun h => by have := (HSC.out q h).1; have := HSZX.out; omega))
        exact AllReadyH.nil
      exact AllReadyH.nil
    exact AllReadyH.nil
end Go.Proofs.YtlahagabcnmdiaaDoor
end
section
/- heddlelaw17: MailOrders, plain: what is left stands in the order in which it came. -/
open Go Go.RowKit
namespace Go.Proofs.YtlahagabcnmdiaaDoor
set_option linter.unusedVariables false

theorem int_at2 (S : Nat → Prop) (w : World) (k : Int) (h0 : -9223372036854775808 ≤ k) (h1 : k ≤ 9223372036854775807) : TmAt S (intT k) [.int .i64 1, .int .i64 k, .string ⟨#[]⟩, .int .u32 0, .slice none 0 0, .slice none 0 0] w := by
  unfold intT
  rw [TmAt]
  refine ⟨by constructor <;> first | decide | omega, .slice none 0 0, none, 0, rfl, ?_, by simp [maxLen], by simp, ?_⟩
  · exact ⟨none, 0, rfl, ⟨Nat.le_refl _, by simp⟩, by simp [maxLen], fun i hi => absurd hi (Nat.not_lt_zero _)⟩
  · rw [ArgsAt]; trivial
theorem erase_map {α β : Type} (f : α → β) : ∀ (l : List α) (i : Nat), (l.map f).eraseIdx i = (l.eraseIdx i).map f
  | [], _ => rfl
  | _ :: _, 0 => rfl
  | a :: l, i + 1 => by simp [erase_map f l i]
/-- n were put, so many are gone: what is left stands in order -/
def OrdIs (n gone : Nat) (b : Bx) : Prop := ∃ ks : List Nat, b.l = ks.map (fun (k : Nat) => intT (k : Int)) ∧ ks.Pairwise (· < ·) ∧ (∀ k ∈ ks, k < n) ∧ ks.length + gone = n
theorem OrdIs.zero : OrdIs 0 0 Bx.zero := ⟨[], rfl, List.Pairwise.nil, fun _ h => absurd h (List.not_mem_nil), rfl⟩
theorem OrdIs.len {n gone : Nat} {b : Bx} (h : OrdIs n gone b) : b.l.length + gone = n := by
  obtain ⟨ks, h1, _, _, h4⟩ := h
  rw [h1, List.length_map]; exact h4
theorem OrdIs.put {n gone : Nat} {b : Bx} (h : OrdIs n gone b) (hn : n ≤ 576460752303423487) :
    (4096 ≤ n ∧ putM b (intT (n : Int)) = (errM 5, b)) ∨ (∃ b', putM b (intT (n : Int)) = ([], b') ∧ OrdIs (n + 1) gone b') := by
  have hck : checkS (intT (n : Int)) = [] := checkS_int (by omega) (by omega)
  by_cases hf : 4096 ≤ b.l.length
  · exact .inl ⟨by have := h.len; omega, by unfold putM; rw [if_neg (by simp [hck]), if_pos hf]⟩
  · refine .inr ⟨{ b with l := b.l ++ [intT (n : Int)] }, by unfold putM; rw [if_neg (by simp [hck]), if_neg hf], ?_⟩
    obtain ⟨ks, h1, h2, h3, h4⟩ := h
    refine ⟨ks ++ [n], ?_, ?_, ?_, ?_⟩
    · show b.l ++ [intT (n : Int)] = _
      rw [h1]; simp
    · rw [List.pairwise_append]
      exact ⟨h2, List.pairwise_singleton _ _, fun a ha c hc => by simp at hc; subst hc; exact h3 a ha⟩
    · intro k hk
      rcases List.mem_append.1 hk with h | h
      · have := h3 k h; omega
      · simp at h; omega
    · simp; omega
theorem OrdIs.next {n gone : Nat} {b : Bx} (h : OrdIs n gone b) : OrdIs n gone (nextM b).2 := by
  unfold nextM
  split
  · exact h
  · exact h
theorem OrdIs.take {n gone : Nat} {b : Bx} (h : OrdIs n gone b) :
    (∃ (k : Nat) (b' : Bx), k < n ∧ gone + 1 ≤ n ∧ takeM b = (some (intT (k : Int)), [], b') ∧ OrdIs n (gone + 1) b') ∨ takeM b = (none, errM 7, b) := by
  obtain ⟨ks, h1, h2, h3, h4⟩ := h
  unfold takeM
  by_cases hc : b.cur < ks.length
  · refine .inl ⟨ks[b.cur], ⟨b.l.eraseIdx b.cur, 0, false, 0⟩, h3 _ (List.getElem_mem hc), by omega, ?_, ?_⟩
    · have : b.l[b.cur]? = some (intT ((ks[b.cur] : Nat) : Int)) := by rw [h1, List.getElem?_map, List.getElem?_eq_getElem hc]; rfl
      rw [this]
    · refine ⟨ks.eraseIdx b.cur, ?_, ?_, ?_, ?_⟩
      · show b.l.eraseIdx b.cur = _
        rw [h1]; exact erase_map _ _ _
      · exact h2.sublist (List.eraseIdx_sublist _ _)
      · exact fun k hk => h3 k (List.mem_of_mem_eraseIdx hk)
      · rw [List.length_eraseIdx_of_lt hc]; omega
  · refine .inr ?_
    have : b.l[b.cur]? = none := by rw [h1]; exact List.getElem?_eq_none (by simp; omega)
    rw [this]
theorem OrdIs.grow {n gone : Nat} {b : Bx} (h : OrdIs n gone b) (k : Nat) (hk : k + 1 < b.l.length) : ∃ x y : Nat, x < y ∧ b.l[k] = intT (x : Int) ∧ b.l[k + 1] = intT (y : Int) ∧ y < n := by
  obtain ⟨bl, bc, bs, bd⟩ := b
  obtain ⟨ks, h1, h2, h3, h4⟩ := h
  simp only at h1 hk
  subst h1
  have hk' : k + 1 < ks.length := by simpa using hk
  exact ⟨ks[k], ks[k + 1], (List.pairwise_iff_getElem.1 h2) k (k + 1) (by omega) hk' (by omega), by simp, by simp, h3 _ (List.getElem_mem hk')⟩
end Go.Proofs.YtlahagabcnmdiaaDoor
end
section
/- heddlelaw17: MailOrders. -/
open Go Go.RowKit
namespace Go.Proofs.YtlahagabcnmdiaaDoor
set_option linter.unusedVariables false
set_option linter.unusedSimpArgs false

structure MOp where
  kind : Int
  t : Tm
  now : Int
/-- a script -/
def OpsM (S : Nat → Prop) (v : Value) (l : List MOp) (w : World) : Prop :=
  ∃ a c, v = .slice a l.length c ∧ (l.length ≤ c ∧ c ≤ maxLen) ∧ l.length * 104 ≤ 140737488351232 ∧ ∀ i (h : i < l.length), ∃ g o vs, a = some ⟨g, o, none⟩ ∧ w.cell? ⟨g, o + i * 8, none⟩ = some (.int .i64 l[i].kind) ∧
    (∀ j, j < 6 → w.cell? ⟨g, o + (i * 8 + (1 + j)), none⟩ = vs[j]?) ∧ w.cell? ⟨g, o + (i * 8 + 7), none⟩ = some (.int .i64 l[i].now) ∧ TmAt S l[i].t vs w ∧ -9223372036854775808 ≤ l[i].kind ∧ l[i].kind ≤ 9223372036854775807 ∧ -9223372036854775808 ≤ l[i].now ∧ l[i].now ≤ 9223372036854775807
set_option maxHeartbeats 16000000 in
set_option maxRecDepth 100000 in
theorem mailOrders_any (S : Nat → Prop) (lv : Value) (l : List MOp) (w : World) (hl : OpsM S lv l w) (hG : Gt w) :
    Calls Tryd.prog 3 #[lv] w fun e w' => e = .returned (.bool true) ∧ Below w.heap.size w w' := by
  obtain ⟨la, lc, rfl, ⟨hlc, hlm⟩, hlr, hcell⟩ := hl
  have HG := Lib.hid hG
  have HL := Lib.hid hcell
  have HBX := Lib.hid (new_box w)
  have HB1 := Lib.hid ((Below.refl w.heap.size w).alloc (Nat.le_refl _) (.cells (bxV Bx.zero (.slice none 0 0)).toArray 59 (0, 0)))
  clear hG hcell
  go_enter Tryd.func3, Tryd.ntmps3
  go_wp2_with fail
  refine (mNew_any w).mono ?_
  rintro e w1 ⟨rfl, rfl⟩
  generalize w.alloc (.cells (bxV Bx.zero (.slice none 0 0)).toArray 59 (0, 0)) = w1 at *
  go_wp2_with fail
  go_loopw [4, 5, 6] (fun x y i wr => ∃ (k n gone : Nat) (bx : Bx), k ≤ l.length ∧ i = .int .i64 k ∧ x = .int .i64 n ∧ y = .int .i64 gone ∧ n ≤ k ∧ gone ≤ n ∧ OrdIs n gone bx ∧ BxIs (fun q => w.heap.size ≤ q) w.heap.size bx wr ∧ Below w.heap.size w wr) (fun _ _ i _ => l.length - (intOf i).toNat)
  case atStart => exact ⟨0, 0, 0, Bx.zero, Nat.zero_le _, rfl, rfl, rfl, Nat.le_refl _, Nat.le_refl _, OrdIs.zero, HBX.out, HB1.out⟩
  case round =>
    obtain ⟨k, n, gone, bx, hk, rfl, rfl, rfl, hnk, hgn, hord, hbx, hbr⟩ := hrel
    have BXR := Lib.hid hbx
    have HBR := Lib.hid hbr
    have HO := Lib.hid hord
    clear hbx hbr hord
    have hn0 : (0 : Int) ≤ (n : Int) := by omega
    have hn1 : (n : Int) ≤ 1353245081263 := by omega
    have hg0 : (0 : Int) ≤ (gone : Int) := by omega
    have hg1 : (gone : Int) ≤ (n : Int) := by omega
    by_cases hlt : k < l.length
    · obtain ⟨g1, o1, vs1, rfl, hc, -, -, -, -, -, -, -⟩ := HL.out k hlt
      have hc2 := (HBR.out.cell (p := ⟨g1, o1 + k * 8, none⟩) (World.block_lt_of_cell? w _ hc)).trans hc
      have hki : (k : Int) < (l.length : Int) := by omega
      have hk0 : (0 : Int) ≤ (k : Int) := by omega
      have hk1 : (k : Int) ≤ 1353245081263 := by omega
      clear hc
      generalize hkd : l[k].kind = kd at *
      clear hkd
      by_cases k1 : kd = 1
      · subst k1
        go_wp2_with fail
        refine (mPut_live (fun _ => False) (intT (n : Int)) [.int .i64 1, .int .i64 n, .string ⟨#[]⟩, .int .u32 0, .slice none 0 0, .slice none 0 0] _ BXR.out (int_at2 _ _ _ (by omega) (by omega)) (fun _ h => h.elim) (fun _ h => h.elim) (HG.out.below HBR.out)).mono ?_
        intro e w2 hr
        obtain ⟨ev, rfl, he, hbx, hk2⟩ := fresh_put HBR.out.size hr
        have HB2 := Lib.hid (below_keep HBR.out hk2 HBR.out.size (fun _ h => h))
        clear hr hc2
        rcases HO.out.put (by omega) with ⟨hf, hp⟩ | ⟨b', hp, ho'⟩
        · rw [hp] at he
          obtain ⟨b3, u3, hev, -, -⟩ := he
          subst hev
          have hfi : (4096 : Int) ≤ (n : Int) := by omega
          clear hp hbx hk2 hf
          go_wp2
          go_ret
          exact ⟨rfl, HB2.out⟩
        · rw [hp] at he hbx
          replace he : ev = .nilIface := he
          subst he
          have BX2 := Lib.hid hbx
          have HO2 := Lib.hid ho'
          clear hp hbx hk2 ho'
          go_wp2
          go_roundw
          case rel => exact ⟨k + 1, n + 1, gone, b', by omega, by go_num, by go_num, rfl, by omega, by omega, HO2.out, BX2.out, HB2.out⟩
          case measure => simp [intOf]; omega
      have q1 : (kd == 1) = false := beq_eq_false_iff_ne.2 k1
      by_cases k3 : kd = 3
      · subst k3
        clear k1
        go_wp2_with fail
        refine (mNext_live _ BXR.out).mono ?_
        rintro e w2 ⟨ev, rfl, -, hbx, hk2⟩
        have HB2 := Lib.hid (below_keep HBR.out hk2 HBR.out.size (fun _ h => h))
        have BX2 := Lib.hid hbx
        clear hbx hk2 hc2
        go_wp2
        go_roundw
        case rel => exact ⟨k + 1, n, gone, _, by omega, by go_num, rfl, rfl, by omega, by omega, HO.out.next, BX2.out, HB2.out⟩
        case measure => simp [intOf]; omega
      have q3 : (kd == 3) = false := beq_eq_false_iff_ne.2 k3
      by_cases k4 : kd = 4
      · subst k4
        clear k1 k3
        go_wp2_with fail
        refine (mTake_live _ BXR.out).mono ?_
        rintro e w2 ⟨vs, ev, rfl, he, ⟨hbx, hk2⟩, hm⟩
        have HB2 := Lib.hid (below_keep HBR.out hk2 HBR.out.size (fun _ h => h))
        clear hc2
        rcases HO.out.take with ⟨x, b', hx, hgn', ht, ho'⟩ | ht
        · rw [ht] at he hbx hm
          replace he : ev = .nilIface := he
          subst he
          obtain ⟨S2, hT2, -⟩ := hm
          obtain ⟨_, nv, a2, cap2, hvs, hnn, _⟩ := hT2.parts
          obtain ⟨na2, nc2, rfl, _, _⟩ := hnn.slice
          replace hvs : vs = [.int .i64 1, .int .i64 x, .string ⟨#[]⟩, .int .u32 0, .slice na2 0 nc2, .slice a2 0 cap2] := hvs
          subst hvs
          have HA := Lib.hid ((Below.refl w2.heap.size w2).alloc (Nat.le_refl _) (.cells #[.int .i64 1, .int .i64 x, .string ⟨#[]⟩, .int .u32 0, .slice na2 0 nc2, .slice a2 0 cap2] 30 (0, 0)))
          have BX2 := Lib.hid (BxIs.below hbx HA.out)
          have HB3 := Lib.hid (HB2.out.trans (HA.out.mono HB2.out.size))
          have HO2 := Lib.hid ho'
          have hx0 : (0 : Int) ≤ (x : Int) := by omega
          have hx1 : (x : Int) < (n : Int) := by omega
          clear ht hbx hk2 ho' hT2 hnn HA
          go_wp2
          go_roundw
          case rel => exact ⟨k + 1, n, gone + 1, _, by omega, by go_num, rfl, by go_num, by omega, by omega, HO2.out, BX2.out, HB3.out⟩
          case measure => simp [intOf]; omega
        · rw [ht] at he hbx hm
          obtain ⟨b3, u3, hev, -, -⟩ := he
          subst hev
          replace hm : vs = termZ := hm
          subst hm
          have HA := Lib.hid ((Below.refl w2.heap.size w2).alloc (Nat.le_refl _) (.cells termZ.toArray 30 (0, 0)))
          have BX2 := Lib.hid (BxIs.below hbx HA.out)
          have HB3 := Lib.hid (HB2.out.trans (HA.out.mono HB2.out.size))
          clear ht hbx hk2 HA
          unfold termZ at *
          go_wp2
          go_roundw
          case rel => exact ⟨k + 1, n, gone, _, by omega, by go_num, rfl, rfl, by omega, by omega, HO.out, BX2.out, HB3.out⟩
          case measure => simp [intOf]; omega
      have q4 : (kd == 4) = false := beq_eq_false_iff_ne.2 k4
      clear k1 k3 k4
      go_wp2
      go_roundw
      case rel => exact ⟨k + 1, n, gone, _, by omega, by go_num, rfl, rfl, by omega, by omega, HO.out, BXR.out, HBR.out⟩
      case measure => simp [intOf]; omega
    · have hki : ¬ (k : Int) < (l.length : Int) := by omega
      have hlen : (bx.l.length : Int) = (n : Int) - (gone : Int) := by have := HO.out.len; omega
      have hb46 : bx.l.length ≤ 4096 := BXR.out.2.1
      have qlen : (((bx.l.length : Nat) : Int) != (n : Int) - (gone : Int)) = false := by rw [← hlen]; simp
      clear hlt hk hlen
      go_wp2_with fail
      refine (mAll_live _ BXR.out).mono ?_
      rintro e w2 ⟨v, rfl, hT, hb2⟩
      obtain ⟨a2, c2, rfl⟩ := hT.form
      have HT := Lib.hid hT
      have HB2 := Lib.hid (HBR.out.trans (hb2.mono HBR.out.size))
      clear hT hb2
      go_wp2
      go_loopw [10] (fun i wr => ∃ kk nn : Nat, 1 ≤ kk ∧ kk ≤ bx.l.length + 1 ∧ i = .int .i64 kk ∧ wr = w2.drewN nn) (fun i _ => bx.l.length - (intOf i).toNat)
      case atStart => exact ⟨1, 0, Nat.le_refl _, by omega, rfl, rfl⟩
      case round =>
        obtain ⟨kk, nn, hk1, hk2, rfl, rfl⟩ := hrel
        by_cases hlt : kk < bx.l.length
        · obtain ⟨x, y, hxy, ex, ey, hyn⟩ := HO.out.grow (kk - 1) (by omega)
          obtain ⟨r1, c1, vs1, hv1, hcs1, ht1⟩ := HT.out.elem (kk - 1) (by omega)
          obtain ⟨r2, c2, vs2, hv2, hcs2, ht2⟩ := HT.out.elem kk hlt
          cases hv1
          cases hv2
          have ey2 : bx.l[kk] = intT (y : Int) := by
            have h : kk - 1 + 1 = kk := by omega
            rw [← ey]; congr 1; exact h.symm
          rw [ex] at ht1
          rw [ey2] at ht2
          obtain ⟨_, nv1, a1, cap1, rfl, -, -⟩ := ht1.parts
          obtain ⟨_, nv2, a2, cap2, rfl, -, -⟩ := ht2.parts
          have d1 : w2.cell? ⟨r1, (kk - 1) * 6 + 1, none⟩ = some (.int .i64 x) := hcs1 1 (by decide)
          have d2 : w2.cell? ⟨r1, kk * 6 + 1, none⟩ = some (.int .i64 y) := hcs2 1 (by decide)
          have hki : (kk : Int) < (bx.l.length : Int) := by omega
          have hk0 : (0 : Int) ≤ (kk : Int) := by omega
          have hk3 : (1 : Int) ≤ (kk : Int) := by omega
          have hk4 : (kk : Int) ≤ 4097 := by omega
          have hm : ((kk - 1 : Nat) : Int) = (kk : Int) - 1 := by omega
          have hlo : 0 ≤ (kk : Int) - 1 := by omega
          have hhi : (kk : Int) - 1 < (bx.l.length : Int) := by omega
          have hxi : ¬ (y : Int) ≤ (x : Int) := by omega
          have hsub : IntKind.i64.wrap ((kk : Int) - 1) = (kk : Int) - 1 := IntWalk.i64_in _ (by omega)
          clear hcs1 hcs2 ht1 ht2 ex ey ey2 hxy hyn hlt hk1 hk2
          go_wp2
          go_quiet (fail)
          go_wp2
          go_roundw
          case rel => exact ⟨kk + 1, _, by omega, by omega, by go_num, rfl⟩
          case measure => simp [intOf]; omega
        · have hki : ¬ (kk : Int) < (bx.l.length : Int) := by omega
          clear hlt hk1 hk2
          go_wp2_with fail
          refine (alive_any _ (HG.out.below (below_drewN HB2.out nn))).mono ?_
          rintro e w3 ⟨rfl, hb3⟩
          have HB3 := Lib.hid ((below_drewN HB2.out nn).trans (hb3.mono HB2.out.size))
          clear hb3
          go_wp2
          go_ret
          exact ⟨rfl, HB3.out⟩
end Go.Proofs.YtlahagabcnmdiaaDoor
end
