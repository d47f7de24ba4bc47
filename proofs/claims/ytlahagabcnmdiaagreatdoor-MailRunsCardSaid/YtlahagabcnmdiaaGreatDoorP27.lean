/- Texts laid together: MaQ, MaR, RxF, OrA, OrB, RxG. -/
import Derived.Test.YtlahagabcnmdiaaGreatDoorP26
import Derived.Test.YtlahagabcnmdiaaGreatDoorP20
import Derived.RangeFuncBound
import Derived.OwnWalkIn
import Derived.TacticsInMore
import Derived.LoopNIn
import Derived.LoopIn
import Derived.Shelf.Abstract
import Derived.Test.YtlahagabcnmdiaaGreatDoorP25
import Derived.Test.YtlahagabcnmdiaaGreatDoorP22
section
/- Package mail: messages, the rounds of All. -/
open Go Go.RowKit
namespace Go.Proofs.YtlahagabcnmdiaaGreatDoor
set_option linter.unusedVariables false
set_option linter.unusedSimpArgs false

/-- the values of a row's elements -/
theorem TsIs.vals {base : Nat} {S : Nat → Prop} {v : Value} {l : List Tm} {w : World} (h : TsIs base S v l w) :
    ∃ vss : Nat → List Value, ∀ i (hi : i < l.length), ∃ k c, v = .slice (some ⟨k, 0, none⟩) l.length c ∧ (∀ j, j < 6 → w.cell? ⟨k, i * 6 + j, none⟩ = (vss i)[j]?) ∧ TmAt S l[i] (vss i) w := by
  have h1 : ∀ i, ∃ vs : List Value, ∀ (hi : i < l.length), ∃ k c, v = .slice (some ⟨k, 0, none⟩) l.length c ∧ (∀ j, j < 6 → w.cell? ⟨k, i * 6 + j, none⟩ = vs[j]?) ∧ TmAt S l[i] vs w := by
    intro i
    by_cases hi : i < l.length
    · rcases h.shape with ⟨_, hn⟩ | ⟨k, c, rfl, _⟩
      · rw [hn] at hi; exact absurd hi (Nat.not_lt_zero _)
      · obtain ⟨vs, h1, h2⟩ := h.at_ i hi
        exact ⟨vs, fun _ => ⟨k, c, rfl, h1, h2⟩⟩
    · exact ⟨[], fun h => absurd h hi⟩
  exact ⟨fun i => Classical.choose (h1 i), fun i => Classical.choose_spec (h1 i)⟩
set_option maxHeartbeats 4000000 in
set_option maxRecDepth 100000 in
theorem messages1_in (g Bm l : Nat) (b : Bx) (a : Option Addr) (c : Nat) (S : Nat → Prop) (vss : Nat → List Value) (J : Nat → World → Prop) (w : World) (hlen : b.l.length ≤ 4096)
    (hC : Cells w g 75 (bxV b (.slice a b.l.length c))) (hM : ∀ k W, J k W → Cells W Bm 23 [.pointer (some ⟨g, 0, none⟩)])
    (hV : ∀ i (hi : i < b.l.length), ∃ k c', Value.slice a b.l.length c = .slice (some ⟨k, 0, none⟩) b.l.length c' ∧ (∀ j, j < 6 → w.cell? ⟨k, i * 6 + j, none⟩ = (vss i)[j]?) ∧ TmAt S b.l[i] (vss i) w)
    (hJB : ∀ k W, J k W → Below w.heap.size w W) (hJb : ∀ k W W', J k W → Below W.heap.size W W' → J k W') (W : World) (h0 : J 0 W)
    (hY : ∀ k W, k < b.l.length → J k W → YieldAt Fence.wide 0 Tryz.prog l #[.agg (vss k).toArray] W fun e W' => e = .returned (.bool true) ∧ J (k + 1) W') :
    CallsIn Fence.wide 0 Tryz.prog 109 (#[.func (.yield l) #[] #[]] ++ #[.pointer (some ⟨Bm, 0, none⟩)]) W fun e W' => (∃ v, e = .returned v) ∧ J b.l.length W' := by
  have HJB := Lib.hid hJB
  have HJb := Lib.hid hJb
  have HY := Lib.hid hY
  have HV := Lib.hid hV
  have HC := Lib.hid hC
  have HM := Lib.hid hM
  have H0 := Lib.hid h0
  have m0 := (HM.out _ _ H0.out).cell 0
  have c1 := (HC.out.below (HJB.out _ _ H0.out)).cell 1
  simp only [bxV, List.getElem?_cons_zero, List.getElem?_cons_succ] at m0 c1
  clear hJB hJb hY hV hC hM h0
  refine callsIn_of_wp Tryz.func109 rfl trivial ?_ rfl
  simp only [Tryz.ntmps109, List.size_toArray, List.length_cons, List.length_nil, Nat.reduceAdd, Nat.reduceSub, Array.replicate_succ, Array.replicate_zero, List.push_toArray, List.append_toArray, List.nil_append, List.cons_append]
  gi_wp2
  clear m0 c1
  gi_loopw [10] (fun p wr => ∃ k : Nat, k ≤ b.l.length ∧ p = .int .i64 k ∧ J k wr) (fun p _ => b.l.length - (intOf p).toNat)
  case atStart => exact ⟨0, Nat.zero_le _, rfl, H0.out⟩
  case round =>
    obtain ⟨k, hk, rfl, hJ⟩ := hrel
    have HJ := Lib.hid hJ
    clear hJ
    by_cases hlt : k < b.l.length
    · obtain ⟨row, c', hv, hcs, ht⟩ := HV.out k hlt
      cases hv
      obtain ⟨_, nv, a2, cap2, hvs, hnn, _⟩ := ht.parts
      obtain ⟨na2, nc2, rfl, _, _⟩ := hnn.slice
      rw [hvs] at hcs
      have HB := Lib.hid (HJB.out _ _ HJ.out)
      have e0 := hcs 0 (by decide)
      have e1 := hcs 1 (by decide)
      have e2 := hcs 2 (by decide)
      have e3 := hcs 3 (by decide)
      have e4 := hcs 4 (by decide)
      have e5 := hcs 5 (by decide)
      simp only [List.getElem?_cons_zero, List.getElem?_cons_succ, Nat.add_zero] at e0 e1 e2 e3 e4 e5
      have hrow := World.block_lt_of_cell? w _ e0
      replace e0 := (HB.out.cell (p := ⟨row, k * 6, none⟩) hrow).trans e0
      replace e1 := (HB.out.cell (p := ⟨row, k * 6 + 1, none⟩) hrow).trans e1
      replace e2 := (HB.out.cell (p := ⟨row, k * 6 + 2, none⟩) hrow).trans e2
      replace e3 := (HB.out.cell (p := ⟨row, k * 6 + 3, none⟩) hrow).trans e3
      replace e4 := (HB.out.cell (p := ⟨row, k * 6 + 4, none⟩) hrow).trans e4
      replace e5 := (HB.out.cell (p := ⟨row, k * 6 + 5, none⟩) hrow).trans e5
      have hY := HY.out k (wr.alloc (.cells #[.int .i64 b.l[k].kind, .int .i64 b.l[k].int, .string b.l[k].text, .int .u32 b.l[k].cr, .slice na2 b.l[k].nums.length nc2, .slice a2 b.l[k].args.length cap2] 35 (0, 0))) hlt (HJb.out _ _ _ HJ.out ((Below.refl _ _).alloc (Nat.le_refl _) _))
      rw [hvs] at hY
      obtain ⟨fn, tmps, assign, body, hy, hR⟩ := hY
      have HR := Lib.hid hR
      have hki : (k : Int) < (b.l.length : Int) := by omega
      have hk0 : (0 : Int) ≤ (k : Int) := by omega
      have hk1 : (k : Int) ≤ 4096 := by omega
      clear hcs ht hnn hvs hR hrow
      gi_wp2
      refine ⟨rfl, ?_⟩
      refine HR.out.mono ?_
      rintro e W' ⟨rfl, hJ'⟩
      have HJ' := Lib.hid hJ'
      clear hJ' hy e0 e1 e2 e3 e4 e5
      gi_wp2
      go_roundw
      case rel => exact ⟨k + 1, by omega, by go_num, HJ'.out⟩
      case measure => simp [intOf]; omega
    · obtain rfl : k = b.l.length := by omega
      gi_wp2
      go_end0
      exact ⟨⟨_, rfl⟩, HJ.out⟩
theorem messages_any (g : Nat) (w : World) : Calls Tryz.prog 80 #[.pointer (some ⟨g, 0, none⟩)] w fun e w' => e = .returned (.func (.func 109) #[] #[.pointer (some ⟨w.heap.size, 0, none⟩)]) ∧ w' = w.alloc (.cells #[.pointer (some ⟨g, 0, none⟩)] 23 (0, 0)) := by
  go_enter Tryz.func80, Tryz.ntmps80
  go_wp2
  go_ret
  exact ⟨rfl, rfl⟩
end Go.Proofs.YtlahagabcnmdiaaGreatDoor
end
section
/- Package mail: All. Printed by wip/mar.py. -/
open Go Go.RowKit
namespace Go.Proofs.YtlahagabcnmdiaaGreatDoor
set_option linter.unusedVariables false
set_option linter.unusedSimpArgs false

def RetAll (w : World) (l : List Tm) (e : Ending) (w' : World) : Prop := ∃ v, e = .returned v ∧ TsIs w.heap.size (fun q => w.heap.size ≤ q) v l w' ∧ Below w.heap.size w w'
/-- what holds between two rounds -/
def AllJ (l : List Tm) (g : Nat) (w : World) (L : Nat) (k : Nat) (W : World) : Prop :=
  Below w.heap.size w W ∧ Cells W (w.heap.size + 1) 23 [.pointer (some ⟨g, 0, none⟩)] ∧ ∃ v S, LsAt w.heap.size w.heap.size 26 [v] 0 v S (l.take k) W ∧ ∀ q, S q → q ≠ L ∧ q + 1 ≠ L
theorem AllJ.below {l : List Tm} {g L k : Nat} {w W W' : World} (h : AllJ l g w L k W) (hb : Below W.heap.size W W') : AllJ l g w L k W' := by
  obtain ⟨h1, h2, v, S, h3, h4⟩ := h
  exact ⟨h1.trans (hb.mono h1.size), h2.below hb, v, S, h3.below hb, h4⟩
theorem not_loop {W : World} {q L : Nat} {cs : Array Value} {t : TypeId} {f : Nat × Nat} {r : Loop} (h : W.heap[q]? = some (.cells cs t f)) (hL : W.heap[L]? = some (.loop r)) : q ≠ L := by
  intro e; rw [e, hL] at h; injection h with h; cases h
theorem not_deferred {W : World} {q L : Nat} {cs : Array Value} {t : TypeId} {f : Nat × Nat} {r : Option (List Deferred)} (h : W.heap[q]? = some (.cells cs t f)) (hL : W.heap[L]? = some (.deferred r)) : q ≠ L := by
  intro e; rw [e, hL] at h; injection h with h; cases h
theorem keepPut (W : World) (L : Nat) (o : Obj) : Keep (Blk1 L) W (W.putObj L o) :=
  ⟨rfl, rfl, rfl, by rw [World.putObj_size]; exact Nat.le_refl _, fun k _ hk => World.putObj_heap_other (fun e => hk e)⟩
theorem AllJ.put {l : List Tm} {g L k : Nat} {w W : World} {r : Loop} (o : Loop) (hwL : w.heap.size ≤ L) (h : AllJ l g w L k W) (hL : W.heap[L]? = some (.loop r)) : AllJ l g w L k (W.putObj L (.loop o)) := by
  obtain ⟨h1, h2, v, S, h3, h4⟩ := h
  refine ⟨?_, h2.keep (keepPut _ _ _) (not_loop h2 hL), v, S, h3.keep (keepPut _ _ _) (not_loop h3.cells hL) (fun q hq => ?_) (fun q hq => (h4 q hq).1), h4⟩
  · exact below_keep h1 (keepPut W L _) h1.size (fun k hk => by rw [show k = L from hk]; exact hwL)
  · obtain ⟨_, _, cur, hcur⟩ := h3.rows.block hq
    exact not_loop hcur hL
theorem AllJ.next {l : List Tm} {g L k : Nat} {w W0 W : World} {v v2 : Value} {S S2 : Nat → Prop} (hk : k < l.length) (hwL : L < W0.heap.size) (hb : Below w.heap.size w W0) (hM : Cells W0 (w.heap.size + 1) 23 [.pointer (some ⟨g, 0, none⟩)])
    (h0 : LsAt w.heap.size w.heap.size 26 [v] 0 v S (l.take k) W0) (hS : ∀ q, S q → q ≠ L ∧ q + 1 ≠ L) (K : Keep (LsK w.heap.size v) W0 W)
    (h : LsAt w.heap.size w.heap.size 26 ([v].set 0 v2) 0 v2 S2 (l.take k ++ [l[k]]) W) (hS2 : ∀ q, S2 q → S q ∨ W0.heap.size ≤ q) : AllJ l g w L (k + 1) W := by
  refine ⟨below_keep hb K hb.size (fun q hq => ?_), hM.keep K ?_, v2, S2, ?_, fun q hq => ?_⟩
  · rcases hq with e | e
    · rw [e]; exact Nat.le_refl _
    · exact (h0.hv q e).1
  · rintro (e | e)
    · omega
    · obtain ⟨_, _, cur, hcur⟩ := h0.rows.block e
      unfold Cells at hM
      rw [hM] at hcur
      injection hcur with hcur
      injection hcur with _ h2
      exact absurd h2 (by decide)
  · rw [List.take_succ_eq_append_getElem hk]; exact h
  · rcases hS2 q hq with h1 | h1
    · exact hS q h1
    · omega
set_option maxHeartbeats 8000000 in
set_option maxRecDepth 100000 in
theorem mAll_live {F : Nat → Prop} {g : Nat} {b : Bx} (w : World) (h : BxIs F g b w) :
    Calls Tryz.prog 43 #[.pointer (some ⟨g, 0, none⟩)] w (RetAll w b.l) := by
  obtain ⟨lv, hC, hT, _⟩ := h.upd
  have hl46 := h.2.1
  obtain ⟨a, c, rfl⟩ := hT.form
  obtain ⟨vss, hV⟩ := hT.vals
  have HC := Lib.hid hC
  have HV := Lib.hid hV
  have HO := Lib.hid (mOk_live w hC)
  have HL46 := Lib.hid hl46
  have B1 := Lib.hid ((Below.refl w.heap.size w).alloc (Nat.le_refl _) (.cells #[.slice none 0 0] 26 (0, 0)))
  have C1 := Lib.hid (Cells.new w 26 [.slice none 0 0])
  have B2 := Lib.hid (B1.out.alloc (by simp) (.cells #[.pointer (some ⟨g, 0, none⟩)] 23 (0, 0)))
  have C2 := Lib.hid (C1.out.alloc (.cells #[.pointer (some ⟨g, 0, none⟩)] 23 (0, 0)))
  have M2 := Lib.hid (Cells.new (w.alloc (.cells #[.slice none 0 0] 26 (0, 0))) 23 [.pointer (some ⟨g, 0, none⟩)])
  clear hC hT hV h hl46
  refine calls_of_marks Tryz.func43 rfl ?_
  simp only [Tryz.ntmps43, List.size_toArray, List.length_cons, List.length_nil, Nat.reduceAdd, Nat.reduceSub, Array.replicate_succ, Array.replicate_zero, List.push_toArray, List.append_toArray, List.nil_append, List.cons_append]
  go_wp2_with fail
  refine HO.out.mono ?_
  rintro e w1 ⟨rfl, rfl⟩
  go_wp2_with fail
  refine (messages_any g _).mono ?_
  rintro e w2 ⟨rfl, rfl⟩
  go_wp2
  have HSZ := Lib.hid (show ((w.alloc (.cells #[.slice none 0 0] 26 (0, 0))).alloc (.cells #[.pointer (some ⟨g, 0, none⟩)] 23 (0, 0))).heap.size = w.heap.size + 2 by simp)
  have J0 := Lib.hid (show AllJ b.l g w (w.heap.size + 3) 0 ((w.alloc (.cells #[.slice none 0 0] 26 (0, 0))).alloc (.cells #[.pointer (some ⟨g, 0, none⟩)] 23 (0, 0))) from
    ⟨B2.out, by simpa using M2.out, _, _, LsAt.nil C2.out rfl, fun _ h => h.elim⟩)
  clear B1 C1 B2 C2 M2
  generalize (w.alloc (.cells #[.slice none 0 0] 26 (0, 0))).alloc (.cells #[.pointer (some ⟨g, 0, none⟩)] 23 (0, 0)) = wr at *
  refine wp_rangeFunc_all (gf := 109) (lb := #[.pointer (some ⟨w.heap.size + 1, 0, none⟩)]) rfl (Go.Proofs.enters_of Tryz.func109 (by kernel_rfl) rfl) (AllJ b.l g w (w.heap.size + 3)) b.l.length (fun k => #[.agg (vss k).toArray]) (fun _ => rfl)
    (fun k W W' h hb => h.below hb) (fun k W r o h hL => by rw [HSZ.out] at hL ⊢; exact h.put o (by omega) hL) J0.out ?hit ?round ?done
  case hit =>
    intro l J' hb hJ W h0 hY
    exact messages1_in g (w.heap.size + 1) l b a c _ vss J' w HL46.out HC.out (fun k W h => (hJ k W h).2.1) HV.out (fun k W h => (hJ k W h).1) hb W h0 hY
  case done =>
    intro W hJ hD
    rw [HSZ.out] at hD
    obtain ⟨hb, hm, v, S, hls, hsl⟩ := hJ
    have c0 := hls.cells.cell 0
    simp only [List.getElem?_cons_zero] at c0
    have HLS := Lib.hid hls
    have HSL := Lib.hid hsl
    have HD := Lib.hid hD
    have HB := Lib.hid hb
    clear hb hm hls hsl hD
    go_wp2
    refine ⟨by simp, .inl ⟨_, _, rfl, run_takeDeferred (by rw [HSZ.out]; exact HD.out), ?_⟩⟩
    refine ⟨_, results_tmp rfl _ _ _, v, rfl, ?_, ?_⟩
    · have h1 := HLS.out.keep (keepPut W (w.heap.size + 2) (.deferred none)) (not_deferred HLS.out.cells HD.out) (fun q hq => by
        obtain ⟨_, _, cur, hcur⟩ := HLS.out.rows.block hq
        exact not_deferred hcur HD.out) (fun q hq e => (HSL.out q hq).2 (by have e : q = w.heap.size + 2 := e; omega))
      have h2 := h1.rows
      rw [List.take_length] at h2
      rw [HSZ.out]
      exact h2.mono (Nat.le_refl _) (fun q _ hq => (HLS.out.hS q hq).1)
    · rw [HSZ.out]
      exact below_keep HB.out (keepPut W (w.heap.size + 2) _) HB.out.size (fun q (e : q = _) => by omega)
  case round =>
    intro k W hk hJ ⟨r, hL⟩ ⟨od, hD⟩
    rw [HSZ.out] at hL hD ⊢
    obtain ⟨row, c', hv, hcs, ht⟩ := HV.out k hk
    obtain ⟨_, nv, a2, cap2, hvs, hnn, _⟩ := ht.parts
    obtain ⟨na2, nc2, rfl, _, _⟩ := hnn.slice
    rw [hvs] at ht
    have HTM := Lib.hid ht
    have HJ := Lib.hid hJ
    have HL := Lib.hid hL
    have HD := Lib.hid hD
    have HK := Lib.hid hk
    simp only [hvs]
    clear hv hcs ht hvs hnn hJ hL hD
    refine region_round_list ?_ (by rintro ⟨_, _, h⟩; exact h) ?_
    · kernel_rfl
    go_wp2
    refine ⟨(Below.refl _ _).alloc (Nat.le_refl _) _, fun o => ?_⟩
    have HA := Lib.hid ((Below.refl W.heap.size W).alloc (Nat.le_refl _) (.cells #[.int .i64 b.l[k].kind, .int .i64 b.l[k].int, .string b.l[k].text, .int .u32 b.l[k].cr, .slice na2 b.l[k].nums.length nc2, .slice a2 b.l[k].args.length cap2] 35 (0, 0)))
    have HL1 := Lib.hid ((HA.out.block _ (Array.getElem?_eq_some_iff.1 HL.out).1).trans HL.out)
    have HD1 := Lib.hid ((HA.out.block _ (Array.getElem?_eq_some_iff.1 HD.out).1).trans HD.out)
    have HJ1 := Lib.hid ((HJ.out.below HA.out).put o (by omega) HL1.out)
    have HNL := Lib.hid (show W.heap.size ≠ w.heap.size + 2 + 1 from fun e => by have := (Array.getElem?_eq_some_iff.1 HL.out).1; omega)
    have HND := Lib.hid (show W.heap.size ≠ w.heap.size + 2 from fun e => by have := (Array.getElem?_eq_some_iff.1 HD.out).1; omega)
    have CT1 := Lib.hid (show Cells _ W.heap.size 35 [.int .i64 b.l[k].kind, .int .i64 b.l[k].int, .string b.l[k].text, .int .u32 b.l[k].cr, .slice na2 b.l[k].nums.length nc2, .slice a2 b.l[k].args.length cap2] from (Cells.new W 35 [.int .i64 b.l[k].kind, .int .i64 b.l[k].int, .string b.l[k].text, .int .u32 b.l[k].cr, .slice na2 b.l[k].nums.length nc2, .slice a2 b.l[k].args.length cap2]).keep (keepPut _ (w.heap.size + 2 + 1) (.loop o)) HNL.out)
    have HL2 := Lib.hid (World.putObj_heap_same (o := .loop o) (Array.getElem?_eq_some_iff.1 HL1.out).1)
    have HD2 := Lib.hid ((World.putObj_heap_other (w := W.alloc (.cells #[.int .i64 b.l[k].kind, .int .i64 b.l[k].int, .string b.l[k].text, .int .u32 b.l[k].cr, .slice na2 b.l[k].nums.length nc2, .slice a2 b.l[k].args.length cap2] 35 (0, 0))) (r := w.heap.size + 2 + 1) (o := .loop o) (show w.heap.size + 2 ≠ w.heap.size + 2 + 1 by omega)).trans HD1.out)
    have HWW := Lib.hid (show w.heap.size < W.heap.size from by have := (Array.getElem?_eq_some_iff.1 HL.out).1; omega)
    obtain ⟨_, _, v, S, hls0, hsl⟩ := HJ.out
    have HOB := Lib.hid (fun q (hq : v.ownBlock = some q) => (hls0.rows.block hq).2.1)
    have HLX := Lib.hid ((hls0.below HA.out).keep (keepPut _ (w.heap.size + 2 + 1) (.loop o)) (not_loop (hls0.below HA.out).cells HL1.out) (fun q hq => by
        obtain ⟨_, _, cur, hcur⟩ := (hls0.below HA.out).rows.block hq
        exact not_loop hcur HL1.out) (fun q hq => (hsl q hq).1))
    clear HA HL1 HD1 HJ HNL HND hls0
    generalize (W.alloc (.cells #[.int .i64 b.l[k].kind, .int .i64 b.l[k].int, .string b.l[k].text, .int .u32 b.l[k].cr, .slice na2 b.l[k].nums.length nc2, .slice a2 b.l[k].args.length cap2] 35 (0, 0))).putObj (w.heap.size + 2 + 1) (.loop o) = wx at *
    obtain ⟨BX, MX, _⟩ := HJ1.out
    obtain ⟨a4, c4, rfl, -, -⟩ := HLX.out.form
    have hls := HLX.out
    have HTK := Lib.hid (show (b.l.take k).length = k by rw [List.length_take]; omega)
    rw [HTK.out] at hls HOB
    have HLS := Lib.hid hls
    have HBX := Lib.hid BX
    have HFIN := Lib.hid (show ∀ W3 v2 S2, Keep (LsK w.heap.size (.slice a4 k c4)) wx W3 → LsAt w.heap.size w.heap.size 26 [v2] 0 v2 S2 (b.l.take k ++ [b.l[k]]) W3 → (∀ q, S2 q → S q ∨ wx.heap.size ≤ q) →
        Exit.normal = Exit.normal ∧ AllJ b.l g w (w.heap.size + 3) (k + 1) W3 ∧ W3.heap[w.heap.size + 2 + 1]? = wx.heap[w.heap.size + 2 + 1]? ∧ W3.heap[w.heap.size + 2]? = wx.heap[w.heap.size + 2]? from fun W3 v2 S2 K L6 h2 =>
      ⟨rfl, AllJ.next hk (Array.getElem?_eq_some_iff.1 HL2.out).1 BX MX hls hsl K L6 h2,
        K.block _ (Array.getElem?_eq_some_iff.1 HL2.out).1 (fun e => by
          rcases e with e | e
          · omega
          · obtain ⟨_, _, cur, hcur⟩ := hls.rows.block e
            exact not_loop hcur HL2.out rfl),
        K.block _ (Array.getElem?_eq_some_iff.1 HD2.out).1 (fun e => by
          rcases e with e | e
          · omega
          · obtain ⟨_, _, cur, hcur⟩ := hls.rows.block e
            exact not_deferred hcur HD2.out rfl)⟩)
    have HNB := Lib.hid (show ¬ LsK w.heap.size (.slice a4 k c4) W.heap.size from fun e => by
      rcases e with e | e
      · have := HWW.out; omega
      · exact Nat.lt_irrefl _ (HOB.out _ e))
    have hx0 : (0 : Int) ≤ (k : Int) := by omega
    have hx1 : (k : Int) < (k : Int) + 1 := by omega
    have HLEN := Lib.hid (show (b.l.take k).length < 1000000000000 from by rw [HTK.out]; have := HL46.out; omega)
    clear BX MX hls hsl HJ1 HL2 HD2 HLX HOB
    refine wpIn_block ?_
    refine region_round (S := fun X => Cells X W.heap.size 35 [.int .i64 b.l[k].kind, .int .i64 b.l[k].int, .string b.l[k].text, .int .u32 b.l[k].cr, .slice na2 b.l[k].nums.length nc2, .slice a2 b.l[k].args.length cap2]) (by kernel_rfl) (by rintro ⟨_, _, h, _⟩; cases h) (by kernel_rfl) (CT1.out.drew) (fun hHeld => ?_)
    refine wpAnyH_take (i := 1) (v := (.agg #[.int .i64 b.l[k].kind, .int .i64 b.l[k].int, .string b.l[k].text, .int .u32 b.l[k].cr, .slice na2 b.l[k].nums.length nc2, .slice a2 b.l[k].args.length cap2])) (by simp only [List.getElem?_toArray, List.getElem?_cons_succ, List.getElem?_cons_zero]; rfl) (by kernel_rfl) (by kernel_rfl) (by kernel_rfl) (by exact fun _ _ _ h => h) (Or.inl ⟨by rfl, by intro W hSw; have x0 := hSw.cell 0; have x1 := hSw.cell 1; have x2 := hSw.cell 2; have x3 := hSw.cell 3; have x4 := hSw.cell 4; have x5 := hSw.cell 5; go_simp; all_goals first | rfl | exact ⟨rfl, rfl, rfl, rfl, rfl, rfl⟩⟩) (by assumption) ?_
    try simp only [Act.put, List.setIfInBounds_toArray, List.set_cons_zero, List.set_cons_succ]
    have KD := Lib.hid (show Keep (LsK w.heap.size (.slice a4 k c4)) wx wx.drew from (Keep.refl _ wx).drew)
    have HLSD := Lib.hid (HLS.out.below (Below.drew (Below.refl _ wx)))
    have HBXD := Lib.hid (HBX.out.drew)
    have HSZX := Lib.hid (show wx.drew.heap.size = wx.heap.size from rfl)
    generalize wx.drew = w0 at *
    have BW := Lib.hid (Below.refl w0.heap.size w0)
    have HCT := Lib.hid hHeld
    refine wpAnyH_ready (rs := [0, 2, 4]) (by kernel_rfl) (by simp) ?_
    refine AllReadyH.cons (by simp only [List.getElem?_toArray, List.getElem?_cons_succ, List.getElem?_cons_zero]; rfl) (fun K hK => ?_) ?_
    · have c1 : w0.cell? ⟨w.heap.size, 0, none⟩ = some (.slice a4 k c4) := by have := (HLSD.out.cells.below BW.out).cell 0; rw [this]; exact HLSD.out.at_
      go_simp
      clear c1
      refine hK.out _ _ (hHeld) (fun hHeld => ?_)
      try simp only [Act.put, List.setIfInBounds_toArray, List.set_cons_zero, List.set_cons_succ]
      refine wpAnyH_take (i := 3) (v := (.int .i64 k)) (by simp only [List.getElem?_toArray, List.getElem?_cons_succ, List.getElem?_cons_zero]; rfl) (by kernel_rfl) (by kernel_rfl) (by kernel_rfl) (by exact fun _ _ _ h => h) (Or.inl ⟨by rfl, by intro W hSw; go_simp; all_goals first | rfl | exact ⟨rfl, rfl, rfl, rfl, rfl, rfl⟩⟩) (by assumption) ?_
      try simp only [Act.put, List.setIfInBounds_toArray, List.set_cons_zero, List.set_cons_succ]
      refine wpAnyH_ready (rs := [2, 4]) (by kernel_rfl) (by simp) ?_
      refine AllReadyH.cons (by simp only [List.getElem?_toArray, List.getElem?_cons_succ, List.getElem?_cons_zero]; rfl) (fun K hK => ?_) ?_
      · go_simp
        refine (copy_any _ b.l[k] [.int .i64 b.l[k].kind, .int .i64 b.l[k].int, .string b.l[k].text, .int .u32 b.l[k].cr, .slice na2 b.l[k].nums.length nc2, .slice a2 b.l[k].args.length cap2] w0 (HTM.out.below (HBXD.out.trans (BW.out.mono HBXD.out.size)))).mono ?_
        rintro e w11 ⟨vs3, rfl, ht3, hb3⟩
        obtain ⟨_, nv3, a3, cap3, rfl, hnn3, _⟩ := id ht3.parts
        obtain ⟨na3, nc3, rfl, _, _⟩ := hnn3.slice
        clear hnn3
        obtain ⟨SC, hSC⟩ : ∃ SC : Nat → Prop, ∀ q, SC q ↔ (w0.heap.size ≤ q ∧ q < w11.heap.size) := ⟨_, fun _ => Iff.rfl⟩
        have TW := Lib.hid (ht3.mono (S' := SC) (fun q hlt hq => (hSC q).2 ⟨hq, hlt⟩))
        have HSC := Lib.hid (show ∀ q, SC q → w0.heap.size ≤ q ∧ q < w11.heap.size from fun q hq => ⟨Nat.le_trans BW.out.size ((hSC q).1 hq).1, ((hSC q).1 hq).2⟩)
        have BW := Lib.hid (BW.out.trans (hb3.mono BW.out.size))
        have hHeld := hHeld.below hb3
        clear hSC ht3 hb3
        refine hK.out _ _ (hHeld) (fun hHeld => ?_)
        try simp only [Act.put, List.setIfInBounds_toArray, List.set_cons_zero, List.set_cons_succ]
        refine wpAnyH_ready (rs := [4]) (by kernel_rfl) (by simp) ?_
        refine AllReadyH.cons (by simp only [List.getElem?_toArray, List.getElem?_cons_succ, List.getElem?_cons_zero]; rfl) (fun K hK => ?_) AllReadyH.nil
        go_simp
        have ZW := Lib.hid (show Cells (w11.alloc (.cells #[.int .i64 0, .int .i64 0, .string ⟨#[]⟩, .int .u32 0, .slice none 0 0, .slice none 0 0] 35)) w11.heap.size 35 termZ from Cells.new w11 35 termZ)
        have BA := Lib.hid ((Below.refl _ _).alloc (Nat.le_refl w11.heap.size) (.cells #[.int .i64 0, .int .i64 0, .string ⟨#[]⟩, .int .u32 0, .slice none 0 0, .slice none 0 0] 35 (0, 0)))
        have TW := Lib.hid (TW.out.below BA.out)
        have HSC := Lib.hid (fun q (hq : SC q) => (⟨(HSC.out q hq).1, Nat.lt_of_lt_of_le (HSC.out q hq).2 BA.out.size⟩ : w0.heap.size ≤ q ∧ _))
        have BW := Lib.hid (BW.out.trans (BA.out.mono BW.out.size))
        refine hK.out _ _ (hHeld.below BA.out) (fun hHeld => ?_)
        try simp only [Act.put, List.setIfInBounds_toArray, List.set_cons_zero, List.set_cons_succ]
        clear BA
        generalize (w11.alloc (.cells #[.int .i64 0, .int .i64 0, .string ⟨#[]⟩, .int .u32 0, .slice none 0 0, .slice none 0 0] 35)) = w22 at *
        have PS := Lib.hid (ls_app (HLSD.out.below BW.out) HLEN.out (Nat.le_trans HBXD.out.size BW.out.size) ZW.out TW.out (fun q hq => ⟨Nat.le_trans HBXD.out.size (HSC.out q hq).1, (HSC.out q hq).2, fun e => Nat.lt_irrefl _ (Nat.lt_of_lt_of_le (e ▸ HLSD.out.cells.lt) (HSC.out q hq).1), fun e => Nat.lt_irrefl _ (Nat.lt_of_lt_of_le (HLSD.out.rows.block e).2.1 (HSC.out q hq).1)⟩))
        replace PS := Lib.hid (by have h := PS.out; unfold LsEnd at h; rw [HTK.out] at h; exact h)
        obtain ⟨kk, cc, W2, hrun, hcc, hcm, ⟨hkb, hkg⟩, hK2, hC2, HA, HBB⟩ := PS.out
        have HRUN := Lib.hid hrun
        have HA := Lib.hid HA
        have HBB := Lib.hid HBB
        have KW := Lib.hid (Keep.of_below (B := w0.heap.size) BW.out (Nat.le_refl _) (LsK w.heap.size (.slice a4 k c4)))
        clear PS hrun
        have C2 := Lib.hid hC2
        have K2 := Lib.hid (KW.out.trans hK2 (fun _ _ h => h))
        clear hC2 hK2
        refine wpAnyH_ready (rs := [5]) (by kernel_rfl) (by simp) ?_
        refine AllReadyH.cons (by simp only [List.getElem?_toArray, List.getElem?_cons_succ, List.getElem?_cons_zero]; rfl) (fun K hK => ?_) AllReadyH.nil
        refine step_app_eq (by rfl) _ _ _ _ (by rfl) _ _ (.slice (some ⟨kk, 0, none⟩) (k + 1) cc) W2 (by rfl) (by rfl) HRUN.out ?_
        refine hK.out _ _ (HCT.out.keep (K2.out) HNB.out) (fun hHeld => ?_)
        try simp only [Act.put, List.setIfInBounds_toArray, List.set_cons_zero, List.set_cons_succ]
        refine wpAnyH_take (i := 6) (v := (.pointer (some ⟨kk, k * 6, none⟩))) (by simp only [List.getElem?_toArray, List.getElem?_cons_succ, List.getElem?_cons_zero]; rfl) (by kernel_rfl) (by kernel_rfl) (by kernel_rfl) (by exact fun _ _ _ h => h) (Or.inl ⟨by rfl, by intro W hSw; have x0 := hx0; have x1 := hx1; go_simp; all_goals first | rfl | exact ⟨rfl, rfl, rfl, rfl, rfl, rfl⟩⟩) (by assumption) ?_
        try simp only [Act.put, List.setIfInBounds_toArray, List.set_cons_zero, List.set_cons_succ]
        refine wpAnyH_ready (rs := [7, 8]) (by kernel_rfl) (by simp) ?_
        refine AllReadyH.cons (by simp only [List.getElem?_toArray, List.getElem?_cons_succ, List.getElem?_cons_zero]; rfl) (fun K hK => ?_) ?_
        · obtain ⟨cs, hcs, hcl, hf⟩ := HA.out
          refine step_store_blk (by rfl) _ (.tmp 17) (.tmp 13) (by rfl) kk (k * 6) [.int .i64 b.l[k].kind, .int .i64 b.l[k].int, .string b.l[k].text, .int .u32 b.l[k].cr, .slice na3 b.l[k].nums.length nc3, .slice a3 b.l[k].args.length cap3] (by rfl) (by rfl) (by kernel_rfl) (by simp [Value.oneCell']) 35 cs hcs hcl ?_
          intro w30 hC30 hg30
          obtain ⟨K5, C5, K6, S2, hS2, L6⟩ := hf w30 hC30 hg30
          have K5 := Lib.hid (KW.out.trans K5 (fun _ _ h => h))
          have K6 := Lib.hid (KW.out.trans K6 (fun _ _ h => h))
          have L6 := Lib.hid L6
          have HS2 := Lib.hid hS2
          have C5 := Lib.hid C5
          clear hC30 hg30 hcs hcl hf hS2
          refine hK.out _ _ (HCT.out.keep (K5.out) HNB.out) (fun hHeld => ?_)
          try simp only [Act.put, List.setIfInBounds_toArray, List.set_cons_zero, List.set_cons_succ]
          have c1 : w30.cell? ⟨w.heap.size, 0, none⟩ = some (.slice a4 k c4) := by rw [C5.out.cell 0]; exact HLSD.out.at_
          have f1 := C5.out.frozen 0
          refine wpAnyH_ready (rs := [8]) (by kernel_rfl) (by simp) ?_
          refine AllReadyH.cons (by simp only [List.getElem?_toArray, List.getElem?_cons_succ, List.getElem?_cons_zero]; rfl) (fun K hK => ?_) AllReadyH.nil
          go_simp
          refine hK.out _ _ (HCT.out.keep (K6.out) HNB.out) (fun hHeld => ?_)
          try simp only [Act.put, List.setIfInBounds_toArray, List.set_cons_zero, List.set_cons_succ]
          refine wpAnyH_done (by kernel_rfl) ?_ _
          exact HFIN.out _ _ _ (KD.out.trans (K6.out) (fun _ _ h => h)) (L6.out) (fun q hq => (HS2.out q hq).imp_right (fun h => by have := (HSC.out q h).1; have := HSZX.out; omega))
        refine AllReadyH.cons (by simp only [List.getElem?_toArray, List.getElem?_cons_succ, List.getElem?_cons_zero]; rfl) (fun K hK => ?_) ?_
        · obtain ⟨K4, cs, hcs, hcl, hf⟩ := HBB.out
          have K4 := Lib.hid (KW.out.trans K4 (fun _ _ h => h))
          have c1 : W2.cell? ⟨w.heap.size, 0, none⟩ = some (.slice a4 k c4) := by rw [C2.out.cell 0]; exact HLSD.out.at_
          have f1 := C2.out.frozen 0
          have HCS := Lib.hid hcs
          have HF := Lib.hid hf
          clear hcs hf
          go_simp
          clear c1 f1
          refine hK.out _ _ (HCT.out.keep (K4.out) HNB.out) (fun hHeld => ?_)
          try simp only [Act.put, List.setIfInBounds_toArray, List.set_cons_zero, List.set_cons_succ]
          refine wpAnyH_ready (rs := [7]) (by kernel_rfl) (by simp) ?_
          refine AllReadyH.cons (by simp only [List.getElem?_toArray, List.getElem?_cons_succ, List.getElem?_cons_zero]; rfl) (fun K hK => ?_) AllReadyH.nil
          refine step_store_blk (by rfl) _ (.tmp 17) (.tmp 13) (by rfl) kk (k * 6) [.int .i64 b.l[k].kind, .int .i64 b.l[k].int, .string b.l[k].text, .int .u32 b.l[k].cr, .slice na3 b.l[k].nums.length nc3, .slice a3 b.l[k].args.length cap3] (by rfl) (by rfl) (by kernel_rfl) (by simp [Value.oneCell']) 35 cs HCS.out hcl ?_
          intro w30 hC30 hg30
          obtain ⟨K5, S2, hS2, L6⟩ := HF.out w30 hC30 hg30
          have K6 := Lib.hid (KW.out.trans K5 (fun _ _ h => h))
          have L6 := Lib.hid L6
          have HS2 := Lib.hid hS2
          clear hC30 hg30 hcl HF HCS K5 hS2
          refine hK.out _ _ (HCT.out.keep (K6.out) HNB.out) (fun hHeld => ?_)
          try simp only [Act.put, List.setIfInBounds_toArray, List.set_cons_zero, List.set_cons_succ]
          refine wpAnyH_done (by kernel_rfl) ?_ _
          exact HFIN.out _ _ _ (KD.out.trans (K6.out) (fun _ _ h => h)) (L6.out) (fun q hq => (HS2.out q hq).imp_right (fun h => by have := (HSC.out q h).1; have := HSZX.out; omega))
        exact AllReadyH.nil
      refine AllReadyH.cons (by simp only [List.getElem?_toArray, List.getElem?_cons_succ, List.getElem?_cons_zero]; rfl) (fun K hK => ?_) ?_
      · go_simp
        have ZW := Lib.hid (show Cells (w0.alloc (.cells #[.int .i64 0, .int .i64 0, .string ⟨#[]⟩, .int .u32 0, .slice none 0 0, .slice none 0 0] 35)) w0.heap.size 35 termZ from Cells.new w0 35 termZ)
        have BA := Lib.hid ((Below.refl _ _).alloc (Nat.le_refl w0.heap.size) (.cells #[.int .i64 0, .int .i64 0, .string ⟨#[]⟩, .int .u32 0, .slice none 0 0, .slice none 0 0] 35 (0, 0)))
        have BW := Lib.hid (BW.out.trans (BA.out.mono BW.out.size))
        refine hK.out _ _ (hHeld.below BA.out) (fun hHeld => ?_)
        try simp only [Act.put, List.setIfInBounds_toArray, List.set_cons_zero, List.set_cons_succ]
        clear BA
        generalize (w0.alloc (.cells #[.int .i64 0, .int .i64 0, .string ⟨#[]⟩, .int .u32 0, .slice none 0 0, .slice none 0 0] 35)) = w21 at *
        refine wpAnyH_ready (rs := [2]) (by kernel_rfl) (by simp) ?_
        refine AllReadyH.cons (by simp only [List.getElem?_toArray, List.getElem?_cons_succ, List.getElem?_cons_zero]; rfl) (fun K hK => ?_) AllReadyH.nil
        go_simp
        refine (copy_any _ b.l[k] [.int .i64 b.l[k].kind, .int .i64 b.l[k].int, .string b.l[k].text, .int .u32 b.l[k].cr, .slice na2 b.l[k].nums.length nc2, .slice a2 b.l[k].args.length cap2] w21 (HTM.out.below (HBXD.out.trans (BW.out.mono HBXD.out.size)))).mono ?_
        rintro e w12 ⟨vs3, rfl, ht3, hb3⟩
        obtain ⟨_, nv3, a3, cap3, rfl, hnn3, _⟩ := id ht3.parts
        obtain ⟨na3, nc3, rfl, _, _⟩ := hnn3.slice
        clear hnn3
        obtain ⟨SC, hSC⟩ : ∃ SC : Nat → Prop, ∀ q, SC q ↔ (w21.heap.size ≤ q ∧ q < w12.heap.size) := ⟨_, fun _ => Iff.rfl⟩
        have TW := Lib.hid (ht3.mono (S' := SC) (fun q hlt hq => (hSC q).2 ⟨hq, hlt⟩))
        have HSC := Lib.hid (show ∀ q, SC q → w0.heap.size ≤ q ∧ q < w12.heap.size from fun q hq => ⟨Nat.le_trans BW.out.size ((hSC q).1 hq).1, ((hSC q).1 hq).2⟩)
        have ZW := Lib.hid (ZW.out.below hb3)
        have BW := Lib.hid (BW.out.trans (hb3.mono BW.out.size))
        have hHeld := hHeld.below hb3
        clear hSC ht3 hb3
        refine hK.out _ _ (hHeld) (fun hHeld => ?_)
        try simp only [Act.put, List.setIfInBounds_toArray, List.set_cons_zero, List.set_cons_succ]
        have PS := Lib.hid (ls_app (HLSD.out.below BW.out) HLEN.out (Nat.le_trans HBXD.out.size BW.out.size) ZW.out TW.out (fun q hq => ⟨Nat.le_trans HBXD.out.size (HSC.out q hq).1, (HSC.out q hq).2, fun e => Nat.lt_irrefl _ (Nat.lt_of_lt_of_le (e ▸ HLSD.out.cells.lt) (HSC.out q hq).1), fun e => Nat.lt_irrefl _ (Nat.lt_of_lt_of_le (HLSD.out.rows.block e).2.1 (HSC.out q hq).1)⟩))
        replace PS := Lib.hid (by have h := PS.out; unfold LsEnd at h; rw [HTK.out] at h; exact h)
        obtain ⟨kk, cc, W2, hrun, hcc, hcm, ⟨hkb, hkg⟩, hK2, hC2, HA, HBB⟩ := PS.out
        have HRUN := Lib.hid hrun
        have HA := Lib.hid HA
        have HBB := Lib.hid HBB
        have KW := Lib.hid (Keep.of_below (B := w0.heap.size) BW.out (Nat.le_refl _) (LsK w.heap.size (.slice a4 k c4)))
        clear PS hrun
        have C2 := Lib.hid hC2
        have K2 := Lib.hid (KW.out.trans hK2 (fun _ _ h => h))
        clear hC2 hK2
        refine wpAnyH_ready (rs := [5]) (by kernel_rfl) (by simp) ?_
        refine AllReadyH.cons (by simp only [List.getElem?_toArray, List.getElem?_cons_succ, List.getElem?_cons_zero]; rfl) (fun K hK => ?_) AllReadyH.nil
        refine step_app_eq (by rfl) _ _ _ _ (by rfl) _ _ (.slice (some ⟨kk, 0, none⟩) (k + 1) cc) W2 (by rfl) (by rfl) HRUN.out ?_
        refine hK.out _ _ (HCT.out.keep (K2.out) HNB.out) (fun hHeld => ?_)
        try simp only [Act.put, List.setIfInBounds_toArray, List.set_cons_zero, List.set_cons_succ]
        refine wpAnyH_take (i := 6) (v := (.pointer (some ⟨kk, k * 6, none⟩))) (by simp only [List.getElem?_toArray, List.getElem?_cons_succ, List.getElem?_cons_zero]; rfl) (by kernel_rfl) (by kernel_rfl) (by kernel_rfl) (by exact fun _ _ _ h => h) (Or.inl ⟨by rfl, by intro W hSw; have x0 := hx0; have x1 := hx1; go_simp; all_goals first | rfl | exact ⟨rfl, rfl, rfl, rfl, rfl, rfl⟩⟩) (by assumption) ?_
        try simp only [Act.put, List.setIfInBounds_toArray, List.set_cons_zero, List.set_cons_succ]
        refine wpAnyH_ready (rs := [7, 8]) (by kernel_rfl) (by simp) ?_
        refine AllReadyH.cons (by simp only [List.getElem?_toArray, List.getElem?_cons_succ, List.getElem?_cons_zero]; rfl) (fun K hK => ?_) ?_
        · obtain ⟨cs, hcs, hcl, hf⟩ := HA.out
          refine step_store_blk (by rfl) _ (.tmp 17) (.tmp 13) (by rfl) kk (k * 6) [.int .i64 b.l[k].kind, .int .i64 b.l[k].int, .string b.l[k].text, .int .u32 b.l[k].cr, .slice na3 b.l[k].nums.length nc3, .slice a3 b.l[k].args.length cap3] (by rfl) (by rfl) (by kernel_rfl) (by simp [Value.oneCell']) 35 cs hcs hcl ?_
          intro w30 hC30 hg30
          obtain ⟨K5, C5, K6, S2, hS2, L6⟩ := hf w30 hC30 hg30
          have K5 := Lib.hid (KW.out.trans K5 (fun _ _ h => h))
          have K6 := Lib.hid (KW.out.trans K6 (fun _ _ h => h))
          have L6 := Lib.hid L6
          have HS2 := Lib.hid hS2
          have C5 := Lib.hid C5
          clear hC30 hg30 hcs hcl hf hS2
          refine hK.out _ _ (HCT.out.keep (K5.out) HNB.out) (fun hHeld => ?_)
          try simp only [Act.put, List.setIfInBounds_toArray, List.set_cons_zero, List.set_cons_succ]
          have c1 : w30.cell? ⟨w.heap.size, 0, none⟩ = some (.slice a4 k c4) := by rw [C5.out.cell 0]; exact HLSD.out.at_
          have f1 := C5.out.frozen 0
          refine wpAnyH_ready (rs := [8]) (by kernel_rfl) (by simp) ?_
          refine AllReadyH.cons (by simp only [List.getElem?_toArray, List.getElem?_cons_succ, List.getElem?_cons_zero]; rfl) (fun K hK => ?_) AllReadyH.nil
          go_simp
          refine hK.out _ _ (HCT.out.keep (K6.out) HNB.out) (fun hHeld => ?_)
          try simp only [Act.put, List.setIfInBounds_toArray, List.set_cons_zero, List.set_cons_succ]
          refine wpAnyH_done (by kernel_rfl) ?_ _
          exact HFIN.out _ _ _ (KD.out.trans (K6.out) (fun _ _ h => h)) (L6.out) (fun q hq => (HS2.out q hq).imp_right (fun h => by have := (HSC.out q h).1; have := HSZX.out; omega))
        refine AllReadyH.cons (by simp only [List.getElem?_toArray, List.getElem?_cons_succ, List.getElem?_cons_zero]; rfl) (fun K hK => ?_) ?_
        · obtain ⟨K4, cs, hcs, hcl, hf⟩ := HBB.out
          have K4 := Lib.hid (KW.out.trans K4 (fun _ _ h => h))
          have c1 : W2.cell? ⟨w.heap.size, 0, none⟩ = some (.slice a4 k c4) := by rw [C2.out.cell 0]; exact HLSD.out.at_
          have f1 := C2.out.frozen 0
          have HCS := Lib.hid hcs
          have HF := Lib.hid hf
          clear hcs hf
          go_simp
          clear c1 f1
          refine hK.out _ _ (HCT.out.keep (K4.out) HNB.out) (fun hHeld => ?_)
          try simp only [Act.put, List.setIfInBounds_toArray, List.set_cons_zero, List.set_cons_succ]
          refine wpAnyH_ready (rs := [7]) (by kernel_rfl) (by simp) ?_
          refine AllReadyH.cons (by simp only [List.getElem?_toArray, List.getElem?_cons_succ, List.getElem?_cons_zero]; rfl) (fun K hK => ?_) AllReadyH.nil
          refine step_store_blk (by rfl) _ (.tmp 17) (.tmp 13) (by rfl) kk (k * 6) [.int .i64 b.l[k].kind, .int .i64 b.l[k].int, .string b.l[k].text, .int .u32 b.l[k].cr, .slice na3 b.l[k].nums.length nc3, .slice a3 b.l[k].args.length cap3] (by rfl) (by rfl) (by kernel_rfl) (by simp [Value.oneCell']) 35 cs HCS.out hcl ?_
          intro w30 hC30 hg30
          obtain ⟨K5, S2, hS2, L6⟩ := HF.out w30 hC30 hg30
          have K6 := Lib.hid (KW.out.trans K5 (fun _ _ h => h))
          have L6 := Lib.hid L6
          have HS2 := Lib.hid hS2
          clear hC30 hg30 hcl HF HCS K5 hS2
          refine hK.out _ _ (HCT.out.keep (K6.out) HNB.out) (fun hHeld => ?_)
          try simp only [Act.put, List.setIfInBounds_toArray, List.set_cons_zero, List.set_cons_succ]
          refine wpAnyH_done (by kernel_rfl) ?_ _
          exact HFIN.out _ _ _ (KD.out.trans (K6.out) (fun _ _ h => h)) (L6.out) (fun q hq => (HS2.out q hq).imp_right (fun h => by have := (HSC.out q h).1; have := HSZX.out; omega))
        exact AllReadyH.nil
      exact AllReadyH.nil
    refine AllReadyH.cons (by simp only [List.getElem?_toArray, List.getElem?_cons_succ, List.getElem?_cons_zero]; rfl) (fun K hK => ?_) ?_
    · go_simp
      refine (copy_any _ b.l[k] [.int .i64 b.l[k].kind, .int .i64 b.l[k].int, .string b.l[k].text, .int .u32 b.l[k].cr, .slice na2 b.l[k].nums.length nc2, .slice a2 b.l[k].args.length cap2] w0 (HTM.out.below (HBXD.out.trans (BW.out.mono HBXD.out.size)))).mono ?_
      rintro e w10 ⟨vs3, rfl, ht3, hb3⟩
      obtain ⟨_, nv3, a3, cap3, rfl, hnn3, _⟩ := id ht3.parts
      obtain ⟨na3, nc3, rfl, _, _⟩ := hnn3.slice
      clear hnn3
      obtain ⟨SC, hSC⟩ : ∃ SC : Nat → Prop, ∀ q, SC q ↔ (w0.heap.size ≤ q ∧ q < w10.heap.size) := ⟨_, fun _ => Iff.rfl⟩
      have TW := Lib.hid (ht3.mono (S' := SC) (fun q hlt hq => (hSC q).2 ⟨hq, hlt⟩))
      have HSC := Lib.hid (show ∀ q, SC q → w0.heap.size ≤ q ∧ q < w10.heap.size from fun q hq => ⟨Nat.le_trans BW.out.size ((hSC q).1 hq).1, ((hSC q).1 hq).2⟩)
      have BW := Lib.hid (BW.out.trans (hb3.mono BW.out.size))
      have hHeld := hHeld.below hb3
      clear hSC ht3 hb3
      refine hK.out _ _ (hHeld) (fun hHeld => ?_)
      try simp only [Act.put, List.setIfInBounds_toArray, List.set_cons_zero, List.set_cons_succ]
      refine wpAnyH_ready (rs := [0, 4]) (by kernel_rfl) (by simp) ?_
      refine AllReadyH.cons (by simp only [List.getElem?_toArray, List.getElem?_cons_succ, List.getElem?_cons_zero]; rfl) (fun K hK => ?_) ?_
      · have c1 : w10.cell? ⟨w.heap.size, 0, none⟩ = some (.slice a4 k c4) := by have := (HLSD.out.cells.below BW.out).cell 0; rw [this]; exact HLSD.out.at_
        go_simp
        clear c1
        refine hK.out _ _ (hHeld) (fun hHeld => ?_)
        try simp only [Act.put, List.setIfInBounds_toArray, List.set_cons_zero, List.set_cons_succ]
        refine wpAnyH_take (i := 3) (v := (.int .i64 k)) (by simp only [List.getElem?_toArray, List.getElem?_cons_succ, List.getElem?_cons_zero]; rfl) (by kernel_rfl) (by kernel_rfl) (by kernel_rfl) (by exact fun _ _ _ h => h) (Or.inl ⟨by rfl, by intro W hSw; go_simp; all_goals first | rfl | exact ⟨rfl, rfl, rfl, rfl, rfl, rfl⟩⟩) (by assumption) ?_
        try simp only [Act.put, List.setIfInBounds_toArray, List.set_cons_zero, List.set_cons_succ]
        refine wpAnyH_ready (rs := [4]) (by kernel_rfl) (by simp) ?_
        refine AllReadyH.cons (by simp only [List.getElem?_toArray, List.getElem?_cons_succ, List.getElem?_cons_zero]; rfl) (fun K hK => ?_) AllReadyH.nil
        go_simp
        have ZW := Lib.hid (show Cells (w10.alloc (.cells #[.int .i64 0, .int .i64 0, .string ⟨#[]⟩, .int .u32 0, .slice none 0 0, .slice none 0 0] 35)) w10.heap.size 35 termZ from Cells.new w10 35 termZ)
        have BA := Lib.hid ((Below.refl _ _).alloc (Nat.le_refl w10.heap.size) (.cells #[.int .i64 0, .int .i64 0, .string ⟨#[]⟩, .int .u32 0, .slice none 0 0, .slice none 0 0] 35 (0, 0)))
        have TW := Lib.hid (TW.out.below BA.out)
        have HSC := Lib.hid (fun q (hq : SC q) => (⟨(HSC.out q hq).1, Nat.lt_of_lt_of_le (HSC.out q hq).2 BA.out.size⟩ : w0.heap.size ≤ q ∧ _))
        have BW := Lib.hid (BW.out.trans (BA.out.mono BW.out.size))
        refine hK.out _ _ (hHeld.below BA.out) (fun hHeld => ?_)
        try simp only [Act.put, List.setIfInBounds_toArray, List.set_cons_zero, List.set_cons_succ]
        clear BA
        generalize (w10.alloc (.cells #[.int .i64 0, .int .i64 0, .string ⟨#[]⟩, .int .u32 0, .slice none 0 0, .slice none 0 0] 35)) = w22 at *
        have PS := Lib.hid (ls_app (HLSD.out.below BW.out) HLEN.out (Nat.le_trans HBXD.out.size BW.out.size) ZW.out TW.out (fun q hq => ⟨Nat.le_trans HBXD.out.size (HSC.out q hq).1, (HSC.out q hq).2, fun e => Nat.lt_irrefl _ (Nat.lt_of_lt_of_le (e ▸ HLSD.out.cells.lt) (HSC.out q hq).1), fun e => Nat.lt_irrefl _ (Nat.lt_of_lt_of_le (HLSD.out.rows.block e).2.1 (HSC.out q hq).1)⟩))
        replace PS := Lib.hid (by have h := PS.out; unfold LsEnd at h; rw [HTK.out] at h; exact h)
        obtain ⟨kk, cc, W2, hrun, hcc, hcm, ⟨hkb, hkg⟩, hK2, hC2, HA, HBB⟩ := PS.out
        have HRUN := Lib.hid hrun
        have HA := Lib.hid HA
        have HBB := Lib.hid HBB
        have KW := Lib.hid (Keep.of_below (B := w0.heap.size) BW.out (Nat.le_refl _) (LsK w.heap.size (.slice a4 k c4)))
        clear PS hrun
        have C2 := Lib.hid hC2
        have K2 := Lib.hid (KW.out.trans hK2 (fun _ _ h => h))
        clear hC2 hK2
        refine wpAnyH_ready (rs := [5]) (by kernel_rfl) (by simp) ?_
        refine AllReadyH.cons (by simp only [List.getElem?_toArray, List.getElem?_cons_succ, List.getElem?_cons_zero]; rfl) (fun K hK => ?_) AllReadyH.nil
        refine step_app_eq (by rfl) _ _ _ _ (by rfl) _ _ (.slice (some ⟨kk, 0, none⟩) (k + 1) cc) W2 (by rfl) (by rfl) HRUN.out ?_
        refine hK.out _ _ (HCT.out.keep (K2.out) HNB.out) (fun hHeld => ?_)
        try simp only [Act.put, List.setIfInBounds_toArray, List.set_cons_zero, List.set_cons_succ]
        refine wpAnyH_take (i := 6) (v := (.pointer (some ⟨kk, k * 6, none⟩))) (by simp only [List.getElem?_toArray, List.getElem?_cons_succ, List.getElem?_cons_zero]; rfl) (by kernel_rfl) (by kernel_rfl) (by kernel_rfl) (by exact fun _ _ _ h => h) (Or.inl ⟨by rfl, by intro W hSw; have x0 := hx0; have x1 := hx1; go_simp; all_goals first | rfl | exact ⟨rfl, rfl, rfl, rfl, rfl, rfl⟩⟩) (by assumption) ?_
        try simp only [Act.put, List.setIfInBounds_toArray, List.set_cons_zero, List.set_cons_succ]
        refine wpAnyH_ready (rs := [7, 8]) (by kernel_rfl) (by simp) ?_
        refine AllReadyH.cons (by simp only [List.getElem?_toArray, List.getElem?_cons_succ, List.getElem?_cons_zero]; rfl) (fun K hK => ?_) ?_
        · obtain ⟨cs, hcs, hcl, hf⟩ := HA.out
          refine step_store_blk (by rfl) _ (.tmp 17) (.tmp 13) (by rfl) kk (k * 6) [.int .i64 b.l[k].kind, .int .i64 b.l[k].int, .string b.l[k].text, .int .u32 b.l[k].cr, .slice na3 b.l[k].nums.length nc3, .slice a3 b.l[k].args.length cap3] (by rfl) (by rfl) (by kernel_rfl) (by simp [Value.oneCell']) 35 cs hcs hcl ?_
          intro w30 hC30 hg30
          obtain ⟨K5, C5, K6, S2, hS2, L6⟩ := hf w30 hC30 hg30
          have K5 := Lib.hid (KW.out.trans K5 (fun _ _ h => h))
          have K6 := Lib.hid (KW.out.trans K6 (fun _ _ h => h))
          have L6 := Lib.hid L6
          have HS2 := Lib.hid hS2
          have C5 := Lib.hid C5
          clear hC30 hg30 hcs hcl hf hS2
          refine hK.out _ _ (HCT.out.keep (K5.out) HNB.out) (fun hHeld => ?_)
          try simp only [Act.put, List.setIfInBounds_toArray, List.set_cons_zero, List.set_cons_succ]
          have c1 : w30.cell? ⟨w.heap.size, 0, none⟩ = some (.slice a4 k c4) := by rw [C5.out.cell 0]; exact HLSD.out.at_
          have f1 := C5.out.frozen 0
          refine wpAnyH_ready (rs := [8]) (by kernel_rfl) (by simp) ?_
          refine AllReadyH.cons (by simp only [List.getElem?_toArray, List.getElem?_cons_succ, List.getElem?_cons_zero]; rfl) (fun K hK => ?_) AllReadyH.nil
          go_simp
          refine hK.out _ _ (HCT.out.keep (K6.out) HNB.out) (fun hHeld => ?_)
          try simp only [Act.put, List.setIfInBounds_toArray, List.set_cons_zero, List.set_cons_succ]
          refine wpAnyH_done (by kernel_rfl) ?_ _
          exact HFIN.out _ _ _ (KD.out.trans (K6.out) (fun _ _ h => h)) (L6.out) (fun q hq => (HS2.out q hq).imp_right (fun h => by have := (HSC.out q h).1; have := HSZX.out; omega))
        refine AllReadyH.cons (by simp only [List.getElem?_toArray, List.getElem?_cons_succ, List.getElem?_cons_zero]; rfl) (fun K hK => ?_) ?_
        · obtain ⟨K4, cs, hcs, hcl, hf⟩ := HBB.out
          have K4 := Lib.hid (KW.out.trans K4 (fun _ _ h => h))
          have c1 : W2.cell? ⟨w.heap.size, 0, none⟩ = some (.slice a4 k c4) := by rw [C2.out.cell 0]; exact HLSD.out.at_
          have f1 := C2.out.frozen 0
          have HCS := Lib.hid hcs
          have HF := Lib.hid hf
          clear hcs hf
          go_simp
          clear c1 f1
          refine hK.out _ _ (HCT.out.keep (K4.out) HNB.out) (fun hHeld => ?_)
          try simp only [Act.put, List.setIfInBounds_toArray, List.set_cons_zero, List.set_cons_succ]
          refine wpAnyH_ready (rs := [7]) (by kernel_rfl) (by simp) ?_
          refine AllReadyH.cons (by simp only [List.getElem?_toArray, List.getElem?_cons_succ, List.getElem?_cons_zero]; rfl) (fun K hK => ?_) AllReadyH.nil
          refine step_store_blk (by rfl) _ (.tmp 17) (.tmp 13) (by rfl) kk (k * 6) [.int .i64 b.l[k].kind, .int .i64 b.l[k].int, .string b.l[k].text, .int .u32 b.l[k].cr, .slice na3 b.l[k].nums.length nc3, .slice a3 b.l[k].args.length cap3] (by rfl) (by rfl) (by kernel_rfl) (by simp [Value.oneCell']) 35 cs HCS.out hcl ?_
          intro w30 hC30 hg30
          obtain ⟨K5, S2, hS2, L6⟩ := HF.out w30 hC30 hg30
          have K6 := Lib.hid (KW.out.trans K5 (fun _ _ h => h))
          have L6 := Lib.hid L6
          have HS2 := Lib.hid hS2
          clear hC30 hg30 hcl HF HCS K5 hS2
          refine hK.out _ _ (HCT.out.keep (K6.out) HNB.out) (fun hHeld => ?_)
          try simp only [Act.put, List.setIfInBounds_toArray, List.set_cons_zero, List.set_cons_succ]
          refine wpAnyH_done (by kernel_rfl) ?_ _
          exact HFIN.out _ _ _ (KD.out.trans (K6.out) (fun _ _ h => h)) (L6.out) (fun q hq => (HS2.out q hq).imp_right (fun h => by have := (HSC.out q h).1; have := HSZX.out; omega))
        exact AllReadyH.nil
      refine AllReadyH.cons (by simp only [List.getElem?_toArray, List.getElem?_cons_succ, List.getElem?_cons_zero]; rfl) (fun K hK => ?_) ?_
      · go_simp
        have ZW := Lib.hid (show Cells (w10.alloc (.cells #[.int .i64 0, .int .i64 0, .string ⟨#[]⟩, .int .u32 0, .slice none 0 0, .slice none 0 0] 35)) w10.heap.size 35 termZ from Cells.new w10 35 termZ)
        have BA := Lib.hid ((Below.refl _ _).alloc (Nat.le_refl w10.heap.size) (.cells #[.int .i64 0, .int .i64 0, .string ⟨#[]⟩, .int .u32 0, .slice none 0 0, .slice none 0 0] 35 (0, 0)))
        have TW := Lib.hid (TW.out.below BA.out)
        have HSC := Lib.hid (fun q (hq : SC q) => (⟨(HSC.out q hq).1, Nat.lt_of_lt_of_le (HSC.out q hq).2 BA.out.size⟩ : w0.heap.size ≤ q ∧ _))
        have BW := Lib.hid (BW.out.trans (BA.out.mono BW.out.size))
        refine hK.out _ _ (hHeld.below BA.out) (fun hHeld => ?_)
        try simp only [Act.put, List.setIfInBounds_toArray, List.set_cons_zero, List.set_cons_succ]
        clear BA
        generalize (w10.alloc (.cells #[.int .i64 0, .int .i64 0, .string ⟨#[]⟩, .int .u32 0, .slice none 0 0, .slice none 0 0] 35)) = w21 at *
        refine wpAnyH_ready (rs := [0]) (by kernel_rfl) (by simp) ?_
        refine AllReadyH.cons (by simp only [List.getElem?_toArray, List.getElem?_cons_succ, List.getElem?_cons_zero]; rfl) (fun K hK => ?_) AllReadyH.nil
        have c1 : w21.cell? ⟨w.heap.size, 0, none⟩ = some (.slice a4 k c4) := by have := (HLSD.out.cells.below BW.out).cell 0; rw [this]; exact HLSD.out.at_
        go_simp
        clear c1
        refine hK.out _ _ (hHeld) (fun hHeld => ?_)
        try simp only [Act.put, List.setIfInBounds_toArray, List.set_cons_zero, List.set_cons_succ]
        refine wpAnyH_take (i := 3) (v := (.int .i64 k)) (by simp only [List.getElem?_toArray, List.getElem?_cons_succ, List.getElem?_cons_zero]; rfl) (by kernel_rfl) (by kernel_rfl) (by kernel_rfl) (by exact fun _ _ _ h => h) (Or.inl ⟨by rfl, by intro W hSw; go_simp; all_goals first | rfl | exact ⟨rfl, rfl, rfl, rfl, rfl, rfl⟩⟩) (by assumption) ?_
        try simp only [Act.put, List.setIfInBounds_toArray, List.set_cons_zero, List.set_cons_succ]
        have PS := Lib.hid (ls_app (HLSD.out.below BW.out) HLEN.out (Nat.le_trans HBXD.out.size BW.out.size) ZW.out TW.out (fun q hq => ⟨Nat.le_trans HBXD.out.size (HSC.out q hq).1, (HSC.out q hq).2, fun e => Nat.lt_irrefl _ (Nat.lt_of_lt_of_le (e ▸ HLSD.out.cells.lt) (HSC.out q hq).1), fun e => Nat.lt_irrefl _ (Nat.lt_of_lt_of_le (HLSD.out.rows.block e).2.1 (HSC.out q hq).1)⟩))
        replace PS := Lib.hid (by have h := PS.out; unfold LsEnd at h; rw [HTK.out] at h; exact h)
        obtain ⟨kk, cc, W2, hrun, hcc, hcm, ⟨hkb, hkg⟩, hK2, hC2, HA, HBB⟩ := PS.out
        have HRUN := Lib.hid hrun
        have HA := Lib.hid HA
        have HBB := Lib.hid HBB
        have KW := Lib.hid (Keep.of_below (B := w0.heap.size) BW.out (Nat.le_refl _) (LsK w.heap.size (.slice a4 k c4)))
        clear PS hrun
        have C2 := Lib.hid hC2
        have K2 := Lib.hid (KW.out.trans hK2 (fun _ _ h => h))
        clear hC2 hK2
        refine wpAnyH_ready (rs := [5]) (by kernel_rfl) (by simp) ?_
        refine AllReadyH.cons (by simp only [List.getElem?_toArray, List.getElem?_cons_succ, List.getElem?_cons_zero]; rfl) (fun K hK => ?_) AllReadyH.nil
        refine step_app_eq (by rfl) _ _ _ _ (by rfl) _ _ (.slice (some ⟨kk, 0, none⟩) (k + 1) cc) W2 (by rfl) (by rfl) HRUN.out ?_
        refine hK.out _ _ (HCT.out.keep (K2.out) HNB.out) (fun hHeld => ?_)
        try simp only [Act.put, List.setIfInBounds_toArray, List.set_cons_zero, List.set_cons_succ]
        refine wpAnyH_take (i := 6) (v := (.pointer (some ⟨kk, k * 6, none⟩))) (by simp only [List.getElem?_toArray, List.getElem?_cons_succ, List.getElem?_cons_zero]; rfl) (by kernel_rfl) (by kernel_rfl) (by kernel_rfl) (by exact fun _ _ _ h => h) (Or.inl ⟨by rfl, by intro W hSw; have x0 := hx0; have x1 := hx1; go_simp; all_goals first | rfl | exact ⟨rfl, rfl, rfl, rfl, rfl, rfl⟩⟩) (by assumption) ?_
        try simp only [Act.put, List.setIfInBounds_toArray, List.set_cons_zero, List.set_cons_succ]
        refine wpAnyH_ready (rs := [7, 8]) (by kernel_rfl) (by simp) ?_
        refine AllReadyH.cons (by simp only [List.getElem?_toArray, List.getElem?_cons_succ, List.getElem?_cons_zero]; rfl) (fun K hK => ?_) ?_
        · obtain ⟨cs, hcs, hcl, hf⟩ := HA.out
          refine step_store_blk (by rfl) _ (.tmp 17) (.tmp 13) (by rfl) kk (k * 6) [.int .i64 b.l[k].kind, .int .i64 b.l[k].int, .string b.l[k].text, .int .u32 b.l[k].cr, .slice na3 b.l[k].nums.length nc3, .slice a3 b.l[k].args.length cap3] (by rfl) (by rfl) (by kernel_rfl) (by simp [Value.oneCell']) 35 cs hcs hcl ?_
          intro w30 hC30 hg30
          obtain ⟨K5, C5, K6, S2, hS2, L6⟩ := hf w30 hC30 hg30
          have K5 := Lib.hid (KW.out.trans K5 (fun _ _ h => h))
          have K6 := Lib.hid (KW.out.trans K6 (fun _ _ h => h))
          have L6 := Lib.hid L6
          have HS2 := Lib.hid hS2
          have C5 := Lib.hid C5
          clear hC30 hg30 hcs hcl hf hS2
          refine hK.out _ _ (HCT.out.keep (K5.out) HNB.out) (fun hHeld => ?_)
          try simp only [Act.put, List.setIfInBounds_toArray, List.set_cons_zero, List.set_cons_succ]
          have c1 : w30.cell? ⟨w.heap.size, 0, none⟩ = some (.slice a4 k c4) := by rw [C5.out.cell 0]; exact HLSD.out.at_
          have f1 := C5.out.frozen 0
          refine wpAnyH_ready (rs := [8]) (by kernel_rfl) (by simp) ?_
          refine AllReadyH.cons (by simp only [List.getElem?_toArray, List.getElem?_cons_succ, List.getElem?_cons_zero]; rfl) (fun K hK => ?_) AllReadyH.nil
          go_simp
          refine hK.out _ _ (HCT.out.keep (K6.out) HNB.out) (fun hHeld => ?_)
          try simp only [Act.put, List.setIfInBounds_toArray, List.set_cons_zero, List.set_cons_succ]
          refine wpAnyH_done (by kernel_rfl) ?_ _
          exact HFIN.out _ _ _ (KD.out.trans (K6.out) (fun _ _ h => h)) (L6.out) (fun q hq => (HS2.out q hq).imp_right (fun h => by have := (HSC.out q h).1; have := HSZX.out; omega))
        refine AllReadyH.cons (by simp only [List.getElem?_toArray, List.getElem?_cons_succ, List.getElem?_cons_zero]; rfl) (fun K hK => ?_) ?_
        · obtain ⟨K4, cs, hcs, hcl, hf⟩ := HBB.out
          have K4 := Lib.hid (KW.out.trans K4 (fun _ _ h => h))
          have c1 : W2.cell? ⟨w.heap.size, 0, none⟩ = some (.slice a4 k c4) := by rw [C2.out.cell 0]; exact HLSD.out.at_
          have f1 := C2.out.frozen 0
          have HCS := Lib.hid hcs
          have HF := Lib.hid hf
          clear hcs hf
          go_simp
          clear c1 f1
          refine hK.out _ _ (HCT.out.keep (K4.out) HNB.out) (fun hHeld => ?_)
          try simp only [Act.put, List.setIfInBounds_toArray, List.set_cons_zero, List.set_cons_succ]
          refine wpAnyH_ready (rs := [7]) (by kernel_rfl) (by simp) ?_
          refine AllReadyH.cons (by simp only [List.getElem?_toArray, List.getElem?_cons_succ, List.getElem?_cons_zero]; rfl) (fun K hK => ?_) AllReadyH.nil
          refine step_store_blk (by rfl) _ (.tmp 17) (.tmp 13) (by rfl) kk (k * 6) [.int .i64 b.l[k].kind, .int .i64 b.l[k].int, .string b.l[k].text, .int .u32 b.l[k].cr, .slice na3 b.l[k].nums.length nc3, .slice a3 b.l[k].args.length cap3] (by rfl) (by rfl) (by kernel_rfl) (by simp [Value.oneCell']) 35 cs HCS.out hcl ?_
          intro w30 hC30 hg30
          obtain ⟨K5, S2, hS2, L6⟩ := HF.out w30 hC30 hg30
          have K6 := Lib.hid (KW.out.trans K5 (fun _ _ h => h))
          have L6 := Lib.hid L6
          have HS2 := Lib.hid hS2
          clear hC30 hg30 hcl HF HCS K5 hS2
          refine hK.out _ _ (HCT.out.keep (K6.out) HNB.out) (fun hHeld => ?_)
          try simp only [Act.put, List.setIfInBounds_toArray, List.set_cons_zero, List.set_cons_succ]
          refine wpAnyH_done (by kernel_rfl) ?_ _
          exact HFIN.out _ _ _ (KD.out.trans (K6.out) (fun _ _ h => h)) (L6.out) (fun q hq => (HS2.out q hq).imp_right (fun h => by have := (HSC.out q h).1; have := HSZX.out; omega))
        exact AllReadyH.nil
      exact AllReadyH.nil
    refine AllReadyH.cons (by simp only [List.getElem?_toArray, List.getElem?_cons_succ, List.getElem?_cons_zero]; rfl) (fun K hK => ?_) ?_
    · go_simp
      have ZW := Lib.hid (show Cells (w0.alloc (.cells #[.int .i64 0, .int .i64 0, .string ⟨#[]⟩, .int .u32 0, .slice none 0 0, .slice none 0 0] 35)) w0.heap.size 35 termZ from Cells.new w0 35 termZ)
      have BA := Lib.hid ((Below.refl _ _).alloc (Nat.le_refl w0.heap.size) (.cells #[.int .i64 0, .int .i64 0, .string ⟨#[]⟩, .int .u32 0, .slice none 0 0, .slice none 0 0] 35 (0, 0)))
      have BW := Lib.hid (BW.out.trans (BA.out.mono BW.out.size))
      refine hK.out _ _ (hHeld.below BA.out) (fun hHeld => ?_)
      try simp only [Act.put, List.setIfInBounds_toArray, List.set_cons_zero, List.set_cons_succ]
      clear BA
      generalize (w0.alloc (.cells #[.int .i64 0, .int .i64 0, .string ⟨#[]⟩, .int .u32 0, .slice none 0 0, .slice none 0 0] 35)) = w20 at *
      refine wpAnyH_ready (rs := [0, 2]) (by kernel_rfl) (by simp) ?_
      refine AllReadyH.cons (by simp only [List.getElem?_toArray, List.getElem?_cons_succ, List.getElem?_cons_zero]; rfl) (fun K hK => ?_) ?_
      · have c1 : w20.cell? ⟨w.heap.size, 0, none⟩ = some (.slice a4 k c4) := by have := (HLSD.out.cells.below BW.out).cell 0; rw [this]; exact HLSD.out.at_
        go_simp
        clear c1
        refine hK.out _ _ (hHeld) (fun hHeld => ?_)
        try simp only [Act.put, List.setIfInBounds_toArray, List.set_cons_zero, List.set_cons_succ]
        refine wpAnyH_take (i := 3) (v := (.int .i64 k)) (by simp only [List.getElem?_toArray, List.getElem?_cons_succ, List.getElem?_cons_zero]; rfl) (by kernel_rfl) (by kernel_rfl) (by kernel_rfl) (by exact fun _ _ _ h => h) (Or.inl ⟨by rfl, by intro W hSw; go_simp; all_goals first | rfl | exact ⟨rfl, rfl, rfl, rfl, rfl, rfl⟩⟩) (by assumption) ?_
        try simp only [Act.put, List.setIfInBounds_toArray, List.set_cons_zero, List.set_cons_succ]
        refine wpAnyH_ready (rs := [2]) (by kernel_rfl) (by simp) ?_
        refine AllReadyH.cons (by simp only [List.getElem?_toArray, List.getElem?_cons_succ, List.getElem?_cons_zero]; rfl) (fun K hK => ?_) AllReadyH.nil
        go_simp
        refine (copy_any _ b.l[k] [.int .i64 b.l[k].kind, .int .i64 b.l[k].int, .string b.l[k].text, .int .u32 b.l[k].cr, .slice na2 b.l[k].nums.length nc2, .slice a2 b.l[k].args.length cap2] w20 (HTM.out.below (HBXD.out.trans (BW.out.mono HBXD.out.size)))).mono ?_
        rintro e w12 ⟨vs3, rfl, ht3, hb3⟩
        obtain ⟨_, nv3, a3, cap3, rfl, hnn3, _⟩ := id ht3.parts
        obtain ⟨na3, nc3, rfl, _, _⟩ := hnn3.slice
        clear hnn3
        obtain ⟨SC, hSC⟩ : ∃ SC : Nat → Prop, ∀ q, SC q ↔ (w20.heap.size ≤ q ∧ q < w12.heap.size) := ⟨_, fun _ => Iff.rfl⟩
        have TW := Lib.hid (ht3.mono (S' := SC) (fun q hlt hq => (hSC q).2 ⟨hq, hlt⟩))
        have HSC := Lib.hid (show ∀ q, SC q → w0.heap.size ≤ q ∧ q < w12.heap.size from fun q hq => ⟨Nat.le_trans BW.out.size ((hSC q).1 hq).1, ((hSC q).1 hq).2⟩)
        have ZW := Lib.hid (ZW.out.below hb3)
        have BW := Lib.hid (BW.out.trans (hb3.mono BW.out.size))
        have hHeld := hHeld.below hb3
        clear hSC ht3 hb3
        refine hK.out _ _ (hHeld) (fun hHeld => ?_)
        try simp only [Act.put, List.setIfInBounds_toArray, List.set_cons_zero, List.set_cons_succ]
        have PS := Lib.hid (ls_app (HLSD.out.below BW.out) HLEN.out (Nat.le_trans HBXD.out.size BW.out.size) ZW.out TW.out (fun q hq => ⟨Nat.le_trans HBXD.out.size (HSC.out q hq).1, (HSC.out q hq).2, fun e => Nat.lt_irrefl _ (Nat.lt_of_lt_of_le (e ▸ HLSD.out.cells.lt) (HSC.out q hq).1), fun e => Nat.lt_irrefl _ (Nat.lt_of_lt_of_le (HLSD.out.rows.block e).2.1 (HSC.out q hq).1)⟩))
        replace PS := Lib.hid (by have h := PS.out; unfold LsEnd at h; rw [HTK.out] at h; exact h)
        obtain ⟨kk, cc, W2, hrun, hcc, hcm, ⟨hkb, hkg⟩, hK2, hC2, HA, HBB⟩ := PS.out
        have HRUN := Lib.hid hrun
        have HA := Lib.hid HA
        have HBB := Lib.hid HBB
        have KW := Lib.hid (Keep.of_below (B := w0.heap.size) BW.out (Nat.le_refl _) (LsK w.heap.size (.slice a4 k c4)))
        clear PS hrun
        have C2 := Lib.hid hC2
        have K2 := Lib.hid (KW.out.trans hK2 (fun _ _ h => h))
        clear hC2 hK2
        refine wpAnyH_ready (rs := [5]) (by kernel_rfl) (by simp) ?_
        refine AllReadyH.cons (by simp only [List.getElem?_toArray, List.getElem?_cons_succ, List.getElem?_cons_zero]; rfl) (fun K hK => ?_) AllReadyH.nil
        refine step_app_eq (by rfl) _ _ _ _ (by rfl) _ _ (.slice (some ⟨kk, 0, none⟩) (k + 1) cc) W2 (by rfl) (by rfl) HRUN.out ?_
        refine hK.out _ _ (HCT.out.keep (K2.out) HNB.out) (fun hHeld => ?_)
        try simp only [Act.put, List.setIfInBounds_toArray, List.set_cons_zero, List.set_cons_succ]
        refine wpAnyH_take (i := 6) (v := (.pointer (some ⟨kk, k * 6, none⟩))) (by simp only [List.getElem?_toArray, List.getElem?_cons_succ, List.getElem?_cons_zero]; rfl) (by kernel_rfl) (by kernel_rfl) (by kernel_rfl) (by exact fun _ _ _ h => h) (Or.inl ⟨by rfl, by intro W hSw; have x0 := hx0; have x1 := hx1; go_simp; all_goals first | rfl | exact ⟨rfl, rfl, rfl, rfl, rfl, rfl⟩⟩) (by assumption) ?_
        try simp only [Act.put, List.setIfInBounds_toArray, List.set_cons_zero, List.set_cons_succ]
        refine wpAnyH_ready (rs := [7, 8]) (by kernel_rfl) (by simp) ?_
        refine AllReadyH.cons (by simp only [List.getElem?_toArray, List.getElem?_cons_succ, List.getElem?_cons_zero]; rfl) (fun K hK => ?_) ?_
        · obtain ⟨cs, hcs, hcl, hf⟩ := HA.out
          refine step_store_blk (by rfl) _ (.tmp 17) (.tmp 13) (by rfl) kk (k * 6) [.int .i64 b.l[k].kind, .int .i64 b.l[k].int, .string b.l[k].text, .int .u32 b.l[k].cr, .slice na3 b.l[k].nums.length nc3, .slice a3 b.l[k].args.length cap3] (by rfl) (by rfl) (by kernel_rfl) (by simp [Value.oneCell']) 35 cs hcs hcl ?_
          intro w30 hC30 hg30
          obtain ⟨K5, C5, K6, S2, hS2, L6⟩ := hf w30 hC30 hg30
          have K5 := Lib.hid (KW.out.trans K5 (fun _ _ h => h))
          have K6 := Lib.hid (KW.out.trans K6 (fun _ _ h => h))
          have L6 := Lib.hid L6
          have HS2 := Lib.hid hS2
          have C5 := Lib.hid C5
          clear hC30 hg30 hcs hcl hf hS2
          refine hK.out _ _ (HCT.out.keep (K5.out) HNB.out) (fun hHeld => ?_)
          try simp only [Act.put, List.setIfInBounds_toArray, List.set_cons_zero, List.set_cons_succ]
          have c1 : w30.cell? ⟨w.heap.size, 0, none⟩ = some (.slice a4 k c4) := by rw [C5.out.cell 0]; exact HLSD.out.at_
          have f1 := C5.out.frozen 0
          refine wpAnyH_ready (rs := [8]) (by kernel_rfl) (by simp) ?_
          refine AllReadyH.cons (by simp only [List.getElem?_toArray, List.getElem?_cons_succ, List.getElem?_cons_zero]; rfl) (fun K hK => ?_) AllReadyH.nil
          go_simp
          refine hK.out _ _ (HCT.out.keep (K6.out) HNB.out) (fun hHeld => ?_)
          try simp only [Act.put, List.setIfInBounds_toArray, List.set_cons_zero, List.set_cons_succ]
          refine wpAnyH_done (by kernel_rfl) ?_ _
          exact HFIN.out _ _ _ (KD.out.trans (K6.out) (fun _ _ h => h)) (L6.out) (fun q hq => (HS2.out q hq).imp_right (fun h => by have := (HSC.out q h).1; have := HSZX.out; omega))
        refine AllReadyH.cons (by simp only [List.getElem?_toArray, List.getElem?_cons_succ, List.getElem?_cons_zero]; rfl) (fun K hK => ?_) ?_
        · obtain ⟨K4, cs, hcs, hcl, hf⟩ := HBB.out
          have K4 := Lib.hid (KW.out.trans K4 (fun _ _ h => h))
          have c1 : W2.cell? ⟨w.heap.size, 0, none⟩ = some (.slice a4 k c4) := by rw [C2.out.cell 0]; exact HLSD.out.at_
          have f1 := C2.out.frozen 0
          have HCS := Lib.hid hcs
          have HF := Lib.hid hf
          clear hcs hf
          go_simp
          clear c1 f1
          refine hK.out _ _ (HCT.out.keep (K4.out) HNB.out) (fun hHeld => ?_)
          try simp only [Act.put, List.setIfInBounds_toArray, List.set_cons_zero, List.set_cons_succ]
          refine wpAnyH_ready (rs := [7]) (by kernel_rfl) (by simp) ?_
          refine AllReadyH.cons (by simp only [List.getElem?_toArray, List.getElem?_cons_succ, List.getElem?_cons_zero]; rfl) (fun K hK => ?_) AllReadyH.nil
          refine step_store_blk (by rfl) _ (.tmp 17) (.tmp 13) (by rfl) kk (k * 6) [.int .i64 b.l[k].kind, .int .i64 b.l[k].int, .string b.l[k].text, .int .u32 b.l[k].cr, .slice na3 b.l[k].nums.length nc3, .slice a3 b.l[k].args.length cap3] (by rfl) (by rfl) (by kernel_rfl) (by simp [Value.oneCell']) 35 cs HCS.out hcl ?_
          intro w30 hC30 hg30
          obtain ⟨K5, S2, hS2, L6⟩ := HF.out w30 hC30 hg30
          have K6 := Lib.hid (KW.out.trans K5 (fun _ _ h => h))
          have L6 := Lib.hid L6
          have HS2 := Lib.hid hS2
          clear hC30 hg30 hcl HF HCS K5 hS2
          refine hK.out _ _ (HCT.out.keep (K6.out) HNB.out) (fun hHeld => ?_)
          try simp only [Act.put, List.setIfInBounds_toArray, List.set_cons_zero, List.set_cons_succ]
          refine wpAnyH_done (by kernel_rfl) ?_ _
          exact HFIN.out _ _ _ (KD.out.trans (K6.out) (fun _ _ h => h)) (L6.out) (fun q hq => (HS2.out q hq).imp_right (fun h => by have := (HSC.out q h).1; have := HSZX.out; omega))
        exact AllReadyH.nil
      refine AllReadyH.cons (by simp only [List.getElem?_toArray, List.getElem?_cons_succ, List.getElem?_cons_zero]; rfl) (fun K hK => ?_) ?_
      · go_simp
        refine (copy_any _ b.l[k] [.int .i64 b.l[k].kind, .int .i64 b.l[k].int, .string b.l[k].text, .int .u32 b.l[k].cr, .slice na2 b.l[k].nums.length nc2, .slice a2 b.l[k].args.length cap2] w20 (HTM.out.below (HBXD.out.trans (BW.out.mono HBXD.out.size)))).mono ?_
        rintro e w11 ⟨vs3, rfl, ht3, hb3⟩
        obtain ⟨_, nv3, a3, cap3, rfl, hnn3, _⟩ := id ht3.parts
        obtain ⟨na3, nc3, rfl, _, _⟩ := hnn3.slice
        clear hnn3
        obtain ⟨SC, hSC⟩ : ∃ SC : Nat → Prop, ∀ q, SC q ↔ (w20.heap.size ≤ q ∧ q < w11.heap.size) := ⟨_, fun _ => Iff.rfl⟩
        have TW := Lib.hid (ht3.mono (S' := SC) (fun q hlt hq => (hSC q).2 ⟨hq, hlt⟩))
        have HSC := Lib.hid (show ∀ q, SC q → w0.heap.size ≤ q ∧ q < w11.heap.size from fun q hq => ⟨Nat.le_trans BW.out.size ((hSC q).1 hq).1, ((hSC q).1 hq).2⟩)
        have ZW := Lib.hid (ZW.out.below hb3)
        have BW := Lib.hid (BW.out.trans (hb3.mono BW.out.size))
        have hHeld := hHeld.below hb3
        clear hSC ht3 hb3
        refine hK.out _ _ (hHeld) (fun hHeld => ?_)
        try simp only [Act.put, List.setIfInBounds_toArray, List.set_cons_zero, List.set_cons_succ]
        refine wpAnyH_ready (rs := [0]) (by kernel_rfl) (by simp) ?_
        refine AllReadyH.cons (by simp only [List.getElem?_toArray, List.getElem?_cons_succ, List.getElem?_cons_zero]; rfl) (fun K hK => ?_) AllReadyH.nil
        have c1 : w11.cell? ⟨w.heap.size, 0, none⟩ = some (.slice a4 k c4) := by have := (HLSD.out.cells.below BW.out).cell 0; rw [this]; exact HLSD.out.at_
        go_simp
        clear c1
        refine hK.out _ _ (hHeld) (fun hHeld => ?_)
        try simp only [Act.put, List.setIfInBounds_toArray, List.set_cons_zero, List.set_cons_succ]
        refine wpAnyH_take (i := 3) (v := (.int .i64 k)) (by simp only [List.getElem?_toArray, List.getElem?_cons_succ, List.getElem?_cons_zero]; rfl) (by kernel_rfl) (by kernel_rfl) (by kernel_rfl) (by exact fun _ _ _ h => h) (Or.inl ⟨by rfl, by intro W hSw; go_simp; all_goals first | rfl | exact ⟨rfl, rfl, rfl, rfl, rfl, rfl⟩⟩) (by assumption) ?_
        try simp only [Act.put, List.setIfInBounds_toArray, List.set_cons_zero, List.set_cons_succ]
        have PS := Lib.hid (ls_app (HLSD.out.below BW.out) HLEN.out (Nat.le_trans HBXD.out.size BW.out.size) ZW.out TW.out (fun q hq => ⟨Nat.le_trans HBXD.out.size (HSC.out q hq).1, (HSC.out q hq).2, fun e => Nat.lt_irrefl _ (Nat.lt_of_lt_of_le (e ▸ HLSD.out.cells.lt) (HSC.out q hq).1), fun e => Nat.lt_irrefl _ (Nat.lt_of_lt_of_le (HLSD.out.rows.block e).2.1 (HSC.out q hq).1)⟩))
        replace PS := Lib.hid (by have h := PS.out; unfold LsEnd at h; rw [HTK.out] at h; exact h)
        obtain ⟨kk, cc, W2, hrun, hcc, hcm, ⟨hkb, hkg⟩, hK2, hC2, HA, HBB⟩ := PS.out
        have HRUN := Lib.hid hrun
        have HA := Lib.hid HA
        have HBB := Lib.hid HBB
        have KW := Lib.hid (Keep.of_below (B := w0.heap.size) BW.out (Nat.le_refl _) (LsK w.heap.size (.slice a4 k c4)))
        clear PS hrun
        have C2 := Lib.hid hC2
        have K2 := Lib.hid (KW.out.trans hK2 (fun _ _ h => h))
        clear hC2 hK2
        refine wpAnyH_ready (rs := [5]) (by kernel_rfl) (by simp) ?_
        refine AllReadyH.cons (by simp only [List.getElem?_toArray, List.getElem?_cons_succ, List.getElem?_cons_zero]; rfl) (fun K hK => ?_) AllReadyH.nil
        refine step_app_eq (by rfl) _ _ _ _ (by rfl) _ _ (.slice (some ⟨kk, 0, none⟩) (k + 1) cc) W2 (by rfl) (by rfl) HRUN.out ?_
        refine hK.out _ _ (HCT.out.keep (K2.out) HNB.out) (fun hHeld => ?_)
        try simp only [Act.put, List.setIfInBounds_toArray, List.set_cons_zero, List.set_cons_succ]
        refine wpAnyH_take (i := 6) (v := (.pointer (some ⟨kk, k * 6, none⟩))) (by simp only [List.getElem?_toArray, List.getElem?_cons_succ, List.getElem?_cons_zero]; rfl) (by kernel_rfl) (by kernel_rfl) (by kernel_rfl) (by exact fun _ _ _ h => h) (Or.inl ⟨by rfl, by intro W hSw; have x0 := hx0; have x1 := hx1; go_simp; all_goals first | rfl | exact ⟨rfl, rfl, rfl, rfl, rfl, rfl⟩⟩) (by assumption) ?_
        try simp only [Act.put, List.setIfInBounds_toArray, List.set_cons_zero, List.set_cons_succ]
        refine wpAnyH_ready (rs := [7, 8]) (by kernel_rfl) (by simp) ?_
        refine AllReadyH.cons (by simp only [List.getElem?_toArray, List.getElem?_cons_succ, List.getElem?_cons_zero]; rfl) (fun K hK => ?_) ?_
        · obtain ⟨cs, hcs, hcl, hf⟩ := HA.out
          refine step_store_blk (by rfl) _ (.tmp 17) (.tmp 13) (by rfl) kk (k * 6) [.int .i64 b.l[k].kind, .int .i64 b.l[k].int, .string b.l[k].text, .int .u32 b.l[k].cr, .slice na3 b.l[k].nums.length nc3, .slice a3 b.l[k].args.length cap3] (by rfl) (by rfl) (by kernel_rfl) (by simp [Value.oneCell']) 35 cs hcs hcl ?_
          intro w30 hC30 hg30
          obtain ⟨K5, C5, K6, S2, hS2, L6⟩ := hf w30 hC30 hg30
          have K5 := Lib.hid (KW.out.trans K5 (fun _ _ h => h))
          have K6 := Lib.hid (KW.out.trans K6 (fun _ _ h => h))
          have L6 := Lib.hid L6
          have HS2 := Lib.hid hS2
          have C5 := Lib.hid C5
          clear hC30 hg30 hcs hcl hf hS2
          refine hK.out _ _ (HCT.out.keep (K5.out) HNB.out) (fun hHeld => ?_)
          try simp only [Act.put, List.setIfInBounds_toArray, List.set_cons_zero, List.set_cons_succ]
          have c1 : w30.cell? ⟨w.heap.size, 0, none⟩ = some (.slice a4 k c4) := by rw [C5.out.cell 0]; exact HLSD.out.at_
          have f1 := C5.out.frozen 0
          refine wpAnyH_ready (rs := [8]) (by kernel_rfl) (by simp) ?_
          refine AllReadyH.cons (by simp only [List.getElem?_toArray, List.getElem?_cons_succ, List.getElem?_cons_zero]; rfl) (fun K hK => ?_) AllReadyH.nil
          go_simp
          refine hK.out _ _ (HCT.out.keep (K6.out) HNB.out) (fun hHeld => ?_)
          try simp only [Act.put, List.setIfInBounds_toArray, List.set_cons_zero, List.set_cons_succ]
          refine wpAnyH_done (by kernel_rfl) ?_ _
          exact HFIN.out _ _ _ (KD.out.trans (K6.out) (fun _ _ h => h)) (L6.out) (fun q hq => (HS2.out q hq).imp_right (fun h => by have := (HSC.out q h).1; have := HSZX.out; omega))
        refine AllReadyH.cons (by simp only [List.getElem?_toArray, List.getElem?_cons_succ, List.getElem?_cons_zero]; rfl) (fun K hK => ?_) ?_
        · obtain ⟨K4, cs, hcs, hcl, hf⟩ := HBB.out
          have K4 := Lib.hid (KW.out.trans K4 (fun _ _ h => h))
          have c1 : W2.cell? ⟨w.heap.size, 0, none⟩ = some (.slice a4 k c4) := by rw [C2.out.cell 0]; exact HLSD.out.at_
          have f1 := C2.out.frozen 0
          have HCS := Lib.hid hcs
          have HF := Lib.hid hf
          clear hcs hf
          go_simp
          clear c1 f1
          refine hK.out _ _ (HCT.out.keep (K4.out) HNB.out) (fun hHeld => ?_)
          try simp only [Act.put, List.setIfInBounds_toArray, List.set_cons_zero, List.set_cons_succ]
          refine wpAnyH_ready (rs := [7]) (by kernel_rfl) (by simp) ?_
          refine AllReadyH.cons (by simp only [List.getElem?_toArray, List.getElem?_cons_succ, List.getElem?_cons_zero]; rfl) (fun K hK => ?_) AllReadyH.nil
          refine step_store_blk (by rfl) _ (.tmp 17) (.tmp 13) (by rfl) kk (k * 6) [.int .i64 b.l[k].kind, .int .i64 b.l[k].int, .string b.l[k].text, .int .u32 b.l[k].cr, .slice na3 b.l[k].nums.length nc3, .slice a3 b.l[k].args.length cap3] (by rfl) (by rfl) (by kernel_rfl) (by simp [Value.oneCell']) 35 cs HCS.out hcl ?_
          intro w30 hC30 hg30
          obtain ⟨K5, S2, hS2, L6⟩ := HF.out w30 hC30 hg30
          have K6 := Lib.hid (KW.out.trans K5 (fun _ _ h => h))
          have L6 := Lib.hid L6
          have HS2 := Lib.hid hS2
          clear hC30 hg30 hcl HF HCS K5 hS2
          refine hK.out _ _ (HCT.out.keep (K6.out) HNB.out) (fun hHeld => ?_)
          try simp only [Act.put, List.setIfInBounds_toArray, List.set_cons_zero, List.set_cons_succ]
          refine wpAnyH_done (by kernel_rfl) ?_ _
          exact HFIN.out _ _ _ (KD.out.trans (K6.out) (fun _ _ h => h)) (L6.out) (fun q hq => (HS2.out q hq).imp_right (fun h => by have := (HSC.out q h).1; have := HSZX.out; omega))
        exact AllReadyH.nil
      exact AllReadyH.nil
    exact AllReadyH.nil
end Go.Proofs.YtlahagabcnmdiaaGreatDoor
end
section
/- heddlelaw17: both boxes beside one another; told. Printed by wip/rxf.py. -/
open Go Go.RowKit
namespace Go.Proofs.YtlahagabcnmdiaaGreatDoor
set_option linter.unusedVariables false
set_option linter.unusedSimpArgs false

/-- a box of the program and one of the reference, made since w0 -/
structure Tw (w0 : World) (gb gr : Nat) (F : Nat → Prop) (lv : Value) (b1 b2 : Bx) (w : World) : Prop where
  b : Below w0.heap.size w0 w
  m : BxIs F gb b1 w
  r : Rx w0.heap.size gr b2 lv w
  f : ∀ q, F q → w0.heap.size ≤ q ∧ ¬ LsK gr lv q
theorem Tw.below {w0 : World} {gb gr : Nat} {F : Nat → Prop} {lv : Value} {b1 b2 : Bx} {w w' : World} (h : Tw w0 gb gr F lv b1 b2 w) (hb : Below w.heap.size w w') : Tw w0 gb gr F lv b1 b2 w' :=
  ⟨h.b.trans (hb.mono h.b.size), h.m.below hb, h.r.below hb, h.f⟩
theorem Tw.lt {w0 : World} {gb gr : Nat} {F : Nat → Prop} {lv : Value} {b1 b2 : Bx} {w : World} (h : Tw w0 gb gr F lv b1 b2 w) {q : Nat} (hq : LsK gr lv q) : q < w.heap.size ∧ w0.heap.size ≤ q := by
  rcases hq with rfl | hq
  · exact ⟨h.r.at_.cells.lt, h.r.hg⟩
  · exact ⟨(h.r.at_.rows.block hq).2.1, (h.r.at_.hv q hq).1⟩
/-- behind a call of the program's box -/
theorem Tw.mail {w0 : World} {gb gr : Nat} {F : Nat → Prop} {lv : Value} {b1 b1' b2 : Bx} {w w' : World} (h : Tw w0 gb gr F lv b1 b2 w) (hm : BxIs (fun q => F q ∨ w.heap.size ≤ q) gb b1' w') (k : Keep F w w') :
    Tw w0 gb gr (fun q => F q ∨ w.heap.size ≤ q) lv b1' b2 w' := by
  refine ⟨below_keep h.b k h.b.size (fun q hq => (h.f q hq).1), hm, h.r.keep k (fun q hq hF => (h.f q hF).2 hq) (fun q hq hF => by have := (h.f q hF).1; omega), fun q hq => ?_⟩
  rcases hq with hq | hq
  · exact h.f q hq
  · exact ⟨Nat.le_trans h.b.size hq, fun e => by have := (h.lt e).1; omega⟩
/-- behind a call of the reference's -/
theorem Tw.ref {w0 : World} {gb gr : Nat} {F : Nat → Prop} {lv : Value} {b1 b2 b2' : Bx} {w w' : World} (h : Tw w0 gb gr F lv b1 b2 w) (hr : RxRes w0.heap.size gr lv w b2' w') :
    ∃ lv', Tw w0 gb gr (fun q => F q ∧ q < w.heap.size) lv' b1 b2' w' ∧ Keep (LsK gr lv) w w' := by
  obtain ⟨lv', h1, k, h3⟩ := hr
  refine ⟨lv', ⟨below_keep h.b k h.b.size (fun q hq => (h.lt hq).2), (h.m.mono (fun q hlt hq => ⟨hq, hlt⟩)).keep k (fun q _ hq hk => (h.f q hq.1).2 hk), h1, fun q hq => ⟨(h.f q hq.1).1, fun e => ?_⟩⟩, k⟩
  rcases e with e | e
  · exact (h.f q hq.1).2 (.inl e)
  · rcases h3 q e with e | e
    · exact (h.f q hq.1).2 (.inr e)
    · have := hq.2; omega
theorem Tw.nf {w0 : World} {gb gr : Nat} {F : Nat → Prop} {lv : Value} {b1 b2 : Bx} {w : World} (h : Tw w0 gb gr F lv b1 b2 w) {q : Nat} (hq : LsK gr lv q) : NF w q := by
  rcases hq with rfl | hq
  · exact NF.cells h.r.at_.cells (by decide)
  · obtain ⟨_, _, cur, hcur⟩ := h.r.at_.rows.block hq
    intro cs f e
    rw [hcur] at e
    injection e with e
    injection e with _ e
    exact absurd e (by decide)
/-- both say the same, and nobody owns what is still to come -/
def Two (w0 : World) (gb gr : Nat) (b : Bx) (w : World) : Prop := ∃ F lv, Tw w0 gb gr F lv b b w ∧ ∀ q, F q → q < w.heap.size
theorem Tw.two {w0 : World} {gb gr : Nat} {F : Nat → Prop} {lv : Value} {b : Bx} {w : World} (h : Tw w0 gb gr F lv b b w) : Two w0 gb gr b w :=
  ⟨fun q => F q ∧ q < w.heap.size, lv, ⟨h.b, h.m.mono (fun q hlt hq => ⟨hq, hlt⟩), h.r, fun q hq => h.f q hq.1⟩, fun q hq => hq.2⟩
theorem cursor_box {F : Nat → Prop} {g : Nat} {b : Bx} {w : World} (h : BxIs F g b w) : Calls Tryz.prog 41 #[.pointer (some ⟨g, 0, none⟩)] w fun e w' => e = .returned (.int .i64 b.cur) ∧ w = w' := by
  obtain ⟨lv, hC, hT, _⟩ := h.upd
  exact mCursor_live w hC
set_option maxHeartbeats 8000000 in
set_option maxRecDepth 100000 in
theorem told_any (w0 : World) (gb gr : Nat) (F : Nat → Prop) (lv : Value) (b : Bx) (w : World) (h : Tw w0 gb gr F lv b b w) :
    Calls Tryz.prog 11 #[.pointer (some ⟨gb, 0, none⟩), .pointer (some ⟨gr, 0, none⟩)] w fun e w' => e = .returned (.bool true) ∧ Below w.heap.size w w' := by
  have HM := Lib.hid h.m
  have HR := Lib.hid h.r
  obtain ⟨a, c, rfl, -, -⟩ := h.r.form
  have hl46 := h.r.len
  have hc46 := h.r.cur
  clear h
  go_enter Tryz.func11, Tryz.ntmps11
  go_wp2_with fail
  refine (deadline_box HM.out).mono ?_
  rintro e w1 ⟨rfl, hb1⟩
  have HB1 := Lib.hid hb1
  have M1 := Lib.hid (HM.out.below hb1)
  have R1 := Lib.hid (HR.out.below hb1)
  clear hb1
  have hc0 : (0 : Int) ≤ (b.cur : Int) := by omega
  go_wp2
  refine wp_region_L (S := fun W => Below w1.heap.size w1 W) (F := []) (by kernel_rfl) (Below.drew (Below.refl _ _)) (fun hHeld => ?_)
  refine wpAnyL_easy (i := 0) (v := (.bool b.set)) (by simp only [List.getElem?_toArray, List.getElem?_cons_succ, List.getElem?_cons_zero]; rfl) (by kernel_rfl) (by kernel_rfl) (by kernel_rfl) (by exact fun _ _ _ h => h) (Or.inl ⟨by rfl, fun _ _ => rfl⟩) ?_
  try simp only [Act.put, List.setIfInBounds_toArray, List.set_cons_zero, List.set_cons_succ]
  refine wpAnyL_easy (i := 1) (v := (.pointer (some ⟨gr, 0, none⟩))) (by simp only [List.getElem?_toArray, List.getElem?_cons_succ, List.getElem?_cons_zero]; rfl) (by kernel_rfl) (by kernel_rfl) (by kernel_rfl) (by exact fun _ _ _ h => h) (Or.inl ⟨by rfl, fun _ _ => rfl⟩) ?_
  try simp only [Act.put, List.setIfInBounds_toArray, List.set_cons_zero, List.set_cons_succ]
  refine wpAnyL_easy (i := 2) (v := (.pointer (some ⟨gr, 0, none⟩))) (by simp only [List.getElem?_toArray, List.getElem?_cons_succ, List.getElem?_cons_zero]; rfl) (by kernel_rfl) (by kernel_rfl) (by kernel_rfl) (by exact fun _ _ _ h => h) (Or.inl ⟨by rfl, by intro W _; go_simp; all_goals first | rfl | exact ⟨rfl, rfl, rfl, rfl, rfl, rfl⟩⟩) ?_
  try simp only [Act.put, List.setIfInBounds_toArray, List.set_cons_zero, List.set_cons_succ]
  refine wpAnyL_easy (i := 3) (v := (.pointer (some ⟨gr, 2, none⟩))) (by simp only [List.getElem?_toArray, List.getElem?_cons_succ, List.getElem?_cons_zero]; rfl) (by kernel_rfl) (by kernel_rfl) (by kernel_rfl) (by exact fun _ _ _ h => h) (Or.inl ⟨by rfl, fun _ _ => rfl⟩) ?_
  try simp only [Act.put, List.setIfInBounds_toArray, List.set_cons_zero, List.set_cons_succ]
  refine wpAnyL_take (i := 4) (v := (.bool b.set)) (by simp only [List.getElem?_toArray, List.getElem?_cons_succ, List.getElem?_cons_zero]; rfl) (by kernel_rfl) (by kernel_rfl) (by kernel_rfl) (by kernel_rfl) (by exact fun _ _ _ h => h) (Or.inl ⟨by rfl, by intro W hSw; have x0 := show W.cell? ⟨gr, 2, none⟩ = some (.bool b.set) from (R1.out.at_.cells.below hSw).cell 2; go_simp; all_goals first | rfl | exact ⟨rfl, rfl, rfl, rfl, rfl, rfl⟩⟩) (by assumption) ?_
  try simp only [Act.put, List.setIfInBounds_toArray, List.set_cons_zero, List.set_cons_succ]
  refine wpAnyL_easy (i := 5) (v := (.bool true)) (by simp only [List.getElem?_toArray, List.getElem?_cons_succ, List.getElem?_cons_zero]; rfl) (by kernel_rfl) (by kernel_rfl) (by kernel_rfl) (by exact fun _ _ _ h => h) (Or.inl ⟨by rfl, by intro W _; go_simp; all_goals first | rfl | exact ⟨rfl, rfl, rfl, rfl, rfl, rfl⟩⟩) ?_
  try simp only [Act.put, List.setIfInBounds_toArray, List.set_cons_zero, List.set_cons_succ]
  refine wpAnyL_easy (i := 6) (v := (.bool true)) (by simp only [List.getElem?_toArray, List.getElem?_cons_succ, List.getElem?_cons_zero]; rfl) (by kernel_rfl) (by kernel_rfl) (by kernel_rfl) (by exact fun _ _ _ h => h) (Or.inl ⟨by rfl, fun _ _ => rfl⟩) ?_
  try simp only [Act.put, List.setIfInBounds_toArray, List.set_cons_zero, List.set_cons_succ]
  refine wpAnyL_easy (i := 7) (v := (.int .i64 b.due)) (by simp only [List.getElem?_toArray, List.getElem?_cons_succ, List.getElem?_cons_zero]; rfl) (by kernel_rfl) (by kernel_rfl) (by kernel_rfl) (by exact fun _ _ _ h => h) (Or.inl ⟨by rfl, fun _ _ => rfl⟩) ?_
  try simp only [Act.put, List.setIfInBounds_toArray, List.set_cons_zero, List.set_cons_succ]
  refine wpAnyL_easy (i := 8) (v := (.pointer (some ⟨gr, 0, none⟩))) (by simp only [List.getElem?_toArray, List.getElem?_cons_succ, List.getElem?_cons_zero]; rfl) (by kernel_rfl) (by kernel_rfl) (by kernel_rfl) (by exact fun _ _ _ h => h) (Or.inl ⟨by rfl, fun _ _ => rfl⟩) ?_
  try simp only [Act.put, List.setIfInBounds_toArray, List.set_cons_zero, List.set_cons_succ]
  refine wpAnyL_easy (i := 9) (v := (.pointer (some ⟨gr, 0, none⟩))) (by simp only [List.getElem?_toArray, List.getElem?_cons_succ, List.getElem?_cons_zero]; rfl) (by kernel_rfl) (by kernel_rfl) (by kernel_rfl) (by exact fun _ _ _ h => h) (Or.inl ⟨by rfl, by intro W _; go_simp; all_goals first | rfl | exact ⟨rfl, rfl, rfl, rfl, rfl, rfl⟩⟩) ?_
  try simp only [Act.put, List.setIfInBounds_toArray, List.set_cons_zero, List.set_cons_succ]
  refine wpAnyL_easy (i := 10) (v := (.pointer (some ⟨gr, 3, none⟩))) (by simp only [List.getElem?_toArray, List.getElem?_cons_succ, List.getElem?_cons_zero]; rfl) (by kernel_rfl) (by kernel_rfl) (by kernel_rfl) (by exact fun _ _ _ h => h) (Or.inl ⟨by rfl, fun _ _ => rfl⟩) ?_
  try simp only [Act.put, List.setIfInBounds_toArray, List.set_cons_zero, List.set_cons_succ]
  refine wpAnyL_take (i := 11) (v := (.int .i64 b.due)) (by simp only [List.getElem?_toArray, List.getElem?_cons_succ, List.getElem?_cons_zero]; rfl) (by kernel_rfl) (by kernel_rfl) (by kernel_rfl) (by kernel_rfl) (by exact fun _ _ _ h => h) (Or.inl ⟨by rfl, by intro W hSw; have x0 := show W.cell? ⟨gr, 3, none⟩ = some (.int .i64 b.due) from (R1.out.at_.cells.below hSw).cell 3; go_simp; all_goals first | rfl | exact ⟨rfl, rfl, rfl, rfl, rfl, rfl⟩⟩) (by assumption) ?_
  try simp only [Act.put, List.setIfInBounds_toArray, List.set_cons_zero, List.set_cons_succ]
  refine wpAnyL_easy (i := 12) (v := (.bool true)) (by simp only [List.getElem?_toArray, List.getElem?_cons_succ, List.getElem?_cons_zero]; rfl) (by kernel_rfl) (by kernel_rfl) (by kernel_rfl) (by exact fun _ _ _ h => h) (Or.inl ⟨by rfl, by intro W _; go_simp; all_goals first | rfl | exact ⟨rfl, rfl, rfl, rfl, rfl, rfl⟩⟩) ?_
  try simp only [Act.put, List.setIfInBounds_toArray, List.set_cons_zero, List.set_cons_succ]
  refine wpAnyL_easy (i := 13) (v := (.bool true)) (by simp only [List.getElem?_toArray, List.getElem?_cons_succ, List.getElem?_cons_zero]; rfl) (by kernel_rfl) (by kernel_rfl) (by kernel_rfl) (by exact fun _ _ _ h => h) (Or.inl ⟨by rfl, by intro W _; go_simp; all_goals first | rfl | exact ⟨rfl, rfl, rfl, rfl, rfl, rfl⟩⟩) ?_
  try simp only [Act.put, List.setIfInBounds_toArray, List.set_cons_zero, List.set_cons_succ]
  refine wpAnyL_easy (i := 14) (v := (.bool true)) (by simp only [List.getElem?_toArray, List.getElem?_cons_succ, List.getElem?_cons_zero]; rfl) (by kernel_rfl) (by kernel_rfl) (by kernel_rfl) (by exact fun _ _ _ h => h) (Or.inl ⟨by rfl, fun _ _ => rfl⟩) ?_
  try simp only [Act.put, List.setIfInBounds_toArray, List.set_cons_zero, List.set_cons_succ]
  refine wpAnyL_easy (i := 15) (v := (.pointer (some ⟨gb, 0, none⟩))) (by simp only [List.getElem?_toArray, List.getElem?_cons_succ, List.getElem?_cons_zero]; rfl) (by kernel_rfl) (by kernel_rfl) (by kernel_rfl) (by exact fun _ _ _ h => h) (Or.inl ⟨by rfl, fun _ _ => rfl⟩) ?_
  try simp only [Act.put, List.setIfInBounds_toArray, List.set_cons_zero, List.set_cons_succ]
  refine wpAnyL_easy (i := 17) (v := (.pointer (some ⟨gr, 0, none⟩))) (by simp only [List.getElem?_toArray, List.getElem?_cons_succ, List.getElem?_cons_zero]; rfl) (by kernel_rfl) (by kernel_rfl) (by kernel_rfl) (by exact fun _ _ _ h => h) (Or.inl ⟨by rfl, fun _ _ => rfl⟩) ?_
  try simp only [Act.put, List.setIfInBounds_toArray, List.set_cons_zero, List.set_cons_succ]
  refine wpAnyL_easy (i := 18) (v := (.pointer (some ⟨gr, 0, none⟩))) (by simp only [List.getElem?_toArray, List.getElem?_cons_succ, List.getElem?_cons_zero]; rfl) (by kernel_rfl) (by kernel_rfl) (by kernel_rfl) (by exact fun _ _ _ h => h) (Or.inl ⟨by rfl, by intro W _; go_simp; all_goals first | rfl | exact ⟨rfl, rfl, rfl, rfl, rfl, rfl⟩⟩) ?_
  try simp only [Act.put, List.setIfInBounds_toArray, List.set_cons_zero, List.set_cons_succ]
  refine wpAnyL_easy (i := 19) (v := (.pointer (some ⟨gr, 0, none⟩))) (by simp only [List.getElem?_toArray, List.getElem?_cons_succ, List.getElem?_cons_zero]; rfl) (by kernel_rfl) (by kernel_rfl) (by kernel_rfl) (by exact fun _ _ _ h => h) (Or.inl ⟨by rfl, fun _ _ => rfl⟩) ?_
  try simp only [Act.put, List.setIfInBounds_toArray, List.set_cons_zero, List.set_cons_succ]
  refine wpAnyL_take (i := 20) (v := (.slice a b.l.length c)) (by simp only [List.getElem?_toArray, List.getElem?_cons_succ, List.getElem?_cons_zero]; rfl) (by kernel_rfl) (by kernel_rfl) (by kernel_rfl) (by kernel_rfl) (by exact fun _ _ _ h => h) (Or.inl ⟨by rfl, by intro W hSw; have x0 := show W.cell? ⟨gr, 0, none⟩ = some (.slice a b.l.length c) from (R1.out.at_.cells.below hSw).cell 0; go_simp; all_goals first | rfl | exact ⟨rfl, rfl, rfl, rfl, rfl, rfl⟩⟩) (by assumption) ?_
  try simp only [Act.put, List.setIfInBounds_toArray, List.set_cons_zero, List.set_cons_succ]
  refine wpAnyL_easy (i := 21) (v := (.int .i64 b.l.length)) (by simp only [List.getElem?_toArray, List.getElem?_cons_succ, List.getElem?_cons_zero]; rfl) (by kernel_rfl) (by kernel_rfl) (by kernel_rfl) (by exact fun _ _ _ h => h) (Or.inl ⟨by rfl, by intro W _; go_simp; all_goals first | rfl | exact ⟨rfl, rfl, rfl, rfl, rfl, rfl⟩⟩) ?_
  try simp only [Act.put, List.setIfInBounds_toArray, List.set_cons_zero, List.set_cons_succ]
  generalize w1.drew = w2 at *
  refine wpAnyL_ready (rs := [16]) (by kernel_rfl) (by simp) ?_
  refine AllReadyL.cons (by simp only [List.getElem?_toArray, List.getElem?_cons_succ, List.getElem?_cons_zero]; rfl) (fun K hK => ?_) AllReadyL.nil
  go_simp
  refine (len_box (M1.out.below hHeld)).mono ?_
  rintro e w3 ⟨rfl, rfl⟩
  refine hK.out _ _ (hHeld) (fun hHeld => ?_)
  try simp only [Act.put, List.setIfInBounds_toArray, List.set_cons_zero, List.set_cons_succ]
  refine wpAnyL_easy (i := 22) (v := (.bool true)) (by simp only [List.getElem?_toArray, List.getElem?_cons_succ, List.getElem?_cons_zero]; rfl) (by kernel_rfl) (by kernel_rfl) (by kernel_rfl) (by exact fun _ _ _ h => h) (Or.inl ⟨by rfl, by intro W _; go_simp; all_goals first | rfl | exact ⟨rfl, rfl, rfl, rfl, rfl, rfl⟩⟩) ?_
  try simp only [Act.put, List.setIfInBounds_toArray, List.set_cons_zero, List.set_cons_succ]
  refine wpAnyL_easy (i := 23) (v := (.bool true)) (by simp only [List.getElem?_toArray, List.getElem?_cons_succ, List.getElem?_cons_zero]; rfl) (by kernel_rfl) (by kernel_rfl) (by kernel_rfl) (by exact fun _ _ _ h => h) (Or.inl ⟨by rfl, by intro W _; go_simp; all_goals first | rfl | exact ⟨rfl, rfl, rfl, rfl, rfl, rfl⟩⟩) ?_
  try simp only [Act.put, List.setIfInBounds_toArray, List.set_cons_zero, List.set_cons_succ]
  refine wpAnyL_easy (i := 24) (v := (.bool true)) (by simp only [List.getElem?_toArray, List.getElem?_cons_succ, List.getElem?_cons_zero]; rfl) (by kernel_rfl) (by kernel_rfl) (by kernel_rfl) (by exact fun _ _ _ h => h) (Or.inl ⟨by rfl, fun _ _ => rfl⟩) ?_
  try simp only [Act.put, List.setIfInBounds_toArray, List.set_cons_zero, List.set_cons_succ]
  refine wpAnyL_easy (i := 25) (v := (.pointer (some ⟨gb, 0, none⟩))) (by simp only [List.getElem?_toArray, List.getElem?_cons_succ, List.getElem?_cons_zero]; rfl) (by kernel_rfl) (by kernel_rfl) (by kernel_rfl) (by exact fun _ _ _ h => h) (Or.inl ⟨by rfl, fun _ _ => rfl⟩) ?_
  try simp only [Act.put, List.setIfInBounds_toArray, List.set_cons_zero, List.set_cons_succ]
  refine wpAnyL_easy (i := 27) (v := (.pointer (some ⟨gr, 0, none⟩))) (by simp only [List.getElem?_toArray, List.getElem?_cons_succ, List.getElem?_cons_zero]; rfl) (by kernel_rfl) (by kernel_rfl) (by kernel_rfl) (by exact fun _ _ _ h => h) (Or.inl ⟨by rfl, fun _ _ => rfl⟩) ?_
  try simp only [Act.put, List.setIfInBounds_toArray, List.set_cons_zero, List.set_cons_succ]
  refine wpAnyL_easy (i := 28) (v := (.pointer (some ⟨gr, 0, none⟩))) (by simp only [List.getElem?_toArray, List.getElem?_cons_succ, List.getElem?_cons_zero]; rfl) (by kernel_rfl) (by kernel_rfl) (by kernel_rfl) (by exact fun _ _ _ h => h) (Or.inl ⟨by rfl, by intro W _; go_simp; all_goals first | rfl | exact ⟨rfl, rfl, rfl, rfl, rfl, rfl⟩⟩) ?_
  try simp only [Act.put, List.setIfInBounds_toArray, List.set_cons_zero, List.set_cons_succ]
  refine wpAnyL_easy (i := 29) (v := (.pointer (some ⟨gr, 1, none⟩))) (by simp only [List.getElem?_toArray, List.getElem?_cons_succ, List.getElem?_cons_zero]; rfl) (by kernel_rfl) (by kernel_rfl) (by kernel_rfl) (by exact fun _ _ _ h => h) (Or.inl ⟨by rfl, fun _ _ => rfl⟩) ?_
  try simp only [Act.put, List.setIfInBounds_toArray, List.set_cons_zero, List.set_cons_succ]
  refine wpAnyL_take (i := 30) (v := (.int .i64 b.cur)) (by simp only [List.getElem?_toArray, List.getElem?_cons_succ, List.getElem?_cons_zero]; rfl) (by kernel_rfl) (by kernel_rfl) (by kernel_rfl) (by kernel_rfl) (by exact fun _ _ _ h => h) (Or.inl ⟨by rfl, by intro W hSw; have x0 := show W.cell? ⟨gr, 1, none⟩ = some (.int .i64 b.cur) from (R1.out.at_.cells.below hSw).cell 1; go_simp; all_goals first | rfl | exact ⟨rfl, rfl, rfl, rfl, rfl, rfl⟩⟩) (by assumption) ?_
  try simp only [Act.put, List.setIfInBounds_toArray, List.set_cons_zero, List.set_cons_succ]
  refine wpAnyL_ready (rs := [26]) (by kernel_rfl) (by simp) ?_
  refine AllReadyL.cons (by simp only [List.getElem?_toArray, List.getElem?_cons_succ, List.getElem?_cons_zero]; rfl) (fun K hK => ?_) AllReadyL.nil
  go_simp
  refine (cursor_box (M1.out.below hHeld)).mono ?_
  rintro e w4 ⟨rfl, rfl⟩
  refine hK.out _ _ (hHeld) (fun hHeld => ?_)
  try simp only [Act.put, List.setIfInBounds_toArray, List.set_cons_zero, List.set_cons_succ]
  refine wpAnyL_easy (i := 31) (v := (.bool true)) (by simp only [List.getElem?_toArray, List.getElem?_cons_succ, List.getElem?_cons_zero]; rfl) (by kernel_rfl) (by kernel_rfl) (by kernel_rfl) (by exact fun _ _ _ h => h) (Or.inl ⟨by rfl, by intro W _; go_simp; all_goals first | rfl | exact ⟨rfl, rfl, rfl, rfl, rfl, rfl⟩⟩) ?_
  try simp only [Act.put, List.setIfInBounds_toArray, List.set_cons_zero, List.set_cons_succ]
  refine wpAnyL_easy (i := 32) (v := (.bool true)) (by simp only [List.getElem?_toArray, List.getElem?_cons_succ, List.getElem?_cons_zero]; rfl) (by kernel_rfl) (by kernel_rfl) (by kernel_rfl) (by exact fun _ _ _ h => h) (Or.inl ⟨by rfl, by intro W _; go_simp; all_goals first | rfl | exact ⟨rfl, rfl, rfl, rfl, rfl, rfl⟩⟩) ?_
  try simp only [Act.put, List.setIfInBounds_toArray, List.set_cons_zero, List.set_cons_succ]
  refine wpAnyL_easy (i := 33) (v := (.bool true)) (by simp only [List.getElem?_toArray, List.getElem?_cons_succ, List.getElem?_cons_zero]; rfl) (by kernel_rfl) (by kernel_rfl) (by kernel_rfl) (by exact fun _ _ _ h => h) (Or.inl ⟨by rfl, fun _ _ => rfl⟩) ?_
  try simp only [Act.put, List.setIfInBounds_toArray, List.set_cons_zero, List.set_cons_succ]
  refine wpAnyL_easy (i := 34) (v := (.pointer (some ⟨gb, 0, none⟩))) (by simp only [List.getElem?_toArray, List.getElem?_cons_succ, List.getElem?_cons_zero]; rfl) (by kernel_rfl) (by kernel_rfl) (by kernel_rfl) (by exact fun _ _ _ h => h) (Or.inl ⟨by rfl, fun _ _ => rfl⟩) ?_
  try simp only [Act.put, List.setIfInBounds_toArray, List.set_cons_zero, List.set_cons_succ]
  refine wpAnyL_easy (i := 36) (v := (.pointer (some ⟨gr, 0, none⟩))) (by simp only [List.getElem?_toArray, List.getElem?_cons_succ, List.getElem?_cons_zero]; rfl) (by kernel_rfl) (by kernel_rfl) (by kernel_rfl) (by exact fun _ _ _ h => h) (Or.inl ⟨by rfl, fun _ _ => rfl⟩) ?_
  try simp only [Act.put, List.setIfInBounds_toArray, List.set_cons_zero, List.set_cons_succ]
  refine wpAnyL_easy (i := 37) (v := (.pointer (some ⟨gr, 0, none⟩))) (by simp only [List.getElem?_toArray, List.getElem?_cons_succ, List.getElem?_cons_zero]; rfl) (by kernel_rfl) (by kernel_rfl) (by kernel_rfl) (by exact fun _ _ _ h => h) (Or.inl ⟨by rfl, by intro W _; go_simp; all_goals first | rfl | exact ⟨rfl, rfl, rfl, rfl, rfl, rfl⟩⟩) ?_
  try simp only [Act.put, List.setIfInBounds_toArray, List.set_cons_zero, List.set_cons_succ]
  refine wpAnyL_easy (i := 38) (v := (.pointer (some ⟨gr, 0, none⟩))) (by simp only [List.getElem?_toArray, List.getElem?_cons_succ, List.getElem?_cons_zero]; rfl) (by kernel_rfl) (by kernel_rfl) (by kernel_rfl) (by exact fun _ _ _ h => h) (Or.inl ⟨by rfl, fun _ _ => rfl⟩) ?_
  try simp only [Act.put, List.setIfInBounds_toArray, List.set_cons_zero, List.set_cons_succ]
  refine wpAnyL_take (i := 39) (v := (.slice a b.l.length c)) (by simp only [List.getElem?_toArray, List.getElem?_cons_succ, List.getElem?_cons_zero]; rfl) (by kernel_rfl) (by kernel_rfl) (by kernel_rfl) (by kernel_rfl) (by exact fun _ _ _ h => h) (Or.inl ⟨by rfl, by intro W hSw; have x0 := show W.cell? ⟨gr, 0, none⟩ = some (.slice a b.l.length c) from (R1.out.at_.cells.below hSw).cell 0; go_simp; all_goals first | rfl | exact ⟨rfl, rfl, rfl, rfl, rfl, rfl⟩⟩) (by assumption) ?_
  try simp only [Act.put, List.setIfInBounds_toArray, List.set_cons_zero, List.set_cons_succ]
  refine wpAnyL_ready (rs := [35]) (by kernel_rfl) (by simp) ?_
  refine AllReadyL.cons (by simp only [List.getElem?_toArray, List.getElem?_cons_succ, List.getElem?_cons_zero]; rfl) (fun K hK => ?_) AllReadyL.nil
  go_simp
  refine (mAll_live _ (M1.out.below hHeld)).mono ?_
  rintro e w5 ⟨v5, rfl, ht5, hb5⟩
  obtain ⟨a5, c5, rfl⟩ := ht5.form
  have T5 := Lib.hid ht5
  have B5 := Lib.hid (Below.trans hHeld (hb5.mono hHeld.size))
  clear ht5 hb5
  refine hK.out _ _ (B5.out) (fun hHeld => ?_)
  try simp only [Act.put, List.setIfInBounds_toArray, List.set_cons_zero, List.set_cons_succ]
  refine wpAnyL_ready (rs := [40]) (by kernel_rfl) (by simp) ?_
  refine AllReadyL.cons (by simp only [List.getElem?_toArray, List.getElem?_cons_succ, List.getElem?_cons_zero]; rfl) (fun K hK => ?_) AllReadyL.nil
  go_simp
  refine (terms_any b.l _ T5.out (R1.out.below B5.out).at_.rows (by omega)).mono ?_
  rintro e w6 ⟨rfl, hb6⟩
  have B6 := Lib.hid (B5.out.trans (hb6.mono B5.out.size))
  clear hb6
  refine hK.out _ _ (B6.out) (fun hHeld => ?_)
  try simp only [Act.put, List.setIfInBounds_toArray, List.set_cons_zero, List.set_cons_succ]
  refine wpAnyL_easy (i := 41) (v := (.bool true)) (by simp only [List.getElem?_toArray, List.getElem?_cons_succ, List.getElem?_cons_zero]; rfl) (by kernel_rfl) (by kernel_rfl) (by kernel_rfl) (by exact fun _ _ _ h => h) (Or.inl ⟨by rfl, by intro W _; go_simp; all_goals first | rfl | exact ⟨rfl, rfl, rfl, rfl, rfl, rfl⟩⟩) ?_
  try simp only [Act.put, List.setIfInBounds_toArray, List.set_cons_zero, List.set_cons_succ]
  refine wpAnyL_easy (i := 42) (v := (.bool true)) (by simp only [List.getElem?_toArray, List.getElem?_cons_succ, List.getElem?_cons_zero]; rfl) (by kernel_rfl) (by kernel_rfl) (by kernel_rfl) (by exact fun _ _ _ h => h) (Or.inl ⟨by rfl, fun _ _ => rfl⟩) ?_
  try simp only [Act.put, List.setIfInBounds_toArray, List.set_cons_zero, List.set_cons_succ]
  refine wpAnyL_done (by kernel_rfl) ?_ _
  have HF := Lib.hid (HB1.out.trans (B6.out.mono HB1.out.size))
  go_wp2
  go_ret
  exact ⟨rfl, HF.out⟩
end Go.Proofs.YtlahagabcnmdiaaGreatDoor
end
section
/- heddlelaw17: MailOrders, plain: what is left stands in the order in which it came. -/
open Go Go.RowKit
namespace Go.Proofs.YtlahagabcnmdiaaGreatDoor
set_option linter.unusedVariables false

theorem int_at2 (S : Nat → Prop) (w : World) (k : Int) (h0 : -9223372036854775808 ≤ k) (h1 : k ≤ 9223372036854775807) : TmAt S (intT k) [.int .i64 1, .int .i64 k, .string ⟨#[]⟩, .int .u32 0, .slice none 0 0, .slice none 0 0] w := by
  unfold intT
  rw [TmAt]
  refine ⟨by constructor <;> first | decide | omega, .slice none 0 0, none, 0, rfl, ?_, by simp [maxLen], by simp, ?_⟩
  · exact ⟨none, 0, rfl, ⟨Nat.le_refl _, by simp⟩, by simp [maxLen], fun i hi => absurd hi (Nat.not_lt_zero _)⟩
  · rw [ArgsAt]; trivial
theorem erase_map {α β : Type} (f : α → β) : ∀ (l : List α) (i : Nat), (l.map f).eraseIdx i = (l.eraseIdx i).map f
  | [], _ => rfl
  | _ :: _, 0 => rfl
  | a :: l, i + 1 => by simp [erase_map f l i]
/-- n were put, so many are gone: what is left stands in order -/
def OrdIs (n gone : Nat) (b : Bx) : Prop := ∃ ks : List Nat, b.l = ks.map (fun (k : Nat) => intT (k : Int)) ∧ ks.Pairwise (· < ·) ∧ (∀ k ∈ ks, k < n) ∧ ks.length + gone = n
theorem OrdIs.zero : OrdIs 0 0 Bx.zero := ⟨[], rfl, List.Pairwise.nil, fun _ h => absurd h (List.not_mem_nil), rfl⟩
theorem OrdIs.len {n gone : Nat} {b : Bx} (h : OrdIs n gone b) : b.l.length + gone = n := by
  obtain ⟨ks, h1, _, _, h4⟩ := h
  rw [h1, List.length_map]; exact h4
theorem OrdIs.put {n gone : Nat} {b : Bx} (h : OrdIs n gone b) (hn : n ≤ 576460752303423487) :
    (4096 ≤ n ∧ putM b (intT (n : Int)) = (errM 5, b)) ∨ (∃ b', putM b (intT (n : Int)) = ([], b') ∧ OrdIs (n + 1) gone b') := by
  have hck : checkS (intT (n : Int)) = [] := checkS_int (by omega) (by omega)
  by_cases hf : 4096 ≤ b.l.length
  · exact .inl ⟨by have := h.len; omega, by unfold putM; rw [if_neg (by simp [hck]), if_pos hf]⟩
  · refine .inr ⟨{ b with l := b.l ++ [intT (n : Int)] }, by unfold putM; rw [if_neg (by simp [hck]), if_neg hf], ?_⟩
    obtain ⟨ks, h1, h2, h3, h4⟩ := h
    refine ⟨ks ++ [n], ?_, ?_, ?_, ?_⟩
    · show b.l ++ [intT (n : Int)] = _
      rw [h1]; simp
    · rw [List.pairwise_append]
      exact ⟨h2, List.pairwise_singleton _ _, fun a ha c hc => by simp at hc; subst hc; exact h3 a ha⟩
    · intro k hk
      rcases List.mem_append.1 hk with h | h
      · have := h3 k h; omega
      · simp at h; omega
    · simp; omega
theorem OrdIs.next {n gone : Nat} {b : Bx} (h : OrdIs n gone b) : OrdIs n gone (nextM b).2 := by
  unfold nextM
  split
  · exact h
  · exact h
theorem OrdIs.take {n gone : Nat} {b : Bx} (h : OrdIs n gone b) :
    (∃ (k : Nat) (b' : Bx), k < n ∧ gone + 1 ≤ n ∧ takeM b = (some (intT (k : Int)), [], b') ∧ OrdIs n (gone + 1) b') ∨ takeM b = (none, errM 7, b) := by
  obtain ⟨ks, h1, h2, h3, h4⟩ := h
  unfold takeM
  by_cases hc : b.cur < ks.length
  · refine .inl ⟨ks[b.cur], ⟨b.l.eraseIdx b.cur, 0, false, 0⟩, h3 _ (List.getElem_mem hc), by omega, ?_, ?_⟩
    · have : b.l[b.cur]? = some (intT ((ks[b.cur] : Nat) : Int)) := by rw [h1, List.getElem?_map, List.getElem?_eq_getElem hc]; rfl
      rw [this]
    · refine ⟨ks.eraseIdx b.cur, ?_, ?_, ?_, ?_⟩
      · show b.l.eraseIdx b.cur = _
        rw [h1]; exact erase_map _ _ _
      · exact h2.sublist (List.eraseIdx_sublist _ _)
      · exact fun k hk => h3 k (List.mem_of_mem_eraseIdx hk)
      · rw [List.length_eraseIdx_of_lt hc]; omega
  · refine .inr ?_
    have : b.l[b.cur]? = none := by rw [h1]; exact List.getElem?_eq_none (by simp; omega)
    rw [this]
theorem OrdIs.grow {n gone : Nat} {b : Bx} (h : OrdIs n gone b) (k : Nat) (hk : k + 1 < b.l.length) : ∃ x y : Nat, x < y ∧ b.l[k] = intT (x : Int) ∧ b.l[k + 1] = intT (y : Int) ∧ y < n := by
  obtain ⟨bl, bc, bs, bd⟩ := b
  obtain ⟨ks, h1, h2, h3, h4⟩ := h
  simp only at h1 hk
  subst h1
  have hk' : k + 1 < ks.length := by simpa using hk
  exact ⟨ks[k], ks[k + 1], (List.pairwise_iff_getElem.1 h2) k (k + 1) (by omega) hk' (by omega), by simp, by simp, h3 _ (List.getElem_mem hk')⟩
end Go.Proofs.YtlahagabcnmdiaaGreatDoor
end
section
/- heddlelaw17: MailOrders. -/
open Go Go.RowKit
namespace Go.Proofs.YtlahagabcnmdiaaGreatDoor
set_option linter.unusedVariables false
set_option linter.unusedSimpArgs false

structure MOp where
  kind : Int
  t : Tm
  now : Int
/-- a script -/
def OpsM (S : Nat → Prop) (v : Value) (l : List MOp) (w : World) : Prop :=
  ∃ a c, v = .slice a l.length c ∧ (l.length ≤ c ∧ c ≤ maxLen) ∧ l.length * 104 ≤ 140737488351232 ∧ ∀ i (h : i < l.length), ∃ g o vs, a = some ⟨g, o, none⟩ ∧ w.cell? ⟨g, o + i * 8, none⟩ = some (.int .i64 l[i].kind) ∧
    (∀ j, j < 6 → w.cell? ⟨g, o + (i * 8 + (1 + j)), none⟩ = vs[j]?) ∧ w.cell? ⟨g, o + (i * 8 + 7), none⟩ = some (.int .i64 l[i].now) ∧ TmAt S l[i].t vs w ∧ -9223372036854775808 ≤ l[i].kind ∧ l[i].kind ≤ 9223372036854775807 ∧ -9223372036854775808 ≤ l[i].now ∧ l[i].now ≤ 9223372036854775807
end Go.Proofs.YtlahagabcnmdiaaGreatDoor
end
section
/- heddlelaw17: step, MailRuns. Printed by wip/rxg.py. -/
open Go Go.RowKit
namespace Go.Proofs.YtlahagabcnmdiaaGreatDoor
set_option linter.unusedVariables false
set_option linter.unusedSimpArgs false

/-- a call of a script does this to a box -/
def stepM (b : Bx) (o : MOp) : Bx :=
  if o.kind = 1 then (putM b o.t).2 else if o.kind = 3 then (nextM b).2 else if o.kind = 4 then (takeM b).2.2 else if o.kind = 5 then (waitM b o.now o.t).2.2 else if o.kind = 6 then (expireM b o.now).2.2 else b
theorem nextM_errs (b : Bx) : (nextM b).1.length ≤ 3 := by unfold nextM; split <;> simp [errM]
theorem takeM_errs (b : Bx) : (takeM b).2.1.length ≤ 3 := by unfold takeM; split <;> simp [errM]
theorem expireM_errs (b : Bx) (now : Int) : (expireM b now).2.1.length ≤ 3 := by unfold expireM; split <;> (try split) <;> simp [errM]
theorem waitM_errs (b : Bx) (now : Int) (t : Tm) : (waitM b now t).2.1.length ≤ 3 := by
  unfold waitM
  split
  · simp [errM]
  · unfold waitR
    split <;> (try split) <;> simp [errM]
/-- what a step comes to -/
def RetSt (w0 : World) (gb gr : Nat) (b : Bx) (e : Ending) (w' : World) : Prop := e = .returned (.bool true) ∧ Two w0 gb gr b w'
set_option maxHeartbeats 16000000 in
set_option maxRecDepth 100000 in
theorem step_any (w0 : World) (gb gr : Nat) (b : Bx) (o : MOp) (vs : List Value) (w : World) (h : Two w0 gb gr b w) (ht : TmAt (fun q => q < w0.heap.size) o.t vs w) (hG : Gt w0) :
    Calls Tryz.prog 10 #[.pointer (some ⟨gb, 0, none⟩), .pointer (some ⟨gr, 0, none⟩), .agg ([Value.int .i64 o.kind] ++ vs ++ [Value.int .i64 o.now]).toArray] w (RetSt w0 gb gr (stepM b o)) := by
  obtain ⟨F, lv, hT, hFq⟩ := h
  obtain ⟨_, nv, a2, cap2, rfl, hnn, _⟩ := ht.parts
  obtain ⟨na2, nc2, rfl, _, _⟩ := hnn.slice
  obtain ⟨kd, t, now⟩ := o
  simp only at *
  have HG := Lib.hid hG
  have HA := Lib.hid ((Below.refl w.heap.size w).alloc (Nat.le_refl _) (.cells #[.int .i64 kd, .int .i64 t.kind, .int .i64 t.int, .string t.text, .int .u32 t.cr, .slice na2 t.nums.length nc2, .slice a2 t.args.length cap2, .int .i64 now] 37 (0, 0)))
  have O1 := Lib.hid (show Cells (w.alloc (.cells #[.int .i64 kd, .int .i64 t.kind, .int .i64 t.int, .string t.text, .int .u32 t.cr, .slice na2 t.nums.length nc2, .slice a2 t.args.length cap2, .int .i64 now] 37 (0, 0))) w.heap.size 37 [.int .i64 kd, .int .i64 t.kind, .int .i64 t.int, .string t.text, .int .u32 t.cr, .slice na2 t.nums.length nc2, .slice a2 t.args.length cap2, .int .i64 now] from Cells.new w 37 [.int .i64 kd, .int .i64 t.kind, .int .i64 t.int, .string t.text, .int .u32 t.cr, .slice na2 t.nums.length nc2, .slice a2 t.args.length cap2, .int .i64 now])
  have T1 := Lib.hid (hT.below HA.out)
  have M1 := Lib.hid (ht.below HA.out)
  have HFO := Lib.hid (show ¬ F w.heap.size from fun e => Nat.lt_irrefl _ (hFq _ e))
  have HLO := Lib.hid (show ¬ LsK gr lv w.heap.size from fun e => Nat.lt_irrefl _ (hT.lt e).1)
  have HSW := Lib.hid (show w.heap.size < (w.alloc (.cells #[.int .i64 kd, .int .i64 t.kind, .int .i64 t.int, .string t.text, .int .u32 t.cr, .slice na2 t.nums.length nc2, .slice a2 t.args.length cap2, .int .i64 now] 37 (0, 0))).heap.size by simp)
  clear hT ht hnn hG hFq HA
  go_enter Tryz.func10, Tryz.ntmps10
  go_upto_region 1 with (fail)
  generalize w.alloc (.cells #[.int .i64 kd, .int .i64 t.kind, .int .i64 t.int, .string t.text, .int .u32 t.cr, .slice na2 t.nums.length nc2, .slice a2 t.args.length cap2, .int .i64 now] 37 (0, 0)) = w1 at *
  have HSQ := Lib.hid (show ∀ q, w1.heap.size ≤ q → q ≠ w.heap.size from fun q hq e => by have := HSW.out; omega)
  have o0 := O1.out.cell 0
  simp only [List.getElem?_cons_zero] at o0
  by_cases k1 : kd = 1
  · subst k1
    have HS := Lib.hid (show stepM b ⟨1, t, now⟩ = (putM b t).2 by simp [stepM])
    have HLE := Lib.hid (putM_errs b t)
    go_wp2
    clear o0
    refine wp_region_L (S := fun W => Cells W w.heap.size 37 [.int .i64 1, .int .i64 t.kind, .int .i64 t.int, .string t.text, .int .u32 t.cr, .slice na2 t.nums.length nc2, .slice a2 t.args.length cap2, .int .i64 now]) (F := []) (by kernel_rfl) (O1.out.drew) (fun hHeld => ?_)
    refine wpAnyL_easy (i := 0) (v := (.pointer (some ⟨gb, 0, none⟩))) (by simp only [List.getElem?_toArray, List.getElem?_cons_succ, List.getElem?_cons_zero]; rfl) (by kernel_rfl) (by kernel_rfl) (by kernel_rfl) (by exact fun _ _ _ h => h) (Or.inl ⟨by rfl, fun _ _ => rfl⟩) ?_
    try simp only [Act.put, List.setIfInBounds_toArray, List.set_cons_zero, List.set_cons_succ]
    refine wpAnyL_easy (i := 1) (v := (.pointer (some ⟨w.heap.size, 1, none⟩))) (by simp only [List.getElem?_toArray, List.getElem?_cons_succ, List.getElem?_cons_zero]; rfl) (by kernel_rfl) (by kernel_rfl) (by kernel_rfl) (by exact fun _ _ _ h => h) (Or.inl ⟨by rfl, fun _ _ => rfl⟩) ?_
    try simp only [Act.put, List.setIfInBounds_toArray, List.set_cons_zero, List.set_cons_succ]
    refine wpAnyL_take (i := 2) (v := (.agg #[.int .i64 t.kind, .int .i64 t.int, .string t.text, .int .u32 t.cr, .slice na2 t.nums.length nc2, .slice a2 t.args.length cap2])) (by simp only [List.getElem?_toArray, List.getElem?_cons_succ, List.getElem?_cons_zero]; rfl) (by kernel_rfl) (by kernel_rfl) (by kernel_rfl) (by kernel_rfl) (by exact fun _ _ _ h => h) (Or.inl ⟨by rfl, by intro W hSw; have x0 := hSw.cell 1; have x1 := hSw.cell 2; have x2 := hSw.cell 3; have x3 := hSw.cell 4; have x4 := hSw.cell 5; have x5 := hSw.cell 6; go_simp; all_goals first | rfl | exact ⟨rfl, rfl, rfl, rfl, rfl, rfl⟩⟩) (by assumption) ?_
    try simp only [Act.put, List.setIfInBounds_toArray, List.set_cons_zero, List.set_cons_succ]
    refine wpAnyL_easy (i := 4) (v := (.pointer (some ⟨gr, 0, none⟩))) (by simp only [List.getElem?_toArray, List.getElem?_cons_succ, List.getElem?_cons_zero]; rfl) (by kernel_rfl) (by kernel_rfl) (by kernel_rfl) (by exact fun _ _ _ h => h) (Or.inl ⟨by rfl, fun _ _ => rfl⟩) ?_
    try simp only [Act.put, List.setIfInBounds_toArray, List.set_cons_zero, List.set_cons_succ]
    refine wpAnyL_easy (i := 5) (v := (.pointer (some ⟨w.heap.size, 1, none⟩))) (by simp only [List.getElem?_toArray, List.getElem?_cons_succ, List.getElem?_cons_zero]; rfl) (by kernel_rfl) (by kernel_rfl) (by kernel_rfl) (by exact fun _ _ _ h => h) (Or.inl ⟨by rfl, fun _ _ => rfl⟩) ?_
    try simp only [Act.put, List.setIfInBounds_toArray, List.set_cons_zero, List.set_cons_succ]
    refine wpAnyL_take (i := 6) (v := (.agg #[.int .i64 t.kind, .int .i64 t.int, .string t.text, .int .u32 t.cr, .slice na2 t.nums.length nc2, .slice a2 t.args.length cap2])) (by simp only [List.getElem?_toArray, List.getElem?_cons_succ, List.getElem?_cons_zero]; rfl) (by kernel_rfl) (by kernel_rfl) (by kernel_rfl) (by kernel_rfl) (by exact fun _ _ _ h => h) (Or.inl ⟨by rfl, by intro W hSw; have x0 := hSw.cell 1; have x1 := hSw.cell 2; have x2 := hSw.cell 3; have x3 := hSw.cell 4; have x4 := hSw.cell 5; have x5 := hSw.cell 6; go_simp; all_goals first | rfl | exact ⟨rfl, rfl, rfl, rfl, rfl, rfl⟩⟩) (by assumption) ?_
    try simp only [Act.put, List.setIfInBounds_toArray, List.set_cons_zero, List.set_cons_succ]
    have T1 := Lib.hid (T1.out.below (Below.drew (Below.refl _ _)))
    have M1 := Lib.hid (M1.out.below (Below.drew (Below.refl _ _)))
    have HSQ := Lib.hid (show ∀ q, w1.drew.heap.size ≤ q → q ≠ w.heap.size from HSQ.out)
    generalize w1.drew = w2 at *
    refine wpAnyL_ready (rs := [3]) (by kernel_rfl) (by simp) ?_
    refine AllReadyL.cons (by simp only [List.getElem?_toArray, List.getElem?_cons_succ, List.getElem?_cons_zero]; rfl) (fun K hK => ?_) AllReadyL.nil
    go_simp
    refine (mPut_live (fun q => q < w0.heap.size) t [.int .i64 t.kind, .int .i64 t.int, .string t.text, .int .u32 t.cr, .slice na2 t.nums.length nc2, .slice a2 t.args.length cap2] _ T1.out.m M1.out (fun q hq => Nat.lt_of_lt_of_le hq T1.out.b.size) (fun q hq hF => by have := (T1.out.f q hF).1; omega) (HG.out.below T1.out.b)).mono ?_
    rintro e w3 ⟨ev2, rfl, he, hm, hk⟩
    have T3 := Lib.hid (T1.out.mail hm hk)
    have HE3 := Lib.hid he
    have M3 := Lib.hid (M1.out.keep hk (fun q _ hq hF => by have := (T1.out.f q hF).1; omega))
    have hHeld := Cells.keep hHeld hk HFO.out
    clear he hm hk
    refine hK.out _ _ (hHeld) (fun hHeld => ?_)
    try simp only [Act.put, List.setIfInBounds_toArray, List.set_cons_zero, List.set_cons_succ]
    refine wpAnyL_ready (rs := [7]) (by kernel_rfl) (by simp) ?_
    refine AllReadyL.cons (by simp only [List.getElem?_toArray, List.getElem?_cons_succ, List.getElem?_cons_zero]; rfl) (fun K hK => ?_) AllReadyL.nil
    go_simp
    refine (put17_any t [.int .i64 t.kind, .int .i64 t.int, .string t.text, .int .u32 t.cr, .slice na2 t.nums.length nc2, .slice a2 t.args.length cap2] _ T3.out.r M3.out).mono ?_
    rintro e w4 ⟨v4, rfl, hl4, hr4⟩
    obtain ⟨lv4, t4, k4⟩ := T3.out.ref hr4
    have T4 := Lib.hid t4
    have HL4 := Lib.hid hl4
    have HE4 := Lib.hid (HE3.out.keep k4 (fun q hq => T3.out.nf hq))
    have hHeld := Cells.keep hHeld k4 HLO.out
    clear hl4 hr4 t4 k4
    refine hK.out _ _ (hHeld) (fun hHeld => ?_)
    try simp only [Act.put, List.setIfInBounds_toArray, List.set_cons_zero, List.set_cons_succ]
    refine wpAnyL_ready (rs := [8]) (by kernel_rfl) (by simp) ?_
    refine AllReadyL.cons (by simp only [List.getElem?_toArray, List.getElem?_cons_succ, List.getElem?_cons_zero]; rfl) (fun K hK => ?_) AllReadyL.nil
    go_simp
    refine (refused_links ev2 (putM b t).1 (putM b t).1 _ _ _ (HE4.out) (by have := HLE.out; omega) (by have := HLE.out; omega) (HL4.out) (HG.out.below T4.out.b).1).mono ?_
    rintro e w5 ⟨rfl, hb5⟩
    rw [decide_eq_true rfl]
    have hHeld := Cells.below hHeld hb5
    have T5 := Lib.hid (T4.out.below hb5).two
    clear hb5
    refine hK.out _ _ (hHeld) (fun hHeld => ?_)
    try simp only [Act.put, List.setIfInBounds_toArray, List.set_cons_zero, List.set_cons_succ]
    refine wpAnyL_easy (i := 9) (v := (.bool true)) (by simp only [List.getElem?_toArray, List.getElem?_cons_succ, List.getElem?_cons_zero]; rfl) (by kernel_rfl) (by kernel_rfl) (by kernel_rfl) (by exact fun _ _ _ h => h) (Or.inl ⟨by rfl, fun _ _ => rfl⟩) ?_
    try simp only [Act.put, List.setIfInBounds_toArray, List.set_cons_zero, List.set_cons_succ]
    refine wpAnyL_done (by kernel_rfl) ?_ _
    go_wp2
    go_ret
    rw [HS.out]
    exact ⟨rfl, T5.out⟩
  have e1 : (kd == 1) = false := beq_eq_false_iff_ne.2 k1
  by_cases k2 : kd = 2
  · subst k2
    have HS := Lib.hid (show stepM b ⟨2, t, now⟩ = b by simp [stepM])
    clear k1 e1
    go_wp2_with fail
    refine (mPeek_live _ T1.out.m).mono ?_
    rintro e w3 ⟨hb3, hm3⟩
    have T3 := Lib.hid (T1.out.below hb3)
    have HZ1 := Lib.hid (show w0.heap.size ≤ w1.heap.size from T1.out.b.size)
    clear hb3
    cases hx : b.l[b.cur]? with
    | none =>
      rw [hx] at hm3
      replace hm3 : e = .returned (.tuple #[.agg #[.int .i64 0, .int .i64 0, .string ⟨#[]⟩, .int .u32 0, .slice none 0 0, .slice none 0 0], .bool false]) := hm3
      subst hm3
      have HX := Lib.hid hx
      clear hx
      go_upto_region 6 with (fail)
      have HA := Lib.hid ((Below.refl w3.heap.size w3).alloc (Nat.le_refl _) (.cells #[.int .i64 0, .int .i64 0, .string ⟨#[]⟩, .int .u32 0, .slice none 0 0, .slice none 0 0] 35 (0, 0)))
      have T4 := Lib.hid (T3.out.below HA.out)
      clear HA
      generalize w3.alloc (.cells #[.int .i64 0, .int .i64 0, .string ⟨#[]⟩, .int .u32 0, .slice none 0 0, .slice none 0 0] 35 (0, 0)) = w4 at *
      have HP := Lib.hid (peek17_any _ T4.out.r)
      rw [HX.out] at HP
      go_wp2_with fail
      refine HP.out.mono ?_
      rintro e w5 ⟨hb5, hm5⟩
      replace hm5 : e = .returned (.tuple #[.agg #[.int .i64 0, .int .i64 0, .string ⟨#[]⟩, .int .u32 0, .slice none 0 0, .slice none 0 0], .bool false]) := hm5
      subst hm5
      have T5 := Lib.hid (T4.out.below hb5)
      clear hb5 HP
      go_upto_region 7 with (fail)
      have HA := Lib.hid ((Below.refl w5.heap.size w5).alloc (Nat.le_refl _) (.cells #[.int .i64 0, .int .i64 0, .string ⟨#[]⟩, .int .u32 0, .slice none 0 0, .slice none 0 0] 35 (0, 0)))
      have T6 := Lib.hid (T5.out.below HA.out).two
      clear HA
      generalize w5.alloc (.cells #[.int .i64 0, .int .i64 0, .string ⟨#[]⟩, .int .u32 0, .slice none 0 0, .slice none 0 0] 35 (0, 0)) = w6 at *
      clear o0
      go_wp2
      go_ret
      rw [HS.out]
      exact ⟨rfl, T6.out⟩
    | some u =>
      rw [hx] at hm3
      obtain ⟨vs3, rfl, hu3⟩ := hm3
      have HX := Lib.hid hx
      have U3 := Lib.hid hu3
      obtain ⟨_, nv, a5, c5, rfl, hn5, _⟩ := hu3.parts
      obtain ⟨n5, m5, rfl, _, _⟩ := hn5.slice
      clear hx hu3 hn5
      go_upto_region 6 with (fail)
      have HA := Lib.hid ((Below.refl w3.heap.size w3).alloc (Nat.le_refl _) (.cells #[.int .i64 u.kind, .int .i64 u.int, .string u.text, .int .u32 u.cr, .slice n5 u.nums.length m5, .slice a5 u.args.length c5] 35 (0, 0)))
      have C4 := Lib.hid (show Cells (w3.alloc (.cells #[.int .i64 u.kind, .int .i64 u.int, .string u.text, .int .u32 u.cr, .slice n5 u.nums.length m5, .slice a5 u.args.length c5] 35 (0, 0))) w3.heap.size 35 [.int .i64 u.kind, .int .i64 u.int, .string u.text, .int .u32 u.cr, .slice n5 u.nums.length m5, .slice a5 u.args.length c5] from Cells.new w3 35 [.int .i64 u.kind, .int .i64 u.int, .string u.text, .int .u32 u.cr, .slice n5 u.nums.length m5, .slice a5 u.args.length c5])
      have T4 := Lib.hid (T3.out.below HA.out)
      have U4 := Lib.hid (U3.out.below HA.out)
      clear HA U3
      generalize w3.alloc (.cells #[.int .i64 u.kind, .int .i64 u.int, .string u.text, .int .u32 u.cr, .slice n5 u.nums.length m5, .slice a5 u.args.length c5] 35 (0, 0)) = w4 at *
      have HP := Lib.hid (peek17_any _ T4.out.r)
      rw [HX.out] at HP
      go_wp2_with fail
      refine HP.out.mono ?_
      rintro e w5 ⟨hb5, vs7, rfl, hu7⟩
      have T5 := Lib.hid (T4.out.below hb5)
      have U5 := Lib.hid (U4.out.below hb5)
      have C5 := Lib.hid (C4.out.below hb5)
      have U7 := Lib.hid hu7
      obtain ⟨_, nv, a7, c7, rfl, hn7, _⟩ := hu7.parts
      obtain ⟨n7, m7, rfl, _, _⟩ := hn7.slice
      clear hb5 HP hu7 hn7
      go_upto_region 7 with (fail)
      have HA := Lib.hid ((Below.refl w5.heap.size w5).alloc (Nat.le_refl _) (.cells #[.int .i64 u.kind, .int .i64 u.int, .string u.text, .int .u32 u.cr, .slice n7 u.nums.length m7, .slice a7 u.args.length c7] 35 (0, 0)))
      have C6 := Lib.hid (C5.out.below HA.out)
      have D6 := Lib.hid (show Cells (w5.alloc (.cells #[.int .i64 u.kind, .int .i64 u.int, .string u.text, .int .u32 u.cr, .slice n7 u.nums.length m7, .slice a7 u.args.length c7] 35 (0, 0))) w5.heap.size 35 [.int .i64 u.kind, .int .i64 u.int, .string u.text, .int .u32 u.cr, .slice n7 u.nums.length m7, .slice a7 u.args.length c7] from Cells.new w5 35 [.int .i64 u.kind, .int .i64 u.int, .string u.text, .int .u32 u.cr, .slice n7 u.nums.length m7, .slice a7 u.args.length c7])
      have T6 := Lib.hid (T5.out.below HA.out)
      have HSA := Lib.hid (sameTm_any _ _ u [.int .i64 u.kind, .int .i64 u.int, .string u.text, .int .u32 u.cr, .slice n5 u.nums.length m5, .slice a5 u.args.length c5] [.int .i64 u.kind, .int .i64 u.int, .string u.text, .int .u32 u.cr, .slice n7 u.nums.length m7, .slice a7 u.args.length c7] _ (U5.out.below HA.out) (U7.out.below HA.out))
      clear HA
      generalize w5.alloc (.cells #[.int .i64 u.kind, .int .i64 u.int, .string u.text, .int .u32 u.cr, .slice n7 u.nums.length m7, .slice a7 u.args.length c7] 35 (0, 0)) = w6 at *
      clear o0
      have p0 := C6.out.cell 0
      have p1 := C6.out.cell 1
      have p2 := C6.out.cell 2
      have p3 := C6.out.cell 3
      have p4 := C6.out.cell 4
      have p5 := C6.out.cell 5
      simp only [List.getElem?_cons_zero, List.getElem?_cons_succ] at p0 p1 p2 p3 p4 p5
      have q0 := D6.out.cell 0
      have q1 := D6.out.cell 1
      have q2 := D6.out.cell 2
      have q3 := D6.out.cell 3
      have q4 := D6.out.cell 4
      have q5 := D6.out.cell 5
      simp only [List.getElem?_cons_zero, List.getElem?_cons_succ] at q0 q1 q2 q3 q4 q5
      go_wp2_with fail
      refine HSA.out.mono ?_
      rintro e w7 ⟨rfl, hb7⟩
      have T7 := Lib.hid (T6.out.below hb7).two
      clear hb7 p0 p1 p2 p3 p4 p5 q0 q1 q2 q3 q4 q5
      go_wp2
      go_ret
      rw [HS.out]
      exact ⟨rfl, T7.out⟩
  have e2 : (kd == 2) = false := beq_eq_false_iff_ne.2 k2
  by_cases k3 : kd = 3
  · subst k3
    have HS := Lib.hid (show stepM b ⟨3, t, now⟩ = (nextM b).2 by simp [stepM])
    have HLE := Lib.hid (nextM_errs b)
    clear k1 e1 k2 e2
    go_wp2_with fail
    refine (mNext_live _ T1.out.m).mono ?_
    rintro e w3 ⟨ev2, rfl, he, hm, hk⟩
    have T3 := Lib.hid (T1.out.mail (hm.mono (fun q _ h => .inl h)) hk)
    have HE3 := Lib.hid he
    clear he hm hk
    go_wp2_with fail
    refine (next17_any _ T3.out.r).mono ?_
    rintro e w4 ⟨v4, rfl, hl4, hr4⟩
    obtain ⟨lv4, t4, k4⟩ := T3.out.ref hr4
    have T4 := Lib.hid t4
    have HL4 := Lib.hid hl4
    have HE4 := Lib.hid (HE3.out.keep k4 (fun q hq => T3.out.nf hq))
    clear hl4 hr4 t4 k4
    go_wp2_with fail
    refine (refused_links ev2 (nextM b).1 (nextM b).1 _ _ _ (HE4.out) (by have := HLE.out; omega) (by have := HLE.out; omega) (HL4.out) (HG.out.below T4.out.b).1).mono ?_
    rintro e w5 ⟨rfl, hb5⟩
    rw [decide_eq_true rfl]
    have T5 := Lib.hid (T4.out.below hb5).two
    clear hb5 o0
    go_wp2
    go_ret
    rw [HS.out]
    exact ⟨rfl, T5.out⟩
  have e3 : (kd == 3) = false := beq_eq_false_iff_ne.2 k3
  by_cases k4 : kd = 4
  · subst k4
    have HS := Lib.hid (show stepM b ⟨4, t, now⟩ = (takeM b).2.2 by simp [stepM])
    have HLE := Lib.hid (takeM_errs b)
    clear k1 e1 k2 e2 k3 e3
    go_wp2_with fail
    refine (mTake_live _ T1.out.m).mono ?_
    rintro e w3 ⟨vs3, ev2, rfl, he, ⟨hm, hk⟩, hv⟩
    have T3 := Lib.hid (T1.out.mail (hm.mono (fun q _ h => .inl h)) hk)
    have HE3 := Lib.hid he
    have HNB := Lib.hid (fun q (h : LsK gr lv q) (hq : F q) => (T1.out.f q hq).2 h)
    clear he hm hk
    cases hx : (takeM b).1 with
    | none =>
      rw [hx] at hv
      replace hv : vs3 = [.int .i64 0, .int .i64 0, .string ⟨#[]⟩, .int .u32 0, .slice none 0 0, .slice none 0 0] := hv
      subst hv
      have HX := Lib.hid hx
      clear hx
      go_upto_region 12 with (fail)
      have HA := Lib.hid ((Below.refl w3.heap.size w3).alloc (Nat.le_refl _) (.cells #[.int .i64 0, .int .i64 0, .string ⟨#[]⟩, .int .u32 0, .slice none 0 0, .slice none 0 0] 35 (0, 0)))
      have T4 := Lib.hid (T3.out.below HA.out)
      have HE4 := Lib.hid (HE3.out.below HA.out)
      clear HA
      generalize w3.alloc (.cells #[.int .i64 0, .int .i64 0, .string ⟨#[]⟩, .int .u32 0, .slice none 0 0, .slice none 0 0] 35 (0, 0)) = w4 at *
      have HP := Lib.hid (take17_any _ T4.out.r)
      go_wp2_with fail
      refine HP.out.mono ?_
      rintro e w5 ⟨vs5, v5, rfl, hl5, hr5, hm5⟩
      rw [HX.out] at hm5
      replace hm5 : vs5 = [.int .i64 0, .int .i64 0, .string ⟨#[]⟩, .int .u32 0, .slice none 0 0, .slice none 0 0] := hm5
      subst hm5
      obtain ⟨lv5, t5, k5⟩ := T4.out.ref hr5
      have HE5 := Lib.hid (HE4.out.keep k5 (fun q hq => T4.out.nf hq))
      have T5 := Lib.hid t5
      have HL5 := Lib.hid hl5
      have HEL := Lib.hid (show (takeM b).2.1 = errM 7 by
        have h := HX.out
        unfold takeM at h ⊢
        split at h
        · cases h
        · rfl)
      clear hl5 hr5 t5 k5 HP
      go_upto_region 13 with (fail)
      have HA := Lib.hid ((Below.refl w5.heap.size w5).alloc (Nat.le_refl _) (.cells #[.int .i64 0, .int .i64 0, .string ⟨#[]⟩, .int .u32 0, .slice none 0 0, .slice none 0 0] 35 (0, 0)))
      have T6 := Lib.hid (T5.out.below HA.out)
      have HE6 := Lib.hid (HE5.out.below HA.out)
      have HL6 := Lib.hid (HL5.out.below HA.out (Nat.le_refl _))
      clear HA
      generalize w5.alloc (.cells #[.int .i64 0, .int .i64 0, .string ⟨#[]⟩, .int .u32 0, .slice none 0 0, .slice none 0 0] 35 (0, 0)) = w6 at *
      have HL7 := HL6.out
      rw [HEL.out] at HL7
      obtain ⟨_, hn⟩ | ⟨g7, c7, rfl, -, -, -, -⟩ := HL7.shape
      · cases hn
      have hpos : (0 : Int) < ((errM 7).length : Int) := by decide
      generalize (errM 7).length = nn at *
      clear HL7
      go_wp2_with fail
      refine (refused_links ev2 (takeM b).2.1 (takeM b).2.1 _ _ _ (HE6.out) (by have := HLE.out; omega) (by have := HLE.out; omega) (HL6.out) (HG.out.below T6.out.b).1).mono ?_
      rintro e w5 ⟨rfl, hb5⟩
      rw [decide_eq_true rfl]
      have T7 := Lib.hid (T6.out.below hb5).two
      clear hb5 o0
      go_wp2
      go_ret
      rw [HS.out]
      exact ⟨rfl, T7.out⟩
    | some u =>
      rw [hx] at hv
      obtain ⟨SU, hu3, hSU⟩ := hv
      have HX := Lib.hid hx
      have U3 := Lib.hid hu3
      have HSU := Lib.hid hSU
      obtain ⟨_, nv, a5, c5, rfl, hn5, _⟩ := hu3.parts
      obtain ⟨n5, m5, rfl, _, _⟩ := hn5.slice
      have HEL := Lib.hid (show (takeM b).2.1 = [] by
        have h := HX.out
        unfold takeM at h ⊢
        split at h
        · rfl
        · cases h)
      clear hx hu3 hn5 hSU
      go_upto_region 12 with (fail)
      have HA := Lib.hid ((Below.refl w3.heap.size w3).alloc (Nat.le_refl _) (.cells #[.int .i64 u.kind, .int .i64 u.int, .string u.text, .int .u32 u.cr, .slice n5 u.nums.length m5, .slice a5 u.args.length c5] 35 (0, 0)))
      have C4 := Lib.hid (show Cells (w3.alloc (.cells #[.int .i64 u.kind, .int .i64 u.int, .string u.text, .int .u32 u.cr, .slice n5 u.nums.length m5, .slice a5 u.args.length c5] 35 (0, 0))) w3.heap.size 35 [.int .i64 u.kind, .int .i64 u.int, .string u.text, .int .u32 u.cr, .slice n5 u.nums.length m5, .slice a5 u.args.length c5] from Cells.new w3 35 [.int .i64 u.kind, .int .i64 u.int, .string u.text, .int .u32 u.cr, .slice n5 u.nums.length m5, .slice a5 u.args.length c5])
      have T4 := Lib.hid (T3.out.below HA.out)
      have HE4 := Lib.hid (HE3.out.below HA.out)
      have U4 := Lib.hid (U3.out.below HA.out)
      have HN4 := Lib.hid (show ¬ LsK gr lv w3.heap.size from fun e => Nat.lt_irrefl _ (T3.out.lt e).1)
      clear HA U3
      generalize w3.alloc (.cells #[.int .i64 u.kind, .int .i64 u.int, .string u.text, .int .u32 u.cr, .slice n5 u.nums.length m5, .slice a5 u.args.length c5] 35 (0, 0)) = w4 at *
      have HP := Lib.hid (take17_any _ T4.out.r)
      go_wp2_with fail
      refine HP.out.mono ?_
      rintro e w5 ⟨vs7, v5, rfl, hl5, hr5, hm5⟩
      rw [HX.out] at hm5
      obtain ⟨hu7, rfl⟩ := hm5
      have U7 := Lib.hid hu7
      obtain ⟨lv5, t5, k5⟩ := T4.out.ref hr5
      have HE5 := Lib.hid (HE4.out.keep k5 (fun q hq => T4.out.nf hq))
      have U5 := Lib.hid (U4.out.keep k5 (fun q _ hq e => HNB.out q e (HSU.out q hq).1))
      have C5 := Lib.hid (C4.out.keep k5 HN4.out)
      have T5 := Lib.hid t5
      have HL5 := Lib.hid hl5
      obtain ⟨_, nv, a7, c7, rfl, hn7, _⟩ := hu7.parts
      obtain ⟨n7, m7, rfl, _, _⟩ := hn7.slice
      clear hl5 hr5 t5 k5 HP hu7 hn7
      go_upto_region 13 with (fail)
      have HA := Lib.hid ((Below.refl w5.heap.size w5).alloc (Nat.le_refl _) (.cells #[.int .i64 u.kind, .int .i64 u.int, .string u.text, .int .u32 u.cr, .slice n7 u.nums.length m7, .slice a7 u.args.length c7] 35 (0, 0)))
      have T6 := Lib.hid (T5.out.below HA.out)
      have HE6 := Lib.hid (HE5.out.below HA.out)
      have HL6 := Lib.hid (HL5.out.below HA.out (Nat.le_refl _))
      have C6 := Lib.hid (C5.out.below HA.out)
      have D6 := Lib.hid (show Cells (w5.alloc (.cells #[.int .i64 u.kind, .int .i64 u.int, .string u.text, .int .u32 u.cr, .slice n7 u.nums.length m7, .slice a7 u.args.length c7] 35 (0, 0))) w5.heap.size 35 [.int .i64 u.kind, .int .i64 u.int, .string u.text, .int .u32 u.cr, .slice n7 u.nums.length m7, .slice a7 u.args.length c7] from Cells.new w5 35 [.int .i64 u.kind, .int .i64 u.int, .string u.text, .int .u32 u.cr, .slice n7 u.nums.length m7, .slice a7 u.args.length c7])
      have U6 := Lib.hid (U5.out.below HA.out)
      have U8 := Lib.hid (U7.out.below HA.out)
      clear HA
      generalize w5.alloc (.cells #[.int .i64 u.kind, .int .i64 u.int, .string u.text, .int .u32 u.cr, .slice n7 u.nums.length m7, .slice a7 u.args.length c7] 35 (0, 0)) = w6 at *
      go_wp2_with fail
      refine (refused_links ev2 (takeM b).2.1 (takeM b).2.1 _ _ _ (HE6.out) (by have := HLE.out; omega) (by have := HLE.out; omega) (HL6.out) (HG.out.below T6.out.b).1).mono ?_
      rintro e w5 ⟨rfl, hb5⟩
      rw [decide_eq_true rfl]
      have HSA := Lib.hid (sameTm_any _ _ u [.int .i64 u.kind, .int .i64 u.int, .string u.text, .int .u32 u.cr, .slice n5 u.nums.length m5, .slice a5 u.args.length c5] [.int .i64 u.kind, .int .i64 u.int, .string u.text, .int .u32 u.cr, .slice n7 u.nums.length m7, .slice a7 u.args.length c7] _ (U6.out.below hb5) (U8.out.below hb5))
      have T7 := Lib.hid (T6.out.below hb5)
      have C7 := Lib.hid (C6.out.below hb5)
      have D7 := Lib.hid (D6.out.below hb5)
      clear hb5 o0
      have p0 := C7.out.cell 0
      have p1 := C7.out.cell 1
      have p2 := C7.out.cell 2
      have p3 := C7.out.cell 3
      have p4 := C7.out.cell 4
      have p5 := C7.out.cell 5
      simp only [List.getElem?_cons_zero, List.getElem?_cons_succ] at p0 p1 p2 p3 p4 p5
      have q0 := D7.out.cell 0
      have q1 := D7.out.cell 1
      have q2 := D7.out.cell 2
      have q3 := D7.out.cell 3
      have q4 := D7.out.cell 4
      have q5 := D7.out.cell 5
      simp only [List.getElem?_cons_zero, List.getElem?_cons_succ] at q0 q1 q2 q3 q4 q5
      go_wp2_with fail
      refine HSA.out.mono ?_
      rintro e w8 ⟨rfl, hb8⟩
      have T8 := Lib.hid (T7.out.below hb8).two
      clear hb8 p0 p1 p2 p3 p4 p5 q0 q1 q2 q3 q4 q5
      go_wp2
      go_ret
      rw [HS.out]
      exact ⟨rfl, T8.out⟩
  have e4 : (kd == 4) = false := beq_eq_false_iff_ne.2 k4
  by_cases k5 : kd = 5
  · subst k5
    have HS := Lib.hid (show stepM b ⟨5, t, now⟩ = (waitM b now t).2.2 by simp [stepM])
    have HLE := Lib.hid (waitM_errs b now t)
    clear k1 e1 k2 e2 k3 e3 k4 e4
    have p1 := O1.out.cell 1
    have p2 := O1.out.cell 2
    have p3 := O1.out.cell 3
    have p4 := O1.out.cell 4
    have p5 := O1.out.cell 5
    have p6 := O1.out.cell 6
    have p7 := O1.out.cell 7
    simp only [List.getElem?_cons_zero, List.getElem?_cons_succ] at p1 p2 p3 p4 p5 p6 p7
    go_wp2_with fail
    refine (mWait_live now (fun q => q < w0.heap.size) t [.int .i64 t.kind, .int .i64 t.int, .string t.text, .int .u32 t.cr, .slice na2 t.nums.length nc2, .slice a2 t.args.length cap2] _ T1.out.m M1.out (fun q hq => Nat.lt_of_lt_of_le hq T1.out.b.size) (HG.out.below T1.out.b)).mono ?_
    rintro e w3 ⟨ev2, rfl, he, hm, hk⟩
    have T3 := Lib.hid (T1.out.mail (hm.mono (fun q _ h => .inl h)) hk)
    have HE3 := Lib.hid he
    have O3 := Lib.hid (O1.out.keep hk HFO.out)
    have M3 := Lib.hid (M1.out.keep hk (fun q _ hq hF => by have := (T1.out.f q hF).1; omega))
    clear he hm hk p1 p2 p3 p4 p5 p6 p7
    have p1 := O3.out.cell 1
    have p2 := O3.out.cell 2
    have p3 := O3.out.cell 3
    have p4 := O3.out.cell 4
    have p5 := O3.out.cell 5
    have p6 := O3.out.cell 6
    have p7 := O3.out.cell 7
    simp only [List.getElem?_cons_zero, List.getElem?_cons_succ] at p1 p2 p3 p4 p5 p6 p7
    go_wp2_with fail
    refine (wait17_any now t [.int .i64 t.kind, .int .i64 t.int, .string t.text, .int .u32 t.cr, .slice na2 t.nums.length nc2, .slice a2 t.args.length cap2] _ T3.out.r M3.out).mono ?_
    rintro e w4 ⟨v4, rfl, hl4, hr4⟩
    obtain ⟨lv4, t4, k4⟩ := T3.out.ref hr4
    have T4 := Lib.hid t4
    have HL4 := Lib.hid hl4
    have HE4 := Lib.hid (HE3.out.keep k4 (fun q hq => T3.out.nf hq))
    clear hl4 hr4 t4 k4
    have hbb : ((waitM b now t).1 == (waitM b now t).1) = true := beq_self_eq_true _
    go_wp2_with fail
    refine (refused_links ev2 (waitM b now t).2.1 (waitM b now t).2.1 _ _ _ (HE4.out) (by have := HLE.out; omega) (by have := HLE.out; omega) (HL4.out) (HG.out.below T4.out.b).1).mono ?_
    rintro e w5 ⟨rfl, hb5⟩
    rw [decide_eq_true rfl]
    have T5 := Lib.hid (T4.out.below hb5).two
    clear hb5 o0
    go_wp2
    go_ret
    rw [HS.out]
    exact ⟨rfl, T5.out⟩
  have e5 : (kd == 5) = false := beq_eq_false_iff_ne.2 k5
  by_cases k6 : kd = 6
  · subst k6
    have HS := Lib.hid (show stepM b ⟨6, t, now⟩ = (expireM b now).2.2 by simp [stepM])
    have HLE := Lib.hid (expireM_errs b now)
    clear k1 e1 k2 e2 k3 e3 k4 e4 k5 e5
    have p7 := O1.out.cell 7
    simp only [List.getElem?_cons_zero, List.getElem?_cons_succ] at p7
    go_wp2_with fail
    refine (mExpire_live now _ T1.out.m).mono ?_
    rintro e w3 ⟨ev2, rfl, he, hm, hk⟩
    have T3 := Lib.hid (T1.out.mail (hm.mono (fun q _ h => .inl h)) hk)
    have HE3 := Lib.hid he
    have O3 := Lib.hid (O1.out.keep hk HFO.out)
    have M3 := Lib.hid (M1.out.keep hk (fun q _ hq hF => by have := (T1.out.f q hF).1; omega))
    clear he hm hk p7
    have p7 := O3.out.cell 7
    simp only [List.getElem?_cons_zero, List.getElem?_cons_succ] at p7
    go_wp2_with fail
    refine (expire17_any now _ T3.out.r).mono ?_
    rintro e w4 ⟨v4, rfl, hl4, hr4⟩
    obtain ⟨lv4, t4, k4⟩ := T3.out.ref hr4
    have T4 := Lib.hid t4
    have HL4 := Lib.hid hl4
    have HE4 := Lib.hid (HE3.out.keep k4 (fun q hq => T3.out.nf hq))
    clear hl4 hr4 t4 k4
    have hbb : ((expireM b now).1 == (expireM b now).1) = true := beq_self_eq_true _
    go_wp2_with fail
    refine (refused_links ev2 (expireM b now).2.1 (expireM b now).2.1 _ _ _ (HE4.out) (by have := HLE.out; omega) (by have := HLE.out; omega) (HL4.out) (HG.out.below T4.out.b).1).mono ?_
    rintro e w5 ⟨rfl, hb5⟩
    rw [decide_eq_true rfl]
    have T5 := Lib.hid (T4.out.below hb5).two
    clear hb5 o0
    go_wp2
    go_ret
    rw [HS.out]
    exact ⟨rfl, T5.out⟩
  have e6 : (kd == 6) = false := beq_eq_false_iff_ne.2 k6
  have HS := Lib.hid (show stepM b ⟨kd, t, now⟩ = b by simp [stepM, k1, k3, k4, k5, k6])
  clear k1 k2 k3 k4 k5 k6
  go_wp2_with fail
  refine (told_any w0 gb gr F lv b _ T1.out).mono ?_
  rintro e w2 ⟨rfl, hb2⟩
  have T2 := Lib.hid (T1.out.below hb2).two
  clear hb2
  go_wp2
  go_ret
  rw [HS.out]
  exact ⟨rfl, T2.out⟩
set_option maxHeartbeats 8000000 in
set_option maxRecDepth 100000 in
theorem mailRuns_any (lv : Value) (l : List MOp) (w : World) (hl : OpsM (fun q => q < w.heap.size) lv l w) (hG : Gt w) :
    Calls Tryz.prog 3 #[lv] w fun e w' => e = .returned (.bool true) ∧ Below w.heap.size w w' := by
  obtain ⟨la, lc, rfl, ⟨hlc, hlm⟩, hlr, hcell⟩ := hl
  have HG := Lib.hid hG
  have HL := Lib.hid hcell
  have B1 := Lib.hid ((Below.refl w.heap.size w).alloc (Nat.le_refl _) (.cells (bxV Bx.zero (.slice none 0 0)).toArray 75 (0, 0)))
  have B2 := Lib.hid (B1.out.alloc (by simp) (.cells (rxV Bx.zero (.slice none 0 0)).toArray 28 (0, 0)))
  have C2 := Lib.hid (Cells.new (w.alloc (.cells (bxV Bx.zero (.slice none 0 0)).toArray 75 (0, 0))) 28 (rxV Bx.zero (.slice none 0 0)))
  have T2 := Lib.hid (show Two w w.heap.size (w.heap.size + 1) Bx.zero ((w.alloc (.cells (bxV Bx.zero (.slice none 0 0)).toArray 75 (0, 0))).alloc (.cells (rxV Bx.zero (.slice none 0 0)).toArray 28 (0, 0))) from
    ⟨fun q => q = w.heap.size, .slice none 0 0, ⟨B2.out, ⟨rfl, Nat.zero_le _, Nat.zero_le _, .slice none 0 0, fun _ => False, (Cells.new w 75 (bxV Bx.zero (.slice none 0 0))).alloc _, TsIs.nil _ _ _, fun _ h => h.elim, fun _ h => by cases h⟩,
      ⟨by omega, Nat.zero_le _, Nat.zero_le _, ⟨by have := C2.out; simpa using this, rfl, TsIs.nil _ _ _, fun q hq => ⟨by have hq : q < w.heap.size := hq; simp; omega, by have hq : q < w.heap.size := hq; omega⟩, fun _ h => by cases h⟩⟩,
      fun q hq => ⟨Nat.le_of_eq hq.symm, fun e => by
        rcases e with e | e
        · have hq : q = w.heap.size := hq; omega
        · cases e⟩⟩, fun q hq => by have hq : q = w.heap.size := hq; subst hq; simp; omega⟩)
  clear hG hcell B1 C2
  go_enter Tryz.func3, Tryz.ntmps3
  go_wp2_with fail
  refine (mNew_any w).mono ?_
  rintro e w1 ⟨rfl, rfl⟩
  go_upto_region 2 with (fail)
  replace T2 := Lib.hid (show Two w w.heap.size (w.heap.size + 1) Bx.zero ((w.alloc (.cells (bxV Bx.zero (.slice none 0 0)).toArray 75 (0, 0))).alloc (.cells #[.slice none 0 0, .int .i64 0, .bool false, .int .i64 0] 28 (0, 0))) from T2.out)
  generalize (w.alloc (.cells (bxV Bx.zero (.slice none 0 0)).toArray 75 (0, 0))).alloc (.cells #[.slice none 0 0, .int .i64 0, .bool false, .int .i64 0] 28 (0, 0)) = w2 at *
  have HG2 := Lib.hid (show Below w.heap.size w w2 from by obtain ⟨F, lv, h, _⟩ := T2.out; exact h.b)
  go_wp2_with fail
  refine (alive_any _ (HG.out.below HG2.out)).mono ?_
  rintro e w3 ⟨rfl, hb3⟩
  have T3 := Lib.hid (show Two w w.heap.size (w.heap.size + 1) Bx.zero w3 from by obtain ⟨F, lv, h, _⟩ := T2.out; exact (h.below hb3).two)
  clear hb3 HG2
  go_wp2
  go_loopw [5] (fun i wr => ∃ (kk : Nat) (b : Bx), kk ≤ l.length ∧ i = .int .i64 kk ∧ Two w w.heap.size (w.heap.size + 1) b wr) (fun i _ => l.length - (intOf i).toNat)
  case atStart => exact ⟨0, Bx.zero, Nat.zero_le _, rfl, T3.out⟩
  case round =>
    obtain ⟨kk, b, hkk, rfl, hT⟩ := hrel
    have TR := Lib.hid hT
    obtain ⟨F, lv, hTw, -⟩ := hT
    have HB := Lib.hid hTw.b
    have TW := Lib.hid hTw
    clear hTw
    by_cases hk : kk < l.length
    · obtain ⟨g, o, vs, rfl, d0, hcs, d7, ht, -, -, -, -⟩ := HL.out kk hk
      obtain ⟨_, nv, a2, cap2, rfl, hnn, _⟩ := ht.parts
      obtain ⟨na2, nc2, rfl, _, _⟩ := hnn.slice
      have hg : g < w.heap.size := World.block_lt_of_cell? w _ d0
      have e0 := (HB.out.cell (p := ⟨g, o + kk * 8, none⟩) hg).trans d0
      have e7 : wr.cell? ⟨g, o + kk * 8 + 7, none⟩ = _ := (HB.out.cell (p := ⟨g, o + (kk * 8 + 7), none⟩) hg).trans d7
      have e1 : wr.cell? ⟨g, o + kk * 8 + 1, none⟩ = _ := (HB.out.cell (p := ⟨g, o + (kk * 8 + (1 + 0)), none⟩) hg).trans (hcs 0 (by decide))
      have e2 : wr.cell? ⟨g, o + kk * 8 + 2, none⟩ = _ := (HB.out.cell (p := ⟨g, o + (kk * 8 + (1 + 1)), none⟩) hg).trans (hcs 1 (by decide))
      have e3 : wr.cell? ⟨g, o + kk * 8 + 3, none⟩ = _ := (HB.out.cell (p := ⟨g, o + (kk * 8 + (1 + 2)), none⟩) hg).trans (hcs 2 (by decide))
      have e4 : wr.cell? ⟨g, o + kk * 8 + 4, none⟩ = _ := (HB.out.cell (p := ⟨g, o + (kk * 8 + (1 + 3)), none⟩) hg).trans (hcs 3 (by decide))
      have e5 : wr.cell? ⟨g, o + kk * 8 + 5, none⟩ = _ := (HB.out.cell (p := ⟨g, o + (kk * 8 + (1 + 4)), none⟩) hg).trans (hcs 4 (by decide))
      have e6 : wr.cell? ⟨g, o + kk * 8 + 6, none⟩ = _ := (HB.out.cell (p := ⟨g, o + (kk * 8 + (1 + 5)), none⟩) hg).trans (hcs 5 (by decide))
      simp only [List.getElem?_cons_zero, List.getElem?_cons_succ] at e1 e2 e3 e4 e5 e6
      have HST := Lib.hid (step_any w w.heap.size (w.heap.size + 1) b l[kk] [.int .i64 l[kk].t.kind, .int .i64 l[kk].t.int, .string l[kk].t.text, .int .u32 l[kk].t.cr, .slice na2 l[kk].t.nums.length nc2, .slice a2 l[kk].t.args.length cap2] wr TR.out (ht.below HB.out) HG.out)
      have hki : (kk : Int) < (l.length : Int) := by omega
      have hk0 : (0 : Int) ≤ (kk : Int) := by omega
      have hk1 : (kk : Int) ≤ 1353245081263 := by omega
      clear d0 hcs d7 ht hnn hg
      go_wp2_with fail
      refine HST.out.mono ?_
      rintro e w4 ⟨rfl, hT4⟩
      have T4 := Lib.hid hT4
      clear hT4 e0 e1 e2 e3 e4 e5 e6 e7
      go_wp2
      go_roundw
      case rel => exact ⟨kk + 1, _, by omega, by go_num, T4.out⟩
      case measure => simp [intOf]; omega
    · have hki : ¬ (kk : Int) < (l.length : Int) := by omega
      clear hk hkk
      go_wp2_with fail
      refine (told_any w _ _ F lv b _ TW.out).mono ?_
      rintro e w4 ⟨rfl, hb4⟩
      have HB4 := Lib.hid (HB.out.trans (hb4.mono HB.out.size))
      clear hb4
      go_wp2
      go_ret
      exact ⟨rfl, HB4.out⟩
end Go.Proofs.YtlahagabcnmdiaaGreatDoor
end
