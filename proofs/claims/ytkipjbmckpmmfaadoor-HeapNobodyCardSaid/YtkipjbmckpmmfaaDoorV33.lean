/- Texts laid together: HpG, HpH, HpI, HpJ, HpK, HpL, HpN. -/
import Derived.Test.YtkipjbmckpmmfaaDoorV32
import Derived.Test.YtkipjbmckpmmfaaDoorV28
section
/- Package heap: walk. Printed by wip/hpg.py. -/
open Go Go.RowKit
namespace Go.Proofs.YtkipjbmckpmmfaaDoor
set_option linter.unusedVariables false
set_option linter.unusedSimpArgs false

/-- the count that a walk turns -/
def SnIs (sb : Nat) (s : Sn) (w : World) : Prop := Cells w sb 73 [.int .i64 s.parts, .int .i64 s.deep, .bool s.bad]
def WalkR (sb : Nat) (s : Sn) (w : World) (e : Ending) (w' : World) : Prop := e = .returned (.tuple #[]) ∧ SnIs sb s w' ∧ Keep (fun b => b = sb) w w'
theorem rowH_le {rd : Nat → Nat → Sn → Sn} (hr : ∀ x d s, s.parts ≤ (rd x d s).parts) : ∀ (r : List Nat) (d : Nat) (s : Sn), s.parts ≤ (rowH rd r d s).parts
  | [], d, s => Nat.le_refl _
  | x :: r, d, s => by
    rw [rowH]
    split
    · exact Nat.le_refl _
    · exact Nat.le_trans (hr x d s) (rowH_le hr r d _)
theorem chainH_le {h : Hs} {rd : Nat → Nat → Sn → Sn} (hr : ∀ x d s, s.parts ≤ (rd x d s).parts) : ∀ (g w d : Nat) (s : Sn), s.parts ≤ (chainH h rd g w d s).parts
  | 0, w, d, s => Nat.le_refl _
  | g + 1, w, d, s => by
    rw [chainH]
    split
    · exact Nat.le_trans (hr _ d s) (chainH_le hr g _ d _)
    · split
      · exact hr _ d s
      · exact Nat.le_refl _
theorem walkH_le {h : Hs} : ∀ (f w d : Nat) (s : Sn), s.parts ≤ (walkH h f w d s).parts ∧ (1 ≤ f → s.parts + 1 ≤ (walkH h f w d s).parts)
  | 0, w, d, s => ⟨Nat.le_refl _, fun h => absurd h (by decide)⟩
  | f + 1, w, d, s => by
    have key : s.parts + 1 ≤ (walkH h (f + 1) w d s).parts := by
      rw [walkH]
      have hr := fun x d s => (walkH_le (h := h) f x d s).1
      unfold oneH
      (repeat' split) <;> first | exact Nat.le_refl _ | exact rowH_le (rd := walkH h f) hr (objS h w).2 (d + 1) ⟨s.parts + 1, max s.deep d, s.bad⟩ | exact chainH_le (rd := walkH h f) hr _ w (d + 1) ⟨s.parts + 1, max s.deep d, s.bad⟩
    exact ⟨by omega, fun _ => key⟩
theorem rowH_deep {rd : Nat → Nat → Sn → Sn} {f : Nat} (hr : ∀ x d s, (rd x d s).deep ≤ max s.deep (d + f)) : ∀ (r : List Nat) (d : Nat) (s : Sn), (rowH rd r d s).deep ≤ max s.deep (d + f)
  | [], d, s => by rw [rowH]; omega
  | x :: r, d, s => by
    rw [rowH]
    split
    · omega
    · have := hr x d s
      have := rowH_deep hr r d (rd x d s)
      omega
theorem chainH_deep {h : Hs} {rd : Nat → Nat → Sn → Sn} {f : Nat} (hr : ∀ x d s, (rd x d s).deep ≤ max s.deep (d + f)) : ∀ (g w d : Nat) (s : Sn), (chainH h rd g w d s).deep ≤ max s.deep (d + f)
  | 0, w, d, s => by rw [chainH]; omega
  | g + 1, w, d, s => by
    rw [chainH]
    split
    · have := hr ((objS h w).2.getD 0 0) d s
      have := chainH_deep (h := h) hr g ((objS h w).2.getD 1 0) d (rd ((objS h w).2.getD 0 0) d s)
      omega
    · split
      · exact hr _ d s
      · omega
theorem walkH_deep {h : Hs} : ∀ (f w d : Nat) (s : Sn), (walkH h f w d s).deep ≤ max s.deep (d + f)
  | 0, w, d, s => by rw [walkH]; omega
  | f + 1, w, d, s => by
    rw [walkH]
    have hr := fun x d s => walkH_deep (h := h) f x d s
    have h1 := rowH_deep hr (objS h w).2 (d + 1) ⟨s.parts + 1, max s.deep d, s.bad⟩
    have h2 := fun g => chainH_deep (h := h) hr g w (d + 1) ⟨s.parts + 1, max s.deep d, s.bad⟩
    dsimp only at h1 h2
    unfold oneH
    (repeat' split) <;> first | (dsimp only; omega) | (have := h2 (4098 - (⟨s.parts + 1, max s.deep d, s.bad⟩ : Sn).parts); dsimp only at this ⊢; omega) | omega
theorem rowH_stop {rd : Nat → Nat → Sn → Sn} (r : List Nat) (d : Nat) (s : Sn) (h : 4096 < s.parts) : rowH rd r d s = s := by
  cases r with
  | nil => rfl
  | cons x r => rw [rowH, if_pos h]
theorem chainH_stop {h : Hs} {rd : Nat → Nat → Sn → Sn} (g w d : Nat) (s : Sn) (hs : 4096 < s.parts) : chainH h rd g w d s = s := by
  cases g with
  | zero => rfl
  | succ g => rw [chainH, if_neg (by omega), if_neg (by omega)]
theorem objS_two {h : Hs} {w : Nat} (hk : (objS h w).1 = 1) : ∃ x y r, (objS h w).2 = x :: y :: r := by
  rcases objS_cases h w with ⟨e, _⟩ | ⟨_, c2, _, _, c5, c6, _, e⟩
  · rw [e] at hk; cases hk
  · rw [e] at hk ⊢
    dsimp only at hk ⊢
    rw [hk] at c6
    have hl : ((h.l.drop (w / 4 + 1)).take (h.l.getD (w / 4) 0 / 256)).length = h.l.getD (w / 4) 0 / 256 := by rw [List.length_take, List.length_drop]; omega
    have h2 : 2 ≤ h.l.getD (w / 4) 0 / 256 := c6
    match hq : (h.l.drop (w / 4 + 1)).take (h.l.getD (w / 4) 0 / 256) with
    | x :: y :: r => exact ⟨x, y, r, rfl⟩
    | [x] => rw [hq] at hl; simp only [List.length_cons, List.length_nil] at hl; omega
    | [] => rw [hq] at hl; simp only [List.length_nil] at hl; omega
theorem objS_word {h : Hs} {w : Nat} (hw : ∀ x ∈ h.l, x < 18446744073709551616) : ∀ x ∈ (objS h w).2, x < 18446744073709551616 := fun x hx => by
  rcases objS_cases h w with ⟨_, e⟩ | ⟨_, _, _, _, _, _, _, e⟩
  · rw [e] at hx; cases hx
  · rw [e] at hx; exact hw x (List.mem_of_mem_drop (List.mem_of_mem_take hx))
theorem objS_le4 (h : Hs) (w : Nat) : (objS h w).1 ≤ 4 := by
  rcases objS_cases h w with ⟨e, _⟩ | ⟨_, _, _, e, _, _, _, e2⟩
  · omega
  · rw [e2]; exact e
theorem SnIs.drewN {sb : Nat} {s : Sn} {w : World} (h : SnIs sb s w) (n : Nat) : SnIs sb s (w.drewN n) := h
set_option maxHeartbeats 32000000 in
set_option maxRecDepth 100000 in
theorem walk_ind {half : Nat} {h : Hs} {g sb : Nat} {F : Nat → Prop} (hF : ¬ F sb) : ∀ (f : Nat) (wd d : Nat) (s : Sn) (w : World), HpIs half h g F w → SnIs sb s w → wd < 18446744073709551616 → d ≤ 100000 → s.deep ≤ 200000 → s.parts ≤ 4096 → 4098 ≤ s.parts + f → d + f ≤ 100000 →
    Calls Tryd.prog 28 #[.pointer (some ⟨g, 0, none⟩), .int .u64 wd, .int .i64 d, .pointer (some ⟨sb, 0, none⟩)] w (WalkR sb (walkH h f wd d s) w) := by
  intro f
  induction f with
  | zero => intro wd d s w _ _ _ _ _ h1 h2; omega
  | succ f ih =>
    intro wd d s w hp hs hwd hd hsd hpt hpf hdf
    obtain ⟨sp, sd, sbd⟩ := s
    dsimp only at hsd hpt hpf
    have HIH := Lib.hid ih
    have HP := Lib.hid hp
    have HS := Lib.hid hs
    have HW := Lib.hid (show walkH h (f + 1) wd d ⟨sp, sd, sbd⟩ = oneH h (walkH h f) wd d ⟨sp + 1, max sd d, sbd⟩ by rw [walkH])
    have f0 := hs.frozen 0
    have f1 := hs.frozen 1
    have f2 := hs.frozen 2
    have c0 := hs.cell 0
    have c1 := hs.cell 1
    have c2 := hs.cell 2
    simp only [List.getElem?_cons_zero, List.getElem?_cons_succ] at c0 c1 c2
    obtain ⟨p1, hp1n⟩ : ∃ p1, sp + 1 = p1 := ⟨_, rfl⟩
    obtain ⟨m1, hm1n⟩ : ∃ m1, max sd d = m1 := ⟨_, rfl⟩
    have hp1 : (sp : Int) + 1 = (p1 : Int) := by omega
    have hm1 : max (sd : Int) (d : Int) = (m1 : Int) := by omega
    have hw1 : IntKind.i64.wrap (p1 : Int) = (p1 : Int) := IntWalk.i64_in _ (by omega)
    have hm1b : m1 ≤ 200000 := by omega
    rw [hp1n, hm1n] at HW
    have C1 := Lib.hid (show SnIs sb ⟨p1, m1, sbd⟩ ((w.setCell ⟨sb, 0, none⟩ (.int .i64 p1)).setCell ⟨sb, 1, none⟩ (.int .i64 m1)) from (hs.set_ 0 (.int .i64 p1)).set_ 1 (.int .i64 m1))
    have K1 := Lib.hid (show Keep (fun b => b = sb) w ((w.setCell ⟨sb, 0, none⟩ (.int .i64 p1)).setCell ⟨sb, 1, none⟩ (.int .i64 m1)) from Keep.setCell (S := fun b => b = sb) (p := ⟨sb, 1, none⟩) (Keep.setCell (S := fun b => b = sb) (p := ⟨sb, 0, none⟩) (Keep.refl _ w) (fun _ => rfl) _) (fun _ => rfl) _)
    have HP1 := Lib.hid (HP.out.keep K1.out (fun b hb => by rw [hb]; exact hF))
    have HF := Lib.hid hF
    have HPF := Lib.hid (show 4097 ≤ sp + f by omega)
    have HDF := Lib.hid hdf
    have HWD := Lib.hid hwd
    clear ih hp hs hF hsd hpf hdf
    by_cases hbig : 4096 < p1
    · have hb2 : (4096 : Int) < (p1 : Int) := by omega
      have HR := Lib.hid (show walkH h (f + 1) wd d ⟨sp, sd, sbd⟩ = ⟨p1, m1, sbd⟩ by rw [HW.out]; unfold oneH; rw [if_pos hbig])
      go_enter Tryd.func28, Tryd.ntmps28
      go_wp2
      (try simp only [Exit.inBlock, Exit.then]); refine bodyPost_ret (results_none rfl _ _ _) rfl ?_
      rw [HR.out]
      exact ⟨rfl, C1.out, K1.out⟩
    have hb2 : ¬ (4096 : Int) < (p1 : Int) := by omega
    have HA := Lib.hid (and3 wd hwd)
    have hm4 : wd % 4 < 4 := Nat.mod_lt _ (by decide)
    rcases (show wd % 4 = 1 ∨ wd % 4 = 2 ∨ wd % 4 = 3 ∨ wd % 4 = 0 by omega) with hm | hm | hm | hm
    · have HR := Lib.hid (show walkH h (f + 1) wd d ⟨sp, sd, sbd⟩ = ⟨p1, m1, sbd⟩ by rw [HW.out]; unfold oneH; rw [if_neg hbig, if_neg (by omega), if_pos hm])
      have hA := HA.out
      rw [hm] at hA
      go_enter Tryd.func28, Tryd.ntmps28
      go_wp2
      (try simp only [Exit.inBlock, Exit.then]); refine bodyPost_ret (results_none rfl _ _ _) rfl ?_
      rw [HR.out]
      exact ⟨rfl, C1.out, K1.out⟩
    · cases sbd with
      | true =>
        have HR0 := Lib.hid (show walkH h (f + 1) wd d ⟨sp, sd, true⟩ = ⟨p1, m1, true || decide (h.at_.length ≤ wd / 4)⟩ by rw [HW.out]; unfold oneH; rw [if_neg hbig, if_pos hm])
        have hA := HA.out
        rw [hm] at hA
        have HR := Lib.hid (show walkH h (f + 1) wd d ⟨sp, sd, true⟩ = ⟨p1, m1, true⟩ by rw [HR0.out, Bool.true_or])
        go_enter Tryd.func28, Tryd.ntmps28
        go_wp2
        (try simp only [Exit.inBlock, Exit.then]); refine bodyPost_ret (results_none rfl _ _ _) rfl ?_
        rw [HR.out]
        exact ⟨rfl, C1.out.set_ 2 (.bool true), Keep.setCell (S := fun b => b = sb) (p := ⟨sb, 2, none⟩) K1.out (fun _ => rfl) _⟩
      | false =>
        have HR0 := Lib.hid (show walkH h (f + 1) wd d ⟨sp, sd, false⟩ = ⟨p1, m1, false || decide (h.at_.length ≤ wd / 4)⟩ by rw [HW.out]; unfold oneH; rw [if_neg hbig, if_pos hm])
        have hA := HA.out
        rw [hm] at hA
        obtain ⟨⟨lv, av, mb, h1, h2, h3, h4, h5, h6, h7, h8⟩, -⟩ := HP1.out
        have g2 := h1.cell 2
        simp only [List.getElem?_cons_zero, List.getElem?_cons_succ] at g2
        obtain ⟨sa, sc, rfl⟩ : ∃ sa sc, av = .slice sa h.at_.length sc := by
          rcases h3.shape with ⟨e, e2⟩ | ⟨b, cc, e, _⟩
          · exact ⟨none, 0, by rw [e, e2]; rfl⟩
          · exact ⟨_, cc, e⟩
        clear h1 h2 h3 h4 h5 h6 h7 h8
        obtain ⟨q, hq⟩ : ∃ q, wd / 4 = q := ⟨_, rfl⟩
        have hqi : (wd : Int) / 4 = (q : Int) := by omega
        have hwa : IntKind.u64.wrap (h.at_.length : Int) = (h.at_.length : Int) := IntWalk.u64_in _ (by have := HP.out.alen; omega)
        rw [hq] at HR0
        clear hq
        by_cases hat : h.at_.length ≤ q
        · have hat2 : (h.at_.length : Int) ≤ (q : Int) := by omega
          have HR := Lib.hid (show walkH h (f + 1) wd d ⟨sp, sd, false⟩ = ⟨p1, m1, true⟩ by rw [HR0.out, decide_eq_true hat]; rfl)
          go_enter Tryd.func28, Tryd.ntmps28
          go_wp2
          (try simp only [Exit.inBlock, Exit.then]); refine bodyPost_ret (results_none rfl _ _ _) rfl ?_
          rw [HR.out]
          exact ⟨rfl, C1.out.set_ 2 (.bool true), Keep.setCell (S := fun b => b = sb) (p := ⟨sb, 2, none⟩) K1.out (fun _ => rfl) _⟩
        · have hat2 : ¬ (h.at_.length : Int) ≤ (q : Int) := by omega
          have HR := Lib.hid (show walkH h (f + 1) wd d ⟨sp, sd, false⟩ = ⟨p1, m1, false⟩ by rw [HR0.out, decide_eq_false hat]; rfl)
          go_enter Tryd.func28, Tryd.ntmps28
          go_wp2
          (try simp only [Exit.inBlock, Exit.then]); refine bodyPost_ret (results_none rfl _ _ _) rfl ?_
          rw [HR.out]
          exact ⟨rfl, C1.out.set_ 2 (.bool false), Keep.setCell (S := fun b => b = sb) (p := ⟨sb, 2, none⟩) K1.out (fun _ => rfl) _⟩
    · cases sbd with
      | true =>
        have HR0 := Lib.hid (show walkH h (f + 1) wd d ⟨sp, sd, true⟩ = ⟨p1, m1, true || decide (wd ≠ 3)⟩ by rw [HW.out]; unfold oneH; rw [if_neg hbig, if_neg (by omega), if_neg (by omega), if_pos hm])
        have hA := HA.out
        rw [hm] at hA
        have HR := Lib.hid (show walkH h (f + 1) wd d ⟨sp, sd, true⟩ = ⟨p1, m1, true⟩ by rw [HR0.out, Bool.true_or])
        go_enter Tryd.func28, Tryd.ntmps28
        go_wp2
        (try simp only [Exit.inBlock, Exit.then]); refine bodyPost_ret (results_none rfl _ _ _) rfl ?_
        rw [HR.out]
        exact ⟨rfl, C1.out.set_ 2 (.bool true), Keep.setCell (S := fun b => b = sb) (p := ⟨sb, 2, none⟩) K1.out (fun _ => rfl) _⟩
      | false =>
        have HR0 := Lib.hid (show walkH h (f + 1) wd d ⟨sp, sd, false⟩ = ⟨p1, m1, false || decide (wd ≠ 3)⟩ by rw [HW.out]; unfold oneH; rw [if_neg hbig, if_neg (by omega), if_neg (by omega), if_pos hm])
        have hA := HA.out
        rw [hm] at hA
        by_cases h3 : wd = 3
        · have h32 : ((wd : Int) != 3) = false := by simp; omega
          have HR := Lib.hid (show walkH h (f + 1) wd d ⟨sp, sd, false⟩ = ⟨p1, m1, false⟩ by rw [HR0.out, decide_eq_false (not_not_intro h3)]; rfl)
          have H3 := Lib.hid h3
          clear h3
          go_enter Tryd.func28, Tryd.ntmps28
          go_wp2
          (try simp only [Exit.inBlock, Exit.then]); refine bodyPost_ret (results_none rfl _ _ _) rfl ?_
          rw [HR.out]
          exact ⟨rfl, C1.out.set_ 2 (.bool false), Keep.setCell (S := fun b => b = sb) (p := ⟨sb, 2, none⟩) K1.out (fun _ => rfl) _⟩
        · have h32 : ((wd : Int) != 3) = true := by simp; omega
          have HR := Lib.hid (show walkH h (f + 1) wd d ⟨sp, sd, false⟩ = ⟨p1, m1, true⟩ by rw [HR0.out, decide_eq_true h3]; rfl)
          have H3 := Lib.hid h3
          clear h3
          go_enter Tryd.func28, Tryd.ntmps28
          go_wp2
          (try simp only [Exit.inBlock, Exit.then]); refine bodyPost_ret (results_none rfl _ _ _) rfl ?_
          rw [HR.out]
          exact ⟨rfl, C1.out.set_ 2 (.bool true), Keep.setCell (S := fun b => b = sb) (p := ⟨sb, 2, none⟩) K1.out (fun _ => rfl) _⟩
    · have hA := HA.out
      rw [hm] at hA
      have HOB := Lib.hid (object_any HP1.out wd HWD.out)
      have hk4 : (objS h wd).1 ≤ 4 := by
        rcases objS_cases h wd with ⟨e, _⟩ | ⟨_, _, _, e, _, _, _, e2⟩
        · omega
        · rw [e2]; exact e
      have HWR := Lib.hid (show walkH h (f + 1) wd d ⟨sp, sd, sbd⟩ = if (objS h wd).1 = 0 then ⟨p1, m1, true⟩ else if (objS h wd).1 = 2 then rowH (walkH h f) (objS h wd).2 (d + 1) ⟨p1, m1, sbd⟩ else if (objS h wd).1 = 1 then chainH h (walkH h f) (4098 - p1) wd (d + 1) ⟨p1, m1, sbd⟩ else ⟨p1, m1, sbd⟩ by
        rw [HW.out]; unfold oneH; rw [if_neg hbig, if_neg (by omega), if_neg (by omega), if_neg (by omega)])
      have HLS := Lib.hid (show ∀ x ∈ (objS h wd).2, x < 18446744073709551616 from fun x hx => by
        rcases objS_cases h wd with ⟨_, e⟩ | ⟨_, _, _, _, _, _, _, e⟩
        · rw [e] at hx; cases hx
        · rw [e] at hx; exact HP.out.word x (List.mem_of_mem_drop (List.mem_of_mem_take hx)))
      obtain ⟨k, hk⟩ : ∃ k, (objS h wd).1 = k := ⟨_, rfl⟩
      obtain ⟨r, hr⟩ : ∃ r, (objS h wd).2 = r := ⟨_, rfl⟩
      have HOK := Lib.hid (show objS h wd = (k, r) from by rw [← hk, ← hr])
      rw [HOK.out] at HOB
      rw [hk, hr] at HWR
      rw [hr] at HLS
      rw [hk] at hk4
      clear hk hr
      rcases (show k = 0 ∨ k = 3 ∨ k = 4 ∨ k = 2 ∨ k = 1 by omega) with rfl | rfl | rfl | rfl | rfl
      · have HR := Lib.hid (show walkH h (f + 1) wd d ⟨sp, sd, sbd⟩ = ⟨p1, m1, true⟩ by rw [HWR.out]; simp)
        go_enter Tryd.func28, Tryd.ntmps28
        go_wp2_with fail
        generalize (w.setCell ⟨sb, 0, none⟩ (.int .i64 p1)).setCell ⟨sb, 1, none⟩ (.int .i64 m1) = W1 at *
        refine HOB.out.mono ?_
        rintro e W2 ⟨lw, rfl, hat, n, rfl⟩
        have C2 := Lib.hid (C1.out.drewN n)
        have K2 := Lib.hid (K1.out.drewN n)
        have HP2 := Lib.hid (HP1.out.drewN n)
        have g2 := C2.out.frozen 2
        have g3 := C2.out.cell 2
        simp only [List.getElem?_cons_zero, List.getElem?_cons_succ] at g3
        go_wp2
        (try simp only [Exit.inBlock, Exit.then]); refine bodyPost_end (results_none rfl _ _ _) rfl ?_
        rw [HR.out]
        exact ⟨rfl, C2.out.set_ 2 (.bool true), Keep.setCell (S := fun b => b = sb) (p := ⟨sb, 2, none⟩) K2.out (fun _ => rfl) _⟩
      · have HR := Lib.hid (show walkH h (f + 1) wd d ⟨sp, sd, sbd⟩ = ⟨p1, m1, sbd⟩ by rw [HWR.out]; simp)
        go_enter Tryd.func28, Tryd.ntmps28
        go_wp2_with fail
        generalize (w.setCell ⟨sb, 0, none⟩ (.int .i64 p1)).setCell ⟨sb, 1, none⟩ (.int .i64 m1) = W1 at *
        refine HOB.out.mono ?_
        rintro e W2 ⟨lw, rfl, hat, n, rfl⟩
        have C2 := Lib.hid (C1.out.drewN n)
        have K2 := Lib.hid (K1.out.drewN n)
        have HP2 := Lib.hid (HP1.out.drewN n)
        go_wp2
        (try simp only [Exit.inBlock, Exit.then]); refine bodyPost_end (results_none rfl _ _ _) rfl ?_
        rw [HR.out]
        exact ⟨rfl, C2.out, K2.out⟩
      · have HR := Lib.hid (show walkH h (f + 1) wd d ⟨sp, sd, sbd⟩ = ⟨p1, m1, sbd⟩ by rw [HWR.out]; simp)
        go_enter Tryd.func28, Tryd.ntmps28
        go_wp2_with fail
        generalize (w.setCell ⟨sb, 0, none⟩ (.int .i64 p1)).setCell ⟨sb, 1, none⟩ (.int .i64 m1) = W1 at *
        refine HOB.out.mono ?_
        rintro e W2 ⟨lw, rfl, hat, n, rfl⟩
        have C2 := Lib.hid (C1.out.drewN n)
        have K2 := Lib.hid (K1.out.drewN n)
        have HP2 := Lib.hid (HP1.out.drewN n)
        go_wp2
        (try simp only [Exit.inBlock, Exit.then]); refine bodyPost_end (results_none rfl _ _ _) rfl ?_
        rw [HR.out]
        exact ⟨rfl, C2.out, K2.out⟩
      · have HR := Lib.hid (show walkH h (f + 1) wd d ⟨sp, sd, sbd⟩ = rowH (walkH h f) r (d + 1) ⟨p1, m1, sbd⟩ by rw [HWR.out]; simp)
        go_enter Tryd.func28, Tryd.ntmps28
        go_wp2_with fail
        generalize (w.setCell ⟨sb, 0, none⟩ (.int .i64 p1)).setCell ⟨sb, 1, none⟩ (.int .i64 m1) = W1 at *
        refine HOB.out.mono ?_
        rintro e W2 ⟨lw, rfl, hat, n, rfl⟩
        have C2 := Lib.hid (C1.out.drewN n)
        have K2 := Lib.hid (K1.out.drewN n)
        have HP2 := Lib.hid (HP1.out.drewN n)
        obtain ⟨wa, wc, rfl⟩ := hat.form
        have HAT := Lib.hid (show AtV F (.slice wa (wordsV r).length wc) (wordsV r) (W1.drewN n) from hat.frame (fun _ _ => rfl))
        rw [wordsV_len] at *
        clear hat HOB
        have hdw : IntKind.i64.wrap ((d : Int) + 1) = ((d + 1 : Nat) : Int) := by rw [show ((d : Int) + 1) = ((d + 1 : Nat) : Int) by omega]; exact IntWalk.i64_in _ (by omega)
        have HRL := Lib.hid (show r.length ≤ 1099511627776 from by
          have h1 := HP.out.len
          rcases objS_cases h wd with ⟨_, e⟩ | ⟨_, _, _, _, _, _, _, e⟩
          · have := congrArg Prod.snd (HOK.out.symm.trans e); dsimp only at this; rw [this]; simp
          · have := congrArg Prod.snd (HOK.out.symm.trans e); dsimp only at this; rw [this, List.length_take, List.length_drop]; omega)
        go_wp2_with fail
        go_loopw [11, 86] (fun xv i wr => ∃ (kk : Nat) (s2 : Sn), kk ≤ r.length ∧ i = .int .i64 kk ∧ SnIs sb s2 wr ∧ Keep (fun b => b = sb) w wr ∧ Keep (fun b => b = sb) (W1.drewN n) wr ∧ p1 ≤ s2.parts ∧ s2.deep ≤ 200000 ∧ rowH (walkH h f) (r.drop kk) (d + 1) s2 = rowH (walkH h f) r (d + 1) ⟨p1, m1, sbd⟩) (fun _ i _ => r.length - (intOf i).toNat)
        case atStart => exact ⟨0, ⟨p1, m1, sbd⟩, Nat.zero_le _, rfl, C2.out, K2.out, Keep.refl _ _, Nat.le_refl _, hm1b, rfl⟩
        case round =>
          obtain ⟨kk, s2, hkk, rfl, hsn, hkw, hk1, hpp, hdd, heq⟩ := hrel
          have HSN := Lib.hid hsn
          have HKW := Lib.hid hkw
          have HK1 := Lib.hid hk1
          have HPP := Lib.hid hpp
          have HDD := Lib.hid hdd
          have HEQ := Lib.hid heq
          have HPR := Lib.hid (HP2.out.keep HK1.out (fun b hb => by rw [hb]; exact HF.out))
          have HAR := Lib.hid (HAT.out.keep HK1.out (fun b hb e => HF.out (by rw [← e]; exact hb)))
          clear hsn hkw hk1 hpp hdd heq
          by_cases hk : kk < r.length
          · have hki : (kk : Int) < (r.length : Int) := by omega
            have hk0 : (0 : Int) ≤ (kk : Int) := by omega
            have hkw1 : IntKind.i64.wrap ((kk : Int) + 1) = (kk : Int) + 1 := IntWalk.i64_in _ (by have := HRL.out; omega)
            obtain ⟨g2, o2, rfl, _, hcs⟩ := AtV.cell (n := r.length) HAR.out (by intro e; have := congrArg List.length e; rw [wordsV_len, List.length_nil] at this; omega)
            have e0 := hcs kk (by rw [wordsV_len]; exact hk)
            rw [wordsV_get _ _ (by rw [wordsV_len]; exact hk)] at e0
            have hgx : r.getD kk 0 = r[kk] := by simp [List.getD, hk]
            rw [hgx] at e0
            have p0 := HSN.out.cell 0
            simp only [List.getElem?_cons_zero] at p0
            have HDR := Lib.hid (List.drop_eq_getElem_cons hk)
            have HXL := Lib.hid (HLS.out r[kk] (List.getElem_mem _))
            clear hcs hgx
            by_cases hbg : 4096 < s2.parts
            · have hbg2 : (4096 : Int) < (s2.parts : Int) := by omega
              go_wp2
              (try simp only [Exit.inBlock, Exit.then]); refine bodyPost_ret (results_none rfl _ _ _) rfl ?_
              rw [HR.out, ← HEQ.out, rowH_stop _ _ _ hbg]
              exact ⟨rfl, HSN.out, HKW.out⟩
            · have hbg2 : ¬ (4096 : Int) < (s2.parts : Int) := by omega
              have HCALL := Lib.hid (HIH.out r[kk] (d + 1) s2 wr HPR.out HSN.out HXL.out (by have := HDF.out; omega) HDD.out (by omega) (by have := HPF.out; have := HPP.out; omega) (by have := HDF.out; omega))
              have HNX := Lib.hid (show rowH (walkH h f) (r.drop (kk + 1)) (d + 1) (walkH h f r[kk] (d + 1) s2) = rowH (walkH h f) r (d + 1) ⟨p1, m1, sbd⟩ from by rw [← HEQ.out, HDR.out, rowH, if_neg hbg])
              have hle := (walkH_le (h := h) f r[kk] (d + 1) s2).1
              have hdp := walkH_deep (h := h) f r[kk] (d + 1) s2
              have HLE := Lib.hid hle
              have HDP := Lib.hid hdp
              clear hle hdp
              generalize r[kk] = x at *
              generalize walkH h f x (d + 1) s2 = s3 at *
              go_wp2_with fail
              refine HCALL.out.mono ?_
              rintro e W5 ⟨rfl, hs5, hk5⟩
              have HS5 := Lib.hid hs5
              have HKW5 := Lib.hid (HKW.out.trans hk5 (fun _ _ h => h))
              have HK15 := Lib.hid (HK1.out.trans hk5 (fun _ _ h => h))
              clear hs5 hk5 e0 p0 HCALL
              go_wp2
              go_roundw
              case rel => exact ⟨kk + 1, s3, by omega, by go_num, HS5.out, HKW5.out, HK15.out, by have := HPP.out; have := HLE.out; omega, by have := HDD.out; have := HDP.out; have := HDF.out; omega, HNX.out⟩
              case measure => simp [intOf]; omega
          · have hki : ¬ (kk : Int) < (r.length : Int) := by omega
            have HEQ2 := Lib.hid (show s2 = rowH (walkH h f) r (d + 1) ⟨p1, m1, sbd⟩ from by rw [← HEQ.out, List.drop_eq_nil_of_le (by omega), rowH])
            go_wp2
            (try simp only [Exit.inBlock, Exit.then]); refine bodyPost_end (results_none rfl _ _ _) rfl ?_
            rw [HR.out, ← HEQ2.out]
            exact ⟨rfl, HSN.out, HKW.out⟩
      · have HR := Lib.hid (show walkH h (f + 1) wd d ⟨sp, sd, sbd⟩ = chainH h (walkH h f) (4098 - p1) wd (d + 1) ⟨p1, m1, sbd⟩ by rw [HWR.out]; simp)
        go_enter Tryd.func28, Tryd.ntmps28
        go_wp2_with fail
        generalize (w.setCell ⟨sb, 0, none⟩ (.int .i64 p1)).setCell ⟨sb, 1, none⟩ (.int .i64 m1) = W1 at *
        refine HOB.out.mono ?_
        rintro e W2 ⟨lw, rfl, hat, n, rfl⟩
        have C2 := Lib.hid (C1.out.drewN n)
        have K2 := Lib.hid (K1.out.drewN n)
        have HP2 := Lib.hid (HP1.out.drewN n)
        have HAT := Lib.hid (show AtV F lw (wordsV r) (W1.drewN n) from hat.frame (fun _ _ => rfl))
        obtain ⟨wa, wn, wc, rfl⟩ : ∃ a n c, lw = .slice a n c := by obtain ⟨a, c, e⟩ := hat.form; exact ⟨a, _, c, e⟩
        clear hat HOB
        have hdw : IntKind.i64.wrap ((d : Int) + 1) = ((d + 1 : Nat) : Int) := by rw [show ((d : Int) + 1) = ((d + 1 : Nat) : Int) by omega]; exact IntWalk.i64_in _ (by omega)
        have HPN := Lib.hid (show p1 ≤ 4096 by omega)
        have HWDL := Lib.hid hwd
        have HA0 := Lib.hid hA
        clear hA
        generalize bits BinOp.and IntKind.u64 (wd : Int) 3 = bb at *
        go_wp2_with fail
        go_loopg [1, 8, 9] (4098 - p1) (fun nn wv kv lv wr => ∃ (wx : Nat) (s2 : Sn) (gg : Nat), nn = 4098 - s2.parts ∧ wx < 18446744073709551616 ∧ wv = .int .u64 wx ∧ kv = .int .i64 ((objS h wx).1 : Nat) ∧ AtV F lv (wordsV (objS h wx).2) wr ∧ SnIs sb s2 wr ∧ Keep (fun b => b = sb) w wr ∧ Keep (fun b => b = sb) (W1.drewN n) wr ∧ p1 ≤ s2.parts ∧ s2.deep ≤ 200000 ∧ 4098 ≤ s2.parts + gg ∧ chainH h (walkH h f) gg wx (d + 1) s2 = chainH h (walkH h f) (4098 - p1) wd (d + 1) ⟨p1, m1, sbd⟩)
        case atStart => exact ⟨wd, ⟨p1, m1, sbd⟩, 4098 - p1, rfl, HWDL.out, rfl, by rw [HOK.out]; rfl, by rw [HOK.out]; exact HAT.out, C2.out, K2.out, Keep.refl _ _, Nat.le_refl _, hm1b, by dsimp only; have := HPN.out; omega, rfl⟩
        case round =>
          obtain ⟨wx, s2, gg, rfl, hwx, rfl, rfl, hat2, hsn, hkw, hk1, hpp, hdd, hgg, heq⟩ := hrel
          have HAT2 := Lib.hid hat2
          have HWX := Lib.hid hwx
          have HSN := Lib.hid hsn
          have HKW := Lib.hid hkw
          have HK1 := Lib.hid hk1
          have HPP := Lib.hid hpp
          have HDD := Lib.hid hdd
          have HGG := Lib.hid hgg
          have HEQ := Lib.hid heq
          have HPR := Lib.hid (HP2.out.keep HK1.out (fun b hb => by rw [hb]; exact HF.out))
          have p0 := HSN.out.cell 0
          simp only [List.getElem?_cons_zero] at p0
          obtain ⟨la, ln, lc, rfl⟩ : ∃ a n c, u9 = .slice a n c := by obtain ⟨a, c, e⟩ := hat2.form; exact ⟨a, _, c, e⟩
          clear hat2 hwx hsn hkw hk1 hpp hdd hgg heq
          by_cases hkx : (objS h wx).1 = 1
          · rw [hkx]
            rw [show ((1 : Nat) : Int) = 1 from rfl]
            by_cases hbg : 4096 < s2.parts
            · have hbg2 : (4096 : Int) < (s2.parts : Int) := by omega
              have hbg3 : ¬ (s2.parts : Int) ≤ 4096 := by omega
              have hbg4 : decide ((s2.parts : Int) ≤ 4096) = false := by simp; omega
              clear hkx
              go_wp2
              (try simp only [Exit.inBlock, Exit.then]); refine bodyPost_end (results_none rfl _ _ _) rfl ?_
              rw [HR.out, ← HEQ.out, chainH_stop _ _ _ _ hbg]
              exact ⟨rfl, HSN.out, HKW.out⟩
            · have hbg2 : (s2.parts : Int) ≤ 4096 := by omega
              obtain ⟨x, y, r2, hr2⟩ := objS_two hkx
              obtain ⟨g2, o2, rfl, _, hcs⟩ := AtV.cell HAT2.out (by rw [hr2]; simp [wordsV])
              rw [hr2] at hcs
              have e0 := hcs 0 (by simp [wordsV])
              have e1 := hcs 1 (by simp [wordsV])
              simp only [wordsV, wordV, List.map_cons, List.getElem_cons_zero, List.getElem_cons_succ, Nat.add_zero] at e0 e1
              have hln : ln = r2.length + 2 := by
                obtain ⟨a, c, e⟩ := HAT2.out.form
                injection e with _ e2 _
                rw [e2, hr2]; simp [wordsV]
              have hl0 : (0 : Int) < (ln : Int) := by omega
              have hl1 : (1 : Int) < (ln : Int) := by omega
              have hl2 : 0 < ln := by omega
              have hl3 : 1 < ln := by omega
              have HXY := Lib.hid (show x < 18446744073709551616 ∧ y < 18446744073709551616 from ⟨objS_word HP.out.word x (by rw [hr2]; simp), objS_word HP.out.word y (by rw [hr2]; simp)⟩)
              have HCE := Lib.hid (show 1 ≤ gg ∧ chainH h (walkH h f) (gg - 1) y (d + 1) (walkH h f x (d + 1) s2) = chainH h (walkH h f) (4098 - p1) wd (d + 1) ⟨p1, m1, sbd⟩ from by
                have hg1 : 1 ≤ gg := by have := HGG.out; omega
                refine ⟨hg1, ?_⟩
                rw [← HEQ.out]
                conv => rhs; rw [show gg = (gg - 1) + 1 by omega]
                rw [chainH, if_pos ⟨hkx, by omega⟩, hr2]
                rfl)
              have HCALL := Lib.hid (HIH.out x (d + 1) s2 wr HPR.out HSN.out HXY.out.1 (by have := HDF.out; omega) HDD.out (by omega) (by have := HPF.out; have := HPP.out; omega) (by have := HDF.out; omega))
              have HLE := Lib.hid ((walkH_le (h := h) f x (d + 1) s2).2 (by have := HPF.out; have := HPP.out; omega))
              have HDP := Lib.hid (walkH_deep (h := h) f x (d + 1) s2)
              have HBG := Lib.hid hbg
              have HKX := Lib.hid hkx
              clear hcs hr2 hln hkx hbg
              generalize walkH h f x (d + 1) s2 = s3 at *
              go_wp2_with fail
              refine HCALL.out.mono ?_
              rintro e W5 ⟨rfl, hs5, hk5⟩
              have HS5 := Lib.hid hs5
              have HKW5 := Lib.hid (HKW.out.trans hk5 (fun _ _ h => h))
              have HK15 := Lib.hid (HK1.out.trans hk5 (fun _ _ h => h))
              have HP5 := Lib.hid (HP2.out.keep HK15.out (fun b hb => by rw [hb]; exact HF.out))
              have HAT5 := Lib.hid (HAT2.out.keep hk5 (fun b hb e => HF.out (by rw [← e]; exact hb)))
              have HOB5 := Lib.hid (object_any HP5.out y HXY.out.2)
              have d1 : W5.cell? ⟨g2, o2 + 1, none⟩ = some (.int .u64 y) := by
                have hne : g2 ≠ sb := fun e => by
                  have h1 := HSN.out
                  unfold SnIs Cells at h1
                  rw [e] at e1
                  have h2 : wr.cell? ⟨sb, o2 + 1, none⟩ = _ := e1
                  obtain ⟨g3, o3, e3, hF3, _⟩ := AtV.cell HAT2.out (by rw [(objS_two HKX.out).choose_spec.choose_spec.choose_spec]; simp [wordsV])
                  cases e3
                  exact HF.out (e ▸ hF3)
                exact Keep.cellH hk5 e1 hne
              clear hs5 hk5 e0 e1 p0 HCALL
              go_wp2_with fail
              refine HOB5.out.mono ?_
              rintro e W6 ⟨lw6, rfl, hat6, n6, rfl⟩
              obtain ⟨la6, ln6, lc6, rfl⟩ : ∃ a n c, lw6 = .slice a n c := by obtain ⟨a, c, e⟩ := hat6.form; exact ⟨a, _, c, e⟩
              have HAT6 := Lib.hid hat6
              clear hat6 d1 HOB5
              go_wp2
              go_roundg (4098 - s3.parts)
              case measure => have := HLE.out; have := HBG.out; omega
              case rel => exact ⟨y, s3, gg - 1, rfl, HXY.out.2, rfl, rfl, HAT6.out.frame (fun _ _ => rfl), HS5.out.drewN n6, HKW5.out.drewN n6, HK15.out.drewN n6, by have := HPP.out; have := HLE.out; omega, by have := HDD.out; have := HDP.out; have := HDF.out; omega, by have := HGG.out; have := HLE.out; omega, HCE.out.2⟩
          · have HKX := Lib.hid hkx
            have hkx2 : ((((objS h wx).1 : Nat) : Int) == 1) = false := by simp; omega
            have hkx3 : ¬ (((objS h wx).1 : Nat) : Int) = 1 := by omega
            generalize (((objS h wx).1 : Nat) : Int) = kx at *
            by_cases hbg : 4096 < s2.parts
            · have hbg3 : ¬ (s2.parts : Int) ≤ 4096 := by omega
              have hbg4 : decide ((s2.parts : Int) ≤ 4096) = false := by simp; omega
              clear hkx
              go_wp2
              (try simp only [Exit.inBlock, Exit.then]); refine bodyPost_end (results_none rfl _ _ _) rfl ?_
              rw [HR.out, ← HEQ.out, chainH_stop _ _ _ _ hbg]
              exact ⟨rfl, HSN.out, HKW.out⟩
            · have hbg2 : (s2.parts : Int) ≤ 4096 := by omega
              have HCALL := Lib.hid (HIH.out wx (d + 1) s2 wr HPR.out HSN.out HWX.out (by have := HDF.out; omega) HDD.out (by omega) (by have := HPF.out; have := HPP.out; omega) (by have := HDF.out; omega))
              have HFI := Lib.hid (show chainH h (walkH h f) (4098 - p1) wd (d + 1) ⟨p1, m1, sbd⟩ = walkH h f wx (d + 1) s2 from by
                rw [← HEQ.out, show gg = (gg - 1) + 1 by have := HGG.out; omega, chainH, if_neg (fun e => HKX.out e.1), if_pos (by omega)])
              clear hkx
              go_wp2_with fail
              refine HCALL.out.mono ?_
              rintro e W5 ⟨rfl, hs5, hk5⟩
              go_wp2
              (try simp only [Exit.inBlock, Exit.then]); refine bodyPost_end (results_none rfl _ _ _) rfl ?_
              rw [HR.out, HFI.out]
              exact ⟨rfl, hs5, HKW.out.trans hk5 (fun _ _ h => h)⟩
end Go.Proofs.YtkipjbmckpmmfaaDoor
end
section
/- Package heap: term. Printed by wip/hph.py. -/
open Go Go.RowKit
namespace Go.Proofs.YtkipjbmckpmmfaaDoor
set_option linter.unusedVariables false
set_option linter.unusedSimpArgs false

theorem rowH_bad {rd : Nat → Nat → Sn → Sn} (hr : ∀ x d s, s.bad = true → (rd x d s).bad = true) : ∀ (r : List Nat) (d : Nat) (s : Sn), s.bad = true → (rowH rd r d s).bad = true
  | [], d, s, h => h
  | x :: r, d, s, h => by
    rw [rowH]
    split
    · exact h
    · exact rowH_bad hr r d _ (hr x d s h)
theorem chainH_bad {h : Hs} {rd : Nat → Nat → Sn → Sn} (hr : ∀ x d s, s.bad = true → (rd x d s).bad = true) : ∀ (g w d : Nat) (s : Sn), s.bad = true → (chainH h rd g w d s).bad = true
  | 0, w, d, s, hb => hb
  | g + 1, w, d, s, hb => by
    rw [chainH]
    split
    · exact chainH_bad hr g _ d _ (hr _ d s hb)
    · split
      · exact hr _ d s hb
      · exact hb
theorem walkH_bad {h : Hs} : ∀ (f w d : Nat) (s : Sn), s.bad = true → (walkH h f w d s).bad = true
  | 0, w, d, s, hb => hb
  | f + 1, w, d, s, hb => by
    rw [walkH]
    have hr := fun x d s hb => walkH_bad (h := h) f x d s hb
    unfold oneH
    (repeat' split) <;> first | exact hb | (dsimp only; rw [hb]; rfl) | rfl | exact rowH_bad (rd := walkH h f) hr (objS h w).2 (d + 1) ⟨s.parts + 1, max s.deep d, s.bad⟩ hb | exact chainH_bad (rd := walkH h f) hr _ w (d + 1) ⟨s.parts + 1, max s.deep d, s.bad⟩ hb
/-- what is walked is fine -/
def Fine (s : Sn) : Prop := s.parts ≤ 4096 ∧ s.bad = false
theorem Fine.row {h : Hs} {f x d : Nat} {r : List Nat} {s : Sn} (hf : Fine (rowH (walkH h f) (x :: r) d s)) : Fine (walkH h f x d s) ∧ s.parts ≤ 4096 ∧ rowH (walkH h f) (x :: r) d s = rowH (walkH h f) r d (walkH h f x d s) := by
  have hs : ¬ 4096 < s.parts := fun e => by
    rw [rowH_stop _ _ _ e] at hf
    have := hf.1; omega
  have e : rowH (walkH h f) (x :: r) d s = rowH (walkH h f) r d (walkH h f x d s) := by rw [rowH, if_neg hs]
  rw [e] at hf
  have h1 := rowH_le (rd := walkH h f) (fun x d s => (walkH_le f x d s).1) r d (walkH h f x d s)
  refine ⟨⟨by have := hf.1; omega, ?_⟩, by omega, e⟩
  cases hb : (walkH h f x d s).bad with
  | false => rfl
  | true =>
    have := rowH_bad (rd := walkH h f) (fun x d s h => walkH_bad f x d s h) r d _ hb
    rw [hf.2] at this; cases this
theorem Fine.cell {h : Hs} {f g x y d w : Nat} {r : List Nat} {s : Sn} (ho : objS h w = (1, x :: y :: r)) (hg : 4098 ≤ s.parts + g) (hf : Fine (chainH h (walkH h f) g w d s)) : Fine (walkH h f x d s) ∧ s.parts ≤ 4096 ∧ 1 ≤ g ∧ chainH h (walkH h f) g w d s = chainH h (walkH h f) (g - 1) y d (walkH h f x d s) := by
  have hs : s.parts ≤ 4096 := by
    rcases Nat.lt_or_ge 4096 s.parts with e | e
    · rw [chainH_stop _ _ _ _ e] at hf; exact hf.1
    · exact e
  have hg1 : 1 ≤ g := by omega
  have e : chainH h (walkH h f) g w d s = chainH h (walkH h f) (g - 1) y d (walkH h f x d s) := by
    conv => lhs; rw [show g = (g - 1) + 1 by omega]
    rw [chainH, ho, if_pos ⟨rfl, hs⟩]
    rfl
  rw [e] at hf
  have h1 := chainH_le (h := h) (rd := walkH h f) (fun x d s => (walkH_le f x d s).1) (g - 1) y d (walkH h f x d s)
  refine ⟨⟨by have := hf.1; omega, ?_⟩, hs, hg1, e⟩
  cases hb : (walkH h f x d s).bad with
  | false => rfl
  | true =>
    have := chainH_bad (h := h) (rd := walkH h f) (fun x d s h => walkH_bad f x d s h) (g - 1) y d _ hb
    rw [hf.2] at this; cases this
theorem Fine.last {h : Hs} {f g d w : Nat} {s : Sn} (ho : (objS h w).1 ≠ 1) (hg : 4098 ≤ s.parts + g) (hf : Fine (chainH h (walkH h f) g w d s)) : Fine (walkH h f w d s) ∧ s.parts ≤ 4096 := by
  have hs : s.parts ≤ 4096 := by
    rcases Nat.lt_or_ge 4096 s.parts with e | e
    · rw [chainH_stop _ _ _ _ e] at hf; exact hf.1
    · exact e
  refine ⟨?_, hs⟩
  rw [show g = (g - 1) + 1 by omega, chainH, if_neg (fun e => ho e.1), if_pos hs] at hf
  exact hf
/-- term's answer: a term in new memory -/
def TermR (w : World) (t : Tm) (e : Ending) (w' : World) : Prop := ∃ vs, e = .returned (.agg vs.toArray) ∧ TmAt (fun b => w.heap.size ≤ b) t vs w' ∧ Below w.heap.size w w'
theorem nums_litH (w : World) (l : List Int) (n : Nat) (hn : l.length = n) (hb : ∀ x ∈ l, 0 ≤ x ∧ x < 4294967296) (hz : n ≤ 100) : NumsAt (fun q => w.heap.size ≤ q) (.slice (some ⟨w.heap.size, 0, none⟩) n n) l (w.alloc (.cells (numsV l).toArray 23 (0, 0))) := by
  subst hn
  have hl : (numsV l).length = l.length := by simp [numsV]
  have h := RowV.lit (base := w.heap.size) (w := w) 23 (numsV l) (Nat.le_refl _) (by rw [hl]; unfold maxLen; omega)
  rw [hl] at h
  unfold RowV at h
  rw [hl] at h
  exact NumsAt.ofOwn h hb (by omega)
theorem TsIs.formH {base : Nat} {S : Nat → Prop} {v : Value} {l : List Tm} {w : World} (h : TsIs base S v l w) : ∃ a n c, v = .slice a n c := by
  rcases h.shape with ⟨rfl, rfl⟩ | ⟨g, c, rfl, _⟩
  · exact ⟨none, 0, 0, rfl⟩
  · exact ⟨_, _, c, rfl⟩
theorem HpIs.drewH {half : Nat} {h : Hs} {g : Nat} {F : Nat → Prop} {w : World} (hp : HpIs half h g F w) : HpIs half h g F w.drew := hp.keep (S := fun _ => False) (Keep.drew (Keep.refl _ _)) (fun _ h => h.elim)
/-- a term made in new memory behind a row of terms, as one row more: what append makes of it -/
theorem TsIs.more {base : Nat} {S : Nat → Prop} {v : Value} {l : List Tm} {w w5 : World} {t : Tm} {vs : List Value} (h : TsIs base S v l w) (hv : ∀ b, v.ownBlock = some b → ¬ S b) (hb : Below w.heap.size w w5) (ht : TmAt (fun b => w.heap.size ≤ b) t vs w5) (hl : (l.length + 1) * 88 ≤ 140737488355328) (hB : base ≤ w.heap.size) (hS : ∀ b, S b → base ≤ b) :
    ∃ a7 n7 c7 w7 S7, (Builtin.append_ #[25, 25] 25 #[v, .slice (some ⟨w5.heap.size, 0, none⟩) 1 1]).run Tryd.prog (w5.alloc (.cells vs.toArray 27 (0, 0))) = .ok (.slice a7 n7 c7) w7 ∧ TsIs base S7 (.slice a7 n7 c7) (l ++ [t]) w7 ∧ (∀ b, S7 b → base ≤ b ∧ b < w5.heap.size) ∧ (∀ b, (Value.slice a7 n7 c7).ownBlock = some b → ¬ S7 b) ∧ (w5.alloc (.cells vs.toArray 27 (0, 0))).grownBy w7 v.ownBlock := by
  have hsz := hb.size
  have hS2 : TsIs base (fun b => (S b ∧ b < w.heap.size) ∨ (w.heap.size ≤ b ∧ b < w5.heap.size)) v l (w5.alloc (.cells vs.toArray 27 (0, 0))) :=
    ((h.mono (Nat.le_refl _) (fun b hb hs => .inl ⟨hs, hb⟩)).below hb (Nat.le_refl _)).alloc _
  have hT3 : TmAt (fun b => (S b ∧ b < w.heap.size) ∨ (w.heap.size ≤ b ∧ b < w5.heap.size)) t vs (w5.alloc (.cells vs.toArray 27 (0, 0))) :=
    (ht.mono (fun b hb hs => .inr ⟨hs, hb⟩)).below ((Below.refl _ _).alloc (Nat.le_refl _) _)
  have hCN := Cells.new w5 27 vs
  have hdis : ∀ b, v.ownBlock = some b → ¬ ((S b ∧ b < w.heap.size) ∨ (w.heap.size ≤ b ∧ b < w5.heap.size)) := fun k hk h2 => by
    rcases h2 with ⟨h1, _⟩ | ⟨h1, h2⟩
    · exact hv k hk h1
    · have := (h.block hk).2.1; omega
  obtain ⟨v7, w7, hrun, hts7, hg7, hob7⟩ := hS2.app hT3 w5.heap.size 0 1 (fun j hj => by rw [Nat.zero_add]; exact hCN.cell j) hl (by simp; omega) hdis
  obtain ⟨a7, n7, c7, rfl⟩ := hts7.formH
  refine ⟨a7, n7, c7, w7, _, hrun, hts7, fun b hb => ?_, fun b hb h2 => ?_, hg7⟩
  · rcases hb with ⟨h1, h2⟩ | ⟨h1, h2⟩
    · exact ⟨hS b h1, by omega⟩
    · exact ⟨by omega, h2⟩
  · rcases hob7 with e | e
    · rw [e] at hb; exact hdis b hb h2
    · rw [e] at hb; cases hb
      simp at h2
      omega
theorem lowW_bd (n : Nat) : 0 ≤ lowW n ∧ lowW n < 4294967296 := by unfold lowW; omega
theorem wrap32u (n : Nat) : IntKind.u32.wrap (n : Int) = lowW n := by rw [IntKind.wrap_u32]; unfold lowW; omega
theorem objS_far {h : Hs} {w k : Nat} {r : List Nat} (ho : objS h w = (k, r)) (hk : k = 3 ∨ k = 4) : leastS k ≤ r.length ∧ r.getD 0 0 < h.at_.length := by
  rcases objS_cases h w with ⟨e, _⟩ | ⟨_, c2, _, _, c5, c6, c7, e⟩
  · rw [ho] at e; dsimp only at e; omega
  · rw [ho] at e
    injection e with e1 e2
    rw [← e1] at c6 c7
    have h7 := c7 (by omega)
    have hl : r.length = h.l.getD (w / 4) 0 / 256 := by rw [e2, List.length_take, List.length_drop]; omega
    refine ⟨by omega, ?_⟩
    have hp : 0 < h.l.getD (w / 4) 0 / 256 := by
      rcases hk with rfl | rfl
      · have : leastS 3 = 3 := rfl
        omega
      · have : leastS 4 = 5 := rfl
        omega
    rw [e2]
    show ((List.take (h.l.getD (w / 4) 0 / 256) (List.drop (w / 4 + 1) h.l))[0]?).getD 0 < _
    rw [List.getElem?_take_of_lt hp, List.getElem?_drop, Nat.add_zero]
    exact h7
theorem sI_eq (n : Nat) (h : n < 18446744073709551616) : RowKit.wrap64 (n : Int) / 4 = sI n := by
  unfold sI RowKit.wrap64
  split <;> omega
theorem sI_bd (n : Nat) (h : n < 18446744073709551616) : -9223372036854775808 ≤ sI n ∧ sI n ≤ 9223372036854775807 := by
  unfold sI
  split <;> omega
set_option maxHeartbeats 32000000 in
set_option maxRecDepth 100000 in
theorem term_ind {half : Nat} {h : Hs} {g : Nat} {F : Nat → Prop} (hzs : ∀ s ∈ h.at_, s.size ≤ 140737488351232) : ∀ (f : Nat) (wd d : Nat) (s : Sn) (w : World), HpIs half h g F w → wd < 18446744073709551616 → s.parts ≤ 4096 → 4098 ≤ s.parts + f → Fine (walkH h f wd d s) →
    Calls Tryd.prog 29 #[.pointer (some ⟨g, 0, none⟩), .int .u64 wd] w (TermR w (termH h f wd)) := by
  intro f
  induction f with
  | zero => intro wd d s w _ _ h1 h2; omega
  | succ f ih =>
    intro wd d s w hp hwd hpt hpf hfn
    have HIH := Lib.hid ih
    have HP := Lib.hid hp
    have HFN := Lib.hid hfn
    have HT := Lib.hid (show termH h (f + 1) wd = oneT h (termH h f) wd by rw [termH])
    have HW := Lib.hid (show walkH h (f + 1) wd d s = oneH h (walkH h f) wd d ⟨s.parts + 1, max s.deep d, s.bad⟩ by rw [walkH])
    have hp1 : ¬ 4096 < s.parts + 1 := fun e => by
      have h1 := hfn.1
      rw [HW.out] at h1
      unfold oneH at h1
      rw [if_pos e] at h1
      dsimp only at h1
      omega
    have HA := Lib.hid (and3 wd hwd)
    have HZS := Lib.hid hzs
    have HWD := Lib.hid hwd
    have HPT := Lib.hid hpt
    have HPF := Lib.hid hpf
    clear ih hp hfn hpf hzs
    rcases (show wd % 4 = 1 ∨ wd % 4 = 2 ∨ wd % 4 = 3 ∨ wd % 4 = 0 by omega) with hm | hm | hm | hm
    · have hA := HA.out
      rw [hm] at hA
      have HR := Lib.hid (show termH h (f + 1) wd = .mk 1 (sI wd) ⟨#[]⟩ 0 [] [] by rw [HT.out]; unfold oneT; rw [if_pos hm])
      have hsi : RowKit.wrap64 (wd : Int) / 4 = sI wd := sI_eq wd hwd
      have HSI := Lib.hid (sI_bd wd hwd)
      have C0 := Cells.new w 27 [.int .i64 1, .int .i64 (sI wd), .string ⟨#[]⟩, .int .u32 0, .slice none 0 0, .slice none 0 0]
      have z0 := C0.cell 0
      have z1 := C0.cell 1
      have z2 := C0.cell 2
      have z3 := C0.cell 3
      have z4 := C0.cell 4
      have z5 := C0.cell 5
      simp only [List.getElem?_cons_zero, List.getElem?_cons_succ] at z0 z1 z2 z3 z4 z5
      go_enter Tryd.func29, Tryd.ntmps29
      go_wp2
      refine bodyPost_ret (v := .agg #[.int .i64 1, .int .i64 (sI wd), .string ⟨#[]⟩, .int .u32 0, .slice none 0 0, .slice none 0 0]) (by simp [results, Tryd.results29, go_sem, z0, z1, z2, z3, z4, z5]) rfl ?_
      rw [HR.out]
      refine ⟨[.int .i64 1, .int .i64 (sI wd), .string ⟨#[]⟩, .int .u32 0, .slice none 0 0, .slice none 0 0], rfl, ?_, (Below.refl _ w).alloc (Nat.le_refl _) _⟩
      rw [TmAt]
      exact ⟨⟨by decide, by decide, HSI.out.1, HSI.out.2, by decide, by decide, by decide⟩, .slice none 0 0, none, 0, rfl, ⟨none, 0, rfl, by simp, by simp [maxLen], fun i hi => absurd hi (Nat.not_lt_zero _)⟩, by simp [maxLen], by simp, by rw [ArgsAt]; trivial⟩
    · have hA := HA.out
      rw [hm] at hA
      have h1 := HFN.out
      rw [HW.out] at h1
      unfold oneH at h1
      rw [if_neg hp1, if_pos hm] at h1
      have h2 : wd / 4 < h.at_.length := by
        have := h1.2
        dsimp only at this
        rw [Bool.or_eq_false_iff] at this
        have := of_decide_eq_false this.2
        omega
      have B0 := Lib.hid ((Below.refl _ w).alloc (Nat.le_refl _) (.cells #[.int .i64 0, .int .i64 0, .string ⟨#[]⟩, .int .u32 0, .slice none 0 0, .slice none 0 0] 27 (0, 0)))
      obtain ⟨⟨lv, av, mb, k1, k2, k3, k4, k5, k6, k7, k8⟩, -⟩ := HP.out.below B0.out
      have g2 := k1.cell 2
      simp only [List.getElem?_cons_zero, List.getElem?_cons_succ] at g2
      obtain ⟨q, hq⟩ : ∃ q, wd / 4 = q := ⟨_, rfl⟩
      have hqi : (wd : Int) / 4 = (q : Int) := by omega
      rw [hq] at h2
      obtain ⟨b, c, rfl, _, _, _⟩ := k3.shape.resolve_left (fun e => by rw [e.2] at h2; simp at h2)
      have e0 := k3.cell q h2
      have hql : (q : Int) < (h.at_.length : Int) := by omega
      have HR := Lib.hid (show termH h (f + 1) wd = .mk 2 0 h.at_[q] 0 [] [] by rw [HT.out]; unfold oneT; rw [if_neg (by omega), if_pos hm, hq]; simp [List.getD, h2])
      have HSZ := Lib.hid (HZS.out _ (List.getElem_mem h2))
      clear k1 k2 k3 k4 k5 k6 k7 k8 h1 hq
      generalize h.at_[q] = tx at *
      have C0 := Cells.new w 27 [.int .i64 2, .int .i64 0, .string tx, .int .u32 0, .slice none 0 0, .slice none 0 0]
      have z0 := C0.cell 0
      have z1 := C0.cell 1
      have z2 := C0.cell 2
      have z3 := C0.cell 3
      have z4 := C0.cell 4
      have z5 := C0.cell 5
      simp only [List.getElem?_cons_zero, List.getElem?_cons_succ] at z0 z1 z2 z3 z4 z5
      go_enter Tryd.func29, Tryd.ntmps29
      go_wp2
      refine bodyPost_ret (v := .agg #[.int .i64 2, .int .i64 0, .string tx, .int .u32 0, .slice none 0 0, .slice none 0 0]) (by simp [results, Tryd.results29, go_sem, z0, z1, z2, z3, z4, z5]) rfl ?_
      rw [HR.out]
      refine ⟨[.int .i64 2, .int .i64 0, .string tx, .int .u32 0, .slice none 0 0, .slice none 0 0], rfl, ?_, (Below.refl _ w).alloc (Nat.le_refl _) _⟩
      rw [TmAt]
      exact ⟨⟨by decide, by decide, by decide, by decide, HSZ.out, by decide, by decide⟩, .slice none 0 0, none, 0, rfl, ⟨none, 0, rfl, by simp, by simp [maxLen], fun i hi => absurd hi (Nat.not_lt_zero _)⟩, by simp [maxLen], by simp, by rw [ArgsAt]; trivial⟩
    · have hA := HA.out
      rw [hm] at hA
      have HR := Lib.hid (show termH h (f + 1) wd = .mk 6 0 ⟨#[]⟩ 0 [] [] by rw [HT.out]; unfold oneT; rw [if_neg (by omega), if_neg (by omega), if_pos hm])
      have C0 := Cells.new w 27 [.int .i64 6, .int .i64 0, .string ⟨#[]⟩, .int .u32 0, .slice none 0 0, .slice none 0 0]
      have z0 := C0.cell 0
      have z1 := C0.cell 1
      have z2 := C0.cell 2
      have z3 := C0.cell 3
      have z4 := C0.cell 4
      have z5 := C0.cell 5
      simp only [List.getElem?_cons_zero, List.getElem?_cons_succ] at z0 z1 z2 z3 z4 z5
      go_enter Tryd.func29, Tryd.ntmps29
      go_wp2
      refine bodyPost_ret (v := .agg #[.int .i64 6, .int .i64 0, .string ⟨#[]⟩, .int .u32 0, .slice none 0 0, .slice none 0 0]) (by simp [results, Tryd.results29, go_sem, z0, z1, z2, z3, z4, z5]) rfl ?_
      rw [HR.out]
      refine ⟨[.int .i64 6, .int .i64 0, .string ⟨#[]⟩, .int .u32 0, .slice none 0 0, .slice none 0 0], rfl, ?_, (Below.refl _ w).alloc (Nat.le_refl _) _⟩
      rw [TmAt]
      exact ⟨⟨by decide, by decide, by decide, by decide, by decide, by decide, by decide⟩, .slice none 0 0, none, 0, rfl, ⟨none, 0, rfl, by simp, by simp [maxLen], fun i hi => absurd hi (Nat.not_lt_zero _)⟩, by simp [maxLen], by simp, by rw [ArgsAt]; trivial⟩
    · have hA := HA.out
      rw [hm] at hA
      have B0 := Lib.hid ((Below.refl _ w).alloc (Nat.le_refl _) (.cells #[.int .i64 0, .int .i64 0, .string ⟨#[]⟩, .int .u32 0, .slice none 0 0, .slice none 0 0] 27 (0, 0)))
      have R0 := Lib.hid (Cells.new w 27 [.int .i64 0, .int .i64 0, .string ⟨#[]⟩, .int .u32 0, .slice none 0 0, .slice none 0 0])
      have HP0 := Lib.hid (HP.out.below B0.out)
      have HOB := Lib.hid (object_any HP0.out wd HWD.out)
      have hk4 := objS_le4 h wd
      have h1 := HFN.out
      rw [HW.out] at h1
      unfold oneH at h1
      rw [if_neg hp1, if_neg (by omega), if_neg (by omega), if_neg (by omega)] at h1
      have h10 : (objS h wd).1 ≠ 0 := fun e => by rw [if_pos e] at h1; have := h1.2; cases this
      rw [if_neg h10] at h1
      have HF1 := Lib.hid h1
      have HLS := Lib.hid (objS_word (h := h) (w := wd) HP.out.word)
      have HCS := Lib.hid (objS_cases h wd)
      obtain ⟨k, hk⟩ : ∃ k, (objS h wd).1 = k := ⟨_, rfl⟩
      obtain ⟨r, hr⟩ : ∃ r, (objS h wd).2 = r := ⟨_, rfl⟩
      have HOK := Lib.hid (show objS h wd = (k, r) from by rw [← hk, ← hr])
      rw [HOK.out] at HOB HF1 HLS
      rw [hk] at hk4 h10
      clear hk hr h1
      rcases (show k = 3 ∨ k = 4 ∨ k = 2 ∨ k = 1 by omega) with rfl | rfl | rfl | rfl
      · obtain ⟨hle, hix⟩ := objS_far HOK.out (by decide)
        obtain ⟨x0, x1, x2, r2, rfl⟩ : ∃ x0 x1 x2 r2, r = x0 :: x1 :: x2 :: r2 := by
          match hq : r, hle with
          | x0 :: x1 :: x2 :: r2, _ => exact ⟨x0, x1, x2, r2, rfl⟩
          | [], hz => simp [leastS] at hz
          | [x0], hz => simp [leastS] at hz
          | [x0, x1], hz => simp [leastS] at hz
        simp only [List.getD_cons_zero] at hix
        obtain ⟨tx, htx⟩ : ∃ tx, h.at_[x0]? = some tx := ⟨h.at_[x0], List.getElem?_eq_getElem hix⟩
        have HR := Lib.hid (show termH h (f + 1) wd = .mk 4 0 tx (lowW x1) [lowW (x2 / 4294967296), lowW x2] [] by
          rw [HT.out]; unfold oneT
          rw [if_neg (by omega), if_neg (by omega), if_neg (by omega), HOK.out]
          rw [if_pos rfl]
          simp only [List.getD_cons_zero, List.getD_cons_succ]
          rw [getD_of htx])
        have HSZ := Lib.hid (HZS.out tx (List.mem_of_getElem? htx))
        go_enter Tryd.func29, Tryd.ntmps29
        go_wp2_with fail
        generalize World.alloc w _ = W0 at *
        refine HOB.out.mono ?_
        rintro e W2 ⟨lw, rfl, hat, n, rfl⟩
        have B2 := Lib.hid (below_drewN B0.out n)
        have R2 := Lib.hid (R0.out.drewN n)
        have HP2 := Lib.hid (HP0.out.drewN n)
        have HAT := Lib.hid (show AtV F lw (wordsV (x0 :: x1 :: x2 :: r2)) (W0.drewN n) from hat.frame (fun _ _ => rfl))
        obtain ⟨wa, wn, wc, rfl⟩ : ∃ a n c, lw = .slice a n c := by obtain ⟨a, c, e⟩ := hat.form; exact ⟨a, _, c, e⟩
        clear hat HOB
        obtain ⟨⟨lv, av, mb, k1, k2, k3, k4, k5, k6, k7, k8⟩, -⟩ := HP2.out
        obtain ⟨ab, ac, rfl, hab, _, _⟩ := k3.shape.resolve_left (fun e => by rw [e.2] at hix; simp at hix)
        obtain ⟨g2, o2, rfl, _, hcs⟩ := AtV.cell HAT.out (by simp [wordsV])
        have hwn : wn = r2.length + 3 := by
          obtain ⟨a, c, e⟩ := HAT.out.form
          injection e with _ e2 _
          rw [e2]; simp [wordsV]
        have e0 := hcs 0 (by simp [wordsV])
        have hl0 : (0 : Int) < (wn : Int) := by omega
        have e1 := hcs 1 (by simp [wordsV])
        have hl1 : (1 : Int) < (wn : Int) := by omega
        have e2 := hcs 2 (by simp [wordsV])
        have hl2 : (2 : Int) < (wn : Int) := by omega
        simp only [wordsV, wordV, List.map_cons, List.getElem_cons_zero, List.getElem_cons_succ, Nat.add_zero] at e0 e1 e2
        have ea := k3.cell x0 hix
        rw [(List.getElem?_eq_some_iff.1 htx).2] at ea
        have eg := k1.cell 2
        simp only [List.getElem?_cons_zero, List.getElem?_cons_succ] at eg
        have hil : (x0 : Int) < (h.at_.length : Int) := by omega
        have hw1 := wrap32u x1
        have hw2 := wrap32u x2
        have hl0n : ¬ wn = 0 := by omega
        obtain ⟨xh, hxh⟩ : ∃ xh, x2 / 4294967296 = xh := ⟨_, rfl⟩
        have hsh : (x2 : Int) / 4294967296 = (xh : Int) := by omega
        have hws := wrap32u xh
        rw [hxh] at HR
        clear hxh
        clear k1 k2 k3 k4 k5 k6 k7 k8 hcs hwn hix htx
        generalize W0.drewN n = W2 at *
        go_wp2_with fail
        refine wp_region_L (S := fun X => Below W2.heap.size W2 X) (F := [24]) (by kernel_rfl) (Below.drew (Below.refl _ _)) (fun hHeld => ?_)
        refine wpAnyL_easy (i := 0) (v := (.pointer (some ⟨g, 0, none⟩))) (by simp only [List.getElem?_toArray, List.getElem?_cons_succ, List.getElem?_cons_zero]; rfl) (by kernel_rfl) (by kernel_rfl) (by kernel_rfl) (by exact fun _ _ _ h => h) (Or.inl ⟨by rfl, fun _ _ => rfl⟩) ?_
        try simp only [Act.put, List.setIfInBounds_toArray, List.set_cons_zero, List.set_cons_succ]
        refine wpAnyL_take (i := 1) (v := (.pointer (some ⟨g, 0, none⟩))) (by simp only [List.getElem?_toArray, List.getElem?_cons_succ, List.getElem?_cons_zero]; rfl) (by kernel_rfl) (by kernel_rfl) (by kernel_rfl) (by kernel_rfl) (by exact fun _ _ _ h => h) (Or.inl ⟨by rfl, by intro W hSw; go_simp; all_goals first | rfl | exact ⟨rfl, rfl, rfl, rfl, rfl, rfl⟩⟩) (by assumption) ?_
        try simp only [Act.put, List.setIfInBounds_toArray, List.set_cons_zero, List.set_cons_succ]
        refine wpAnyL_easy (i := 2) (v := (.pointer (some ⟨g, 2, none⟩))) (by simp only [List.getElem?_toArray, List.getElem?_cons_succ, List.getElem?_cons_zero]; rfl) (by kernel_rfl) (by kernel_rfl) (by kernel_rfl) (by exact fun _ _ _ h => h) (Or.inl ⟨by rfl, by intro W _; go_simp; all_goals first | rfl | exact ⟨rfl, rfl, rfl, rfl, rfl, rfl⟩⟩) ?_
        try simp only [Act.put, List.setIfInBounds_toArray, List.set_cons_zero, List.set_cons_succ]
        refine wpAnyL_take (i := 3) (v := (.slice (some ⟨ab, 0, none⟩) h.at_.length ac)) (by simp only [List.getElem?_toArray, List.getElem?_cons_succ, List.getElem?_cons_zero]; rfl) (by kernel_rfl) (by kernel_rfl) (by kernel_rfl) (by kernel_rfl) (by exact fun _ _ _ h => h) (Or.inl ⟨by rfl, by intro W hSw; have x0 := show W.cell? ⟨g, 2, none⟩ = some (.slice (some ⟨ab, 0, none⟩) h.at_.length ac) from (hSw.cell (World.block_lt_of_cell? _ _ eg)).trans eg; go_simp; all_goals first | rfl | exact ⟨rfl, rfl, rfl, rfl, rfl, rfl⟩⟩) (by assumption) ?_
        try simp only [Act.put, List.setIfInBounds_toArray, List.set_cons_zero, List.set_cons_succ]
        refine wpAnyL_easy (i := 4) (v := (.slice (some ⟨g2, o2, none⟩) wn wc)) (by simp only [List.getElem?_toArray, List.getElem?_cons_succ, List.getElem?_cons_zero]; rfl) (by kernel_rfl) (by kernel_rfl) (by kernel_rfl) (by exact fun _ _ _ h => h) (Or.inl ⟨by rfl, fun _ _ => rfl⟩) ?_
        try simp only [Act.put, List.setIfInBounds_toArray, List.set_cons_zero, List.set_cons_succ]
        refine wpAnyL_take (i := 5) (v := (.pointer (some ⟨g2, o2, none⟩))) (by simp only [List.getElem?_toArray, List.getElem?_cons_succ, List.getElem?_cons_zero]; rfl) (by kernel_rfl) (by kernel_rfl) (by kernel_rfl) (by kernel_rfl) (by exact fun _ _ _ h => h) (Or.inl ⟨by rfl, by intro W hSw; have x0 := hl0; have x1 := hl0n; go_simp; all_goals first | rfl | exact ⟨rfl, rfl, rfl, rfl, rfl, rfl⟩⟩) (by assumption) ?_
        try simp only [Act.put, List.setIfInBounds_toArray, List.set_cons_zero, List.set_cons_succ]
        refine wpAnyL_take (i := 6) (v := (.int .u64 x0)) (by simp only [List.getElem?_toArray, List.getElem?_cons_succ, List.getElem?_cons_zero]; rfl) (by kernel_rfl) (by kernel_rfl) (by kernel_rfl) (by kernel_rfl) (by exact fun _ _ _ h => h) (Or.inl ⟨by rfl, by intro W hSw; have x0 := show W.cell? ⟨g2, o2, none⟩ = some (.int .u64 x0) from (hSw.cell (World.block_lt_of_cell? _ _ e0)).trans e0; go_simp; all_goals first | rfl | exact ⟨rfl, rfl, rfl, rfl, rfl, rfl⟩⟩) (by assumption) ?_
        try simp only [Act.put, List.setIfInBounds_toArray, List.set_cons_zero, List.set_cons_succ]
        refine wpAnyL_take (i := 7) (v := (.pointer (some ⟨ab, x0, none⟩))) (by simp only [List.getElem?_toArray, List.getElem?_cons_succ, List.getElem?_cons_zero]; rfl) (by kernel_rfl) (by kernel_rfl) (by kernel_rfl) (by kernel_rfl) (by exact fun _ _ _ h => h) (Or.inl ⟨by rfl, by intro W hSw; have x0 := hil; go_simp; all_goals first | rfl | exact ⟨rfl, rfl, rfl, rfl, rfl, rfl⟩⟩) (by assumption) ?_
        try simp only [Act.put, List.setIfInBounds_toArray, List.set_cons_zero, List.set_cons_succ]
        refine wpAnyL_take (i := 8) (v := (.string tx)) (by simp only [List.getElem?_toArray, List.getElem?_cons_succ, List.getElem?_cons_zero]; rfl) (by kernel_rfl) (by kernel_rfl) (by kernel_rfl) (by kernel_rfl) (by exact fun _ _ _ h => h) (Or.inl ⟨by rfl, by intro W hSw; have x0 := show W.cell? ⟨ab, x0, none⟩ = some (.string tx) from (hSw.cell (World.block_lt_of_cell? _ _ ea)).trans ea; go_simp; all_goals first | rfl | exact ⟨rfl, rfl, rfl, rfl, rfl, rfl⟩⟩) (by assumption) ?_
        try simp only [Act.put, List.setIfInBounds_toArray, List.set_cons_zero, List.set_cons_succ]
        refine wpAnyL_easy (i := 9) (v := (.slice (some ⟨g2, o2, none⟩) wn wc)) (by simp only [List.getElem?_toArray, List.getElem?_cons_succ, List.getElem?_cons_zero]; rfl) (by kernel_rfl) (by kernel_rfl) (by kernel_rfl) (by exact fun _ _ _ h => h) (Or.inl ⟨by rfl, fun _ _ => rfl⟩) ?_
        try simp only [Act.put, List.setIfInBounds_toArray, List.set_cons_zero, List.set_cons_succ]
        refine wpAnyL_take (i := 10) (v := (.pointer (some ⟨g2, o2 + 1, none⟩))) (by simp only [List.getElem?_toArray, List.getElem?_cons_succ, List.getElem?_cons_zero]; rfl) (by kernel_rfl) (by kernel_rfl) (by kernel_rfl) (by kernel_rfl) (by exact fun _ _ _ h => h) (Or.inl ⟨by rfl, by intro W hSw; have x0 := hl1; go_simp; all_goals first | rfl | exact ⟨rfl, rfl, rfl, rfl, rfl, rfl⟩⟩) (by assumption) ?_
        try simp only [Act.put, List.setIfInBounds_toArray, List.set_cons_zero, List.set_cons_succ]
        refine wpAnyL_take (i := 11) (v := (.int .u64 x1)) (by simp only [List.getElem?_toArray, List.getElem?_cons_succ, List.getElem?_cons_zero]; rfl) (by kernel_rfl) (by kernel_rfl) (by kernel_rfl) (by kernel_rfl) (by exact fun _ _ _ h => h) (Or.inl ⟨by rfl, by intro W hSw; have x0 := show W.cell? ⟨g2, o2 + 1, none⟩ = some (.int .u64 x1) from (hSw.cell (World.block_lt_of_cell? _ _ e1)).trans e1; go_simp; all_goals first | rfl | exact ⟨rfl, rfl, rfl, rfl, rfl, rfl⟩⟩) (by assumption) ?_
        try simp only [Act.put, List.setIfInBounds_toArray, List.set_cons_zero, List.set_cons_succ]
        refine wpAnyL_take (i := 12) (v := (.int .u32 (lowW x1))) (by simp only [List.getElem?_toArray, List.getElem?_cons_succ, List.getElem?_cons_zero]; rfl) (by kernel_rfl) (by kernel_rfl) (by kernel_rfl) (by kernel_rfl) (by exact fun _ _ _ h => h) (Or.inl ⟨by rfl, by intro W hSw; have x0 := hw1; go_simp; all_goals first | rfl | exact ⟨rfl, rfl, rfl, rfl, rfl, rfl⟩⟩) (by assumption) ?_
        try simp only [Act.put, List.setIfInBounds_toArray, List.set_cons_zero, List.set_cons_succ]
        refine wpAnyL_easy (i := 13) (v := (.slice (some ⟨g2, o2, none⟩) wn wc)) (by simp only [List.getElem?_toArray, List.getElem?_cons_succ, List.getElem?_cons_zero]; rfl) (by kernel_rfl) (by kernel_rfl) (by kernel_rfl) (by exact fun _ _ _ h => h) (Or.inl ⟨by rfl, fun _ _ => rfl⟩) ?_
        try simp only [Act.put, List.setIfInBounds_toArray, List.set_cons_zero, List.set_cons_succ]
        refine wpAnyL_take (i := 14) (v := (.pointer (some ⟨g2, o2 + 2, none⟩))) (by simp only [List.getElem?_toArray, List.getElem?_cons_succ, List.getElem?_cons_zero]; rfl) (by kernel_rfl) (by kernel_rfl) (by kernel_rfl) (by kernel_rfl) (by exact fun _ _ _ h => h) (Or.inl ⟨by rfl, by intro W hSw; have x0 := hl2; go_simp; all_goals first | rfl | exact ⟨rfl, rfl, rfl, rfl, rfl, rfl⟩⟩) (by assumption) ?_
        try simp only [Act.put, List.setIfInBounds_toArray, List.set_cons_zero, List.set_cons_succ]
        refine wpAnyL_take (i := 15) (v := (.int .u64 x2)) (by simp only [List.getElem?_toArray, List.getElem?_cons_succ, List.getElem?_cons_zero]; rfl) (by kernel_rfl) (by kernel_rfl) (by kernel_rfl) (by kernel_rfl) (by exact fun _ _ _ h => h) (Or.inl ⟨by rfl, by intro W hSw; have x0 := show W.cell? ⟨g2, o2 + 2, none⟩ = some (.int .u64 x2) from (hSw.cell (World.block_lt_of_cell? _ _ e2)).trans e2; go_simp; all_goals first | rfl | exact ⟨rfl, rfl, rfl, rfl, rfl, rfl⟩⟩) (by assumption) ?_
        try simp only [Act.put, List.setIfInBounds_toArray, List.set_cons_zero, List.set_cons_succ]
        refine wpAnyL_take (i := 16) (v := (.int .u64 xh)) (by simp only [List.getElem?_toArray, List.getElem?_cons_succ, List.getElem?_cons_zero]; rfl) (by kernel_rfl) (by kernel_rfl) (by kernel_rfl) (by kernel_rfl) (by exact fun _ _ _ h => h) (Or.inl ⟨by rfl, by intro W hSw; have x0 := hsh; go_simp; all_goals first | rfl | exact ⟨rfl, rfl, rfl, rfl, rfl, rfl⟩⟩) (by assumption) ?_
        try simp only [Act.put, List.setIfInBounds_toArray, List.set_cons_zero, List.set_cons_succ]
        refine wpAnyL_take (i := 17) (v := (.int .u32 (lowW xh))) (by simp only [List.getElem?_toArray, List.getElem?_cons_succ, List.getElem?_cons_zero]; rfl) (by kernel_rfl) (by kernel_rfl) (by kernel_rfl) (by kernel_rfl) (by exact fun _ _ _ h => h) (Or.inl ⟨by rfl, by intro W hSw; have x0 := hws; go_simp; all_goals first | rfl | exact ⟨rfl, rfl, rfl, rfl, rfl, rfl⟩⟩) (by assumption) ?_
        try simp only [Act.put, List.setIfInBounds_toArray, List.set_cons_zero, List.set_cons_succ]
        refine wpAnyL_easy (i := 18) (v := (.slice (some ⟨g2, o2, none⟩) wn wc)) (by simp only [List.getElem?_toArray, List.getElem?_cons_succ, List.getElem?_cons_zero]; rfl) (by kernel_rfl) (by kernel_rfl) (by kernel_rfl) (by exact fun _ _ _ h => h) (Or.inl ⟨by rfl, fun _ _ => rfl⟩) ?_
        try simp only [Act.put, List.setIfInBounds_toArray, List.set_cons_zero, List.set_cons_succ]
        refine wpAnyL_take (i := 19) (v := (.pointer (some ⟨g2, o2 + 2, none⟩))) (by simp only [List.getElem?_toArray, List.getElem?_cons_succ, List.getElem?_cons_zero]; rfl) (by kernel_rfl) (by kernel_rfl) (by kernel_rfl) (by kernel_rfl) (by exact fun _ _ _ h => h) (Or.inl ⟨by rfl, by intro W hSw; have x0 := hl2; go_simp; all_goals first | rfl | exact ⟨rfl, rfl, rfl, rfl, rfl, rfl⟩⟩) (by assumption) ?_
        try simp only [Act.put, List.setIfInBounds_toArray, List.set_cons_zero, List.set_cons_succ]
        refine wpAnyL_take (i := 20) (v := (.int .u64 x2)) (by simp only [List.getElem?_toArray, List.getElem?_cons_succ, List.getElem?_cons_zero]; rfl) (by kernel_rfl) (by kernel_rfl) (by kernel_rfl) (by kernel_rfl) (by exact fun _ _ _ h => h) (Or.inl ⟨by rfl, by intro W hSw; have x0 := show W.cell? ⟨g2, o2 + 2, none⟩ = some (.int .u64 x2) from (hSw.cell (World.block_lt_of_cell? _ _ e2)).trans e2; go_simp; all_goals first | rfl | exact ⟨rfl, rfl, rfl, rfl, rfl, rfl⟩⟩) (by assumption) ?_
        try simp only [Act.put, List.setIfInBounds_toArray, List.set_cons_zero, List.set_cons_succ]
        refine wpAnyL_take (i := 21) (v := (.int .u32 (lowW x2))) (by simp only [List.getElem?_toArray, List.getElem?_cons_succ, List.getElem?_cons_zero]; rfl) (by kernel_rfl) (by kernel_rfl) (by kernel_rfl) (by kernel_rfl) (by exact fun _ _ _ h => h) (Or.inl ⟨by rfl, by intro W hSw; have x0 := hw2; go_simp; all_goals first | rfl | exact ⟨rfl, rfl, rfl, rfl, rfl, rfl⟩⟩) (by assumption) ?_
        try simp only [Act.put, List.setIfInBounds_toArray, List.set_cons_zero, List.set_cons_succ]
        refine wpAnyL_ready (rs := [22]) (by kernel_rfl) (by simp) ?_
        refine AllReadyL.cons (by simp only [List.getElem?_toArray, List.getElem?_cons_succ, List.getElem?_cons_zero]; rfl) (fun K hK => ?_) AllReadyL.nil
        go_simp
        have BL := Lib.hid ((Below.drew (Below.refl W2.heap.size W2)).alloc (Nat.le_refl _) (.cells #[.int .u32 (lowW xh), .int .u32 (lowW x2)] 23 (0, 0)))
        have NL := Lib.hid (show NumsAt (fun q => W2.heap.size ≤ q) (.slice (some ⟨W2.heap.size, 0, none⟩) 2 2) [lowW xh, lowW x2] (W2.drew.alloc (.cells #[.int .u32 (lowW xh), .int .u32 (lowW x2)] 23 (0, 0))) from nums_litH W2.drew [lowW xh, lowW x2] 2 rfl (by intro x hx; simp only [List.mem_cons, List.not_mem_nil, or_false] at hx; rcases hx with rfl | rfl <;> exact lowW_bd _) (by decide))
        refine hK.out _ _ (BL.out) (fun hHeld => ?_)
        try simp only [Act.put, List.setIfInBounds_toArray, List.set_cons_zero, List.set_cons_succ]
        refine wpAnyL_easy (i := 23) (v := (.agg #[.int .i64 4, .int .i64 0, .string tx, .int .u32 (lowW x1), .slice (some ⟨W2.heap.size, 0, none⟩) 2 2, .slice none 0 0])) (by simp only [List.getElem?_toArray, List.getElem?_cons_succ, List.getElem?_cons_zero]; rfl) (by kernel_rfl) (by kernel_rfl) (by kernel_rfl) (by exact fun _ _ _ h => h) (Or.inl ⟨by rfl, by intro W _; go_simp; all_goals first | rfl | exact ⟨rfl, rfl, rfl, rfl, rfl, rfl⟩⟩) ?_
        try simp only [Act.put, List.setIfInBounds_toArray, List.set_cons_zero, List.set_cons_succ]
        refine wpAnyL_ready (rs := [24]) (by kernel_rfl) (by simp) ?_
        refine AllReadyL.last (by simp only [List.getElem?_toArray, List.getElem?_cons_succ, List.getElem?_cons_zero]; rfl) (by kernel_rfl) (fun K hK => ?_) AllReadyL.nil
        have R3 := Lib.hid (show Cells (W2.drew.alloc (.cells #[.int .u32 (lowW xh), .int .u32 (lowW x2)] 23 (0, 0))) w.heap.size 27 [.int .i64 0, .int .i64 0, .string ⟨#[]⟩, .int .u32 0, .slice none 0 0, .slice none 0 0] from R2.out.below BL.out)
        refine step_store_blk rfl _ (.tmp 4) (.tmp 65) rfl w.heap.size 0 [.int .i64 4, .int .i64 0, .string tx, .int .u32 (lowW x1), .slice (some ⟨W2.heap.size, 0, none⟩) 2 2, .slice none 0 0] (by rfl) (by rfl) (by kernel_rfl) (by simp [Value.oneCell']) 27 _ R3.out (by show 0 + 6 ≤ 6; decide) ?_
        intro wz hCz hgz
        refine hK.out _ _ ?_
        try simp only [Act.put, List.setIfInBounds_toArray, List.set_cons_zero, List.set_cons_succ]
        refine wpAnyL_done (by kernel_rfl) ?_ _
        have C0 : Cells wz w.heap.size 27 [.int .i64 4, .int .i64 0, .string tx, .int .u32 (lowW x1), .slice (some ⟨W2.heap.size, 0, none⟩) 2 2, .slice none 0 0] := hCz
        have z0 := C0.cell 0
        have z1 := C0.cell 1
        have z2 := C0.cell 2
        have z3 := C0.cell 3
        have z4 := C0.cell 4
        have z5 := C0.cell 5
        simp only [List.getElem?_cons_zero, List.getElem?_cons_succ] at z0 z1 z2 z3 z4 z5
        have NZ := Lib.hid (((NL.out.mono (S' := fun b => W2.heap.size ≤ b ∧ b < (W2.drew.alloc (.cells #[.int .u32 (lowW xh), .int .u32 (lowW x2)] 23 (0, 0))).heap.size) (fun b hb hs => ⟨hs, hb⟩)).frame (w' := wz) (fun b hb => hgz.block b hb.2 (fun e => by have e := Option.some.inj e; have := R2.out.lt; have := hb.1; omega))).mono (S' := fun b => w.heap.size ≤ b) (fun b _ hb => by have := R2.out.lt; have := hb.1; omega))
        have BZ := Lib.hid (Below.grown (B2.out.trans (BL.out.mono B2.out.size)) hgz (B2.out.trans (BL.out.mono B2.out.size)).size (fun k hk => by cases hk; exact Nat.le_refl _))
        clear C0 hCz
        go_wp2
        refine bodyPost_ret (v := .agg #[.int .i64 4, .int .i64 0, .string tx, .int .u32 (lowW x1), .slice (some ⟨W2.heap.size, 0, none⟩) 2 2, .slice none 0 0]) (by simp [results, Tryd.results29, go_sem, z0, z1, z2, z3, z4, z5]) rfl ?_
        rw [HR.out]
        refine ⟨[.int .i64 4, .int .i64 0, .string tx, .int .u32 (lowW x1), .slice (some ⟨W2.heap.size, 0, none⟩) 2 2, .slice none 0 0], rfl, ?_, BZ.out⟩
        rw [TmAt]
        exact ⟨⟨by decide, by decide, by decide, by decide, HSZ.out, (lowW_bd _).1, (lowW_bd _).2⟩, _, none, 0, rfl, NZ.out, by simp [maxLen], by simp, by rw [ArgsAt]; trivial⟩
      · obtain ⟨hle, hix⟩ := objS_far HOK.out (by decide)
        obtain ⟨x0, x1, x2, x3, x4, r2, rfl⟩ : ∃ x0 x1 x2 x3 x4 r2, r = x0 :: x1 :: x2 :: x3 :: x4 :: r2 := by
          match hq : r, hle with
          | x0 :: x1 :: x2 :: x3 :: x4 :: r2, _ => exact ⟨x0, x1, x2, x3, x4, r2, rfl⟩
          | [], hz => simp [leastS] at hz
          | [x0], hz => simp [leastS] at hz
          | [x0, x1], hz => simp [leastS] at hz
          | [x0, x1, x2], hz => simp [leastS] at hz
          | [x0, x1, x2, x3], hz => simp [leastS] at hz
        simp only [List.getD_cons_zero] at hix
        obtain ⟨tx, htx⟩ : ∃ tx, h.at_[x0]? = some tx := ⟨h.at_[x0], List.getElem?_eq_getElem hix⟩
        have HR := Lib.hid (show termH h (f + 1) wd = .mk 3 0 tx (lowW x1) [lowW x2, lowW x3, lowW x4] [] by
          rw [HT.out]; unfold oneT
          rw [if_neg (by omega), if_neg (by omega), if_neg (by omega), HOK.out]
          rw [if_neg (by simp), if_pos rfl]
          simp only [List.getD_cons_zero, List.getD_cons_succ]
          rw [getD_of htx])
        have HSZ := Lib.hid (HZS.out tx (List.mem_of_getElem? htx))
        go_enter Tryd.func29, Tryd.ntmps29
        go_wp2_with fail
        generalize World.alloc w _ = W0 at *
        refine HOB.out.mono ?_
        rintro e W2 ⟨lw, rfl, hat, n, rfl⟩
        have B2 := Lib.hid (below_drewN B0.out n)
        have R2 := Lib.hid (R0.out.drewN n)
        have HP2 := Lib.hid (HP0.out.drewN n)
        have HAT := Lib.hid (show AtV F lw (wordsV (x0 :: x1 :: x2 :: x3 :: x4 :: r2)) (W0.drewN n) from hat.frame (fun _ _ => rfl))
        obtain ⟨wa, wn, wc, rfl⟩ : ∃ a n c, lw = .slice a n c := by obtain ⟨a, c, e⟩ := hat.form; exact ⟨a, _, c, e⟩
        clear hat HOB
        obtain ⟨⟨lv, av, mb, k1, k2, k3, k4, k5, k6, k7, k8⟩, -⟩ := HP2.out
        obtain ⟨ab, ac, rfl, hab, _, _⟩ := k3.shape.resolve_left (fun e => by rw [e.2] at hix; simp at hix)
        obtain ⟨g2, o2, rfl, _, hcs⟩ := AtV.cell HAT.out (by simp [wordsV])
        have hwn : wn = r2.length + 5 := by
          obtain ⟨a, c, e⟩ := HAT.out.form
          injection e with _ e2 _
          rw [e2]; simp [wordsV]
        have e0 := hcs 0 (by simp [wordsV])
        have hl0 : (0 : Int) < (wn : Int) := by omega
        have e1 := hcs 1 (by simp [wordsV])
        have hl1 : (1 : Int) < (wn : Int) := by omega
        have e2 := hcs 2 (by simp [wordsV])
        have hl2 : (2 : Int) < (wn : Int) := by omega
        have e3 := hcs 3 (by simp [wordsV])
        have hl3 : (3 : Int) < (wn : Int) := by omega
        have e4 := hcs 4 (by simp [wordsV])
        have hl4 : (4 : Int) < (wn : Int) := by omega
        simp only [wordsV, wordV, List.map_cons, List.getElem_cons_zero, List.getElem_cons_succ, Nat.add_zero] at e0 e1 e2 e3 e4
        have ea := k3.cell x0 hix
        rw [(List.getElem?_eq_some_iff.1 htx).2] at ea
        have eg := k1.cell 2
        simp only [List.getElem?_cons_zero, List.getElem?_cons_succ] at eg
        have hil : (x0 : Int) < (h.at_.length : Int) := by omega
        have hw1 := wrap32u x1
        have hw2 := wrap32u x2
        have hw3 := wrap32u x3
        have hw4 := wrap32u x4
        have hl0n : ¬ wn = 0 := by omega
        clear k1 k2 k3 k4 k5 k6 k7 k8 hcs hwn hix htx
        generalize W0.drewN n = W2 at *
        go_wp2_with fail
        refine wp_region_L (S := fun X => Below W2.heap.size W2 X) (F := [27]) (by kernel_rfl) (Below.drew (Below.refl _ _)) (fun hHeld => ?_)
        refine wpAnyL_easy (i := 0) (v := (.pointer (some ⟨g, 0, none⟩))) (by simp only [List.getElem?_toArray, List.getElem?_cons_succ, List.getElem?_cons_zero]; rfl) (by kernel_rfl) (by kernel_rfl) (by kernel_rfl) (by exact fun _ _ _ h => h) (Or.inl ⟨by rfl, fun _ _ => rfl⟩) ?_
        try simp only [Act.put, List.setIfInBounds_toArray, List.set_cons_zero, List.set_cons_succ]
        refine wpAnyL_take (i := 1) (v := (.pointer (some ⟨g, 0, none⟩))) (by simp only [List.getElem?_toArray, List.getElem?_cons_succ, List.getElem?_cons_zero]; rfl) (by kernel_rfl) (by kernel_rfl) (by kernel_rfl) (by kernel_rfl) (by exact fun _ _ _ h => h) (Or.inl ⟨by rfl, by intro W hSw; go_simp; all_goals first | rfl | exact ⟨rfl, rfl, rfl, rfl, rfl, rfl⟩⟩) (by assumption) ?_
        try simp only [Act.put, List.setIfInBounds_toArray, List.set_cons_zero, List.set_cons_succ]
        refine wpAnyL_easy (i := 2) (v := (.pointer (some ⟨g, 2, none⟩))) (by simp only [List.getElem?_toArray, List.getElem?_cons_succ, List.getElem?_cons_zero]; rfl) (by kernel_rfl) (by kernel_rfl) (by kernel_rfl) (by exact fun _ _ _ h => h) (Or.inl ⟨by rfl, by intro W _; go_simp; all_goals first | rfl | exact ⟨rfl, rfl, rfl, rfl, rfl, rfl⟩⟩) ?_
        try simp only [Act.put, List.setIfInBounds_toArray, List.set_cons_zero, List.set_cons_succ]
        refine wpAnyL_take (i := 3) (v := (.slice (some ⟨ab, 0, none⟩) h.at_.length ac)) (by simp only [List.getElem?_toArray, List.getElem?_cons_succ, List.getElem?_cons_zero]; rfl) (by kernel_rfl) (by kernel_rfl) (by kernel_rfl) (by kernel_rfl) (by exact fun _ _ _ h => h) (Or.inl ⟨by rfl, by intro W hSw; have x0 := show W.cell? ⟨g, 2, none⟩ = some (.slice (some ⟨ab, 0, none⟩) h.at_.length ac) from (hSw.cell (World.block_lt_of_cell? _ _ eg)).trans eg; go_simp; all_goals first | rfl | exact ⟨rfl, rfl, rfl, rfl, rfl, rfl⟩⟩) (by assumption) ?_
        try simp only [Act.put, List.setIfInBounds_toArray, List.set_cons_zero, List.set_cons_succ]
        refine wpAnyL_easy (i := 4) (v := (.slice (some ⟨g2, o2, none⟩) wn wc)) (by simp only [List.getElem?_toArray, List.getElem?_cons_succ, List.getElem?_cons_zero]; rfl) (by kernel_rfl) (by kernel_rfl) (by kernel_rfl) (by exact fun _ _ _ h => h) (Or.inl ⟨by rfl, fun _ _ => rfl⟩) ?_
        try simp only [Act.put, List.setIfInBounds_toArray, List.set_cons_zero, List.set_cons_succ]
        refine wpAnyL_take (i := 5) (v := (.pointer (some ⟨g2, o2, none⟩))) (by simp only [List.getElem?_toArray, List.getElem?_cons_succ, List.getElem?_cons_zero]; rfl) (by kernel_rfl) (by kernel_rfl) (by kernel_rfl) (by kernel_rfl) (by exact fun _ _ _ h => h) (Or.inl ⟨by rfl, by intro W hSw; have x0 := hl0; have x1 := hl0n; go_simp; all_goals first | rfl | exact ⟨rfl, rfl, rfl, rfl, rfl, rfl⟩⟩) (by assumption) ?_
        try simp only [Act.put, List.setIfInBounds_toArray, List.set_cons_zero, List.set_cons_succ]
        refine wpAnyL_take (i := 6) (v := (.int .u64 x0)) (by simp only [List.getElem?_toArray, List.getElem?_cons_succ, List.getElem?_cons_zero]; rfl) (by kernel_rfl) (by kernel_rfl) (by kernel_rfl) (by kernel_rfl) (by exact fun _ _ _ h => h) (Or.inl ⟨by rfl, by intro W hSw; have x0 := show W.cell? ⟨g2, o2, none⟩ = some (.int .u64 x0) from (hSw.cell (World.block_lt_of_cell? _ _ e0)).trans e0; go_simp; all_goals first | rfl | exact ⟨rfl, rfl, rfl, rfl, rfl, rfl⟩⟩) (by assumption) ?_
        try simp only [Act.put, List.setIfInBounds_toArray, List.set_cons_zero, List.set_cons_succ]
        refine wpAnyL_take (i := 7) (v := (.pointer (some ⟨ab, x0, none⟩))) (by simp only [List.getElem?_toArray, List.getElem?_cons_succ, List.getElem?_cons_zero]; rfl) (by kernel_rfl) (by kernel_rfl) (by kernel_rfl) (by kernel_rfl) (by exact fun _ _ _ h => h) (Or.inl ⟨by rfl, by intro W hSw; have x0 := hil; go_simp; all_goals first | rfl | exact ⟨rfl, rfl, rfl, rfl, rfl, rfl⟩⟩) (by assumption) ?_
        try simp only [Act.put, List.setIfInBounds_toArray, List.set_cons_zero, List.set_cons_succ]
        refine wpAnyL_take (i := 8) (v := (.string tx)) (by simp only [List.getElem?_toArray, List.getElem?_cons_succ, List.getElem?_cons_zero]; rfl) (by kernel_rfl) (by kernel_rfl) (by kernel_rfl) (by kernel_rfl) (by exact fun _ _ _ h => h) (Or.inl ⟨by rfl, by intro W hSw; have x0 := show W.cell? ⟨ab, x0, none⟩ = some (.string tx) from (hSw.cell (World.block_lt_of_cell? _ _ ea)).trans ea; go_simp; all_goals first | rfl | exact ⟨rfl, rfl, rfl, rfl, rfl, rfl⟩⟩) (by assumption) ?_
        try simp only [Act.put, List.setIfInBounds_toArray, List.set_cons_zero, List.set_cons_succ]
        refine wpAnyL_easy (i := 9) (v := (.slice (some ⟨g2, o2, none⟩) wn wc)) (by simp only [List.getElem?_toArray, List.getElem?_cons_succ, List.getElem?_cons_zero]; rfl) (by kernel_rfl) (by kernel_rfl) (by kernel_rfl) (by exact fun _ _ _ h => h) (Or.inl ⟨by rfl, fun _ _ => rfl⟩) ?_
        try simp only [Act.put, List.setIfInBounds_toArray, List.set_cons_zero, List.set_cons_succ]
        refine wpAnyL_take (i := 10) (v := (.pointer (some ⟨g2, o2 + 1, none⟩))) (by simp only [List.getElem?_toArray, List.getElem?_cons_succ, List.getElem?_cons_zero]; rfl) (by kernel_rfl) (by kernel_rfl) (by kernel_rfl) (by kernel_rfl) (by exact fun _ _ _ h => h) (Or.inl ⟨by rfl, by intro W hSw; have x0 := hl1; go_simp; all_goals first | rfl | exact ⟨rfl, rfl, rfl, rfl, rfl, rfl⟩⟩) (by assumption) ?_
        try simp only [Act.put, List.setIfInBounds_toArray, List.set_cons_zero, List.set_cons_succ]
        refine wpAnyL_take (i := 11) (v := (.int .u64 x1)) (by simp only [List.getElem?_toArray, List.getElem?_cons_succ, List.getElem?_cons_zero]; rfl) (by kernel_rfl) (by kernel_rfl) (by kernel_rfl) (by kernel_rfl) (by exact fun _ _ _ h => h) (Or.inl ⟨by rfl, by intro W hSw; have x0 := show W.cell? ⟨g2, o2 + 1, none⟩ = some (.int .u64 x1) from (hSw.cell (World.block_lt_of_cell? _ _ e1)).trans e1; go_simp; all_goals first | rfl | exact ⟨rfl, rfl, rfl, rfl, rfl, rfl⟩⟩) (by assumption) ?_
        try simp only [Act.put, List.setIfInBounds_toArray, List.set_cons_zero, List.set_cons_succ]
        refine wpAnyL_take (i := 12) (v := (.int .u32 (lowW x1))) (by simp only [List.getElem?_toArray, List.getElem?_cons_succ, List.getElem?_cons_zero]; rfl) (by kernel_rfl) (by kernel_rfl) (by kernel_rfl) (by kernel_rfl) (by exact fun _ _ _ h => h) (Or.inl ⟨by rfl, by intro W hSw; have x0 := hw1; go_simp; all_goals first | rfl | exact ⟨rfl, rfl, rfl, rfl, rfl, rfl⟩⟩) (by assumption) ?_
        try simp only [Act.put, List.setIfInBounds_toArray, List.set_cons_zero, List.set_cons_succ]
        refine wpAnyL_easy (i := 13) (v := (.slice (some ⟨g2, o2, none⟩) wn wc)) (by simp only [List.getElem?_toArray, List.getElem?_cons_succ, List.getElem?_cons_zero]; rfl) (by kernel_rfl) (by kernel_rfl) (by kernel_rfl) (by exact fun _ _ _ h => h) (Or.inl ⟨by rfl, fun _ _ => rfl⟩) ?_
        try simp only [Act.put, List.setIfInBounds_toArray, List.set_cons_zero, List.set_cons_succ]
        refine wpAnyL_take (i := 14) (v := (.pointer (some ⟨g2, o2 + 2, none⟩))) (by simp only [List.getElem?_toArray, List.getElem?_cons_succ, List.getElem?_cons_zero]; rfl) (by kernel_rfl) (by kernel_rfl) (by kernel_rfl) (by kernel_rfl) (by exact fun _ _ _ h => h) (Or.inl ⟨by rfl, by intro W hSw; have x0 := hl2; go_simp; all_goals first | rfl | exact ⟨rfl, rfl, rfl, rfl, rfl, rfl⟩⟩) (by assumption) ?_
        try simp only [Act.put, List.setIfInBounds_toArray, List.set_cons_zero, List.set_cons_succ]
        refine wpAnyL_take (i := 15) (v := (.int .u64 x2)) (by simp only [List.getElem?_toArray, List.getElem?_cons_succ, List.getElem?_cons_zero]; rfl) (by kernel_rfl) (by kernel_rfl) (by kernel_rfl) (by kernel_rfl) (by exact fun _ _ _ h => h) (Or.inl ⟨by rfl, by intro W hSw; have x0 := show W.cell? ⟨g2, o2 + 2, none⟩ = some (.int .u64 x2) from (hSw.cell (World.block_lt_of_cell? _ _ e2)).trans e2; go_simp; all_goals first | rfl | exact ⟨rfl, rfl, rfl, rfl, rfl, rfl⟩⟩) (by assumption) ?_
        try simp only [Act.put, List.setIfInBounds_toArray, List.set_cons_zero, List.set_cons_succ]
        refine wpAnyL_take (i := 16) (v := (.int .u32 (lowW x2))) (by simp only [List.getElem?_toArray, List.getElem?_cons_succ, List.getElem?_cons_zero]; rfl) (by kernel_rfl) (by kernel_rfl) (by kernel_rfl) (by kernel_rfl) (by exact fun _ _ _ h => h) (Or.inl ⟨by rfl, by intro W hSw; have x0 := hw2; go_simp; all_goals first | rfl | exact ⟨rfl, rfl, rfl, rfl, rfl, rfl⟩⟩) (by assumption) ?_
        try simp only [Act.put, List.setIfInBounds_toArray, List.set_cons_zero, List.set_cons_succ]
        refine wpAnyL_easy (i := 17) (v := (.slice (some ⟨g2, o2, none⟩) wn wc)) (by simp only [List.getElem?_toArray, List.getElem?_cons_succ, List.getElem?_cons_zero]; rfl) (by kernel_rfl) (by kernel_rfl) (by kernel_rfl) (by exact fun _ _ _ h => h) (Or.inl ⟨by rfl, fun _ _ => rfl⟩) ?_
        try simp only [Act.put, List.setIfInBounds_toArray, List.set_cons_zero, List.set_cons_succ]
        refine wpAnyL_take (i := 18) (v := (.pointer (some ⟨g2, o2 + 3, none⟩))) (by simp only [List.getElem?_toArray, List.getElem?_cons_succ, List.getElem?_cons_zero]; rfl) (by kernel_rfl) (by kernel_rfl) (by kernel_rfl) (by kernel_rfl) (by exact fun _ _ _ h => h) (Or.inl ⟨by rfl, by intro W hSw; have x0 := hl3; go_simp; all_goals first | rfl | exact ⟨rfl, rfl, rfl, rfl, rfl, rfl⟩⟩) (by assumption) ?_
        try simp only [Act.put, List.setIfInBounds_toArray, List.set_cons_zero, List.set_cons_succ]
        refine wpAnyL_take (i := 19) (v := (.int .u64 x3)) (by simp only [List.getElem?_toArray, List.getElem?_cons_succ, List.getElem?_cons_zero]; rfl) (by kernel_rfl) (by kernel_rfl) (by kernel_rfl) (by kernel_rfl) (by exact fun _ _ _ h => h) (Or.inl ⟨by rfl, by intro W hSw; have x0 := show W.cell? ⟨g2, o2 + 3, none⟩ = some (.int .u64 x3) from (hSw.cell (World.block_lt_of_cell? _ _ e3)).trans e3; go_simp; all_goals first | rfl | exact ⟨rfl, rfl, rfl, rfl, rfl, rfl⟩⟩) (by assumption) ?_
        try simp only [Act.put, List.setIfInBounds_toArray, List.set_cons_zero, List.set_cons_succ]
        refine wpAnyL_take (i := 20) (v := (.int .u32 (lowW x3))) (by simp only [List.getElem?_toArray, List.getElem?_cons_succ, List.getElem?_cons_zero]; rfl) (by kernel_rfl) (by kernel_rfl) (by kernel_rfl) (by kernel_rfl) (by exact fun _ _ _ h => h) (Or.inl ⟨by rfl, by intro W hSw; have x0 := hw3; go_simp; all_goals first | rfl | exact ⟨rfl, rfl, rfl, rfl, rfl, rfl⟩⟩) (by assumption) ?_
        try simp only [Act.put, List.setIfInBounds_toArray, List.set_cons_zero, List.set_cons_succ]
        refine wpAnyL_easy (i := 21) (v := (.slice (some ⟨g2, o2, none⟩) wn wc)) (by simp only [List.getElem?_toArray, List.getElem?_cons_succ, List.getElem?_cons_zero]; rfl) (by kernel_rfl) (by kernel_rfl) (by kernel_rfl) (by exact fun _ _ _ h => h) (Or.inl ⟨by rfl, fun _ _ => rfl⟩) ?_
        try simp only [Act.put, List.setIfInBounds_toArray, List.set_cons_zero, List.set_cons_succ]
        refine wpAnyL_take (i := 22) (v := (.pointer (some ⟨g2, o2 + 4, none⟩))) (by simp only [List.getElem?_toArray, List.getElem?_cons_succ, List.getElem?_cons_zero]; rfl) (by kernel_rfl) (by kernel_rfl) (by kernel_rfl) (by kernel_rfl) (by exact fun _ _ _ h => h) (Or.inl ⟨by rfl, by intro W hSw; have x0 := hl4; go_simp; all_goals first | rfl | exact ⟨rfl, rfl, rfl, rfl, rfl, rfl⟩⟩) (by assumption) ?_
        try simp only [Act.put, List.setIfInBounds_toArray, List.set_cons_zero, List.set_cons_succ]
        refine wpAnyL_take (i := 23) (v := (.int .u64 x4)) (by simp only [List.getElem?_toArray, List.getElem?_cons_succ, List.getElem?_cons_zero]; rfl) (by kernel_rfl) (by kernel_rfl) (by kernel_rfl) (by kernel_rfl) (by exact fun _ _ _ h => h) (Or.inl ⟨by rfl, by intro W hSw; have x0 := show W.cell? ⟨g2, o2 + 4, none⟩ = some (.int .u64 x4) from (hSw.cell (World.block_lt_of_cell? _ _ e4)).trans e4; go_simp; all_goals first | rfl | exact ⟨rfl, rfl, rfl, rfl, rfl, rfl⟩⟩) (by assumption) ?_
        try simp only [Act.put, List.setIfInBounds_toArray, List.set_cons_zero, List.set_cons_succ]
        refine wpAnyL_take (i := 24) (v := (.int .u32 (lowW x4))) (by simp only [List.getElem?_toArray, List.getElem?_cons_succ, List.getElem?_cons_zero]; rfl) (by kernel_rfl) (by kernel_rfl) (by kernel_rfl) (by kernel_rfl) (by exact fun _ _ _ h => h) (Or.inl ⟨by rfl, by intro W hSw; have x0 := hw4; go_simp; all_goals first | rfl | exact ⟨rfl, rfl, rfl, rfl, rfl, rfl⟩⟩) (by assumption) ?_
        try simp only [Act.put, List.setIfInBounds_toArray, List.set_cons_zero, List.set_cons_succ]
        refine wpAnyL_ready (rs := [25]) (by kernel_rfl) (by simp) ?_
        refine AllReadyL.cons (by simp only [List.getElem?_toArray, List.getElem?_cons_succ, List.getElem?_cons_zero]; rfl) (fun K hK => ?_) AllReadyL.nil
        go_simp
        have BL := Lib.hid ((Below.drew (Below.refl W2.heap.size W2)).alloc (Nat.le_refl _) (.cells #[.int .u32 (lowW x2), .int .u32 (lowW x3), .int .u32 (lowW x4)] 23 (0, 0)))
        have NL := Lib.hid (show NumsAt (fun q => W2.heap.size ≤ q) (.slice (some ⟨W2.heap.size, 0, none⟩) 3 3) [lowW x2, lowW x3, lowW x4] (W2.drew.alloc (.cells #[.int .u32 (lowW x2), .int .u32 (lowW x3), .int .u32 (lowW x4)] 23 (0, 0))) from nums_litH W2.drew [lowW x2, lowW x3, lowW x4] 3 rfl (by intro x hx; simp only [List.mem_cons, List.not_mem_nil, or_false] at hx; rcases hx with rfl | rfl | rfl <;> exact lowW_bd _) (by decide))
        refine hK.out _ _ (BL.out) (fun hHeld => ?_)
        try simp only [Act.put, List.setIfInBounds_toArray, List.set_cons_zero, List.set_cons_succ]
        refine wpAnyL_easy (i := 26) (v := (.agg #[.int .i64 3, .int .i64 0, .string tx, .int .u32 (lowW x1), .slice (some ⟨W2.heap.size, 0, none⟩) 3 3, .slice none 0 0])) (by simp only [List.getElem?_toArray, List.getElem?_cons_succ, List.getElem?_cons_zero]; rfl) (by kernel_rfl) (by kernel_rfl) (by kernel_rfl) (by exact fun _ _ _ h => h) (Or.inl ⟨by rfl, by intro W _; go_simp; all_goals first | rfl | exact ⟨rfl, rfl, rfl, rfl, rfl, rfl⟩⟩) ?_
        try simp only [Act.put, List.setIfInBounds_toArray, List.set_cons_zero, List.set_cons_succ]
        refine wpAnyL_ready (rs := [27]) (by kernel_rfl) (by simp) ?_
        refine AllReadyL.last (by simp only [List.getElem?_toArray, List.getElem?_cons_succ, List.getElem?_cons_zero]; rfl) (by kernel_rfl) (fun K hK => ?_) AllReadyL.nil
        have R3 := Lib.hid (show Cells (W2.drew.alloc (.cells #[.int .u32 (lowW x2), .int .u32 (lowW x3), .int .u32 (lowW x4)] 23 (0, 0))) w.heap.size 27 [.int .i64 0, .int .i64 0, .string ⟨#[]⟩, .int .u32 0, .slice none 0 0, .slice none 0 0] from R2.out.below BL.out)
        refine step_store_blk rfl _ (.tmp 4) (.tmp 94) rfl w.heap.size 0 [.int .i64 3, .int .i64 0, .string tx, .int .u32 (lowW x1), .slice (some ⟨W2.heap.size, 0, none⟩) 3 3, .slice none 0 0] (by rfl) (by rfl) (by kernel_rfl) (by simp [Value.oneCell']) 27 _ R3.out (by show 0 + 6 ≤ 6; decide) ?_
        intro wz hCz hgz
        refine hK.out _ _ ?_
        try simp only [Act.put, List.setIfInBounds_toArray, List.set_cons_zero, List.set_cons_succ]
        refine wpAnyL_done (by kernel_rfl) ?_ _
        have C0 : Cells wz w.heap.size 27 [.int .i64 3, .int .i64 0, .string tx, .int .u32 (lowW x1), .slice (some ⟨W2.heap.size, 0, none⟩) 3 3, .slice none 0 0] := hCz
        have z0 := C0.cell 0
        have z1 := C0.cell 1
        have z2 := C0.cell 2
        have z3 := C0.cell 3
        have z4 := C0.cell 4
        have z5 := C0.cell 5
        simp only [List.getElem?_cons_zero, List.getElem?_cons_succ] at z0 z1 z2 z3 z4 z5
        have NZ := Lib.hid (((NL.out.mono (S' := fun b => W2.heap.size ≤ b ∧ b < (W2.drew.alloc (.cells #[.int .u32 (lowW x2), .int .u32 (lowW x3), .int .u32 (lowW x4)] 23 (0, 0))).heap.size) (fun b hb hs => ⟨hs, hb⟩)).frame (w' := wz) (fun b hb => hgz.block b hb.2 (fun e => by have e := Option.some.inj e; have := R2.out.lt; have := hb.1; omega))).mono (S' := fun b => w.heap.size ≤ b) (fun b _ hb => by have := R2.out.lt; have := hb.1; omega))
        have BZ := Lib.hid (Below.grown (B2.out.trans (BL.out.mono B2.out.size)) hgz (B2.out.trans (BL.out.mono B2.out.size)).size (fun k hk => by cases hk; exact Nat.le_refl _))
        clear C0 hCz
        go_wp2
        refine bodyPost_ret (v := .agg #[.int .i64 3, .int .i64 0, .string tx, .int .u32 (lowW x1), .slice (some ⟨W2.heap.size, 0, none⟩) 3 3, .slice none 0 0]) (by simp [results, Tryd.results29, go_sem, z0, z1, z2, z3, z4, z5]) rfl ?_
        rw [HR.out]
        refine ⟨[.int .i64 3, .int .i64 0, .string tx, .int .u32 (lowW x1), .slice (some ⟨W2.heap.size, 0, none⟩) 3 3, .slice none 0 0], rfl, ?_, BZ.out⟩
        rw [TmAt]
        exact ⟨⟨by decide, by decide, by decide, by decide, HSZ.out, (lowW_bd _).1, (lowW_bd _).2⟩, _, none, 0, rfl, NZ.out, by simp [maxLen], by simp, by rw [ArgsAt]; trivial⟩
      · go_enter Tryd.func29, Tryd.ntmps29
        go_wp2_with fail
        generalize World.alloc w _ = W0 at *
        refine HOB.out.mono ?_
        rintro e W2 ⟨lw, rfl, hat, n, rfl⟩
        have B2 := Lib.hid (below_drewN B0.out n)
        have R2 := Lib.hid (R0.out.drewN n)
        have HP2 := Lib.hid (HP0.out.drewN n)
        have HAT := Lib.hid (show AtV F lw (wordsV (r)) (W0.drewN n) from hat.frame (fun _ _ => rfl))
        obtain ⟨wa, wn, wc, rfl⟩ : ∃ a n c, lw = .slice a n c := by obtain ⟨a, c, e⟩ := hat.form; exact ⟨a, _, c, e⟩
        clear hat HOB
        generalize W0.drewN n = W2 at *
        have T0 := Lib.hid (Cells.new W2 27 [.int .i64 0, .int .i64 0, .string ⟨#[]⟩, .int .u32 0, .slice none 0 0, .slice none 0 0])
        have BA := Lib.hid ((Below.refl W2.heap.size W2).alloc (Nat.le_refl _) (.cells #[.int .i64 0, .int .i64 0, .string ⟨#[]⟩, .int .u32 0, .slice none 0 0, .slice none 0 0] 27 (0, 0)))
        go_wp2_with (refine wpList_store_blk rfl _ (.tmp 7) (.tmp 97) rfl W2.heap.size 0 [.int .i64 5, .int .i64 0, .string ⟨#[]⟩, .int .u32 0, .slice none 0 0, .slice none 0 0] (by rfl) (by rfl) (by kernel_rfl) (by simp [Value.oneCell']) 27 _ T0.out (by show 0 + 6 ≤ 6; decide) ?_; intro w3 hCz hgz; refine stop ?_)
        refine Stopped.of ?_
        have B3 := Lib.hid (show Below W2.heap.size W2 w3 from BA.out.grown hgz BA.out.size (fun k hk => by cases hk; exact Nat.le_refl _))
        have T3 := Lib.hid (show Cells w3 W2.heap.size 27 [.int .i64 5, .int .i64 0, .string ⟨#[]⟩, .int .u32 0, .slice none 0 0, .slice none 0 0] from hCz)
        have R3 := Lib.hid (R2.out.below B3.out)
        have HP3 := Lib.hid (HP2.out.below B3.out)
        have HAT3 := Lib.hid (HAT.out.below B3.out)
        have B03 := Lib.hid (B2.out.trans (B3.out.mono B2.out.size))
        have SZ3 := Lib.hid B3.out.size
        have SZL := Lib.hid R2.out.lt
        have HFLT := Lib.hid (fun b hb => (HP2.out.nf b hb).1)
        clear hCz hgz BA T0
        have HR := Lib.hid (show termH h (f + 1) wd = .mk 5 0 ⟨#[]⟩ 0 [] (r.map (termH h f)) by
          rw [HT.out]; unfold oneT
          rw [if_neg (by omega), if_neg (by omega), if_neg (by omega), HOK.out]
          simp)
        have HFI := Lib.hid (show Fine (rowH (walkH h f) r (d + 1) ⟨s.parts + 1, max s.deep d, s.bad⟩) from by have hf1 := HF1.out; simpa using hf1)
        obtain rfl : wn = r.length := by
          obtain ⟨a, c, e⟩ := HAT3.out.form
          injection e with _ e2 _
          rw [e2, wordsV_len]
        have HRL := Lib.hid (show r.length ≤ 1099511627776 from by
          have h1 := HP.out.len
          rcases objS_cases h wd with ⟨_, e⟩ | ⟨_, _, _, _, _, _, _, e⟩
          · have := congrArg Prod.snd (HOK.out.symm.trans e); dsimp only at this; rw [this]; simp
          · have := congrArg Prod.snd (HOK.out.symm.trans e); dsimp only at this; rw [this, List.length_take, List.length_drop]; omega)
        clear HP2 HAT
        go_wp2_with fail
        go_loopw [9, 100] (fun xv i wr => ∃ (kk : Nat) (s2 : Sn) (v : Value) (S' : Nat → Prop), kk ≤ r.length ∧ i = .int .i64 kk ∧ Cells wr W2.heap.size 27 [.int .i64 5, .int .i64 0, .string ⟨#[]⟩, .int .u32 0, .slice none 0 0, v] ∧ TsIs (W2.heap.size + 1) S' v ((r.take kk).map (termH h f)) wr ∧ (∀ b, S' b → W2.heap.size + 1 ≤ b) ∧ (∀ b, v.ownBlock = some b → ¬ S' b) ∧ Below W2.heap.size w3 wr ∧ s.parts + 1 ≤ s2.parts ∧ rowH (walkH h f) (r.drop kk) (d + 1) s2 = rowH (walkH h f) r (d + 1) ⟨s.parts + 1, max s.deep d, s.bad⟩) (fun _ i _ => r.length - (intOf i).toNat)
        case atStart => exact ⟨0, ⟨s.parts + 1, max s.deep d, s.bad⟩, .slice none 0 0, fun _ => False, Nat.zero_le _, rfl, T3.out, TsIs.nil _ _ _, (fun b h => h.elim), (fun b hb => by cases hb), Below.refl _ _, Nat.le_refl _, rfl⟩
        case round =>
          obtain ⟨kk, s2, v, S', hkk, rfl, hc, hts, hss, hvs, hkw, hpp, heq⟩ := hrel
          obtain ⟨va, vn, vc, rfl⟩ := hts.formH
          have HC := Lib.hid hc
          have HTS := Lib.hid hts
          have HSS := Lib.hid hss
          have HVS := Lib.hid hvs
          have HKW := Lib.hid hkw
          have HPP := Lib.hid hpp
          have HEQ := Lib.hid heq
          have HWS := Lib.hid (show W2.heap.size + 1 ≤ wr.heap.size from hc.lt)
          have HPR := Lib.hid (show HpIs half h g F wr from HP3.out.keep (S := fun b => W2.heap.size ≤ b) ⟨hkw.os, hkw.tape, hkw.output, hkw.size, fun k _ hk => hkw.block k (by omega)⟩ (fun b h1 h2 => by have := HFLT.out b h2; omega))
          have HAR := Lib.hid (show AtV F (.slice wa r.length wc) (wordsV r) wr from (HAT3.out.mono (S' := fun b => F b ∧ b < W2.heap.size) (fun b _ hb => ⟨hb, HFLT.out b hb⟩)).frame (fun b hb => hkw.block b hb.2) |>.mono (fun _ _ hb => hb.1))
          clear hc hts hss hvs hkw hpp heq
          by_cases hk : kk < r.length
          · have hki : (kk : Int) < (r.length : Int) := by omega
            have hk0 : (0 : Int) ≤ (kk : Int) := by omega
            have hkw1 : IntKind.i64.wrap ((kk : Int) + 1) = (kk : Int) + 1 := IntWalk.i64_in _ (by have := HRL.out; omega)
            obtain ⟨g2, o2, rfl, _, hcs⟩ := AtV.cell (n := r.length) HAR.out (by intro e; have := congrArg List.length e; rw [wordsV_len, List.length_nil] at this; omega)
            have e0 := hcs kk (by rw [wordsV_len]; exact hk)
            rw [wordsV_get _ _ (by rw [wordsV_len]; exact hk)] at e0
            have hgx : r.getD kk 0 = r[kk] := by simp [List.getD, hk]
            rw [hgx] at e0
            have heq := HEQ.out
            rw [List.drop_eq_getElem_cons hk] at heq
            have hfi := HFI.out
            rw [← heq] at hfi
            obtain ⟨hf2, hp2, hnx⟩ := Fine.row hfi
            have HXL := Lib.hid (HLS.out r[kk] (List.getElem_mem _))
            have HCALL := Lib.hid (HIH.out r[kk] (d + 1) s2 wr.drew (HPR.out.drewH) HXL.out hp2 (by have := HPF.out; have := HPP.out; omega) hf2)
            have HNX := Lib.hid (show rowH (walkH h f) (r.drop (kk + 1)) (d + 1) (walkH h f r[kk] (d + 1) s2) = rowH (walkH h f) r (d + 1) ⟨s.parts + 1, max s.deep d, s.bad⟩ from by rw [← heq, hnx])
            have HLE := Lib.hid (walkH_le (h := h) f r[kk] (d + 1) s2).1
            have HKB := Lib.hid (show ((r.take kk).map (termH h f)).length ≤ 1099511627776 from by have := HRL.out; simp; omega)
            have HTK := Lib.hid (show (r.take kk).map (termH h f) ++ [termH h f r[kk]] = (r.take (kk + 1)).map (termH h f) from by rw [List.take_succ_eq_append_getElem hk, List.map_append]; rfl)
            clear hcs hgx heq hfi hf2 hp2 hnx
            generalize (r.take kk).map (termH h f) = l0 at *
            generalize walkH h f r[kk] (d + 1) s2 = s3 at *
            generalize termH h f r[kk] = tt at *
            generalize r[kk] = x at *
            go_wp2_with fail
            refine wp_region_L (S := fun X => Cells X W2.heap.size 27 [.int .i64 5, .int .i64 0, .string ⟨#[]⟩, .int .u32 0, .slice none 0 0, .slice va vn vc] ∧ Below W2.heap.size wr X) (F := [8]) (by kernel_rfl) (⟨HC.out, Below.drew (Below.refl _ _)⟩) (fun hHeld => ?_)
            refine wpAnyL_easy (i := 0) (v := (.pointer (some ⟨W2.heap.size, 5, none⟩))) (by simp only [List.getElem?_toArray, List.getElem?_cons_succ, List.getElem?_cons_zero]; rfl) (by kernel_rfl) (by kernel_rfl) (by kernel_rfl) (by exact fun _ _ _ h => h) (Or.inl ⟨by rfl, by intro W _; go_simp; all_goals first | rfl | exact ⟨rfl, rfl, rfl, rfl, rfl, rfl⟩⟩) ?_
            try simp only [Act.put, List.setIfInBounds_toArray, List.set_cons_zero, List.set_cons_succ]
            refine wpAnyL_take (i := 1) (v := (.slice va vn vc)) (by simp only [List.getElem?_toArray, List.getElem?_cons_succ, List.getElem?_cons_zero]; rfl) (by kernel_rfl) (by kernel_rfl) (by kernel_rfl) (by kernel_rfl) (by exact fun _ _ _ h => h) (Or.inl ⟨by rfl, by intro W hSw; have x0 := show W.cell? ⟨W2.heap.size, 5, none⟩ = some (.slice va vn vc) from (show Cells W W2.heap.size 27 [.int .i64 5, .int .i64 0, .string ⟨#[]⟩, .int .u32 0, .slice none 0 0, .slice va vn vc] from hSw.1).cell 5; go_simp; all_goals first | rfl | exact ⟨rfl, rfl, rfl, rfl, rfl, rfl⟩⟩) (by assumption) ?_
            try simp only [Act.put, List.setIfInBounds_toArray, List.set_cons_zero, List.set_cons_succ]
            refine wpAnyL_easy (i := 2) (v := (.pointer (some ⟨g, 0, none⟩))) (by simp only [List.getElem?_toArray, List.getElem?_cons_succ, List.getElem?_cons_zero]; rfl) (by kernel_rfl) (by kernel_rfl) (by kernel_rfl) (by exact fun _ _ _ h => h) (Or.inl ⟨by rfl, fun _ _ => rfl⟩) ?_
            try simp only [Act.put, List.setIfInBounds_toArray, List.set_cons_zero, List.set_cons_succ]
            refine wpAnyL_easy (i := 3) (v := (.int .u64 x)) (by simp only [List.getElem?_toArray, List.getElem?_cons_succ, List.getElem?_cons_zero]; rfl) (by kernel_rfl) (by kernel_rfl) (by kernel_rfl) (by exact fun _ _ _ h => h) (Or.inl ⟨by rfl, fun _ _ => rfl⟩) ?_
            try simp only [Act.put, List.setIfInBounds_toArray, List.set_cons_zero, List.set_cons_succ]
            refine wpAnyL_ready (rs := [4]) (by kernel_rfl) (by simp) ?_
            refine AllReadyL.cons (by simp only [List.getElem?_toArray, List.getElem?_cons_succ, List.getElem?_cons_zero]; rfl) (fun K hK => ?_) AllReadyL.nil
            go_simp
            refine HCALL.out.mono ?_
            rintro e w5 ⟨vs5, rfl, ht5, hb5⟩
            have HT5 := Lib.hid ht5
            obtain ⟨_, nv3, a3, cap3, rfl, hnn3, _⟩ := ht5.parts
            obtain ⟨nb3, nd3, rfl, _, _⟩ := hnn3.slice
            have B5 := Lib.hid (show Below wr.heap.size wr w5 from (Below.drew (Below.refl wr.heap.size wr)).trans hb5)
            have C5 := Lib.hid (HC.out.below B5.out)
            obtain ⟨a7, n7, c7, w7, S7, hr7, hts7, hs7, hv7, hg7⟩ := HTS.out.more HVS.out B5.out HT5.out (by have := HKB.out; omega) HWS.out HSS.out
            have HR7 := Lib.hid hr7
            have HTS7 := Lib.hid hts7
            have HS7 := Lib.hid hs7
            have HV7 := Lib.hid hv7
            have HG7 := Lib.hid hg7
            have BL5 := Lib.hid ((Below.refl w5.heap.size w5).alloc (Nat.le_refl _) (.cells #[.int .i64 tt.kind, .int .i64 tt.int, .string tt.text, .int .u32 tt.cr, .slice nb3 tt.nums.length nd3, .slice a3 tt.args.length cap3] 27 (0, 0)))
            have HVO := Lib.hid (show ∀ b, (Value.slice va vn vc).ownBlock = some b → b ≠ W2.heap.size from fun b hb e => by have := (HTS.out.block hb).1; omega)
            have C7 := Lib.hid (show Cells w7 W2.heap.size 27 [.int .i64 5, .int .i64 0, .string ⟨#[]⟩, .int .u32 0, .slice none 0 0, .slice va vn vc] from (C5.out.below BL5.out).grown hg7 (fun e => HVO.out _ e rfl))
            have K7 := Lib.hid (show Below W2.heap.size w3 w7 from by
              have hws := HWS.out
              have h1 := HKW.out.trans (B5.out.mono (by omega))
              have h2 := h1.trans (BL5.out.mono (by have := B5.out.size; omega))
              exact h2.grown hg7 (by have := B5.out.size; have := BL5.out.size; omega) (fun k hk => by have := (HTS.out.block hk).1; omega))
            have HZ7 := Lib.hid (show w5.heap.size + 1 ≤ w7.heap.size from by have := hg7.size; simpa using this)
            clear ht5 hnn3 hb5 hr7 hts7 hs7 hv7 hg7 HCALL
            have BW5 := Lib.hid (show Below W2.heap.size wr w5 from B5.out.mono (by have := HWS.out; omega))
            have BW6 := Lib.hid (show Below W2.heap.size wr (w5.alloc (.cells #[.int .i64 tt.kind, .int .i64 tt.int, .string tt.text, .int .u32 tt.cr, .slice nb3 tt.nums.length nd3, .slice a3 tt.args.length cap3] 27 (0, 0))) from BW5.out.trans (BL5.out.mono (by have := HWS.out; have := B5.out.size; omega)))
            have BW7 := Lib.hid (show Below W2.heap.size wr w7 from BW6.out.grown HG7.out (by have := HWS.out; have := BW6.out.size; omega) (fun k hk => by have := (HTS.out.block hk).1; omega))
            refine hK.out _ _ (⟨C5.out, BW5.out⟩) (fun hHeld => ?_)
            try simp only [Act.put, List.setIfInBounds_toArray, List.set_cons_zero, List.set_cons_succ]
            refine wpAnyL_ready (rs := [5]) (by kernel_rfl) (by simp) ?_
            refine AllReadyL.cons (by simp only [List.getElem?_toArray, List.getElem?_cons_succ, List.getElem?_cons_zero]; rfl) (fun K hK => ?_) AllReadyL.nil
            go_simp
            refine hK.out _ _ (⟨C5.out.below BL5.out, BW6.out⟩) (fun hHeld => ?_)
            try simp only [Act.put, List.setIfInBounds_toArray, List.set_cons_zero, List.set_cons_succ]
            refine wpAnyL_ready (rs := [6]) (by kernel_rfl) (by simp) ?_
            refine AllReadyL.cons (by simp only [List.getElem?_toArray, List.getElem?_cons_succ, List.getElem?_cons_zero]; rfl) (fun K hK => ?_) AllReadyL.nil
            refine step_app_eq rfl (.tmp 105) (.tmp 109) _ _ rfl _ _ (.slice a7 n7 c7) w7 rfl rfl HR7.out ?_
            refine hK.out _ _ (⟨C7.out, BW7.out⟩) (fun hHeld => ?_)
            try simp only [Act.put, List.setIfInBounds_toArray, List.set_cons_zero, List.set_cons_succ]
            refine wpAnyL_easy (i := 7) (v := (.pointer (some ⟨W2.heap.size, 5, none⟩))) (by simp only [List.getElem?_toArray, List.getElem?_cons_succ, List.getElem?_cons_zero]; rfl) (by kernel_rfl) (by kernel_rfl) (by kernel_rfl) (by exact fun _ _ _ h => h) (Or.inl ⟨by rfl, by intro W _; go_simp; all_goals first | rfl | exact ⟨rfl, rfl, rfl, rfl, rfl, rfl⟩⟩) ?_
            try simp only [Act.put, List.setIfInBounds_toArray, List.set_cons_zero, List.set_cons_succ]
            refine wpAnyL_ready (rs := [8]) (by kernel_rfl) (by simp) ?_
            refine AllReadyL.last (by simp only [List.getElem?_toArray, List.getElem?_cons_succ, List.getElem?_cons_zero]; rfl) (by kernel_rfl) (fun K hK => ?_) AllReadyL.nil
            have d0 := C7.out.cell 5
            have f0 := C7.out.frozen 5
            simp only [List.getElem?_cons_zero, List.getElem?_cons_succ] at d0
            go_simp
            refine hK.out _ _ ?_
            try simp only [Act.put, List.setIfInBounds_toArray, List.set_cons_zero, List.set_cons_succ]
            refine wpAnyL_done (by kernel_rfl) ?_ _
            clear d0 f0
            have C8 := Lib.hid (show Cells (w7.setCell ⟨W2.heap.size, 5, none⟩ (.slice a7 n7 c7)) W2.heap.size 27 [.int .i64 5, .int .i64 0, .string ⟨#[]⟩, .int .u32 0, .slice none 0 0, .slice a7 n7 c7] from C7.out.set_ 5 _)
            have K8 := Lib.hid (show Below W2.heap.size w3 (w7.setCell ⟨W2.heap.size, 5, none⟩ (.slice a7 n7 c7)) from K7.out.setCell (p := ⟨W2.heap.size, 5, none⟩) (Nat.le_refl _) _)
            have T8 := Lib.hid (HTS7.out.keep (Keep.setCell (S := fun b => b = W2.heap.size) (p := ⟨W2.heap.size, 5, none⟩) (Keep.refl _ w7) (fun _ => rfl) (.slice a7 n7 c7)) (fun q hq e => by have := (HTS7.out.block hq).1; have e : q = W2.heap.size := e; omega) (fun b _ hb e => by have := (HS7.out b hb).1; have e : b = W2.heap.size := e; omega))
            go_wp2
            go_roundw
            case rel => exact ⟨kk + 1, s3, .slice a7 n7 c7, S7, by omega, by go_num, C8.out, by rw [← HTK.out]; exact T8.out, (fun b hb => (HS7.out b hb).1), HV7.out, K8.out, by have := HPP.out; have := HLE.out; omega, HNX.out⟩
            case measure => simp [intOf]; omega
          · have hki : ¬ (kk : Int) < (r.length : Int) := by omega
            have HTF := Lib.hid HTS.out
            rw [List.take_of_length_le (show r.length ≤ kk by omega)] at HTF
            have HBN := Lib.hid (show (r.map (termH h f)).length ≤ 1099511627776 by rw [List.length_map]; exact HRL.out)
            have RW := Lib.hid (R3.out.frame (HKW.out.block w.heap.size SZL.out))
            have BW := Lib.hid (B03.out.trans (HKW.out.mono (Nat.le_of_lt SZL.out)))
            have c0 := HC.out.cell 0
            have c1 := HC.out.cell 1
            have c2 := HC.out.cell 2
            have c3 := HC.out.cell 3
            have c4 := HC.out.cell 4
            have c5 := HC.out.cell 5
            simp only [List.getElem?_cons_zero, List.getElem?_cons_succ] at c0 c1 c2 c3 c4 c5
            go_wp2_with (refine wpList_store_blk rfl _ (.tmp 4) (.tmp 113) rfl w.heap.size 0 [.int .i64 5, .int .i64 0, .string ⟨#[]⟩, .int .u32 0, .slice none 0 0, .slice va vn vc] (by rfl) (by rfl) (by kernel_rfl) (by simp [Value.oneCell']) 27 _ RW.out (by show 0 + 6 ≤ 6; decide) ?_; intro wz hCz hgz; refine stop ?_)
            refine Stopped.of ?_
            clear c0 c1 c2 c3 c4 c5
            have C0 : Cells wz w.heap.size 27 [.int .i64 5, .int .i64 0, .string ⟨#[]⟩, .int .u32 0, .slice none 0 0, .slice va vn vc] := hCz
            have z0 := C0.cell 0
            have z1 := C0.cell 1
            have z2 := C0.cell 2
            have z3 := C0.cell 3
            have z4 := C0.cell 4
            have z5 := C0.cell 5
            simp only [List.getElem?_cons_zero, List.getElem?_cons_succ] at z0 z1 z2 z3 z4 z5
            have BZ := Lib.hid (BW.out.grown hgz BW.out.size (fun k hk => by cases hk; exact Nat.le_refl _))
            have HSZ := Lib.hid (show w.heap.size < W2.heap.size from SZL.out)
            obtain ⟨va0, vcap, hva, hvc, hvargs⟩ := HTF.out.args (S2 := fun b => W2.heap.size + 1 ≤ b) (fun b _ hb => HSS.out b hb) (fun k hk => (HTS.out.block hk).1)
            have HVA := Lib.hid (hvargs.keep (w' := wz) (S' := fun b => b = w.heap.size) ((Keep.refl _ _).grown hgz (fun k hk _ => by cases hk; rfl)) (fun b _ hb e => by have e : b = w.heap.size := e; have := HSZ.out; omega))
            have HVC := Lib.hid hvc
            injection hva with hv1 hv2 hv3
            subst hv1 hv3
            have HV2 := Lib.hid hv2
            clear C0 hCz hgz hvargs hvc hv2
            go_wp2
            refine bodyPost_ret (v := .agg #[.int .i64 5, .int .i64 0, .string ⟨#[]⟩, .int .u32 0, .slice none 0 0, .slice va vn vc]) (by simp [results, Tryd.results29, go_sem, z0, z1, z2, z3, z4, z5]) rfl ?_
            rw [HR.out]
            refine ⟨[.int .i64 5, .int .i64 0, .string ⟨#[]⟩, .int .u32 0, .slice none 0 0, .slice va vn vc], rfl, ?_, BZ.out⟩
            rw [TmAt]
            exact ⟨⟨by decide, by decide, by decide, by decide, by decide, by decide, by decide⟩, .slice none 0 0, _, _, by rw [HV2.out], ⟨none, 0, rfl, by simp, by simp [maxLen], fun i hi => absurd hi (Nat.not_lt_zero _)⟩, HVC.out, by have := HBN.out; omega, HVA.out.mono (fun b _ hb => by have := HSZ.out; omega)⟩
      · go_enter Tryd.func29, Tryd.ntmps29
        go_wp2_with fail
        generalize World.alloc w _ = W0 at *
        refine HOB.out.mono ?_
        rintro e W2 ⟨lw, rfl, hat, n, rfl⟩
        have B2 := Lib.hid (below_drewN B0.out n)
        have R2 := Lib.hid (R0.out.drewN n)
        have HP2 := Lib.hid (HP0.out.drewN n)
        have HAT := Lib.hid (show AtV F lw (wordsV (r)) (W0.drewN n) from hat.frame (fun _ _ => rfl))
        obtain ⟨wa, wn, wc, rfl⟩ : ∃ a n c, lw = .slice a n c := by obtain ⟨a, c, e⟩ := hat.form; exact ⟨a, _, c, e⟩
        clear hat HOB
        generalize W0.drewN n = W2 at *
        have BA := Lib.hid ((Below.refl W2.heap.size W2).alloc (Nat.le_refl _) (.cells #[.int .i64 7, .int .i64 0, .string ⟨#[]⟩, .int .u32 0, .slice none 0 0, .slice none 0 0] 27 (0, 0)))
        have T3 := Lib.hid (Cells.new W2 27 [.int .i64 7, .int .i64 0, .string ⟨#[]⟩, .int .u32 0, .slice none 0 0, .slice none 0 0])
        have R3 := Lib.hid (R2.out.below BA.out)
        have HP3 := Lib.hid (HP2.out.below BA.out)
        have HAT3 := Lib.hid (HAT.out.below BA.out)
        have B03 := Lib.hid (B2.out.trans (BA.out.mono B2.out.size))
        have SZL := Lib.hid R2.out.lt
        have HFLT := Lib.hid (fun b hb => (HP2.out.nf b hb).1)
        have HR := Lib.hid (show termH h (f + 1) wd = .mk 7 0 ⟨#[]⟩ 0 [] (chainT h (termH h f) 4098 wd) by
          rw [HT.out]; unfold oneT
          rw [if_neg (by omega), if_neg (by omega), if_neg (by omega), HOK.out]
          simp)
        have HFI := Lib.hid (show Fine (chainH h (walkH h f) (4098 - (s.parts + 1)) wd (d + 1) ⟨s.parts + 1, max s.deep d, s.bad⟩) from by have hf1 := HF1.out; simpa using hf1)
        have HPN := Lib.hid (show s.parts + 1 ≤ 4096 by omega)
        clear HP2 HAT
        go_wp2_with fail
        generalize W2.alloc (.cells #[.int .i64 7, .int .i64 0, .string ⟨#[]⟩, .int .u32 0, .slice none 0 0, .slice none 0 0] 27) = w3 at *
        clear hA
        generalize bits BinOp.and IntKind.u64 (wd : Int) 3 = bb at *
        go_loopg [1, 5, 6] (4098 - (s.parts + 1)) (fun nn wv kv lv wr => ∃ (wx : Nat) (s2 : Sn) (gg : Nat) (v : Value) (S' : Nat → Prop) (l2 : List Tm), nn = 4098 - s2.parts ∧ wx < 18446744073709551616 ∧ wv = .int .u64 wx ∧ kv = .int .i64 ((objS h wx).1 : Nat) ∧ AtV F lv (wordsV (objS h wx).2) wr ∧ Cells wr W2.heap.size 27 [.int .i64 7, .int .i64 0, .string ⟨#[]⟩, .int .u32 0, .slice none 0 0, v] ∧ TsIs (W2.heap.size + 1) S' v l2 wr ∧ (∀ b, S' b → W2.heap.size + 1 ≤ b) ∧ (∀ b, v.ownBlock = some b → ¬ S' b) ∧ Below W2.heap.size w3 wr ∧ s.parts + 1 ≤ s2.parts ∧ 4098 ≤ s2.parts + gg ∧ chainH h (walkH h f) gg wx (d + 1) s2 = chainH h (walkH h f) (4098 - (s.parts + 1)) wd (d + 1) ⟨s.parts + 1, max s.deep d, s.bad⟩ ∧ l2.length + (s.parts + 1) ≤ s2.parts ∧ chainT h (termH h f) 4098 wd = l2 ++ chainT h (termH h f) (4098 - l2.length) wx)
        case atStart => exact ⟨wd, ⟨s.parts + 1, max s.deep d, s.bad⟩, 4098 - (s.parts + 1), .slice none 0 0, fun _ => False, [], rfl, HWD.out, rfl, by rw [HOK.out]; rfl, by rw [HOK.out]; exact HAT3.out, T3.out, TsIs.nil _ _ _, (fun b h => h.elim), (fun b hb => by cases hb), Below.refl _ _, Nat.le_refl _, by dsimp only; have := HPN.out; omega, rfl, by simp, rfl⟩
        case round =>
          obtain ⟨wx, s2, gg, v, S', l2, rfl, hwx, rfl, rfl, hat2, hc, hts, hss, hvs, hkw, hpp, hgg, heq, hll, hct⟩ := hrel
          obtain ⟨va, vn, vc, rfl⟩ := hts.formH
          have HAT2 := Lib.hid hat2
          have HWX := Lib.hid hwx
          have HC := Lib.hid hc
          have HTS := Lib.hid hts
          have HSS := Lib.hid hss
          have HVS := Lib.hid hvs
          have HKW := Lib.hid hkw
          have HPP := Lib.hid hpp
          have HGG := Lib.hid hgg
          have HEQ := Lib.hid heq
          have HLL := Lib.hid hll
          have HCT := Lib.hid hct
          have HWS := Lib.hid (show W2.heap.size + 1 ≤ wr.heap.size from hc.lt)
          have HPR := Lib.hid (show HpIs half h g F wr from HP3.out.keep (S := fun b => W2.heap.size ≤ b) ⟨hkw.os, hkw.tape, hkw.output, hkw.size, fun k _ hk => hkw.block k (by omega)⟩ (fun b h1 h2 => by have := HFLT.out b h2; omega))
          obtain ⟨la, ln, lc, rfl⟩ : ∃ a n c, u6 = .slice a n c := by obtain ⟨a, c, e⟩ := hat2.form; exact ⟨a, _, c, e⟩
          have hfi := HFI.out
          rw [← heq] at hfi
          have HFX := Lib.hid hfi
          clear hat2 hwx hc hts hss hvs hkw hpp hgg heq hll hct hfi
          by_cases hkx : (objS h wx).1 = 1
          · rw [hkx]
            rw [show ((1 : Nat) : Int) = 1 from rfl]
            obtain ⟨x, y, r2, hr2⟩ := objS_two hkx
            have hob : objS h wx = (1, x :: y :: r2) := by rw [← hkx, ← hr2]
            obtain ⟨hf2, hp2, hg1, hnx⟩ := Fine.cell hob HGG.out HFX.out
            obtain ⟨g2, o2, rfl, hFg, hcs⟩ := AtV.cell HAT2.out (by rw [hr2]; simp [wordsV])
            rw [hr2] at hcs
            have e0 := hcs 0 (by simp [wordsV])
            have e1 := hcs 1 (by simp [wordsV])
            simp only [wordsV, wordV, List.map_cons, List.getElem_cons_zero, List.getElem_cons_succ, Nat.add_zero] at e0 e1
            have hln : ln = r2.length + 2 := by
              obtain ⟨a, c, e⟩ := HAT2.out.form
              injection e with _ e2 _
              rw [e2, hr2]; simp [wordsV]
            have hl0 : (0 : Int) < (ln : Int) := by omega
            have hl1 : (1 : Int) < (ln : Int) := by omega
            have hl0n : ¬ ln = 0 := by omega
            have HGW := Lib.hid (HFLT.out g2 hFg)
            have HXY := Lib.hid (show x < 18446744073709551616 ∧ y < 18446744073709551616 from ⟨objS_word HP.out.word x (by rw [hr2]; simp), objS_word HP.out.word y (by rw [hr2]; simp)⟩)
            have HCALL := Lib.hid (HIH.out x (d + 1) s2 wr.drew (HPR.out.drewH) HXY.out.1 hp2 (by have := HPF.out; have := HPP.out; omega) hf2)
            have HNX := Lib.hid (hnx.symm.trans HEQ.out)
            have HLE := Lib.hid ((walkH_le (h := h) f x (d + 1) s2).2 (by have := HPF.out; have := HPP.out; omega))
            have HG1 := Lib.hid hg1
            have HP2 := Lib.hid hp2
            have HKB := Lib.hid (show l2.length ≤ 1099511627776 from by have := HLL.out; omega)
            have HCT2 := Lib.hid (show chainT h (termH h f) 4098 wd = (l2 ++ [termH h f x]) ++ chainT h (termH h f) (4098 - (l2 ++ [termH h f x]).length) y from by
              rw [HCT.out, show 4098 - l2.length = (4098 - (l2 ++ [termH h f x]).length) + 1 by have := HLL.out; simp; omega, chainT, hob, if_pos rfl, List.append_assoc]
              rfl)
            clear hcs hr2 hln hkx hob hf2 hp2 hg1 hnx hFg
            generalize walkH h f x (d + 1) s2 = s3 at *
            generalize termH h f x = tt at *
            go_wp2_with fail
            refine wp_region_L (S := fun X => Cells X W2.heap.size 27 [.int .i64 7, .int .i64 0, .string ⟨#[]⟩, .int .u32 0, .slice none 0 0, .slice va vn vc] ∧ Below W2.heap.size wr X) (F := [10]) (by kernel_rfl) (⟨HC.out, Below.drew (Below.refl _ _)⟩) (fun hHeld => ?_)
            refine wpAnyL_easy (i := 0) (v := (.pointer (some ⟨W2.heap.size, 5, none⟩))) (by simp only [List.getElem?_toArray, List.getElem?_cons_succ, List.getElem?_cons_zero]; rfl) (by kernel_rfl) (by kernel_rfl) (by kernel_rfl) (by exact fun _ _ _ h => h) (Or.inl ⟨by rfl, by intro W _; go_simp; all_goals first | rfl | exact ⟨rfl, rfl, rfl, rfl, rfl, rfl⟩⟩) ?_
            try simp only [Act.put, List.setIfInBounds_toArray, List.set_cons_zero, List.set_cons_succ]
            refine wpAnyL_take (i := 1) (v := (.slice va vn vc)) (by simp only [List.getElem?_toArray, List.getElem?_cons_succ, List.getElem?_cons_zero]; rfl) (by kernel_rfl) (by kernel_rfl) (by kernel_rfl) (by kernel_rfl) (by exact fun _ _ _ h => h) (Or.inl ⟨by rfl, by intro W hSw; have x0 := show W.cell? ⟨W2.heap.size, 5, none⟩ = some (.slice va vn vc) from (show Cells W W2.heap.size 27 [.int .i64 7, .int .i64 0, .string ⟨#[]⟩, .int .u32 0, .slice none 0 0, .slice va vn vc] from hSw.1).cell 5; go_simp; all_goals first | rfl | exact ⟨rfl, rfl, rfl, rfl, rfl, rfl⟩⟩) (by assumption) ?_
            try simp only [Act.put, List.setIfInBounds_toArray, List.set_cons_zero, List.set_cons_succ]
            refine wpAnyL_easy (i := 2) (v := (.pointer (some ⟨g, 0, none⟩))) (by simp only [List.getElem?_toArray, List.getElem?_cons_succ, List.getElem?_cons_zero]; rfl) (by kernel_rfl) (by kernel_rfl) (by kernel_rfl) (by exact fun _ _ _ h => h) (Or.inl ⟨by rfl, fun _ _ => rfl⟩) ?_
            try simp only [Act.put, List.setIfInBounds_toArray, List.set_cons_zero, List.set_cons_succ]
            refine wpAnyL_easy (i := 3) (v := (.slice (some ⟨g2, o2, none⟩) ln lc)) (by simp only [List.getElem?_toArray, List.getElem?_cons_succ, List.getElem?_cons_zero]; rfl) (by kernel_rfl) (by kernel_rfl) (by kernel_rfl) (by exact fun _ _ _ h => h) (Or.inl ⟨by rfl, fun _ _ => rfl⟩) ?_
            try simp only [Act.put, List.setIfInBounds_toArray, List.set_cons_zero, List.set_cons_succ]
            refine wpAnyL_take (i := 4) (v := (.pointer (some ⟨g2, o2, none⟩))) (by simp only [List.getElem?_toArray, List.getElem?_cons_succ, List.getElem?_cons_zero]; rfl) (by kernel_rfl) (by kernel_rfl) (by kernel_rfl) (by kernel_rfl) (by exact fun _ _ _ h => h) (Or.inl ⟨by rfl, by intro W hSw; have x0 := hl0; have x1 := hl0n; go_simp; all_goals first | rfl | exact ⟨rfl, rfl, rfl, rfl, rfl, rfl⟩⟩) (by assumption) ?_
            try simp only [Act.put, List.setIfInBounds_toArray, List.set_cons_zero, List.set_cons_succ]
            refine wpAnyL_take (i := 5) (v := (.int .u64 x)) (by simp only [List.getElem?_toArray, List.getElem?_cons_succ, List.getElem?_cons_zero]; rfl) (by kernel_rfl) (by kernel_rfl) (by kernel_rfl) (by kernel_rfl) (by exact fun _ _ _ h => h) (Or.inl ⟨by rfl, by intro W hSw; have x0 := show W.cell? ⟨g2, o2, none⟩ = some (.int .u64 x) from (hSw.2.cell HGW.out).trans e0; go_simp; all_goals first | rfl | exact ⟨rfl, rfl, rfl, rfl, rfl, rfl⟩⟩) (by assumption) ?_
            try simp only [Act.put, List.setIfInBounds_toArray, List.set_cons_zero, List.set_cons_succ]
            refine wpAnyL_ready (rs := [6]) (by kernel_rfl) (by simp) ?_
            refine AllReadyL.cons (by simp only [List.getElem?_toArray, List.getElem?_cons_succ, List.getElem?_cons_zero]; rfl) (fun K hK => ?_) AllReadyL.nil
            go_simp
            refine HCALL.out.mono ?_
            rintro e w5 ⟨vs5, rfl, ht5, hb5⟩
            have HT5 := Lib.hid ht5
            obtain ⟨_, nv3, a3, cap3, rfl, hnn3, _⟩ := ht5.parts
            obtain ⟨nb3, nd3, rfl, _, _⟩ := hnn3.slice
            have B5 := Lib.hid (show Below wr.heap.size wr w5 from (Below.drew (Below.refl wr.heap.size wr)).trans hb5)
            have C5 := Lib.hid (HC.out.below B5.out)
            obtain ⟨a7, n7, c7, w7, S7, hr7, hts7, hs7, hv7, hg7⟩ := HTS.out.more HVS.out B5.out HT5.out (by have := HKB.out; omega) HWS.out HSS.out
            have HR7 := Lib.hid hr7
            have HTS7 := Lib.hid hts7
            have HS7 := Lib.hid hs7
            have HV7 := Lib.hid hv7
            have HG7 := Lib.hid hg7
            have BL5 := Lib.hid ((Below.refl w5.heap.size w5).alloc (Nat.le_refl _) (.cells #[.int .i64 tt.kind, .int .i64 tt.int, .string tt.text, .int .u32 tt.cr, .slice nb3 tt.nums.length nd3, .slice a3 tt.args.length cap3] 27 (0, 0)))
            have HVO := Lib.hid (show ∀ b, (Value.slice va vn vc).ownBlock = some b → b ≠ W2.heap.size from fun b hb e => by have := (HTS.out.block hb).1; omega)
            have C7 := Lib.hid (show Cells w7 W2.heap.size 27 [.int .i64 7, .int .i64 0, .string ⟨#[]⟩, .int .u32 0, .slice none 0 0, .slice va vn vc] from (C5.out.below BL5.out).grown hg7 (fun e => HVO.out _ e rfl))
            have K7 := Lib.hid (show Below W2.heap.size w3 w7 from by
              have hws := HWS.out
              have h1 := HKW.out.trans (B5.out.mono (by omega))
              have h2 := h1.trans (BL5.out.mono (by have := B5.out.size; omega))
              exact h2.grown hg7 (by have := B5.out.size; have := BL5.out.size; omega) (fun k hk => by have := (HTS.out.block hk).1; omega))
            have HZ7 := Lib.hid (show w5.heap.size + 1 ≤ w7.heap.size from by have := hg7.size; simpa using this)
            clear ht5 hnn3 hb5 hr7 hts7 hs7 hv7 hg7 HCALL
            have BW5 := Lib.hid (show Below W2.heap.size wr w5 from B5.out.mono (by have := HWS.out; omega))
            have BW6 := Lib.hid (show Below W2.heap.size wr (w5.alloc (.cells #[.int .i64 tt.kind, .int .i64 tt.int, .string tt.text, .int .u32 tt.cr, .slice nb3 tt.nums.length nd3, .slice a3 tt.args.length cap3] 27 (0, 0))) from BW5.out.trans (BL5.out.mono (by have := HWS.out; have := B5.out.size; omega)))
            have BW7 := Lib.hid (show Below W2.heap.size wr w7 from BW6.out.grown HG7.out (by have := HWS.out; have := BW6.out.size; omega) (fun k hk => by have := (HTS.out.block hk).1; omega))
            refine hK.out _ _ (⟨C5.out, BW5.out⟩) (fun hHeld => ?_)
            try simp only [Act.put, List.setIfInBounds_toArray, List.set_cons_zero, List.set_cons_succ]
            refine wpAnyL_ready (rs := [7]) (by kernel_rfl) (by simp) ?_
            refine AllReadyL.cons (by simp only [List.getElem?_toArray, List.getElem?_cons_succ, List.getElem?_cons_zero]; rfl) (fun K hK => ?_) AllReadyL.nil
            go_simp
            refine hK.out _ _ (⟨C5.out.below BL5.out, BW6.out⟩) (fun hHeld => ?_)
            try simp only [Act.put, List.setIfInBounds_toArray, List.set_cons_zero, List.set_cons_succ]
            refine wpAnyL_ready (rs := [8]) (by kernel_rfl) (by simp) ?_
            refine AllReadyL.cons (by simp only [List.getElem?_toArray, List.getElem?_cons_succ, List.getElem?_cons_zero]; rfl) (fun K hK => ?_) AllReadyL.nil
            refine step_app_eq rfl (.tmp 118) (.tmp 124) _ _ rfl _ _ (.slice a7 n7 c7) w7 rfl rfl HR7.out ?_
            refine hK.out _ _ (⟨C7.out, BW7.out⟩) (fun hHeld => ?_)
            try simp only [Act.put, List.setIfInBounds_toArray, List.set_cons_zero, List.set_cons_succ]
            refine wpAnyL_easy (i := 9) (v := (.pointer (some ⟨W2.heap.size, 5, none⟩))) (by simp only [List.getElem?_toArray, List.getElem?_cons_succ, List.getElem?_cons_zero]; rfl) (by kernel_rfl) (by kernel_rfl) (by kernel_rfl) (by exact fun _ _ _ h => h) (Or.inl ⟨by rfl, by intro W _; go_simp; all_goals first | rfl | exact ⟨rfl, rfl, rfl, rfl, rfl, rfl⟩⟩) ?_
            try simp only [Act.put, List.setIfInBounds_toArray, List.set_cons_zero, List.set_cons_succ]
            refine wpAnyL_ready (rs := [10]) (by kernel_rfl) (by simp) ?_
            refine AllReadyL.last (by simp only [List.getElem?_toArray, List.getElem?_cons_succ, List.getElem?_cons_zero]; rfl) (by kernel_rfl) (fun K hK => ?_) AllReadyL.nil
            have d0 := C7.out.cell 5
            have f0 := C7.out.frozen 5
            simp only [List.getElem?_cons_zero, List.getElem?_cons_succ] at d0
            go_simp
            refine hK.out _ _ ?_
            try simp only [Act.put, List.setIfInBounds_toArray, List.set_cons_zero, List.set_cons_succ]
            refine wpAnyL_done (by kernel_rfl) ?_ _
            clear d0 f0
            have C8 := Lib.hid (show Cells (w7.setCell ⟨W2.heap.size, 5, none⟩ (.slice a7 n7 c7)) W2.heap.size 27 [.int .i64 7, .int .i64 0, .string ⟨#[]⟩, .int .u32 0, .slice none 0 0, .slice a7 n7 c7] from C7.out.set_ 5 _)
            have K8 := Lib.hid (show Below W2.heap.size w3 (w7.setCell ⟨W2.heap.size, 5, none⟩ (.slice a7 n7 c7)) from K7.out.setCell (p := ⟨W2.heap.size, 5, none⟩) (Nat.le_refl _) _)
            have T8 := Lib.hid (HTS7.out.keep (Keep.setCell (S := fun b => b = W2.heap.size) (p := ⟨W2.heap.size, 5, none⟩) (Keep.refl _ w7) (fun _ => rfl) (.slice a7 n7 c7)) (fun q hq e => by have := (HTS7.out.block hq).1; have e : q = W2.heap.size := e; omega) (fun b _ hb e => by have := (HS7.out b hb).1; have e : b = W2.heap.size := e; omega))
            have BW8 := Lib.hid (show Below W2.heap.size wr (w7.setCell ⟨W2.heap.size, 5, none⟩ (.slice a7 n7 c7)) from BW7.out.setCell (p := ⟨W2.heap.size, 5, none⟩) (Nat.le_refl _) _)
            generalize w7.setCell ⟨W2.heap.size, 5, none⟩ (.slice a7 n7 c7) = w8 at *
            have d1 := (BW8.out.cell (p := ⟨g2, o2 + 1, none⟩) HGW.out).trans e1
            have HP8 := Lib.hid (show HpIs half h g F w8 from HP3.out.keep (S := fun b => W2.heap.size ≤ b) ⟨K8.out.os, K8.out.tape, K8.out.output, K8.out.size, fun k _ hk => K8.out.block k (by omega)⟩ (fun b h1 h2 => by have := HFLT.out b h2; omega))
            have HOB8 := Lib.hid (object_any HP8.out y HXY.out.2)
            clear e0 e1
            go_wp2_with fail
            refine HOB8.out.mono ?_
            rintro e W6 ⟨lw6, rfl, hat6, n6, rfl⟩
            obtain ⟨la6, ln6, lc6, rfl⟩ : ∃ a n c, lw6 = .slice a n c := by obtain ⟨a, c, e⟩ := hat6.form; exact ⟨a, _, c, e⟩
            have HAT6 := Lib.hid hat6
            clear hat6 d1 HOB8
            go_wp2
            go_roundg (4098 - s3.parts)
            case measure => have := HLE.out; have := HP2.out; omega
            case rel => exact ⟨y, s3, gg - 1, .slice a7 n7 c7, S7, l2 ++ [tt], rfl, HXY.out.2, rfl, rfl, HAT6.out.frame (fun _ _ => rfl), C8.out, T8.out.drewN n6, (fun b hb => (HS7.out b hb).1), HV7.out, below_drewN K8.out n6, by have := HPP.out; have := HLE.out; omega, by have := HGG.out; have := HLE.out; have := HG1.out; omega, HNX.out, by have := HLL.out; have := HLE.out; simp; omega, HCT2.out⟩
          · have HKX := Lib.hid hkx
            have hkx2 : ((((objS h wx).1 : Nat) : Int) == 1) = false := by simp; omega
            have hkx3 : ¬ (((objS h wx).1 : Nat) : Int) = 1 := by omega
            obtain ⟨hf2, hp2⟩ := Fine.last hkx HGG.out HFX.out
            have HCALL := Lib.hid (HIH.out wx (d + 1) s2 wr.drew (HPR.out.drewH) HWX.out hp2 (by have := HPF.out; have := HPP.out; omega) hf2)
            have HKB := Lib.hid (show l2.length ≤ 1099511627776 from by have := HLL.out; omega)
            have HCT2 := Lib.hid (show chainT h (termH h f) 4098 wd = l2 ++ [termH h f wx] from by
              rw [HCT.out, show 4098 - l2.length = (4097 - l2.length) + 1 by have := HLL.out; omega, chainT, if_neg HKX.out])
            rw [HCT2.out] at HR
            have HBN := Lib.hid (show (l2 ++ [termH h f wx]).length ≤ 1099511627776 by have := HLL.out; simp; omega)
            clear hkx hf2 hp2
            generalize termH h f wx = tt at *
            generalize (((objS h wx).1 : Nat) : Int) = kx at *
            go_wp2_with fail
            refine wp_region_L (S := fun X => Cells X W2.heap.size 27 [.int .i64 7, .int .i64 0, .string ⟨#[]⟩, .int .u32 0, .slice none 0 0, .slice va vn vc] ∧ Below W2.heap.size wr X) (F := [8]) (by kernel_rfl) (⟨HC.out, Below.drew (Below.refl _ _)⟩) (fun hHeld => ?_)
            refine wpAnyL_easy (i := 0) (v := (.pointer (some ⟨W2.heap.size, 5, none⟩))) (by simp only [List.getElem?_toArray, List.getElem?_cons_succ, List.getElem?_cons_zero]; rfl) (by kernel_rfl) (by kernel_rfl) (by kernel_rfl) (by exact fun _ _ _ h => h) (Or.inl ⟨by rfl, by intro W _; go_simp; all_goals first | rfl | exact ⟨rfl, rfl, rfl, rfl, rfl, rfl⟩⟩) ?_
            try simp only [Act.put, List.setIfInBounds_toArray, List.set_cons_zero, List.set_cons_succ]
            refine wpAnyL_take (i := 1) (v := (.slice va vn vc)) (by simp only [List.getElem?_toArray, List.getElem?_cons_succ, List.getElem?_cons_zero]; rfl) (by kernel_rfl) (by kernel_rfl) (by kernel_rfl) (by kernel_rfl) (by exact fun _ _ _ h => h) (Or.inl ⟨by rfl, by intro W hSw; have x0 := show W.cell? ⟨W2.heap.size, 5, none⟩ = some (.slice va vn vc) from (show Cells W W2.heap.size 27 [.int .i64 7, .int .i64 0, .string ⟨#[]⟩, .int .u32 0, .slice none 0 0, .slice va vn vc] from hSw.1).cell 5; go_simp; all_goals first | rfl | exact ⟨rfl, rfl, rfl, rfl, rfl, rfl⟩⟩) (by assumption) ?_
            try simp only [Act.put, List.setIfInBounds_toArray, List.set_cons_zero, List.set_cons_succ]
            refine wpAnyL_easy (i := 2) (v := (.pointer (some ⟨g, 0, none⟩))) (by simp only [List.getElem?_toArray, List.getElem?_cons_succ, List.getElem?_cons_zero]; rfl) (by kernel_rfl) (by kernel_rfl) (by kernel_rfl) (by exact fun _ _ _ h => h) (Or.inl ⟨by rfl, fun _ _ => rfl⟩) ?_
            try simp only [Act.put, List.setIfInBounds_toArray, List.set_cons_zero, List.set_cons_succ]
            refine wpAnyL_easy (i := 3) (v := (.int .u64 wx)) (by simp only [List.getElem?_toArray, List.getElem?_cons_succ, List.getElem?_cons_zero]; rfl) (by kernel_rfl) (by kernel_rfl) (by kernel_rfl) (by exact fun _ _ _ h => h) (Or.inl ⟨by rfl, fun _ _ => rfl⟩) ?_
            try simp only [Act.put, List.setIfInBounds_toArray, List.set_cons_zero, List.set_cons_succ]
            refine wpAnyL_ready (rs := [4]) (by kernel_rfl) (by simp) ?_
            refine AllReadyL.cons (by simp only [List.getElem?_toArray, List.getElem?_cons_succ, List.getElem?_cons_zero]; rfl) (fun K hK => ?_) AllReadyL.nil
            go_simp
            refine HCALL.out.mono ?_
            rintro e w5 ⟨vs5, rfl, ht5, hb5⟩
            have HT5 := Lib.hid ht5
            obtain ⟨_, nv3, a3, cap3, rfl, hnn3, _⟩ := ht5.parts
            obtain ⟨nb3, nd3, rfl, _, _⟩ := hnn3.slice
            have B5 := Lib.hid (show Below wr.heap.size wr w5 from (Below.drew (Below.refl wr.heap.size wr)).trans hb5)
            have C5 := Lib.hid (HC.out.below B5.out)
            obtain ⟨a7, n7, c7, w7, S7, hr7, hts7, hs7, hv7, hg7⟩ := HTS.out.more HVS.out B5.out HT5.out (by have := HKB.out; omega) HWS.out HSS.out
            have HR7 := Lib.hid hr7
            have HTS7 := Lib.hid hts7
            have HS7 := Lib.hid hs7
            have HV7 := Lib.hid hv7
            have HG7 := Lib.hid hg7
            have BL5 := Lib.hid ((Below.refl w5.heap.size w5).alloc (Nat.le_refl _) (.cells #[.int .i64 tt.kind, .int .i64 tt.int, .string tt.text, .int .u32 tt.cr, .slice nb3 tt.nums.length nd3, .slice a3 tt.args.length cap3] 27 (0, 0)))
            have HVO := Lib.hid (show ∀ b, (Value.slice va vn vc).ownBlock = some b → b ≠ W2.heap.size from fun b hb e => by have := (HTS.out.block hb).1; omega)
            have C7 := Lib.hid (show Cells w7 W2.heap.size 27 [.int .i64 7, .int .i64 0, .string ⟨#[]⟩, .int .u32 0, .slice none 0 0, .slice va vn vc] from (C5.out.below BL5.out).grown hg7 (fun e => HVO.out _ e rfl))
            have K7 := Lib.hid (show Below W2.heap.size w3 w7 from by
              have hws := HWS.out
              have h1 := HKW.out.trans (B5.out.mono (by omega))
              have h2 := h1.trans (BL5.out.mono (by have := B5.out.size; omega))
              exact h2.grown hg7 (by have := B5.out.size; have := BL5.out.size; omega) (fun k hk => by have := (HTS.out.block hk).1; omega))
            have HZ7 := Lib.hid (show w5.heap.size + 1 ≤ w7.heap.size from by have := hg7.size; simpa using this)
            clear ht5 hnn3 hb5 hr7 hts7 hs7 hv7 hg7 HCALL
            have BW5 := Lib.hid (show Below W2.heap.size wr w5 from B5.out.mono (by have := HWS.out; omega))
            have BW6 := Lib.hid (show Below W2.heap.size wr (w5.alloc (.cells #[.int .i64 tt.kind, .int .i64 tt.int, .string tt.text, .int .u32 tt.cr, .slice nb3 tt.nums.length nd3, .slice a3 tt.args.length cap3] 27 (0, 0))) from BW5.out.trans (BL5.out.mono (by have := HWS.out; have := B5.out.size; omega)))
            have BW7 := Lib.hid (show Below W2.heap.size wr w7 from BW6.out.grown HG7.out (by have := HWS.out; have := BW6.out.size; omega) (fun k hk => by have := (HTS.out.block hk).1; omega))
            refine hK.out _ _ (⟨C5.out, BW5.out⟩) (fun hHeld => ?_)
            try simp only [Act.put, List.setIfInBounds_toArray, List.set_cons_zero, List.set_cons_succ]
            refine wpAnyL_ready (rs := [5]) (by kernel_rfl) (by simp) ?_
            refine AllReadyL.cons (by simp only [List.getElem?_toArray, List.getElem?_cons_succ, List.getElem?_cons_zero]; rfl) (fun K hK => ?_) AllReadyL.nil
            go_simp
            refine hK.out _ _ (⟨C5.out.below BL5.out, BW6.out⟩) (fun hHeld => ?_)
            try simp only [Act.put, List.setIfInBounds_toArray, List.set_cons_zero, List.set_cons_succ]
            refine wpAnyL_ready (rs := [6]) (by kernel_rfl) (by simp) ?_
            refine AllReadyL.cons (by simp only [List.getElem?_toArray, List.getElem?_cons_succ, List.getElem?_cons_zero]; rfl) (fun K hK => ?_) AllReadyL.nil
            refine step_app_eq rfl (.tmp 137) (.tmp 141) _ _ rfl _ _ (.slice a7 n7 c7) w7 rfl rfl HR7.out ?_
            refine hK.out _ _ (⟨C7.out, BW7.out⟩) (fun hHeld => ?_)
            try simp only [Act.put, List.setIfInBounds_toArray, List.set_cons_zero, List.set_cons_succ]
            refine wpAnyL_easy (i := 7) (v := (.pointer (some ⟨W2.heap.size, 5, none⟩))) (by simp only [List.getElem?_toArray, List.getElem?_cons_succ, List.getElem?_cons_zero]; rfl) (by kernel_rfl) (by kernel_rfl) (by kernel_rfl) (by exact fun _ _ _ h => h) (Or.inl ⟨by rfl, by intro W _; go_simp; all_goals first | rfl | exact ⟨rfl, rfl, rfl, rfl, rfl, rfl⟩⟩) ?_
            try simp only [Act.put, List.setIfInBounds_toArray, List.set_cons_zero, List.set_cons_succ]
            refine wpAnyL_ready (rs := [8]) (by kernel_rfl) (by simp) ?_
            refine AllReadyL.last (by simp only [List.getElem?_toArray, List.getElem?_cons_succ, List.getElem?_cons_zero]; rfl) (by kernel_rfl) (fun K hK => ?_) AllReadyL.nil
            have d0 := C7.out.cell 5
            have f0 := C7.out.frozen 5
            simp only [List.getElem?_cons_zero, List.getElem?_cons_succ] at d0
            go_simp
            refine hK.out _ _ ?_
            try simp only [Act.put, List.setIfInBounds_toArray, List.set_cons_zero, List.set_cons_succ]
            refine wpAnyL_done (by kernel_rfl) ?_ _
            clear d0 f0
            have C8 := Lib.hid (show Cells (w7.setCell ⟨W2.heap.size, 5, none⟩ (.slice a7 n7 c7)) W2.heap.size 27 [.int .i64 7, .int .i64 0, .string ⟨#[]⟩, .int .u32 0, .slice none 0 0, .slice a7 n7 c7] from C7.out.set_ 5 _)
            have K8 := Lib.hid (show Below W2.heap.size w3 (w7.setCell ⟨W2.heap.size, 5, none⟩ (.slice a7 n7 c7)) from K7.out.setCell (p := ⟨W2.heap.size, 5, none⟩) (Nat.le_refl _) _)
            have T8 := Lib.hid (HTS7.out.keep (Keep.setCell (S := fun b => b = W2.heap.size) (p := ⟨W2.heap.size, 5, none⟩) (Keep.refl _ w7) (fun _ => rfl) (.slice a7 n7 c7)) (fun q hq e => by have := (HTS7.out.block hq).1; have e : q = W2.heap.size := e; omega) (fun b _ hb e => by have := (HS7.out b hb).1; have e : b = W2.heap.size := e; omega))
            generalize w7.setCell ⟨W2.heap.size, 5, none⟩ (.slice a7 n7 c7) = w8 at *
            have RW := Lib.hid (R3.out.frame (K8.out.block w.heap.size SZL.out))
            have BW := Lib.hid (B03.out.trans (K8.out.mono (Nat.le_of_lt SZL.out)))
            have HTF := Lib.hid T8.out
            have c0 := C8.out.cell 0
            have c1 := C8.out.cell 1
            have c2 := C8.out.cell 2
            have c3 := C8.out.cell 3
            have c4 := C8.out.cell 4
            have c5 := C8.out.cell 5
            simp only [List.getElem?_cons_zero, List.getElem?_cons_succ] at c0 c1 c2 c3 c4 c5
            go_wp2_with (refine wpList_store_blk rfl _ (.tmp 4) (.tmp 144) rfl w.heap.size 0 [.int .i64 7, .int .i64 0, .string ⟨#[]⟩, .int .u32 0, .slice none 0 0, .slice a7 n7 c7] (by rfl) (by rfl) (by kernel_rfl) (by simp [Value.oneCell']) 27 _ RW.out (by show 0 + 6 ≤ 6; decide) ?_; intro wz hCz hgz; refine stop ?_)
            refine Stopped.of ?_
            clear c0 c1 c2 c3 c4 c5
            have C0 : Cells wz w.heap.size 27 [.int .i64 7, .int .i64 0, .string ⟨#[]⟩, .int .u32 0, .slice none 0 0, .slice a7 n7 c7] := hCz
            have z0 := C0.cell 0
            have z1 := C0.cell 1
            have z2 := C0.cell 2
            have z3 := C0.cell 3
            have z4 := C0.cell 4
            have z5 := C0.cell 5
            simp only [List.getElem?_cons_zero, List.getElem?_cons_succ] at z0 z1 z2 z3 z4 z5
            have BZ := Lib.hid (BW.out.grown hgz BW.out.size (fun k hk => by cases hk; exact Nat.le_refl _))
            have HSZ := Lib.hid (show w.heap.size < W2.heap.size from SZL.out)
            obtain ⟨va0, vcap, hva, hvc, hvargs⟩ := HTF.out.args (S2 := fun b => W2.heap.size + 1 ≤ b) (fun b _ hb => (HS7.out b hb).1) (fun k hk => (T8.out.block hk).1)
            have HVA := Lib.hid (hvargs.keep (w' := wz) (S' := fun b => b = w.heap.size) ((Keep.refl _ _).grown hgz (fun k hk _ => by cases hk; rfl)) (fun b _ hb e => by have e : b = w.heap.size := e; have := HSZ.out; omega))
            have HVC := Lib.hid hvc
            injection hva with hv1 hv2 hv3
            subst hv1 hv3
            have HV2 := Lib.hid hv2
            clear C0 hCz hgz hvargs hvc hv2
            go_wp2
            refine bodyPost_ret (v := .agg #[.int .i64 7, .int .i64 0, .string ⟨#[]⟩, .int .u32 0, .slice none 0 0, .slice a7 n7 c7]) (by simp [results, Tryd.results29, go_sem, z0, z1, z2, z3, z4, z5]) rfl ?_
            rw [HR.out]
            refine ⟨[.int .i64 7, .int .i64 0, .string ⟨#[]⟩, .int .u32 0, .slice none 0 0, .slice a7 n7 c7], rfl, ?_, BZ.out⟩
            rw [TmAt]
            exact ⟨⟨by decide, by decide, by decide, by decide, by decide, by decide, by decide⟩, .slice none 0 0, _, _, by rw [HV2.out], ⟨none, 0, rfl, by simp, by simp [maxLen], fun i hi => absurd hi (Nat.not_lt_zero _)⟩, HVC.out, by have := HBN.out; omega, HVA.out.mono (fun b _ hb => by have := HSZ.out; omega)⟩
end Go.Proofs.YtkipjbmckpmmfaaDoor
end
section
/- Package heap: Term, Cons, Tuple, Split, Elem. Printed by wip/hpi.py. -/
open Go Go.RowKit
namespace Go.Proofs.YtkipjbmckpmmfaaDoor
set_option linter.unusedVariables false
set_option linter.unusedSimpArgs false

/-- Term's answer -/
def TermTR (w : World) (r : Tm × List Lk) (e : Ending) (w' : World) : Prop := ∃ vs ev, e = .returned (.tuple #[.agg vs.toArray, ev]) ∧ ErrIs w' ev r.2 ∧ (r.2 = [] → TmAt (fun b => w.heap.size ≤ b) r.1 vs w') ∧ Below w.heap.size w w'
set_option maxHeartbeats 8000000 in
set_option maxRecDepth 100000 in
theorem termTop_any {half : Nat} {h : Hs} {g : Nat} {F : Nat → Prop} (hzs : ∀ s ∈ h.at_, s.size ≤ 140737488351232) (wd : Nat) (w : World) (hp : HpIs half h g F w) (hwd : wd < 18446744073709551616) :
    Calls Tryd.prog 11 #[.pointer (some ⟨g, 0, none⟩), .int .u64 wd] w (TermTR w (termTop h wd)) := by
  have HP := Lib.hid hp
  have HZS := Lib.hid hzs
  have B0 := Lib.hid ((Below.refl _ w).alloc (Nat.le_refl _) (.cells #[.int .i64 0, .int .i64 0, .string ⟨#[]⟩, .int .u32 0, .slice none 0 0, .slice none 0 0] 27 (0, 0)))
  have R0 := Lib.hid (Cells.new w 27 [.int .i64 0, .int .i64 0, .string ⟨#[]⟩, .int .u32 0, .slice none 0 0, .slice none 0 0])
  have HP0 := Lib.hid (hp.below B0.out)
  have HM := Lib.hid (made_of HP0.out)
  clear hp hzs
  go_enter Tryd.func11, Tryd.ntmps11
  go_wp2_with fail
  generalize World.alloc w _ = W0 at *
  refine HM.out.mono ?_
  rintro e w1 ⟨rfl, rfl⟩
  have BA := Lib.hid ((Below.refl W0.heap.size W0).alloc (Nat.le_refl _) (.cells #[.int .i64 0, .int .i64 0, .bool false] 73 (0, 0)))
  have C1 := Lib.hid (show SnIs W0.heap.size ⟨0, 0, false⟩ (W0.alloc (.cells #[.int .i64 0, .int .i64 0, .bool false] 73 (0, 0))) from Cells.new W0 73 [.int .i64 0, .int .i64 0, .bool false])
  have HFN := Lib.hid (show ¬ F W0.heap.size from fun e => by have := (HP0.out.nf _ e).1; omega)
  have HWK := Lib.hid (walk_ind HFN.out 4098 wd 1 ⟨0, 0, false⟩ _ (HP0.out.below BA.out) C1.out hwd (by decide) (by decide) (by decide) (by decide) (by decide))
  have HRW := Lib.hid R0.out.lt
  go_wp2_with fail
  refine HWK.out.mono ?_
  rintro e w2 ⟨rfl, hs2, hk2⟩
  rw [show walkH h 4098 wd 1 ⟨0, 0, false⟩ = seenH h wd from rfl] at hs2
  have HS2 := Lib.hid hs2
  have B12 := Lib.hid (show Below W0.heap.size W0 w2 from BA.out.trans (hk2.toBelow BA.out.size (fun k hk => by have hk : k = W0.heap.size := hk; omega)))
  have R2 := Lib.hid (R0.out.below B12.out)
  have HP2 := Lib.hid (HP0.out.below B12.out)
  have B2 := Lib.hid (B0.out.trans (B12.out.mono B0.out.size))
  have s0 := HS2.out.cell 0
  have s1 := HS2.out.cell 1
  have s2 := HS2.out.cell 2
  simp only [List.getElem?_cons_zero, List.getElem?_cons_succ] at s0 s1 s2
  clear hs2 hk2 HWK HM BA C1
  have HTT := Lib.hid (show termTop h wd = (if toldS (seenH h wd) = [] then termH h 4098 wd else .mk 0 0 ⟨#[]⟩ 0 [] [], toldS (seenH h wd)) from rfl)
  have HFN2 := Lib.hid (show ¬ 4096 < (seenH h wd).parts → (seenH h wd).bad = false → Fine (walkH h 4098 wd 1 ⟨0, 0, false⟩) from fun h1 h2 => ⟨by show (seenH h wd).parts ≤ 4096; omega, h2⟩)
  generalize seenH h wd = sn at *
  by_cases hb : 4096 < sn.parts
  · have hb2 : (4096 : Int) < (sn.parts : Int) := by omega
    have HR := Lib.hid (show termTop h wd = (.mk 0 0 ⟨#[]⟩ 0 [] [], [⟨hpL, 0, 5⟩]) from by
      have e : toldS sn = [⟨hpL, 0, 5⟩] := by unfold toldS; rw [if_pos hb]
      rw [HTT.out, e, if_neg (by simp)])
    have RW := Lib.hid (R2.out.below ((Below.refl w2.heap.size w2).alloc (Nat.le_refl _) (.cells #[.string ⟨#[104, 101, 97, 112]⟩, .int .i64 0, .int .i64 5, .nilIface] 93 (0, 0))))
    have BW := Lib.hid (B2.out.alloc B2.out.size (.cells #[.string ⟨#[104, 101, 97, 112]⟩, .int .i64 0, .int .i64 5, .nilIface] 93 (0, 0)))
    go_wp2_with (first | (go_at_call 21; refine (refusedH_any _ _).mono ?_; rintro e w' ⟨rfl, rfl⟩) | (refine wpList_store_blk rfl _ (.tmp 4) (.tmp 19) rfl w.heap.size 0 [.int .i64 0, .int .i64 0, .string ⟨#[]⟩, .int .u32 0, .slice none 0 0, .slice none 0 0] (by rfl) (by rfl) (by kernel_rfl) (by simp [Value.oneCell']) 27 _ RW.out (by show 0 + 6 ≤ 6; decide) ?_; intro wz hCz hgz; refine stop ?_))
    refine Stopped.of ?_
    clear s0 s1 s2
    have C0 : Cells wz w.heap.size 27 [.int .i64 0, .int .i64 0, .string ⟨#[]⟩, .int .u32 0, .slice none 0 0, .slice none 0 0] := hCz
    have z0 := C0.cell 0
    have z1 := C0.cell 1
    have z2 := C0.cell 2
    have z3 := C0.cell 3
    have z4 := C0.cell 4
    have z5 := C0.cell 5
    simp only [List.getElem?_cons_zero, List.getElem?_cons_succ] at z0 z1 z2 z3 z4 z5
    have BZ := Lib.hid (BW.out.grown hgz BW.out.size (fun k hk => by cases hk; exact Nat.le_refl _))
    have EZ := Lib.hid (show ErrIs wz (.iface 91 (.pointer (some ⟨w2.heap.size, 0, none⟩))) [⟨hpL, 0, 5⟩] from ⟨w2.heap.size, .nilIface, rfl, (hgz.block w2.heap.size (by simp) (fun e => by have e := Option.some.inj e; have := R2.out.lt; omega)).trans (alloc_get _ _), rfl⟩)
    clear C0 hCz hgz
    go_wp2
    refine bodyPost_ret (v := .tuple #[.agg #[.int .i64 0, .int .i64 0, .string ⟨#[]⟩, .int .u32 0, .slice none 0 0, .slice none 0 0], .iface 91 (.pointer (some ⟨w2.heap.size, 0, none⟩))]) (by simp [results, Tryd.results11, go_sem, z0, z1, z2, z3, z4, z5]) rfl ?_
    rw [HR.out]
    exact ⟨[.int .i64 0, .int .i64 0, .string ⟨#[]⟩, .int .u32 0, .slice none 0 0, .slice none 0 0], _, rfl, EZ.out, (fun e => by cases e), BZ.out⟩
  have hb2 : ¬ (4096 : Int) < (sn.parts : Int) := by omega
  cases hbd : sn.bad with
  | true =>
    rw [hbd] at s2
    have HR := Lib.hid (show termTop h wd = (.mk 0 0 ⟨#[]⟩ 0 [] [], [⟨hpL, 0, 60⟩]) from by
      have e : toldS sn = [⟨hpL, 0, 60⟩] := by unfold toldS; rw [if_neg hb, hbd, if_pos rfl]
      rw [HTT.out, e, if_neg (by simp)])
    have RW := Lib.hid (R2.out.below ((Below.refl w2.heap.size w2).alloc (Nat.le_refl _) (.cells #[.string ⟨#[104, 101, 97, 112]⟩, .int .i64 0, .int .i64 60, .nilIface] 93 (0, 0))))
    have BW := Lib.hid (B2.out.alloc B2.out.size (.cells #[.string ⟨#[104, 101, 97, 112]⟩, .int .i64 0, .int .i64 60, .nilIface] 93 (0, 0)))
    go_wp2_with (first | (go_at_call 21; refine (refusedH_any _ _).mono ?_; rintro e w' ⟨rfl, rfl⟩) | (refine wpList_store_blk rfl _ (.tmp 4) (.tmp 24) rfl w.heap.size 0 [.int .i64 0, .int .i64 0, .string ⟨#[]⟩, .int .u32 0, .slice none 0 0, .slice none 0 0] (by rfl) (by rfl) (by kernel_rfl) (by simp [Value.oneCell']) 27 _ RW.out (by show 0 + 6 ≤ 6; decide) ?_; intro wz hCz hgz; refine stop ?_))
    refine Stopped.of ?_
    clear s0 s1 s2
    have C0 : Cells wz w.heap.size 27 [.int .i64 0, .int .i64 0, .string ⟨#[]⟩, .int .u32 0, .slice none 0 0, .slice none 0 0] := hCz
    have z0 := C0.cell 0
    have z1 := C0.cell 1
    have z2 := C0.cell 2
    have z3 := C0.cell 3
    have z4 := C0.cell 4
    have z5 := C0.cell 5
    simp only [List.getElem?_cons_zero, List.getElem?_cons_succ] at z0 z1 z2 z3 z4 z5
    have BZ := Lib.hid (BW.out.grown hgz BW.out.size (fun k hk => by cases hk; exact Nat.le_refl _))
    have EZ := Lib.hid (show ErrIs wz (.iface 91 (.pointer (some ⟨w2.heap.size, 0, none⟩))) [⟨hpL, 0, 60⟩] from ⟨w2.heap.size, .nilIface, rfl, (hgz.block w2.heap.size (by simp) (fun e => by have e := Option.some.inj e; have := R2.out.lt; omega)).trans (alloc_get _ _), rfl⟩)
    clear C0 hCz hgz
    go_wp2
    refine bodyPost_ret (v := .tuple #[.agg #[.int .i64 0, .int .i64 0, .string ⟨#[]⟩, .int .u32 0, .slice none 0 0, .slice none 0 0], .iface 91 (.pointer (some ⟨w2.heap.size, 0, none⟩))]) (by simp [results, Tryd.results11, go_sem, z0, z1, z2, z3, z4, z5]) rfl ?_
    rw [HR.out]
    exact ⟨[.int .i64 0, .int .i64 0, .string ⟨#[]⟩, .int .u32 0, .slice none 0 0, .slice none 0 0], _, rfl, EZ.out, (fun e => by cases e), BZ.out⟩
  | false =>
    rw [hbd] at s2
    by_cases hdp : 256 < sn.deep
    · have hdp2 : (256 : Int) < (sn.deep : Int) := by omega
      have HR := Lib.hid (show termTop h wd = (.mk 0 0 ⟨#[]⟩ 0 [] [], [⟨hpL, 0, 9⟩]) from by
        have e : toldS sn = [⟨hpL, 0, 9⟩] := by unfold toldS; rw [if_neg hb, hbd, if_neg (by simp), if_pos hdp]
        rw [HTT.out, e, if_neg (by simp)])
      have RW := Lib.hid (R2.out.below ((Below.refl w2.heap.size w2).alloc (Nat.le_refl _) (.cells #[.string ⟨#[104, 101, 97, 112]⟩, .int .i64 0, .int .i64 9, .nilIface] 93 (0, 0))))
      have BW := Lib.hid (B2.out.alloc B2.out.size (.cells #[.string ⟨#[104, 101, 97, 112]⟩, .int .i64 0, .int .i64 9, .nilIface] 93 (0, 0)))
      go_wp2_with (first | (go_at_call 21; refine (refusedH_any _ _).mono ?_; rintro e w' ⟨rfl, rfl⟩) | (refine wpList_store_blk rfl _ (.tmp 4) (.tmp 30) rfl w.heap.size 0 [.int .i64 0, .int .i64 0, .string ⟨#[]⟩, .int .u32 0, .slice none 0 0, .slice none 0 0] (by rfl) (by rfl) (by kernel_rfl) (by simp [Value.oneCell']) 27 _ RW.out (by show 0 + 6 ≤ 6; decide) ?_; intro wz hCz hgz; refine stop ?_))
      refine Stopped.of ?_
      clear s0 s1 s2
      have C0 : Cells wz w.heap.size 27 [.int .i64 0, .int .i64 0, .string ⟨#[]⟩, .int .u32 0, .slice none 0 0, .slice none 0 0] := hCz
      have z0 := C0.cell 0
      have z1 := C0.cell 1
      have z2 := C0.cell 2
      have z3 := C0.cell 3
      have z4 := C0.cell 4
      have z5 := C0.cell 5
      simp only [List.getElem?_cons_zero, List.getElem?_cons_succ] at z0 z1 z2 z3 z4 z5
      have BZ := Lib.hid (BW.out.grown hgz BW.out.size (fun k hk => by cases hk; exact Nat.le_refl _))
      have EZ := Lib.hid (show ErrIs wz (.iface 91 (.pointer (some ⟨w2.heap.size, 0, none⟩))) [⟨hpL, 0, 9⟩] from ⟨w2.heap.size, .nilIface, rfl, (hgz.block w2.heap.size (by simp) (fun e => by have e := Option.some.inj e; have := R2.out.lt; omega)).trans (alloc_get _ _), rfl⟩)
      clear C0 hCz hgz
      go_wp2
      refine bodyPost_ret (v := .tuple #[.agg #[.int .i64 0, .int .i64 0, .string ⟨#[]⟩, .int .u32 0, .slice none 0 0, .slice none 0 0], .iface 91 (.pointer (some ⟨w2.heap.size, 0, none⟩))]) (by simp [results, Tryd.results11, go_sem, z0, z1, z2, z3, z4, z5]) rfl ?_
      rw [HR.out]
      exact ⟨[.int .i64 0, .int .i64 0, .string ⟨#[]⟩, .int .u32 0, .slice none 0 0, .slice none 0 0], _, rfl, EZ.out, (fun e => by cases e), BZ.out⟩
    have hdp2 : ¬ (256 : Int) < (sn.deep : Int) := by omega
    have HR := Lib.hid (show termTop h wd = (termH h 4098 wd, []) from by
      have e : toldS sn = [] := by unfold toldS; rw [if_neg hb, hbd, if_neg (by simp), if_neg hdp]
      rw [HTT.out, e, if_pos rfl])
    have HCALL := Lib.hid (term_ind HZS.out 4098 wd 1 ⟨0, 0, false⟩ w2 HP2.out hwd (by decide) (by decide) (HFN2.out hb hbd))
    clear hbd
    go_wp2_with fail
    refine HCALL.out.mono ?_
    rintro e w3 ⟨vs3, rfl, ht3, hb3⟩
    have HT3 := Lib.hid ht3
    obtain ⟨_, nv3, a3, cap3, rfl, hnn3, _⟩ := ht3.parts
    obtain ⟨nb3, nd3, rfl, _, _⟩ := hnn3.slice
    have RW := Lib.hid (R2.out.below hb3)
    have BW := Lib.hid (B2.out.trans (hb3.mono B2.out.size))
    clear ht3 hnn3 hb3 s0 s1 s2
    generalize termH h 4098 wd = tt at *
    go_wp2_with (refine wpList_store_blk rfl _ (.tmp 4) (.tmp 34) rfl w.heap.size 0 [.int .i64 tt.kind, .int .i64 tt.int, .string tt.text, .int .u32 tt.cr, .slice nb3 tt.nums.length nd3, .slice a3 tt.args.length cap3] (by rfl) (by rfl) (by kernel_rfl) (by simp [Value.oneCell']) 27 _ RW.out (by show 0 + 6 ≤ 6; decide) ?_; intro wz hCz hgz; refine stop ?_)
    refine Stopped.of ?_
    have C0 : Cells wz w.heap.size 27 [.int .i64 tt.kind, .int .i64 tt.int, .string tt.text, .int .u32 tt.cr, .slice nb3 tt.nums.length nd3, .slice a3 tt.args.length cap3] := hCz
    have z0 := C0.cell 0
    have z1 := C0.cell 1
    have z2 := C0.cell 2
    have z3 := C0.cell 3
    have z4 := C0.cell 4
    have z5 := C0.cell 5
    simp only [List.getElem?_cons_zero, List.getElem?_cons_succ] at z0 z1 z2 z3 z4 z5
    have BZ := Lib.hid (BW.out.grown hgz BW.out.size (fun k hk => by cases hk; exact Nat.le_refl _))
    have TZ := Lib.hid (HT3.out.keep (S' := fun b => b = w.heap.size) ((Keep.refl _ _).grown hgz (fun k hk _ => by cases hk; rfl)) (fun b _ hb e => by have e : b = w.heap.size := e; have := R2.out.lt; omega))
    have LT := Lib.hid R2.out.lt
    clear C0 hCz hgz
    go_wp2
    refine bodyPost_ret (v := .tuple #[.agg #[.int .i64 tt.kind, .int .i64 tt.int, .string tt.text, .int .u32 tt.cr, .slice nb3 tt.nums.length nd3, .slice a3 tt.args.length cap3], .nilIface]) (by simp [results, Tryd.results11, go_sem, z0, z1, z2, z3, z4, z5]) rfl ?_
    rw [HR.out]
    exact ⟨[.int .i64 tt.kind, .int .i64 tt.int, .string tt.text, .int .u32 tt.cr, .slice nb3 tt.nums.length nd3, .slice a3 tt.args.length cap3], .nilIface, rfl, rfl, (fun _ => TZ.out.mono (fun b _ hb => by have := LT.out; omega)), BZ.out⟩
end Go.Proofs.YtkipjbmckpmmfaaDoor
end
section
/- Package heap: Cons, Tuple. -/
open Go Go.RowKit
namespace Go.Proofs.YtkipjbmckpmmfaaDoor
set_option linter.unusedVariables false
set_option linter.unusedSimpArgs false

def consTop (half : Nat) (a b : Nat) (h : Hs) : Nat × List Lk × Hs := if (half : Int) - h.l.length < 3 then (0, [⟨hpL, 0, 61⟩], h) else ((putH 1 [a, b] h).1, [], (putH 1 [a, b] h).2)
def tupTop (half : Nat) (ws : List Nat) (h : Hs) : Nat × List Lk × Hs := if 4096 < ws.length then (0, [⟨hpL, 0, 5⟩], h) else if (half : Int) - h.l.length < 1 + ws.length then (0, [⟨hpL, 0, 61⟩], h) else ((putH 2 ws h).1, [], (putH 2 ws h).2)
set_option maxHeartbeats 8000000 in
set_option maxRecDepth 100000 in
theorem cons_any {half : Nat} {h : Hs} {g : Nat} {F : Nat → Prop} (a b : Nat) (w : World) (hp : HpIs half h g F w) (ha : a < 18446744073709551616) (hb : b < 18446744073709551616) (hl : h.l.length ≤ half) :
    Calls Tryd.prog 14 #[.pointer (some ⟨g, 0, none⟩), .int .u64 a, .int .u64 b] w (LayTR half g F w (consTop half a b h)) := by
  have HP := Lib.hid hp
  have HM := Lib.hid (made_of hp)
  have HFR := Lib.hid (free_live hp)
  have HAB := Lib.hid (show ∀ q ∈ [a, b], q < 18446744073709551616 from by intro q hq; simp only [List.mem_cons, List.not_mem_nil, or_false] at hq; rcases hq with rfl | rfl; exact ha; exact hb)
  have hhf := hp.half_
  have HL := Lib.hid hl
  have HH := Lib.hid hhf
  clear hp hl ha hb hhf
  go_enter Tryd.func14, Tryd.ntmps14
  go_wp2_with fail
  refine HM.out.mono ?_
  rintro e w1 ⟨rfl, rfl⟩
  go_wp2_with fail
  refine HFR.out.mono ?_
  rintro e w2 ⟨rfl, n, rfl⟩
  by_cases hr : (half : Int) - h.l.length < 3
  · have HR := Lib.hid (show consTop half a b h = (0, [⟨hpL, 0, 61⟩], h) by unfold consTop; rw [if_pos hr])
    go_wp2_with (go_at_call 21; refine (refusedH_any _ _).mono ?_; rintro e w' ⟨rfl, rfl⟩)
    go_ret2
    rw [HR.out]
    exact ⟨_, rfl, ErrIs.one, HpRes.same (HP.out) |>.drewN n |> fun ⟨F', h1, h2, h3⟩ => ⟨F', h1.below ((Below.refl _ _).alloc (Nat.le_refl _) _), h2.alloc _, h3⟩⟩
  · have HR := Lib.hid (show consTop half a b h = ((putH 1 [a, b] h).1, [], (putH 1 [a, b] h).2) by unfold consTop; rw [if_neg hr])
    have BL := Lib.hid ((Below.refl (w.drewN n).heap.size (w.drewN n)).alloc (Nat.le_refl _) (.cells #[.int .u64 a, .int .u64 b] 34 (0, 0)))
    have LT := Lib.hid (lit_words_at (w := w.drewN n) [a, b] 2 rfl (by decide))
    have HPU := Lib.hid (putH_any ((HP.out.drewN n).below BL.out) 1 (by decide) [a, b] _ LT.out (fun q e hb => by have := (HP.out.nf q hb).1; have e : q = (w.drewN n).heap.size := e; have e2 : (w.drewN n).heap.size = w.heap.size := rfl; omega) HAB.out (by have := HL.out; have := HH.out; simp; omega))
    have BW := Lib.hid (below_drewN (Below.refl w.heap.size w) n)
    go_wp2_with fail
    refine HPU.out.mono ?_
    rintro e w3 ⟨rfl, hr3⟩
    have hr4 := HpRes.below BW.out (fun q hq => (HP.out.nf q hq).1) (HpRes.below BL.out (fun q hq => (HP.out.nf q hq).1) hr3)
    go_wp2
    go_ret2
    rw [HR.out]
    exact ⟨_, rfl, rfl, hr4⟩
set_option maxHeartbeats 8000000 in
set_option maxRecDepth 100000 in
theorem tuple_any {half : Nat} {h : Hs} {g : Nat} {F S : Nat → Prop} (ws : List Nat) (lv : Value) (w : World) (hp : HpIs half h g F w) (hlv : AtV S lv (wordsV ws) w) (hS : ∀ b, S b → b < w.heap.size ∧ ¬ F b) (hws : ∀ q ∈ ws, q < 18446744073709551616) (hl : h.l.length ≤ half) :
    Calls Tryd.prog 20 #[.pointer (some ⟨g, 0, none⟩), lv] w (LayTR half g F w (tupTop half ws h)) := by
  have HP := Lib.hid hp
  have HM := Lib.hid (made_of hp)
  have HFR := Lib.hid (free_live hp)
  have hhf := hp.half_
  have HL := Lib.hid hl
  have HH := Lib.hid hhf
  have HWS := Lib.hid hws
  have HLV := Lib.hid hlv
  have HS := Lib.hid hS
  obtain ⟨la, lc, rfl⟩ := hlv.form
  rw [wordsV_len] at *
  have hlen0 : (0 : Int) ≤ (ws.length : Int) := by omega
  clear hp hl hhf hlv hS hws
  by_cases hb : 4096 < ws.length
  · have hb2 : (4096 : Int) < (ws.length : Int) := by omega
    have HR := Lib.hid (show tupTop half ws h = (0, [⟨hpL, 0, 5⟩], h) by unfold tupTop; rw [if_pos hb])
    go_enter Tryd.func20, Tryd.ntmps20
    go_wp2_with (first | (go_at_call 22; refine HM.out.mono ?_; rintro e w' ⟨rfl, rfl⟩) | (go_at_call 21; refine (refusedH_any _ _).mono ?_; rintro e w' ⟨rfl, rfl⟩))
    go_ret2
    rw [HR.out]
    exact ⟨_, rfl, ErrIs.one, F, HP.out.below ((Below.refl _ _).alloc (Nat.le_refl _) _), (Keep.refl F w).alloc _, fun _ hb => .inl hb⟩
  · have hb2 : ¬ (4096 : Int) < (ws.length : Int) := by omega
    have hw1 : IntKind.i64.wrap (1 + (ws.length : Int)) = 1 + (ws.length : Int) := IntWalk.i64_in _ (by omega)
    go_enter Tryd.func20, Tryd.ntmps20
    go_wp2_with fail
    refine HM.out.mono ?_
    rintro e w1 ⟨rfl, rfl⟩
    go_wp2_with fail
    refine HFR.out.mono ?_
    rintro e w2 ⟨rfl, n, rfl⟩
    by_cases hr : (half : Int) - h.l.length < 1 + ws.length
    · have HR := Lib.hid (show tupTop half ws h = (0, [⟨hpL, 0, 61⟩], h) by unfold tupTop; rw [if_neg hb, if_pos hr])
      go_wp2_with (go_at_call 21; refine (refusedH_any _ _).mono ?_; rintro e w' ⟨rfl, rfl⟩)
      go_ret2
      rw [HR.out]
      exact ⟨_, rfl, ErrIs.one, F, (HP.out.drewN n).below ((Below.refl _ _).alloc (Nat.le_refl _) _), (Keep.drewN (Keep.refl F w) n).alloc _, fun _ hb => .inl hb⟩
    · have HR := Lib.hid (show tupTop half ws h = ((putH 2 ws h).1, [], (putH 2 ws h).2) by unfold tupTop; rw [if_neg hb, if_neg hr])
      have BW := Lib.hid (below_drewN (Below.refl w.heap.size w) n)
      have HP1 := Lib.hid (HP.out.drewN n)
      have HLV1 := Lib.hid (show AtV S (.slice la ws.length lc) (wordsV ws) (w.drewN n) from AtV.frame (w := w) (w' := w.drewN n) HLV.out (fun _ _ => rfl))
      have HZ1 := Lib.hid (show (w.drewN n).heap.size = w.heap.size from rfl)
      have HRM := Lib.hid hr
      go_wp2_with fail
      generalize w.drewN n = W1 at *
      go_loopw [6, 8, 29] (fun v xv i wr => ∃ kk : Nat, kk ≤ ws.length ∧ i = .int .i64 kk ∧ RowV W1.heap.size 34 v (wordsV (ws.take kk)) wr ∧ Below W1.heap.size W1 wr) (fun _ _ i _ => ws.length - (intOf i).toNat)
      case atStart => exact ⟨0, Nat.zero_le _, rfl, RowV.nil _ _ _, Below.refl _ _⟩
      case round =>
        obtain ⟨kk, hkk, rfl, hrow, hbr⟩ := hrel
        obtain ⟨va, vn, vc, rfl⟩ : ∃ a n c, u6 = .slice a n c := by obtain ⟨a, c, e⟩ := hrow.form; exact ⟨a, _, c, e⟩
        have HROW := Lib.hid hrow
        have HBR := Lib.hid hbr
        clear hrow hbr
        by_cases hk : kk < ws.length
        · have hki : (kk : Int) < (ws.length : Int) := by omega
          have hk0 : (0 : Int) ≤ (kk : Int) := by omega
          obtain ⟨g2, o2, rfl, hg2, hcs⟩ := AtV.cell (n := ws.length) HLV1.out (by intro e; have := congrArg List.length e; rw [wordsV_len, List.length_nil] at this; omega)
          have e0 := hcs kk (by rw [wordsV_len]; exact hk)
          rw [wordsV_get _ _ (by rw [wordsV_len]; exact hk)] at e0
          have hgx : ws.getD kk 0 = ws[kk] := by simp [List.getD, hk]
          rw [hgx] at e0
          have e1 := (HBR.out.cell (World.block_lt_of_cell? _ _ e0)).trans e0
          obtain ⟨a7, n7, c7, w7, hn7, hr7, hrow7, hg7, hob7⟩ := words_app (S := fun b => b = wr.heap.size) (HROW.out.alloc (.cells #[.int .u64 ws[kk]] 34 (0, 0))) (wordsV_one_at (w := wr) ws[kk]) (by simp; omega) (by have := HBR.out.size; simp; omega)
          have HR7 := Lib.hid hr7
          have HROW7 := Lib.hid (show RowV W1.heap.size 34 (.slice a7 n7 c7) (wordsV (ws.take (kk + 1))) w7 from by rw [List.take_succ_eq_append_getElem hk]; exact hrow7)
          have HB7 := Lib.hid ((HBR.out.alloc HBR.out.size (.cells #[.int .u64 ws[kk]] 34 (0, 0))).grown hg7 (by have := HBR.out.size; simp; omega) (fun k hk => (HROW.out.block hk).1))
          clear hcs hgx e0 hn7 hr7 hrow7 hg7 hob7
          generalize ws[kk] = x at *
          go_wp2_with (at_builtin; refine stop ?_)
          refine Stopped.of ?_
          refine wp_app_eq rfl (.tmp 33) (.tmp 35) _ _ rfl _ _ (.slice a7 n7 c7) w7 rfl rfl HR7.out ?_
          clear e1
          go_wp2
          go_roundw
          case rel => exact ⟨kk + 1, by omega, by go_num, HROW7.out, HB7.out⟩
          case measure => simp [intOf]; omega
        · have hki : ¬ (kk : Int) < (ws.length : Int) := by omega
          have HROWF := Lib.hid HROW.out
          rw [List.take_of_length_le (show ws.length ≤ kk by omega)] at HROWF
          have HPU := Lib.hid (putH_any (HP1.out.below HBR.out) 2 (by decide) ws _ HROWF.out.at_ (fun b hb e => by have := (HROWF.out.block hb).1; have := (HP1.out.nf b e).1; omega) HWS.out (by have := HL.out; have := HH.out; omega))
          go_wp2_with fail
          refine HPU.out.mono ?_
          rintro e w3 ⟨rfl, hr3⟩
          have hr4 := HpRes.below BW.out (fun q hq => (HP.out.nf q hq).1) (HpRes.below HBR.out (fun q hq => (HP1.out.nf q hq).1) hr3)
          go_wp2
          go_ret2
          rw [HR.out]
          exact ⟨_, rfl, rfl, hr4⟩
end Go.Proofs.YtkipjbmckpmmfaaDoor
end
section
/- Layer 3, plain: what a collection copies. No function of the program is looked at here. -/
open Go Go.RowKit
namespace Go.Proofs.YtkipjbmckpmmfaaDoor
set_option linter.unusedVariables false
set_option linter.unusedSimpArgs false

/-- what is copied, and where each word is now -/
structure Cp where
  to_ : List Nat
  ks : List (Nat × Nat)
def lookC (ks : List (Nat × Nat)) (w : Nat) : Option Nat := (ks.find? (fun p => p.1 == w)).map (·.2)
def wordC (h : Hs) (w : Nat) (c : Cp) : Nat × Cp :=
  if (objS h w).1 = 0 then (w, c)
  else match lookC c.ks w with
  | some x => (x, c)
  | none => (c.to_.length * 4, ⟨c.to_ ++ ((objS h w).1 + 256 * (objS h w).2.length) :: (objS h w).2, c.ks ++ [(w, c.to_.length * 4)]⟩)
def rootsC (h : Hs) : List Nat → Cp → List Nat × Cp
  | [], c => ([], c)
  | w :: r, c => ((wordC h w c).1 :: (rootsC h r (wordC h w c).2).1, (rootsC h r (wordC h w c).2).2)
/-- n words from k on are turned -/
def bodyC (h : Hs) : Nat → Nat → Cp → Cp
  | _, 0, c => c
  | k, n + 1, c => bodyC h (k + 1) n ⟨(wordC h (c.to_.getD k 0) c).2.to_.set k (wordC h (c.to_.getD k 0) c).1, (wordC h (c.to_.getD k 0) c).2.ks⟩
def stepC (h : Hs) (at_ : Nat) (c : Cp) : Cp := if c.to_.getD at_ 0 % 256 ≤ 2 then bodyC h (at_ + 1) (c.to_.getD at_ 0 / 256) c else c
def scanC (h : Hs) : Nat → Nat → Cp → Cp
  | 0, _, c => c
  | f + 1, at_, c => if at_ < c.to_.length then scanC h f (at_ + 1 + c.to_.getD at_ 0 / 256) (stepC h at_ c) else c
/-- Collect: where the roots are now, and the words that are kept -/
def collectC (h : Hs) (roots : List Nat) : List Nat × Hs :=
  ((rootsC h roots ⟨[], []⟩).1, ⟨(scanC h (h.l.length + 1) 0 (rootsC h roots ⟨[], []⟩).2).to_, h.at_⟩)
theorem alive_collect : collectC ⟨[513, 5, 3, 514, 0, 0], []⟩ [12] = ([0], ⟨[514, 12, 12, 513, 5, 3], []⟩) := by rfl
end Go.Proofs.YtkipjbmckpmmfaaDoor
end
section
/- Package heap: a copier's word. -/
open Go Go.RowKit
namespace Go.Proofs.YtkipjbmckpmmfaaDoor
set_option linter.unusedVariables false
set_option linter.unusedSimpArgs false

/-- block cg is a copier of the heap in block g; what it owns lies in blocks of G -/
structure CpIs (g cg : Nat) (c : Cp) (G : Nat → Prop) (w : World) : Prop where
  ex : ∃ tv mb, Cells w cg 83 [.pointer (some ⟨g, 0, none⟩), tv, .map (some mb)] ∧ RowV 0 34 tv (wordsV c.to_) w ∧ MapW mb c.ks.length (lookC c.ks) w ∧ G cg ∧ G mb ∧ (∀ b, tv.ownBlock = some b → G b)
  word : ∀ x ∈ c.to_, x < 18446744073709551616
  len : c.to_.length ≤ 1099511627776
  klen : c.ks.length ≤ 1099511627776
  nf : ∀ b, G b → b < w.heap.size
theorem CpIs.drewN {g cg : Nat} {c : Cp} {G : Nat → Prop} {w : World} (h : CpIs g cg c G w) (n : Nat) : CpIs g cg c G (w.drewN n) := by
  obtain ⟨⟨tv, mb, h1, h2, h3, h4, h5, h6⟩, a, b, d, e⟩ := h
  exact ⟨⟨tv, mb, h1, h2.drewN n, h3.drewN n, h4, h5, h6⟩, a, b, d, e⟩
def CpRes (g cg : Nat) (G : Nat → Prop) (w : World) (c2 : Cp) (w' : World) : Prop := ∃ G', CpIs g cg c2 G' w' ∧ Keep G w w' ∧ ∀ b, G' b → G b ∨ w.heap.size ≤ b
theorem lookC_snoc (ks : List (Nat × Nat)) (w x : Nat) (h : lookC ks w = none) : lookC (ks ++ [(w, x)]) = mapSetW (lookC ks) w x := by
  funext k
  unfold mapSetW lookC
  rw [List.find?_append]
  by_cases e : k = w
  · subst e
    unfold lookC at h
    rw [Option.map_eq_none_iff] at h
    rw [h, if_pos rfl]
    simp
  · rw [if_neg e]
    have : [(w, x)].find? (fun p => p.1 == k) = none := by simp [Ne.symm e]
    rw [this]
    cases List.find? (fun p => p.1 == k) ks <;> simp
set_option maxHeartbeats 8000000 in
set_option maxRecDepth 100000 in
theorem wordC_any {half : Nat} {h : Hs} {g cg : Nat} {F G : Nat → Prop} {c : Cp} {w : World} (hp : HpIs half h g F w) (hc : CpIs g cg c G w) (hG : ∀ b, G b → ¬ F b) (wd : Nat) (hwd : wd < 18446744073709551616) (hlen : c.to_.length + 1 + h.l.length ≤ 1099511627776) (hkl : c.ks.length < 1099511627776)
    (hlk : ∀ k x, lookC c.ks k = some x → x < 18446744073709551616) :
    Calls Tryd.prog 31 #[.pointer (some ⟨cg, 0, none⟩), .int .u64 wd] w fun e w' => e = .returned (.int .u64 ((wordC h wd c).1 : Nat)) ∧ CpRes g cg G w (wordC h wd c).2 w' := by
  have HP := Lib.hid hp
  have HC := Lib.hid hc
  have HOB := Lib.hid (object_any hp wd hwd)
  have hk4 := objS_le4 h wd
  have HRL := Lib.hid (show (objS h wd).2.length ≤ h.l.length from by
    rcases objS_cases h wd with ⟨_, e⟩ | ⟨_, _, _, _, _, _, _, e⟩
    · rw [e]; simp
    · rw [e, List.length_take, List.length_drop]; omega)
  have HRW := Lib.hid (objS_word (h := h) (w := wd) hp.word)
  obtain ⟨⟨tv, mb, h1, h2, h3, h4, h5, h6⟩, hcw, hcl, hck, hcn⟩ := hc
  have c0 := h1.cell 0
  have c1 := h1.cell 1
  have c2 := h1.cell 2
  simp only [List.getElem?_cons_zero, List.getElem?_cons_succ] at c0 c1 c2
  have hlook := h3.look wd hwd
  obtain ⟨k, hk⟩ : ∃ k, (objS h wd).1 = k := ⟨_, rfl⟩
  obtain ⟨r, hr⟩ : ∃ r, (objS h wd).2 = r := ⟨_, rfl⟩
  have HOK := Lib.hid (show objS h wd = (k, r) from by rw [← hk, ← hr])
  rw [HOK.out] at HOB
  rw [hr] at HRL HRW
  rw [hk] at hk4
  clear hk hr
  have H1 := Lib.hid h1
  have H2 := Lib.hid h2
  have H3 := Lib.hid h3
  have H4 := Lib.hid h4
  have H5 := Lib.hid h5
  have H6 := Lib.hid h6
  have HCW := Lib.hid hcw
  have HCN := Lib.hid hcn
  have HGF := Lib.hid hG
  have HLEN := Lib.hid hlen
  have HKL := Lib.hid hkl
  have HLK := Lib.hid hlk
  clear h1 h2 h3 h4 h5 h6 hcw hcn hcl hck hG hlen hkl hlk hp
  by_cases h0 : k = 0
  · subst h0
    have HR := Lib.hid (show wordC h wd c = (wd, c) by unfold wordC; rw [HOK.out, if_pos rfl])
    go_enter Tryd.func31, Tryd.ntmps31
    go_wp2_with fail
    refine HOB.out.mono ?_
    rintro e w2 ⟨lw, rfl, hat, n, rfl⟩
    go_wp2
    go_ret
    rw [HR.out]
    exact ⟨rfl, G, HC.out.drewN n, Keep.drewN (Keep.refl _ _) n, fun b hb => .inl hb⟩
  have hki : ((k : Int) == 0) = false := by simp; omega
  have hki2 : ¬ (k : Int) = 0 := by omega
  cases hl : lookC c.ks wd with
  | some x =>
    rw [hl] at hlook
    have HR := Lib.hid (show wordC h wd c = (x, c) by unfold wordC; rw [HOK.out, if_neg h0, hl])
    have HLX := Lib.hid hl
    clear hl
    go_enter Tryd.func31, Tryd.ntmps31
    go_wp2_with fail
    refine HOB.out.mono ?_
    rintro e w2 ⟨lw, rfl, hat, n, rfl⟩
    have d2 : (w.drewN n).cell? ⟨cg, 2, none⟩ = some (.map (some mb)) := c2
    have hlook2 := (H3.out.drewN n).look wd hwd
    rw [HLX.out] at hlook2
    clear c0 c1 c2 hlook
    go_wp2
    go_ret
    rw [HR.out]
    exact ⟨rfl, G, HC.out.drewN n, Keep.drewN (Keep.refl _ _) n, fun b hb => .inl hb⟩
  | none =>
    rw [hl] at hlook
    have HR := Lib.hid (show wordC h wd c = (c.to_.length * 4, ⟨c.to_ ++ (k + 256 * r.length) :: r, c.ks ++ [(wd, c.to_.length * 4)]⟩) by unfold wordC; rw [HOK.out, if_neg h0, hl])
    have HLN := Lib.hid hl
    clear hl
    go_enter Tryd.func31, Tryd.ntmps31
    go_wp2_with fail
    refine HOB.out.mono ?_
    rintro e w2 ⟨lw, rfl, hat, n, rfl⟩
    dsimp only at hat
    have hat2 : AtV F lw (wordsV r) (w.drewN n) := AtV.frame (w := w) (w' := w.drewN n) hat (fun _ _ => rfl)
    obtain ⟨ra, rc, rfl⟩ := hat.form
    rw [wordsV_len] at hat hat2 ⊢
    have h1 : Cells (w.drewN n) cg 83 [.pointer (some ⟨g, 0, none⟩), tv, .map (some mb)] := H1.out.drewN n
    have h2 := H2.out.drewN n
    have h3 := H3.out.drewN n
    have K0 := Lib.hid (show Keep G w (w.drewN n) from Keep.drewN (Keep.refl _ _) n)
    have d1 : (w.drewN n).cell? ⟨cg, 1, none⟩ = some tv := c1
    have d2 : (w.drewN n).cell? ⟨cg, 2, none⟩ = some (.map (some mb)) := c2
    have hlook2 := h3.look wd hwd
    rw [HLN.out] at hlook2
    have hlen := HLEN.out
    have hrl := HRL.out
    have HSZ := Lib.hid (show (w.drewN n).heap.size = w.heap.size from rfl)
    clear c0 c1 c2 hlook hat
    generalize w.drewN n = W2 at *
    obtain ⟨ta, tc, rfl⟩ := h2.form
    have hor := or8 k r.length (by omega) (by omega)
    have hX := Lib.hid (show k + 256 * r.length < 18446744073709551616 by omega)
    generalize hXe : k + 256 * r.length = X at *
    have HXE := Lib.hid hXe
    obtain ⟨w5, hrun5, hm5, hg5⟩ := h3.set_ wd hwd (c.to_.length * 4) (by omega) (by have := HKL.out; unfold maxLen; omega)
    have hcast : ((c.to_.length * 4 : Nat) : Int) = (c.to_.length : Int) * 4 := by omega
    rw [hcast] at hrun5
    rw [← lookC_snoc _ _ _ HLN.out] at hm5
    have nmc : mb ≠ cg := fun e => h3.ne_cells h1 e.symm
    have ntm : ∀ b, (Value.slice ta (wordsV c.to_).length tc).ownBlock = some b → b ≠ mb := fun b hb e => by
      obtain ⟨_, _, cur, hcur⟩ := h2.block hb
      exact h3.ne_cells hcur e
    have ntc := h2.ne_cells h1 (by decide)
    have C5 := h1.grown hg5 (fun e => nmc (Option.some.inj e))
    have R5 := h2.frame (w' := w5) (fun b hb => hg5.block b (h2.block hb).2.1 (fun e => ntm b hb (Option.some.inj e)))
    have K5 : Keep G w w5 := K0.out.grown hg5 (fun q hq _ => by cases hq; exact H5.out)
    have A5 : AtV F (.slice ra r.length rc) (wordsV r) w5 := (hat2.mono (S' := fun b => F b ∧ b < W2.heap.size) (fun b hb hs => ⟨hs, hb⟩)).frame (w' := w5) (fun b hb => hg5.block b hb.2 (fun e => by have e := Option.some.inj e; rw [e] at hb; exact HGF.out mb H5.out hb.1)) |>.mono (fun _ _ hs => hs.1)
    have B6 := (Below.refl w5.heap.size w5).alloc (Nat.le_refl _) (.cells #[.int .u64 X] 34 (0, 0))
    have K6 : Keep G w (w5.alloc (.cells #[.int .u64 X] 34 (0, 0))) := K5.alloc _
    obtain ⟨a1, n1, c1', w6, hn1, hr1, hrow1, hg1, hob1⟩ := words_app (R5.below B6) (wordsV_one_at (w := w5) X) (by simp; omega) (Nat.zero_le _)
    have K7 : Keep G w w6 := K6.grown hg1 (fun q hq _ => H6.out q hq)
    have hF1 : ∀ b, F b → b < w.heap.size ∧ ¬ G b := fun b hb => ⟨(HP.out.nf b hb).1, fun e => HGF.out b e hb⟩
    have A6 : AtV F (.slice ra r.length rc) (wordsV r) w6 := ((A5.below B6).mono (S' := fun b => F b ∧ b < w.heap.size) (fun b _ hs => ⟨hs, (hF1 b hs).1⟩)).frame (w' := w6) (fun b hb => hg1.block b (by have := K6.size; omega) (fun e => (hF1 b hb.1).2 (H6.out b e.symm))) |>.mono (fun _ _ hs => hs.1)
    obtain ⟨a2, n2, c2', w7, hn2, hr2, hrow2, hg2, hob2⟩ := words_app hrow1 A6 (by simp; omega) (Nat.zero_le _)
    have hob1' : ∀ b, (Value.slice a1 n1 c1').ownBlock = some b → G b ∨ w.heap.size ≤ b := fun b hb => by
      rcases hob1 with e1 | e1
      · rw [e1] at hb; exact .inl (H6.out b hb)
      · rw [e1] at hb; cases hb; have := K5.size; simp; omega
    have HOB2 := Lib.hid (show ∀ b, (Value.slice a2 n2 c2').ownBlock = some b → G b ∨ w.heap.size ≤ b from fun b hb => by
      rcases hob2 with e | e
      · rw [e] at hb; exact hob1' b hb
      · rw [e] at hb; cases hb; exact .inr K7.size)
    have K8 := Lib.hid (show Keep G w w7 from K7.trans ((Keep.refl (fun k => G k ∨ w.heap.size ≤ k) w6).grown hg2 (fun q hq _ => hob1' q hq)) (fun i hi hf => by rcases hf with e | e; exact e; omega))
    have L2 := Lib.hid hrow2
    have C6 := (C5.below B6).grown hg1 ntc
    have n1c := hrow1.ne_cells C6 (by decide)
    have C7 := Lib.hid (C6.grown hg2 n1c)
    have n2c := hrow2.ne_cells C7.out (by decide)
    have M7 := Lib.hid (show MapW mb (c.ks.length + 1) (lookC (c.ks ++ [(wd, c.to_.length * 4)])) w7 from (hm5.frame (w' := w6) ((hg1.block mb (by have := hm5.lt; simp; omega) (fun e => ntm mb e.symm rfl)).trans (B6.block mb hm5.lt))).frame (hg2.block mb (by have := hm5.lt; have := hg1.size; simp at this; omega) (fun e => by
      rcases hob1 with e1 | e1
      · rw [e1] at e; exact ntm mb e.symm rfl
      · rw [e1] at e; have := hm5.lt; injection e with e; simp at e; omega)))
    have HNC := Lib.hid nmc
    have f1 := C7.out.frozen 1
    have q1 := C7.out.cell 1
    have q5 := C5.cell 1
    simp only [List.getElem?_cons_zero, List.getElem?_cons_succ] at q1 q5
    have hwl : IntKind.u64.wrap (c.to_.length : Int) = (c.to_.length : Int) := IntWalk.u64_in _ (by omega)
    rw [wordsV_len] at d1 hr1 q1 q5
    clear h1 h2 h3 hat2 hm5 hg5 nmc ntm ntc C5 R5 K5 A5 B6 K6 hn1 hrow1 hg1 hob1 K7 hF1 A6 hrow2 hg2 hob2 hob1' C6 n1c hn2 hXe
    go_wp2_with (at_builtin; refine stop ?_)
    refine Stopped.of ?_
    refine wp_app_eq rfl (.tmp 50) (.tmp 58) _ _ rfl _ _ (.slice a1 n1 c1') w6 rfl rfl hr1 ?_
    go_wp2_with (at_builtin; refine stop ?_)
    refine Stopped.of ?_
    refine wp_app_eq rfl (.tmp 59) (.tmp 60) _ _ rfl _ _ (.slice a2 n2 c2') w7 rfl rfl hr2 ?_
    clear hr1 hr2 q5 d1 d2
    go_wp2
    go_ret
    have CF := C7.out.set_ 1 (.slice a2 n2 c2')
    have LF := L2.out.frame (w' := w7.setCell ⟨cg, 1, none⟩ (.slice a2 n2 c2')) (fun b hb => Below.heap_setCell _ _ _ _ (fun e => n2c (by rw [hb, e])))
    have MF := M7.out.frame (w' := w7.setCell ⟨cg, 1, none⟩ (.slice a2 n2 c2')) (Below.heap_setCell _ _ _ _ HNC.out)
    have KF := K8.out.setCell (p := ⟨cg, 1, none⟩) (fun _ => H4.out) (.slice a2 n2 c2')
    have hlen := HLEN.out
    have hrl := HRL.out
    have hkl := HKL.out
    rw [HR.out]
    refine ⟨rfl, fun b => b = cg ∨ b = mb ∨ (Value.slice a2 n2 c2').ownBlock = some b, ⟨⟨.slice a2 n2 c2', mb, CF, ?_, ?_, .inl rfl, .inr (.inl rfl), fun b hb => .inr (.inr hb)⟩, ?_, ?_, ?_, ?_⟩, KF, ?_⟩
    · show RowV 0 34 _ (wordsV (c.to_ ++ X :: r)) _
      rw [show c.to_ ++ X :: r = c.to_ ++ [X] ++ r by simp]
      exact LF
    · show MapW mb (c.ks ++ [(wd, c.to_.length * 4)]).length _ _
      rw [List.length_append, List.length_singleton]
      exact MF
    · intro x hx
      have hx : x ∈ c.to_ ++ X :: r := hx
      rcases List.mem_append.1 hx with hx | hx
      · exact HCW.out x hx
      · rcases List.mem_cons.1 hx with rfl | hx
        · exact hX.out
        · exact HRW.out x hx
    · show (c.to_ ++ X :: r).length ≤ _
      simp; omega
    · show (c.ks ++ [(wd, c.to_.length * 4)]).length ≤ _
      simp; omega
    · rintro b (rfl | rfl | hb)
      · exact CF.lt
      · exact MF.lt
      · exact (LF.block hb).2.1
    · rintro b (rfl | rfl | hb)
      · exact .inl H4.out
      · exact .inl H5.out
      · exact HOB2.out b hb
end Go.Proofs.YtkipjbmckpmmfaaDoor
end
section
/- Layer 3, plain: what a collection copies is a row of objects. No function of the program is looked at here. -/
open Go Go.RowKit
namespace Go.Proofs.YtkipjbmckpmmfaaDoor
set_option linter.unusedVariables false
set_option linter.unusedSimpArgs false

theorem nodup_lt : ∀ (n : Nat) (l : List Nat), l.Nodup → (∀ x ∈ l, x < n) → l.length ≤ n
  | 0, l, _, h => by
    cases l with
    | nil => simp
    | cons x r => exact absurd (h x (by simp)) (by omega)
  | n + 1, l, hn, h => by
    by_cases hm : n ∈ l
    · have h1 := nodup_lt n (l.erase n) (hn.erase n) (fun x hx => by
        have hx2 := (hn.mem_erase_iff).1 hx
        have := h x hx2.2
        have := hx2.1
        omega)
      rw [List.length_erase_of_mem hm] at h1
      omega
    · have := nodup_lt n l hn (fun x hx => by
        have := h x hx
        have : x ≠ n := fun e => hm (e ▸ hx)
        omega)
      omega
/-- the words of objects: header and body each -/
def flatO (os : List (Nat × List Nat)) : List Nat := os.flatMap fun o => o.1 :: o.2
theorem flatO_app (a b : List (Nat × List Nat)) : flatO (a ++ b) = flatO a ++ flatO b := by unfold flatO; rw [List.flatMap_append]
theorem flatO_cons (o : Nat × List Nat) (b : List (Nat × List Nat)) : flatO (o :: b) = o.1 :: (o.2 ++ flatO b) := by unfold flatO; rw [List.flatMap_cons]; rfl
structure OkO (L : Nat) (o : Nat × List Nat) : Prop where
  n : o.1 / 256 = o.2.length
  k : o.1 % 256 ≤ 4
  l : o.2.length + 1 ≤ L
  h64 : o.1 < 18446744073709551616
  b64 : ∀ x ∈ o.2, x < 18446744073709551616
theorem flatO_len (L : Nat) : ∀ (os : List (Nat × List Nat)), (∀ o ∈ os, OkO L o) → (flatO os).length ≤ os.length * L
  | [], _ => by simp [flatO]
  | o :: r, h => by
    have h1 := flatO_len L r (fun x hx => h x (List.mem_cons_of_mem _ hx))
    have h2 := (h o (List.mem_cons_self ..)).l
    rw [flatO_cons]
    simp only [List.length_cons, List.length_append]
    rw [Nat.add_mul]
    omega
/-- a copier that is in order -/
structure CpOk (h : Hs) (os : List (Nat × List Nat)) (c : Cp) : Prop where
  to_ : c.to_ = flatO os
  each : ∀ o ∈ os, OkO h.l.length o
  cnt : os.length = c.ks.length
  nd : (c.ks.map (·.1)).Nodup
  key : ∀ p ∈ c.ks, (objS h p.1).1 ≠ 0
  val : ∀ p ∈ c.ks, p.2 < 18446744073709551616
theorem CpOk.empty (h : Hs) : CpOk h [] ⟨[], []⟩ := ⟨rfl, (fun o ho => by cases ho), rfl, List.Pairwise.nil, (fun p hp => by cases hp), fun p hp => by cases hp⟩
theorem CpOk.ks_le {h : Hs} {os : List (Nat × List Nat)} {c : Cp} (ok : CpOk h os c) : c.ks.length ≤ h.l.length := by
  have hk : ∀ p ∈ c.ks, p.1 % 4 = 0 ∧ p.1 / 4 < h.l.length := fun p hp => by
    rcases objS_cases h p.1 with ⟨e, _⟩ | ⟨e1, e2, _⟩
    · exact absurd e (ok.key p hp)
    · exact ⟨e1, e2⟩
  have h1 : (c.ks.map (fun p => p.1 / 4)).Nodup := by
    have h0 := ok.nd
    unfold List.Nodup at h0 ⊢
    rw [List.pairwise_map] at h0 ⊢
    refine h0.imp_of_mem (fun {a b} ha hb hab e => hab ?_)
    have := (hk a ha).1
    have := (hk b hb).1
    omega
  have h2 := nodup_lt h.l.length _ h1 (fun x hx => by
    obtain ⟨p, hp, rfl⟩ := List.mem_map.1 hx
    exact (hk p hp).2)
  simpa using h2
theorem CpOk.len {h : Hs} {os : List (Nat × List Nat)} {c : Cp} (ok : CpOk h os c) (hl : h.l.length ≤ 524288) : c.to_.length ≤ 274877906944 := by
  rw [ok.to_]
  have h1 := flatO_len _ os ok.each
  have h2 := ok.ks_le
  rw [← ok.cnt] at h2
  have h3 : os.length * h.l.length ≤ 524288 * 524288 := Nat.mul_le_mul (by omega) hl
  omega
theorem CpOk.word {h : Hs} {os : List (Nat × List Nat)} {c : Cp} (ok : CpOk h os c) : ∀ x ∈ c.to_, x < 18446744073709551616 := by
  rw [ok.to_]
  intro x hx
  obtain ⟨o, ho, hx⟩ := List.mem_flatMap.1 hx
  rcases List.mem_cons.1 hx with rfl | hx
  · exact (ok.each o ho).h64
  · exact (ok.each o ho).b64 x hx
theorem lookC_mem {ks : List (Nat × Nat)} {w x : Nat} (h : lookC ks w = some x) : (w, x) ∈ ks := by
  unfold lookC at h
  obtain ⟨p, hp, rfl⟩ := Option.map_eq_some_iff.1 h
  have h1 := List.find?_some hp
  have h2 := List.mem_of_find?_eq_some hp
  have h3 : p.1 = w := by simpa using h1
  rw [← h3]; exact h2
theorem lookC_none {ks : List (Nat × Nat)} {w : Nat} (h : lookC ks w = none) : w ∉ ks.map (·.1) := by
  unfold lookC at h
  rw [Option.map_eq_none_iff, List.find?_eq_none] at h
  intro hw
  obtain ⟨p, hp, rfl⟩ := List.mem_map.1 hw
  exact h p hp (by simp)
theorem CpOk.look {h : Hs} {os : List (Nat × List Nat)} {c : Cp} (ok : CpOk h os c) (k x : Nat) (hx : lookC c.ks k = some x) : x < 18446744073709551616 := ok.val _ (lookC_mem hx)
/-- behind one word -/
theorem wordC_ok {h : Hs} {os : List (Nat × List Nat)} {c : Cp} (ok : CpOk h os c) (hw : ∀ x ∈ h.l, x < 18446744073709551616) (hl : h.l.length ≤ 524288) (w : Nat) (hwd : w < 18446744073709551616) :
    ∃ ext, CpOk h (os ++ ext) (wordC h w c).2 ∧ (wordC h w c).1 < 18446744073709551616 := by
  have hlen := ok.len hl
  unfold wordC
  by_cases h0 : (objS h w).1 = 0
  · rw [if_pos h0]
    exact ⟨[], by simpa using ok, hwd⟩
  · rw [if_neg h0]
    cases hk : lookC c.ks w with
    | some x => exact ⟨[], by simpa using ok, ok.look w x hk⟩
    | none =>
      have hL : (objS h w).2.length + 1 ≤ h.l.length := by
        rcases objS_cases h w with ⟨e, _⟩ | ⟨_, c2, _, _, c5, _, _, e⟩
        · exact absurd e h0
        · rw [e, List.length_take, List.length_drop]; omega
      have hk4 : (objS h w).1 ≤ 4 := by
        rcases objS_cases h w with ⟨e, _⟩ | ⟨_, _, _, e, _, _, _, e2⟩
        · omega
        · rw [e2]; exact e
      have hb : ∀ x ∈ (objS h w).2, x < 18446744073709551616 := fun x hx => by
        rcases objS_cases h w with ⟨_, e⟩ | ⟨_, _, _, _, _, _, _, e⟩
        · rw [e] at hx; cases hx
        · rw [e] at hx; exact hw x (List.mem_of_mem_drop (List.mem_of_mem_take hx))
      refine ⟨[((objS h w).1 + 256 * (objS h w).2.length, (objS h w).2)], ⟨?_, ?_, ?_, ?_, ?_, ?_⟩, ?_⟩
      · show c.to_ ++ _ = _
        rw [flatO_app, ← ok.to_, flatO_cons]
        simp [flatO]
      · intro o ho
        rcases List.mem_append.1 ho with ho | ho
        · exact ok.each o ho
        · rw [List.mem_singleton] at ho
          subst ho
          exact ⟨by dsimp only; omega, by dsimp only; omega, hL, by dsimp only; omega, hb⟩
      · show _ = (c.ks ++ [_]).length
        simp [ok.cnt]
      · show ((c.ks ++ [(w, c.to_.length * 4)]).map (·.1)).Nodup
        rw [List.map_append, List.nodup_append]
        refine ⟨ok.nd, by simp, ?_⟩
        intro a ha b hb2 e
        simp at hb2
        subst hb2
        exact lookC_none hk (e ▸ ha)
      · intro p hp
        rcases List.mem_append.1 hp with hp | hp
        · exact ok.key p hp
        · rw [List.mem_singleton] at hp; subst hp; exact h0
      · intro p hp
        rcases List.mem_append.1 hp with hp | hp
        · exact ok.val p hp
        · rw [List.mem_singleton] at hp; subst hp; dsimp only; omega
      · dsimp only; omega
/-- one word of a body is turned -/
theorem CpOk.set_ {h : Hs} {pre post : List (Nat × List Nat)} {x y z : Nat} {b1 b2 : List Nat} {c : Cp} (ok : CpOk h (pre ++ (x, b1 ++ y :: b2) :: post) c) (hz : z < 18446744073709551616) {k : Nat} (hk : k = (flatO pre).length + 1 + b1.length) :
    CpOk h (pre ++ (x, b1 ++ z :: b2) :: post) ⟨c.to_.set k z, c.ks⟩ := by
  subst hk
  refine ⟨?_, fun o ho => ?_, by rw [← ok.cnt]; simp, ok.nd, ok.key, ok.val⟩
  · show c.to_.set _ z = _
    rw [ok.to_, flatO_app, flatO_cons, flatO_app, flatO_cons]
    rw [List.set_append, if_neg (by omega), show (flatO pre).length + 1 + b1.length - (flatO pre).length = b1.length + 1 by omega, List.set_cons_succ]
    simp only [List.append_assoc, List.cons_append]
    rw [List.set_append, if_neg (by omega), Nat.sub_self, List.set_cons_zero]
  · rcases List.mem_append.1 ho with ho | ho
    · exact ok.each o (List.mem_append_left _ ho)
    · rcases List.mem_cons.1 ho with rfl | ho
      · have h1 := ok.each (x, b1 ++ y :: b2) (by simp)
        refine ⟨by have := h1.n; simpa using this, h1.k, by have := h1.l; simpa using this, h1.h64, ?_⟩
        intro q hq
        rcases List.mem_append.1 hq with hq | hq
        · exact h1.b64 q (List.mem_append_left _ hq)
        · rcases List.mem_cons.1 hq with rfl | hq
          · exact hz
          · exact h1.b64 q (List.mem_append_right _ (List.mem_cons_of_mem _ hq))
      · exact ok.each o (List.mem_append_right _ (List.mem_cons_of_mem _ ho))
/-- the word at a place of a body -/
theorem CpOk.at_ {h : Hs} {pre post : List (Nat × List Nat)} {x y : Nat} {b1 b2 : List Nat} {c : Cp} (ok : CpOk h (pre ++ (x, b1 ++ y :: b2) :: post) c) {k : Nat} (hk : k = (flatO pre).length + 1 + b1.length) : c.to_.getD k 0 = y ∧ k < c.to_.length := by
  subst hk
  rw [ok.to_, flatO_app, flatO_cons]
  constructor
  · rw [List.getD, List.getElem?_append_right (by omega), show (flatO pre).length + 1 + b1.length - (flatO pre).length = b1.length + 1 by omega, List.getElem?_cons_succ]
    simp
  · simp; omega
/-- the header of the next object -/
theorem CpOk.head {h : Hs} {pre post : List (Nat × List Nat)} {o : Nat × List Nat} {c : Cp} (ok : CpOk h (pre ++ o :: post) c) : c.to_.getD (flatO pre).length 0 = o.1 ∧ (flatO pre).length < c.to_.length ∧ o.1 / 256 = o.2.length ∧ (flatO pre).length + 1 + o.2.length ≤ c.to_.length := by
  have h1 := (ok.each o (by simp)).n
  refine ⟨?_, ?_, h1, ?_⟩
  · rw [ok.to_, flatO_app, flatO_cons, List.getD, List.getElem?_append_right (Nat.le_refl _), Nat.sub_self]; simp
  · rw [ok.to_, flatO_app, flatO_cons]; simp
  · rw [ok.to_, flatO_app, flatO_cons]; simp; omega
end Go.Proofs.YtkipjbmckpmmfaaDoor
end
