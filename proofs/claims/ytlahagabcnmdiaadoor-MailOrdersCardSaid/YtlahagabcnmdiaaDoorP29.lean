/- Texts laid together: MaM, MaN, R16. -/
import Derived.Test.YtlahagabcnmdiaaDoorP20
import Derived.Test.YtlahagabcnmdiaaDoorP26
section
/- heddlelaw17: MailDeadlines, plain: what waiting comes to. -/
open Go Go.RowKit
namespace Go.Proofs.YtlahagabcnmdiaaDoor
set_option linter.unusedVariables false

theorem int_at (S : Nat → Prop) (w : World) (k : Int) (h0 : 0 ≤ k) (h1 : k ≤ 4294967296) : TmAt S (intT k) [.int .i64 1, .int .i64 k, .string ⟨#[]⟩, .int .u32 0, .slice none 0 0, .slice none 0 0] w := by
  unfold intT
  rw [TmAt]
  refine ⟨by constructor <;> first | decide | omega, .slice none 0 0, none, 0, rfl, ?_, by simp [maxLen], by simp, ?_⟩
  · exact ⟨none, 0, rfl, ⟨Nat.le_refl _, by simp⟩, by simp [maxLen], fun i hi => absurd hi (Nat.not_lt_zero _)⟩
  · rw [ArgsAt]; trivial
def bxD (due : Int) : Bx := ⟨[], 0, true, due⟩
theorem clock_ok {now : Int} (h0 : 0 ≤ now) (h1 : now ≤ 1099511627776) : clockM now = true := by
  unfold clockM; rw [decide_eq_true h0, decide_eq_true h1]; rfl
/-- the first wait -/
theorem wait_first {now k : Int} (h0 : 0 ≤ now) (h1 : now ≤ 4294967295) (h2 : 0 ≤ k) (h3 : k ≤ 4294967295) :
    waitM Bx.zero now (intT k) = if k = 0 then (false, [], Bx.zero) else (true, [], bxD (now + k)) := by
  unfold waitM
  rw [clock_ok h0 (by omega), if_neg (by simp), longM_int h2 (by omega)]
  unfold waitR comeM
  by_cases hk : k = 0
  · rw [if_pos hk]
    simp [hk]; rfl
  · rw [if_neg hk]
    simp [hk, Bx.zero, bxD]
/-- a wait with a deadline set -/
theorem wait_set {at_ k due : Int} (h0 : 0 ≤ at_) (h1 : at_ ≤ 1099511627776) (h2 : 0 < k) (h3 : k ≤ 4294967296) :
    waitM (bxD due) at_ (intT k) = if at_ < due then (true, [], bxD due) else (false, [], Bx.zero) := by
  unfold waitM
  rw [clock_ok h0 h1, if_neg (by simp), longM_int (by omega) (by omega)]
  unfold waitR comeM bxD
  by_cases hk : at_ < due
  · have : ¬ due ≤ at_ := by omega
    simp [hk, this, show k ≠ 0 by omega]
  · have : due ≤ at_ := by omega
    simp [hk, this]; rfl
theorem expire_ahead {due : Int} (h0 : 0 < due) (h1 : due ≤ 1099511627776) : expireM (bxD due) (due - 1) = (false, [], bxD due) := by
  unfold expireM
  rw [clock_ok (by omega) (by omega), if_neg (by simp)]
  unfold comeM bxD
  simp [show ¬ due ≤ due - 1 by omega]
theorem expire_then {due : Int} (h0 : 0 < due) (h1 : due ≤ 1099511627776) : expireM (bxD due) due = (true, [], Bx.zero) := by
  unfold expireM
  rw [clock_ok (by omega) (by omega), if_neg (by simp)]
  unfold comeM bxD
  simp; rfl
/-- a row of numbers of two bytes -/
def Row16 (v : Value) (l : List Int) (w : World) : Prop := ∃ a c, v = .slice a l.length c ∧ (l.length ≤ c ∧ c ≤ maxLen) ∧ ∀ i (h : i < l.length), 0 ≤ l[i] ∧ l[i] ≤ 65535 ∧ ∃ g o, a = some ⟨g, o, none⟩ ∧ w.cell? ⟨g, o + i, none⟩ = some (.int .u16 l[i])
end Go.Proofs.YtlahagabcnmdiaaDoor
end
section
/- heddlelaw17: MailDeadlines. -/
open Go Go.RowKit
namespace Go.Proofs.YtlahagabcnmdiaaDoor
set_option linter.unusedVariables false
set_option linter.unusedSimpArgs false

theorem deadline_box {F : Nat → Prop} {g : Nat} {b : Bx} {w : World} (h : BxIs F g b w) : Calls Tryd.prog 22 #[.pointer (some ⟨g, 0, none⟩)] w fun e w' => e = .returned (.tuple #[.int .i64 b.due, .bool b.set]) ∧ Below w.heap.size w w' := by
  obtain ⟨lv, hC, hT, _⟩ := h.upd
  exact mDeadline_live w hC
set_option maxHeartbeats 8000000 in
set_option maxRecDepth 100000 in
theorem mailDeadlines_any (now wait again : Int) (lv : Value) (l : List Int) (w : World) (hn0 : 0 ≤ now) (hn1 : now ≤ 4294967295) (hk0 : 0 ≤ wait) (hk1 : wait ≤ 4294967295) (ha0 : 0 ≤ again) (ha1 : again ≤ 4294967295) (hl : Row16 lv l w) (hG : Gt w) :
    Calls Tryd.prog 5 #[.int .u32 now, .int .u32 wait, lv, .int .u32 again] w fun e w' => e = .returned (.bool true) ∧ Below w.heap.size w w' := by
  obtain ⟨la, lc, rfl, ⟨hlc, hlm⟩, hcell⟩ := hl
  have HG := Lib.hid hG
  have HL := Lib.hid hcell
  have HBX := Lib.hid (new_box w)
  have HB1 := Lib.hid ((Below.refl w.heap.size w).alloc (Nat.le_refl _) (.cells (bxV Bx.zero (.slice none 0 0)).toArray 59 (0, 0)))
  have HW := Lib.hid (wait_first hn0 hn1 hk0 hk1)
  clear hG hcell
  have k1 : IntKind.i64.wrap now = now := IntWalk.i64_in _ (by omega)
  have k2 : IntKind.i64.wrap wait = wait := IntWalk.i64_in _ (by omega)
  go_enter Tryd.func5, Tryd.ntmps5
  go_wp2_with fail
  refine (mNew_any w).mono ?_
  rintro e w1 ⟨rfl, rfl⟩
  generalize w.alloc (.cells (bxV Bx.zero (.slice none 0 0)).toArray 59 (0, 0)) = w1 at *
  go_wp2_with fail
  refine (mWait_live now (fun _ => False) (intT wait) _ _ HBX.out (int_at _ _ wait hk0 (by omega)) (fun _ h => h.elim) (HG.out.below HB1.out)).mono ?_
  rintro e w2 ⟨ev, rfl, he, hbx, hk⟩
  rw [HW.out] at he hbx ⊢
  have HB2 := Lib.hid (below_keep HB1.out hk HB1.out.size (fun _ h => h))
  by_cases hz : wait = 0
  · rw [if_pos hz] at he hbx ⊢
    replace he : ev = .nilIface := he
    subst he
    have BX2 := Lib.hid (show BxIs (fun q => w.heap.size ≤ q) w.heap.size Bx.zero w2 from hbx)
    have hz1 : ¬ (0 : Int) < wait := by omega
    clear hbx hk hz
    go_wp2_with fail
    refine (deadline_box BX2.out).mono ?_
    rintro e w3 ⟨rfl, hb3⟩
    have HB3 := Lib.hid (HB2.out.trans (hb3.mono HB2.out.size))
    clear hb3
    simp only [Bx.zero]
    go_wp2_with fail
    refine (alive_any _ (HG.out.below HB3.out)).mono ?_
    rintro e w4 ⟨rfl, hb4⟩
    have HB4 := Lib.hid (HB3.out.trans (hb4.mono HB3.out.size))
    clear hb4
    go_wp2
    go_ret
    exact ⟨rfl, HB4.out⟩
  · rw [if_neg hz] at he hbx ⊢
    replace he : ev = .nilIface := he
    subst he
    have BX2 := Lib.hid (show BxIs (fun q => w.heap.size ≤ q) w.heap.size (bxD (now + wait)) w2 from hbx)
    have hz1 : (0 : Int) < wait := by omega
    have k3 : IntKind.i64.wrap (now + wait) = now + wait := IntWalk.i64_in _ (by omega)
    clear hbx hk hz
    go_wp2_with fail
    go_loopw [15, 16] (fun x i wr => ∃ (kk : Nat) (at_ : Int), kk ≤ l.length ∧ kk ≤ 100 ∧ i = .int .i64 kk ∧ x = .int .i64 at_ ∧ 0 ≤ at_ ∧ at_ ≤ 4294967295 + 65535 * (kk : Int) ∧ BxIs (fun q => w.heap.size ≤ q) w.heap.size (bxD (now + wait)) wr ∧ Below w.heap.size w wr) (fun _ i _ => 100 - (intOf i).toNat)
    case atStart => exact ⟨0, now, Nat.zero_le _, Nat.zero_le _, rfl, rfl, hn0, by omega, BX2.out, HB2.out⟩
    case round =>
      obtain ⟨kk, at_, hkl, hkk, rfl, rfl, ht0, ht1, hbx, hbr⟩ := hrel
      have BXR := Lib.hid hbx
      have HBR := Lib.hid hbr
      clear hbx hbr
      by_cases hk : kk < l.length ∧ kk < 100
      · obtain ⟨hk1, hk2⟩ := hk
        obtain ⟨y0, y1, g1, o1, rfl, hc⟩ := HL.out kk hk1
        have hlt := World.block_lt_of_cell? w _ hc
        have hc2 := (HBR.out.cell (p := ⟨g1, o1 + kk, none⟩) hlt).trans hc
        have hki : (kk : Int) < (l.length : Int) := by omega
        have hkj : (kk : Int) < 100 := by omega
        have hk0 : (0 : Int) ≤ (kk : Int) := by omega
        have k4 : IntKind.i64.wrap l[kk] = l[kk] := IntWalk.i64_in _ (by omega)
        have k5 : IntKind.i64.wrap (at_ + l[kk]) = at_ + l[kk] := IntWalk.i64_in _ (by omega)
        have k6 : IntKind.i64.wrap again = again := IntWalk.i64_in _ (by omega)
        have k7 : IntKind.i64.wrap (again + 1) = again + 1 := IntWalk.i64_in _ (by omega)
        have HWS := Lib.hid (wait_set (at_ := at_ + l[kk]) (k := again + 1) (due := now + wait) (by omega) (by omega) (by omega) (by omega))
        clear hc hlt
        go_wp2_with fail
        refine (mWait_live (at_ + l[kk]) (fun _ => False) (intT (again + 1)) _ _ BXR.out (int_at _ _ (again + 1) (by omega) (by omega)) (fun _ h => h.elim) (HG.out.below HBR.out)).mono ?_
        rintro e w3 ⟨ev, rfl, he, hbx, hkp⟩
        rw [HWS.out] at he hbx ⊢
        have HB3 := Lib.hid (below_keep HBR.out hkp HBR.out.size (fun _ h => h))
        by_cases hd : at_ + l[kk] < now + wait
        · rw [if_pos hd] at he hbx ⊢
          replace he : ev = .nilIface := he
          subst he
          have BX3 := Lib.hid (show BxIs (fun q => w.heap.size ≤ q) w.heap.size (bxD (now + wait)) w3 from hbx)
          clear hbx hkp hc2
          go_wp2_with fail
          refine (deadline_box BX3.out).mono ?_
          rintro e w4 ⟨rfl, hb4⟩
          have HB4 := Lib.hid (HB3.out.trans (hb4.mono HB3.out.size))
          have BX4 := Lib.hid (BX3.out.below hb4)
          clear hb4
          simp only [bxD]
          go_wp2
          go_roundw
          case rel => exact ⟨kk + 1, at_ + l[kk], by omega, by omega, by go_num, rfl, by omega, by push_cast; omega, BX4.out, HB4.out⟩
          case measure => simp [intOf]; omega
        · rw [if_neg hd] at he hbx ⊢
          replace he : ev = .nilIface := he
          subst he
          have BX3 := Lib.hid (show BxIs (fun q => w.heap.size ≤ q) w.heap.size Bx.zero w3 from hbx)
          clear hbx hkp hc2
          go_wp2_with fail
          refine (deadline_box BX3.out).mono ?_
          rintro e w4 ⟨rfl, hb4⟩
          have HB4 := Lib.hid (HB3.out.trans (hb4.mono HB3.out.size))
          clear hb4
          simp only [Bx.zero]
          go_wp2_with fail
          refine (alive_any _ (HG.out.below HB4.out)).mono ?_
          rintro e w5 ⟨rfl, hb5⟩
          have HB5 := Lib.hid (HB4.out.trans (hb5.mono HB4.out.size))
          clear hb5
          go_wp2
          go_ret
          exact ⟨rfl, HB5.out⟩
      · have hx : ((kk : Int) < (l.length : Int) ∧ ¬ (kk : Int) < 100) ∨ ¬ (kk : Int) < (l.length : Int) := by omega
        have k8 : IntKind.i64.wrap (now + wait - 1) = now + wait - 1 := IntWalk.i64_in _ (by omega)
        have hdue : 0 < now + wait := by omega
        have HE1 := Lib.hid (expire_ahead (due := now + wait) hdue (by omega))
        have HE2 := Lib.hid (expire_then (due := now + wait) hdue (by omega))
        clear hk hkl hkk
        rcases hx with ⟨hki, hkj⟩ | hki
        all_goals
          go_wp2_with fail
          refine (mExpire_live (now + wait - 1) _ BXR.out).mono ?_
          rintro e w3 ⟨ev, rfl, he, hbx, hkp⟩
          rw [HE1.out] at he hbx ⊢
          replace he : ev = .nilIface := he
          subst he
          have BX3 := Lib.hid (show BxIs (fun q => w.heap.size ≤ q) w.heap.size (bxD (now + wait)) w3 from hbx)
          have HB3 := Lib.hid (below_keep HBR.out hkp HBR.out.size (fun _ h => h))
          clear hbx hkp
          go_wp2_with fail
          refine (mExpire_live (now + wait) _ BX3.out).mono ?_
          rintro e w4 ⟨ev, rfl, he, hbx, hkp⟩
          rw [HE2.out] at he hbx ⊢
          replace he : ev = .nilIface := he
          subst he
          have HB4 := Lib.hid (below_keep HB3.out hkp HB3.out.size (fun _ h => h))
          clear hbx hkp
          go_wp2_with fail
          refine (alive_any _ (HG.out.below HB4.out)).mono ?_
          rintro e w5 ⟨rfl, hb5⟩
          have HB5 := Lib.hid (HB4.out.trans (hb5.mono HB4.out.size))
          clear hb5
          go_wp2
          go_ret
          exact ⟨rfl, HB5.out⟩
end Go.Proofs.YtlahagabcnmdiaaDoor
end
section
/- A row of numbers of two bytes, handed in: what it gives a walk. -/
open Go Go.RowKit Go.ChangeShapes Go.WideShapes Go.ChangeAt Go.Joins Go.Deep
namespace Go.Proofs.YtlahagabcnmdiaaDoor
set_option maxRecDepth 100000 in
theorem row16_open {H : Type} {enc : TypeId × Value → H} {W : World} {v : Value} {d : DataW H} {ps : List MemPlace} {r : Reach} {b0 : Nat} (hval : Value.okWide Tryd.prog W r b0 50 v)
    (h : DataW.Trod enc Tryd.prog W 0 (fun _ => true) true 50 v d ps) (hsz : ∀ n ∈ d.weights Tryd.prog 50, n ≤ reachBytes) :
    (∃ l, Row16 v l W) ∧ ∀ x ∈ ps, x.block < W.heap.size := by
  obtain ⟨a0, len0, cap0, rfl⟩ := okWide_slice Tryd.underlying50 hval
  obtain ⟨fuel, hf⟩ := h
  have hf : DataW.trod enc Tryd.prog W 0 (fun _ => true) true fuel 50 [.slice a0 len0 cap0] = some (d, ps) := by simpa [Value.cells] using hf
  have c5 : Tryd.prog.cellsOf 55 = 1 := by kernel_rfl
  rcases open_ints Tryd.underlying50 Tryd.underlying55 c5 hf with ⟨hcs, hx⟩ | ⟨a, len, cap, zs, hcs, _, hl, hm, hz, hx, hcell, hwz⟩
  · simp only [List.cons.injEq, and_true] at hcs
    rw [hcs]
    cases hx
    exact ⟨⟨[], none, 0, rfl, ⟨Nat.le_refl _, Nat.zero_le _⟩, fun i h => absurd h (Nat.not_lt_zero _)⟩, fun x hx => by cases hx⟩
  simp only [List.cons.injEq, and_true] at hcs
  rw [hcs]
  cases hx
  simp only [if_true] at hz
  obtain ⟨b, off, spot⟩ := a
  have hlz : len ≤ zs.length := by omega
  have hll : (zs.take len).length = len := by rw [List.length_take]; omega
  refine ⟨⟨zs.take len, some ⟨b, off, spot⟩, cap, by rw [hll], ⟨by rw [hll]; exact hl, hm⟩, fun j hj => ?_⟩, ?_⟩
  · rw [hll] at hj
    have hspot : spot = none := by simpa [Addr.add] using World.cell?_spot (hcell 0 (by omega))
    subst hspot
    have hc := hcell j (by omega)
    rw [Lib.add_plain] at hc
    have hzj : zs.getD j 0 = zs[j]'(by omega) := by simp [List.getD, show j < zs.length by omega]
    have hw := hwz _ (List.getElem_mem (show j < zs.length by omega))
    simp [Lit.wf, IntKind.min, IntKind.max, IntKind.signed, IntKind.bits] at hw
    rw [hzj] at hc
    have hg : (zs.take len)[j]'(by rw [hll]; exact hj) = zs[j]'(by omega) := by simp
    rw [hg]
    exact ⟨by omega, by omega, b, off, rfl, hc⟩
  · intro x hx
    obtain ⟨j, hj, rfl⟩ := MemPlace.mem_row.1 hx
    have hspot : spot = none := by simpa [Addr.add] using World.cell?_spot (hcell 0 (by omega))
    subst hspot
    have hc := hcell j (by omega)
    rw [Lib.add_plain] at hc
    exact World.block_lt_of_cell? W ⟨b, off + j, none⟩ hc
theorem row16_row : 50 < Tryd.prog.types.size := by rw [show Tryd.prog.types.size = 232 by kernel_rfl]; decide
end Go.Proofs.YtlahagabcnmdiaaDoor
end
