/- Texts laid together: MaQ. -/
import Derived.Test.YtlahagabcnmdiaaDoorP31
import Derived.Test.YtlahagabcnmdiaaDoorP20
import Derived.RangeFuncBound
import Derived.OwnWalkIn
import Derived.TacticsInMore
import Derived.LoopNIn
import Derived.LoopIn
section
/- Package mail: messages, the rounds of All. -/
open Go Go.RowKit
namespace Go.Proofs.YtlahagabcnmdiaaDoor
set_option linter.unusedVariables false
set_option linter.unusedSimpArgs false

/-- the values of a row's elements -/
theorem TsIs.vals {base : Nat} {S : Nat → Prop} {v : Value} {l : List Tm} {w : World} (h : TsIs base S v l w) :
    ∃ vss : Nat → List Value, ∀ i (hi : i < l.length), ∃ k c, v = .slice (some ⟨k, 0, none⟩) l.length c ∧ (∀ j, j < 6 → w.cell? ⟨k, i * 6 + j, none⟩ = (vss i)[j]?) ∧ TmAt S l[i] (vss i) w := by
  have h1 : ∀ i, ∃ vs : List Value, ∀ (hi : i < l.length), ∃ k c, v = .slice (some ⟨k, 0, none⟩) l.length c ∧ (∀ j, j < 6 → w.cell? ⟨k, i * 6 + j, none⟩ = vs[j]?) ∧ TmAt S l[i] vs w := by
    intro i
    by_cases hi : i < l.length
    · rcases h.shape with ⟨_, hn⟩ | ⟨k, c, rfl, _⟩
      · rw [hn] at hi; exact absurd hi (Nat.not_lt_zero _)
      · obtain ⟨vs, h1, h2⟩ := h.at_ i hi
        exact ⟨vs, fun _ => ⟨k, c, rfl, h1, h2⟩⟩
    · exact ⟨[], fun h => absurd h hi⟩
  exact ⟨fun i => Classical.choose (h1 i), fun i => Classical.choose_spec (h1 i)⟩
set_option maxHeartbeats 4000000 in
set_option maxRecDepth 100000 in
theorem messages1_in (g Bm l : Nat) (b : Bx) (a : Option Addr) (c : Nat) (S : Nat → Prop) (vss : Nat → List Value) (J : Nat → World → Prop) (w : World) (hlen : b.l.length ≤ 4096)
    (hC : Cells w g 59 (bxV b (.slice a b.l.length c))) (hM : ∀ k W, J k W → Cells W Bm 23 [.pointer (some ⟨g, 0, none⟩)])
    (hV : ∀ i (hi : i < b.l.length), ∃ k c', Value.slice a b.l.length c = .slice (some ⟨k, 0, none⟩) b.l.length c' ∧ (∀ j, j < 6 → w.cell? ⟨k, i * 6 + j, none⟩ = (vss i)[j]?) ∧ TmAt S b.l[i] (vss i) w)
    (hJB : ∀ k W, J k W → Below w.heap.size w W) (hJb : ∀ k W W', J k W → Below W.heap.size W W' → J k W') (W : World) (h0 : J 0 W)
    (hY : ∀ k W, k < b.l.length → J k W → YieldAt Fence.wide 0 Tryd.prog l #[.agg (vss k).toArray] W fun e W' => e = .returned (.bool true) ∧ J (k + 1) W') :
    CallsIn Fence.wide 0 Tryd.prog 55 (#[.func (.yield l) #[] #[]] ++ #[.pointer (some ⟨Bm, 0, none⟩)]) W fun e W' => (∃ v, e = .returned v) ∧ J b.l.length W' := by
  have HJB := Lib.hid hJB
  have HJb := Lib.hid hJb
  have HY := Lib.hid hY
  have HV := Lib.hid hV
  have HC := Lib.hid hC
  have HM := Lib.hid hM
  have H0 := Lib.hid h0
  have m0 := (HM.out _ _ H0.out).cell 0
  have c1 := (HC.out.below (HJB.out _ _ H0.out)).cell 1
  simp only [bxV, List.getElem?_cons_zero, List.getElem?_cons_succ] at m0 c1
  clear hJB hJb hY hV hC hM h0
  refine callsIn_of_wp Tryd.func55 rfl trivial ?_ rfl
  simp only [Tryd.ntmps55, List.size_toArray, List.length_cons, List.length_nil, Nat.reduceAdd, Nat.reduceSub, Array.replicate_succ, Array.replicate_zero, List.push_toArray, List.append_toArray, List.nil_append, List.cons_append]
  gi_wp2
  clear m0 c1
  gi_loopw [10] (fun p wr => ∃ k : Nat, k ≤ b.l.length ∧ p = .int .i64 k ∧ J k wr) (fun p _ => b.l.length - (intOf p).toNat)
  case atStart => exact ⟨0, Nat.zero_le _, rfl, H0.out⟩
  case round =>
    obtain ⟨k, hk, rfl, hJ⟩ := hrel
    have HJ := Lib.hid hJ
    clear hJ
    by_cases hlt : k < b.l.length
    · obtain ⟨row, c', hv, hcs, ht⟩ := HV.out k hlt
      cases hv
      obtain ⟨_, nv, a2, cap2, hvs, hnn, _⟩ := ht.parts
      obtain ⟨na2, nc2, rfl, _, _⟩ := hnn.slice
      rw [hvs] at hcs
      have HB := Lib.hid (HJB.out _ _ HJ.out)
      have e0 := hcs 0 (by decide)
      have e1 := hcs 1 (by decide)
      have e2 := hcs 2 (by decide)
      have e3 := hcs 3 (by decide)
      have e4 := hcs 4 (by decide)
      have e5 := hcs 5 (by decide)
      simp only [List.getElem?_cons_zero, List.getElem?_cons_succ, Nat.add_zero] at e0 e1 e2 e3 e4 e5
      have hrow := World.block_lt_of_cell? w _ e0
      replace e0 := (HB.out.cell (p := ⟨row, k * 6, none⟩) hrow).trans e0
      replace e1 := (HB.out.cell (p := ⟨row, k * 6 + 1, none⟩) hrow).trans e1
      replace e2 := (HB.out.cell (p := ⟨row, k * 6 + 2, none⟩) hrow).trans e2
      replace e3 := (HB.out.cell (p := ⟨row, k * 6 + 3, none⟩) hrow).trans e3
      replace e4 := (HB.out.cell (p := ⟨row, k * 6 + 4, none⟩) hrow).trans e4
      replace e5 := (HB.out.cell (p := ⟨row, k * 6 + 5, none⟩) hrow).trans e5
      have hY := HY.out k (wr.alloc (.cells #[.int .i64 b.l[k].kind, .int .i64 b.l[k].int, .string b.l[k].text, .int .u32 b.l[k].cr, .slice na2 b.l[k].nums.length nc2, .slice a2 b.l[k].args.length cap2] 30 (0, 0))) hlt (HJb.out _ _ _ HJ.out ((Below.refl _ _).alloc (Nat.le_refl _) _))
      rw [hvs] at hY
      obtain ⟨fn, tmps, assign, body, hy, hR⟩ := hY
      have HR := Lib.hid hR
      have hki : (k : Int) < (b.l.length : Int) := by omega
      have hk0 : (0 : Int) ≤ (k : Int) := by omega
      have hk1 : (k : Int) ≤ 4096 := by omega
      clear hcs ht hnn hvs hR hrow
      gi_wp2
      refine ⟨rfl, ?_⟩
      refine HR.out.mono ?_
      rintro e W' ⟨rfl, hJ'⟩
      have HJ' := Lib.hid hJ'
      clear hJ' hy e0 e1 e2 e3 e4 e5
      gi_wp2
      go_roundw
      case rel => exact ⟨k + 1, by omega, by go_num, HJ'.out⟩
      case measure => simp [intOf]; omega
    · obtain rfl : k = b.l.length := by omega
      gi_wp2
      go_end0
      exact ⟨⟨_, rfl⟩, HJ.out⟩
theorem messages_any (g : Nat) (w : World) : Calls Tryd.prog 39 #[.pointer (some ⟨g, 0, none⟩)] w fun e w' => e = .returned (.func (.func 55) #[] #[.pointer (some ⟨w.heap.size, 0, none⟩)]) ∧ w' = w.alloc (.cells #[.pointer (some ⟨g, 0, none⟩)] 23 (0, 0)) := by
  go_enter Tryd.func39, Tryd.ntmps39
  go_wp2
  go_ret
  exact ⟨rfl, rfl⟩
end Go.Proofs.YtlahagabcnmdiaaDoor
end
