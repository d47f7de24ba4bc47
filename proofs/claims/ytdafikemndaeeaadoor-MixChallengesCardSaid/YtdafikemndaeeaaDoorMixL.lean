/- The law MixChallenges: the walk. -/
import Derived.Test.YtdafikemndaeeaaDoorMixK
open Go Go.RowKit
namespace Go.Proofs.YtdafikemndaeeaaDoor

def advN : Nat → Int → Int
  | 0, s => s
  | k + 1, s => adv (advN k s)
theorem GenIs.touch {b b' : Nat} {s n : Int} {w w' : World} (h : GenIs b s n w) (ht : Touch b' w w') (hb : b ≠ b') : GenIs b s n w' := by
  unfold GenIs at *; rw [ht.block b hb]; exact h
theorem RGenIs.touch {b b' : Nat} {s n : Int} {w w' : World} (h : RGenIs b s n w) (ht : Touch b' w w') (hb : b ≠ b') : RGenIs b s n w' := by
  unfold RGenIs at *; rw [ht.block b hb]; exact h
theorem GenIs.alloc {b : Nat} {s n : Int} {w : World} (h : GenIs b s n w) (o : Obj) : GenIs b s n (w.alloc o) := by
  unfold GenIs at *; rw [Below.heap_alloc w o b (Array.getElem?_eq_some_iff.1 h).1]; exact h

set_option maxHeartbeats 4000000 in
set_option maxRecDepth 100000 in
theorem challenges_walk (s : Int) (n : Nat) (w : World) (hn : n < 65536) (hP : Pow10 w) :
    Calls Tryd.prog 7 #[.int .u64 s, .int .u16 n] w fun e w' => e = .returned (.bool true) ∧ Below w.heap.size w w' := by
  have HA := fun w1 (h : Below w.heap.size w w1) => Lib.hid (alive07 w1 (hP.below h))
  go_enter Tryd.func7, Tryd.ntmps7
  go_wp2_with fail
  refine (new_any _ _).mono ?_
  rintro e w1 ⟨rfl, rfl⟩
  go_wp2_with fail
  refine (new_any _ _).mono ?_
  rintro e w2 ⟨rfl, rfl⟩
  have G1 : GenIs w.heap.size s 0 ((w.alloc (.cells #[.bool true, .int .u64 s, .int .i64 0] 86 (0, 0))).alloc (.cells #[.bool true, .int .u64 s, .int .i64 0] 86 (0, 0))) := (show GenIs _ _ _ _ from alloc_get w _).alloc _
  have G2 : GenIs (w.heap.size + 1) s 0 ((w.alloc (.cells #[.bool true, .int .u64 s, .int .i64 0] 86 (0, 0))).alloc (.cells #[.bool true, .int .u64 s, .int .i64 0] 86 (0, 0))) := by
    have := alloc_get (w.alloc (.cells #[.bool true, .int .u64 s, .int .i64 0] 86 (0, 0))) (.cells #[.bool true, .int .u64 s, .int .i64 0] 86 (0, 0))
    simpa [GenIs] using this
  have B2 : Below w.heap.size w ((w.alloc (.cells #[.bool true, .int .u64 s, .int .i64 0] 86 (0, 0))).alloc (.cells #[.bool true, .int .u64 s, .int .i64 0] 86 (0, 0))) := ((Below.refl _ w).alloc (Nat.le_refl _) _).alloc (by simp) _
  have S2 : ((w.alloc (.cells #[.bool true, .int .u64 s, .int .i64 0] 86 (0, 0))).alloc (.cells #[.bool true, .int .u64 s, .int .i64 0] 86 (0, 0))).heap.size = w.heap.size + 2 := by simp
  go_wp2_with fail
  have G3 : RGenIs (w.heap.size + 2) s 0 (((w.alloc (.cells #[.bool true, .int .u64 s, .int .i64 0] 86 (0, 0))).alloc (.cells #[.bool true, .int .u64 s, .int .i64 0] 86 (0, 0))).alloc (.cells #[.int .u64 s, .int .i64 0] 48 (0, 0))) := by
    have := alloc_get ((w.alloc (.cells #[.bool true, .int .u64 s, .int .i64 0] 86 (0, 0))).alloc (.cells #[.bool true, .int .u64 s, .int .i64 0] 86 (0, 0))) (.cells #[.int .u64 s, .int .i64 0] 48 (0, 0))
    rw [S2] at this
    exact this
  have G1' := G1.alloc (.cells #[.int .u64 s, .int .i64 0] 48 (0, 0))
  have G2' := G2.alloc (.cells #[.int .u64 s, .int .i64 0] 48 (0, 0))
  have B3 := B2.alloc B2.size (.cells #[.int .u64 s, .int .i64 0] 48 (0, 0))
  clear G1 G2 B2 S2
  go_loopw [8] (fun i wr => ∃ k : Nat, k ≤ n % 2000 ∧ i = .int .i64 k ∧ GenIs w.heap.size (advN k s) k wr ∧ GenIs (w.heap.size + 1) (advN k s) k wr ∧ RGenIs (w.heap.size + 2) (advN k s) k wr ∧ Below w.heap.size w wr) (fun i _ => n % 2000 - (intOf i).toNat)
  case atStart => exact ⟨0, Nat.zero_le _, rfl, G1', G2', G3, B3⟩
  case round =>
    obtain ⟨k, hk, rfl, g1, g2, g3, hbw⟩ := hrel
    by_cases hlt : k < n % 2000
    · have hki : (k : Int) < (n : Int) % 2000 := by omega
      have hk2 : k ≤ 2000 := by omega
      go_wp2_with fail
      refine (next_any _ _ _ _ g1 hk2).mono ?_
      rintro e w1 ⟨rfl, h1, t1⟩
      have g2 := g2.touch t1 (by omega)
      have g3 := g3.touch t1 (by omega)
      have hbw := Touch.below hbw t1 (Nat.le_refl _)
      go_wp2_with fail
      refine (next_any _ _ _ _ g2 hk2).mono ?_
      rintro e w2 ⟨rfl, h2, t2⟩
      have h1 := h1.touch t2 (by omega)
      have g3 := g3.touch t2 (by omega)
      have hbw := Touch.below hbw t2 (by omega)
      go_wp2_with fail
      refine (nextR_any _ _ _ _ g3 hk2).mono ?_
      rintro e w3 ⟨rfl, h3, t3⟩
      have h1 := h1.touch t3 (by omega)
      have h2 := h2.touch t3 (by omega)
      have hbw := Touch.below hbw t3 (by omega)
      have c3 : w3.cell? ⟨w.heap.size + 2, 1, none⟩ = some (.int .i64 (k + 1 : Nat)) := cell_of_block h3 1
      have HCO := Lib.hid (fun m => count_any _ _ _ (w3.drewN m) (show GenIs _ _ _ (w3.drewN m) from h1))
      have H1 := Lib.hid h1
      have H2 := Lib.hid h2
      have H3 := Lib.hid h3
      have HB := Lib.hid hbw
      clear h1 h2 h3 g1 g2 g3 hbw t1 t2 t3
      go_wp2
      go_quiet ((go_at_call 30; with_reducible refine Calls.quiet_of_same (HCO.out _)))
      go_wp2
      go_roundw
      case rel => exact ⟨k + 1, by omega, by simp, H1.out, H2.out, H3.out, below_drewN HB.out _⟩
      case measure => simp [intOf]; omega
    · have hki : ¬ (k : Int) < (n : Int) % 2000 := by omega
      go_wp2_with fail
      refine (HA _ hbw).out.mono ?_
      rintro e w4 ⟨rfl, hb4⟩
      go_wp2
      go_ret
      exact ⟨rfl, hbw.trans (hb4.mono hbw.size)⟩
end Go.Proofs.YtdafikemndaeeaaDoor
