/- Texts laid together: MaOps. -/
import Derived.Test.YtlahagabcnmdiaaGreatDoorP29
import Derived.Test.YtlahagabcnmdiaaGreatDoorP27
section
/- heddlelaw17: a script handed in. -/
open Go Go.RowKit Go.ChangeShapes Go.WideShapes Go.ChangeAt Go.Joins Go.Deep
namespace Go.Proofs.YtlahagabcnmdiaaGreatDoor
/-- the cells of a call in a script -/
def MOpAt (W : World) (o : MOp) (cs : List Value) : Prop := ∃ vs, cs = [.int .i64 o.kind] ++ vs ++ [.int .i64 o.now] ∧ TmAt (fun _ => True) o.t vs W ∧ (-9223372036854775808 ≤ o.kind ∧ o.kind ≤ 9223372036854775807) ∧ (-9223372036854775808 ≤ o.now ∧ o.now ≤ 9223372036854775807)
set_option maxRecDepth 100000 in
theorem mop_cells {H : Type} {enc : TypeId × Value → H} {W : World} (n : Nat) (cs : List Value) (x : DataW H × List MemPlace) (h : DataW.trod enc Tryz.prog W 0 (fun _ => true) true n 37 cs = some x)
    (hsz : ∀ m ∈ x.1.weights Tryz.prog 37, m ≤ reachBytes) : ∃ o, MOpAt W o cs ∧ ∀ p ∈ x.2, p.block < W.heap.size := by
  have c8 : Tryz.prog.cellsOf 37 = 8 := by kernel_rfl
  have e1 : Tryz.prog.cellsOf 3 = 1 := by kernel_rfl
  have e6 : Tryz.prog.cellsOf 35 = 6 := by kernel_rfl
  obtain ⟨xs, m, rfl, hx, hlen, hxl, hg⟩ := DataW.trod_struct Tryz.underlying37 h
  rw [c8] at hlen
  match cs, hlen, xs, hxl with
  | [a0, a1, a2, a3, a4, a5, a6, a7], _, [y0, y1, y2], _ =>
    have g0 : DataW.trod enc Tryz.prog W 0 (fun _ => true) true m 3 (([a0, a1, a2, a3, a4, a5, a6, a7].drop 0).take (Tryz.prog.cellsOf 3)) = [y0, y1, y2][0]? := hg 0 _ rfl
    have g1 : DataW.trod enc Tryz.prog W 0 (fun _ => true) true m 35 (([a0, a1, a2, a3, a4, a5, a6, a7].drop 1).take (Tryz.prog.cellsOf 35)) = [y0, y1, y2][1]? := hg 1 _ rfl
    have g2 : DataW.trod enc Tryz.prog W 0 (fun _ => true) true m 3 (([a0, a1, a2, a3, a4, a5, a6, a7].drop 7).take (Tryz.prog.cellsOf 3)) = [y0, y1, y2][2]? := hg 2 _ rfl
    simp only [e1, e6, List.drop_zero, List.drop_succ_cons, List.take_succ_cons, List.take_zero, List.getElem?_cons_zero, List.getElem?_cons_succ] at g0 g1 g2
    obtain ⟨k, h0, rfl, w0⟩ := DataW.trod_int Tryz.underlying3 g0
    obtain ⟨i, h2, rfl, w2⟩ := DataW.trod_int Tryz.underlying3 g2
    subst hx
    have hnw : ∀ q ∈ y1.1.weights Tryz.prog 35, q ≤ reachBytes := fun q hq => hsz q (by
      rw [DataW.weights, Tryz.underlying37]
      simp [DataW.weightsEach, hq])
    obtain ⟨t, ht, hp⟩ := term_cells m m _ y1 (Nat.le_refl _) g1 hnw
    simp only [List.cons.injEq, and_true] at h0 h2
    subst h0 h2
    simp [Lit.wf, IntKind.min, IntKind.max, IntKind.signed, IntKind.bits] at w0 w2
    refine ⟨⟨k, t, i⟩, ⟨[a1, a2, a3, a4, a5, a6], rfl, ht, by show _ ≤ k ∧ k ≤ _; omega, by show _ ≤ i ∧ i ≤ _; omega⟩, fun p hp' => ?_⟩
    simp at hp'
    exact hp p hp'
set_option maxRecDepth 100000 in
theorem mops_open {H : Type} {enc : TypeId × Value → H} {W : World} {v : Value} {d : DataW H} {ps : List MemPlace} {r : Reach} {b0 : Nat} (hval : Value.okWide Tryz.prog W r b0 22 v)
    (h : DataW.Trod enc Tryz.prog W 0 (fun _ => true) true 22 v d ps) (hsz : ∀ n ∈ d.weights Tryz.prog 22, n ≤ reachBytes) :
    (∃ l, OpsM (fun b => b < W.heap.size) v l W) ∧ ∀ x ∈ ps, x.block < W.heap.size := by
  obtain ⟨a0, len0, cap0, rfl⟩ := okWide_slice Tryz.underlying22 hval
  obtain ⟨fuel, hf⟩ := h
  have hf : DataW.trod enc Tryz.prog W 0 (fun _ => true) true fuel 22 [.slice a0 len0 cap0] = some (d, ps) := by simpa [Value.cells] using hf
  obtain ⟨⟨l, a, cap, hv, h1, h2, h3⟩, hp⟩ := slice_all (sz := 8) (bys := 104) (MOpAt W) Tryz.underlying22 (by kernel_rfl) (by kernel_rfl) (by decide) hf hsz (fun n' e cs _ he hw => mop_cells n' cs e he hw)
  refine ⟨⟨l, a, cap, hv, h1, h2, fun i hi => ?_⟩, hp⟩
  obtain ⟨g, o, cs, ha, hcl, hc, vs, rfl, ht, hk, hn⟩ := h3 i hi
  have h6 := ht.six
  refine ⟨g, o, vs, ha, ?_, fun j hj => ?_, ?_, ht.mono (fun b hb _ => hb), hk.1, hk.2, hn.1, hn.2⟩
  · have := hc 0 (by decide); rw [Nat.add_zero] at this; rw [this]; rfl
  · rw [hc (1 + j) (by omega)]
    rw [List.append_assoc, List.getElem?_append_right (by simp), List.getElem?_append_left (by simp; omega)]
    simp
  · rw [hc 7 (by decide), List.getElem?_append_right (by simp; omega)]
    simp [h6]
theorem mops_row : 22 < Tryz.prog.types.size := by rw [show Tryz.prog.types.size = 279 by kernel_rfl]; decide
end Go.Proofs.YtlahagabcnmdiaaGreatDoor
end
