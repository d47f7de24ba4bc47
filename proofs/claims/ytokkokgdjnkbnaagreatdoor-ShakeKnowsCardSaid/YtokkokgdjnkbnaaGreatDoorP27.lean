/- Texts laid together: Pair. -/
import Derived.Test.YtokkokgdjnkbnaaGreatDoorP18
section
/- Peers, pairs, starts handed in by value: what they give a walk. -/
open Go Go.RowKit Go.ChangeShapes Go.WideShapes Go.ChangeAt Go.Joins Go.Deep
namespace Go.Proofs.YtokkokgdjnkbnaaGreatDoor

theorem sized_of {H : Type} {t : TypeId} {d : DataW H} {s : ByteArray} (hsz : ∀ n ∈ d.weights Tryz.prog t, n ≤ reachBytes) (h : s.data.toList.length ∈ d.weights Tryz.prog t) : s.size ≤ 140737488351232 := by
  have := hsz _ h
  simpa [reachBytes] using this
set_option maxRecDepth 100000 in
theorem peer_field {H : Type} {enc : TypeId × Value → H} {W : World} {n : Nat} {cs : List Value} {y : DataW H × List MemPlace} (hf : DataW.trod enc Tryz.prog W 0 (fun _ => true) true n 45 cs = some y) :
    ∃ (nm : ByteArray) (f c : Int), cs = [.string nm, .int .u64 f, .int .u32 c] ∧ y.2 = [] ∧ 0 ≤ f ∧ f < 18446744073709551616 ∧ 0 ≤ c ∧ c < 4294967296 ∧ nm.data.toList.length ∈ y.1.weights Tryz.prog 45 := by
  obtain ⟨xs, m, _, hx, hcl, hlen, hg⟩ := DataW.trod_struct Tryz.underlying45 hf
  rw [show Tryz.prog.cellsOf 45 = 3 by kernel_rfl] at hcl
  have e9 : Tryz.prog.cellsOf 9 = 1 := by kernel_rfl
  have e23 : Tryz.prog.cellsOf 23 = 1 := by kernel_rfl
  have e24 : Tryz.prog.cellsOf 24 = 1 := by kernel_rfl
  match cs, hcl, xs, hlen with
  | [c0, c1, c2], _, [y0, y1, y2], _ =>
    have g0 : DataW.trod enc Tryz.prog W 0 (fun _ => true) true m 9 (([c0, c1, c2].drop 0).take (Tryz.prog.cellsOf 9)) = [y0, y1, y2][0]? := hg 0 _ rfl
    have g1 : DataW.trod enc Tryz.prog W 0 (fun _ => true) true m 23 (([c0, c1, c2].drop 1).take (Tryz.prog.cellsOf 23)) = [y0, y1, y2][1]? := hg 1 _ rfl
    have g2 : DataW.trod enc Tryz.prog W 0 (fun _ => true) true m 24 (([c0, c1, c2].drop 2).take (Tryz.prog.cellsOf 24)) = [y0, y1, y2][2]? := hg 2 _ rfl
    simp only [e9, e23, e24, List.drop_zero, List.drop_succ_cons, List.take_succ_cons, List.take_zero, List.getElem?_cons_zero, List.getElem?_cons_succ] at g0 g1 g2
    obtain ⟨s, h0, rfl, _⟩ := DataW.trod_string Tryz.underlying9 g0
    obtain ⟨f, h1, rfl, w1⟩ := DataW.trod_int Tryz.underlying23 g1
    obtain ⟨c, h2, rfl, w2⟩ := DataW.trod_int Tryz.underlying24 g2
    obtain rfl : c0 = .string s := by simpa using h0
    obtain rfl : c1 = .int .u64 f := by simpa using h1
    obtain rfl : c2 = .int .u32 c := by simpa using h2
    simp [Lit.wf, IntKind.min, IntKind.max, IntKind.signed, IntKind.bits] at w1 w2
    subst hx
    refine ⟨s, f, c, rfl, by simp, by omega, by omega, by omega, by omega, ?_⟩
    rw [DataW.weights, Tryz.underlying45]
    simp [DataW.weightsEach, DataW.weights]
set_option maxRecDepth 100000 in
theorem two_strings {H : Type} {enc : TypeId × Value → H} {W : World} {n : Nat} {cs : List Value} {y : DataW H × List MemPlace} (hf : DataW.trod enc Tryz.prog W 0 (fun _ => true) true n 70 cs = some y) :
    ∃ (s t : ByteArray), cs = [.string s, .string t] ∧ y.2 = [] := by
  obtain ⟨xs, m, _, hx, hcl, hlen, hg⟩ := DataW.trod_array Tryz.underlying70 hf
  rw [show Tryz.prog.cellsOf 70 = 2 by kernel_rfl] at hcl
  have e9 : Tryz.prog.cellsOf 9 = 1 := by kernel_rfl
  match cs, hcl, xs, hlen with
  | [c0, c1], _, [y0, y1], _ =>
    have g0 := hg 0 (by decide)
    have g1 := hg 1 (by decide)
    simp only [e9, Nat.zero_mul, Nat.one_mul, List.drop_zero, List.drop_succ_cons, List.take_succ_cons, List.take_zero, List.getElem?_cons_zero, List.getElem?_cons_succ] at g0 g1
    obtain ⟨s, h0, rfl, _⟩ := DataW.trod_string Tryz.underlying9 g0
    obtain ⟨t, h1, rfl, _⟩ := DataW.trod_string Tryz.underlying9 g1
    obtain rfl : c0 = .string s := by simpa using h0
    obtain rfl : c1 = .string t := by simpa using h1
    subst hx
    exact ⟨s, t, rfl, by simp⟩
set_option maxRecDepth 100000 in
theorem two_u32 {H : Type} {enc : TypeId × Value → H} {W : World} {n : Nat} {cs : List Value} {y : DataW H × List MemPlace} (hf : DataW.trod enc Tryz.prog W 0 (fun _ => true) true n 71 cs = some y) :
    ∃ (s t : Nat), cs = [.int .u32 s, .int .u32 t] ∧ y.2 = [] ∧ s < 4294967296 ∧ t < 4294967296 := by
  obtain ⟨xs, m, _, hx, hcl, hlen, hg⟩ := DataW.trod_array Tryz.underlying71 hf
  rw [show Tryz.prog.cellsOf 71 = 2 by kernel_rfl] at hcl
  have e9 : Tryz.prog.cellsOf 24 = 1 := by kernel_rfl
  match cs, hcl, xs, hlen with
  | [c0, c1], _, [y0, y1], _ =>
    have g0 := hg 0 (by decide)
    have g1 := hg 1 (by decide)
    simp only [e9, Nat.zero_mul, Nat.one_mul, List.drop_zero, List.drop_succ_cons, List.take_succ_cons, List.take_zero, List.getElem?_cons_zero, List.getElem?_cons_succ] at g0 g1
    obtain ⟨s, h0, rfl, w0⟩ := DataW.trod_int Tryz.underlying24 g0
    obtain ⟨t, h1, rfl, w1⟩ := DataW.trod_int Tryz.underlying24 g1
    obtain rfl : c0 = .int .u32 s := by simpa using h0
    obtain rfl : c1 = .int .u32 t := by simpa using h1
    simp [Lit.wf, IntKind.min, IntKind.max, IntKind.signed, IntKind.bits] at w0 w1
    subst hx
    obtain ⟨s', rfl⟩ : ∃ k : Nat, s = k := ⟨s.toNat, by omega⟩
    obtain ⟨t', rfl⟩ : ∃ k : Nat, t = k := ⟨t.toNat, by omega⟩
    exact ⟨s', t', rfl, by simp, by omega, by omega⟩
set_option maxRecDepth 100000 in
theorem pair_open {H : Type} {enc : TypeId × Value → H} {W : World} {v : Value} {d : DataW H} {ps : List MemPlace} {r : Reach} {b0 : Nat} (hval : Value.okWide Tryz.prog W r b0 73 v)
    (h : DataW.Trod enc Tryz.prog W 0 (fun _ => true) true 73 v d ps) (hsz : ∀ n ∈ d.weights Tryz.prog 73, n ≤ reachBytes) :
    (∃ (an : ByteArray) (af ac : Int) (bn : ByteArray) (bf bc : Int) (c0 c1 : ByteArray) (n0 n1 : Nat), v = .agg #[.string an, .int .u64 af, .int .u32 ac, .string bn, .int .u64 bf, .int .u32 bc, .string c0, .string c1, .int .u32 n0, .int .u32 n1] ∧
      an.size ≤ 140737488351232 ∧ bn.size ≤ 140737488351232 ∧ (0 ≤ af ∧ af < 18446744073709551616 ∧ 0 ≤ ac ∧ ac < 4294967296) ∧ (0 ≤ bf ∧ bf < 18446744073709551616 ∧ 0 ≤ bc ∧ bc < 4294967296) ∧ n0 < 4294967296 ∧ n1 < 4294967296) ∧ ∀ x ∈ ps, x.block < W.heap.size := by
  obtain ⟨cs, rfl, hcs⟩ := okWide_struct Tryz.underlying73 hval
  obtain ⟨fuel, hf⟩ := h
  obtain ⟨xs, m, _, hx, _, hlen, hg⟩ := DataW.trod_struct Tryz.underlying73 hf
  rw [show Tryz.prog.cellsOf 73 = 10 by kernel_rfl] at hcs
  have e45 : Tryz.prog.cellsOf 45 = 3 := by kernel_rfl
  have e70 : Tryz.prog.cellsOf 70 = 2 := by kernel_rfl
  have e71 : Tryz.prog.cellsOf 71 = 2 := by kernel_rfl
  obtain ⟨l⟩ := cs
  match l, hcs, xs, hlen with
  | [a0, a1, a2, a3, a4, a5, a6, a7, a8, a9], _, [y0, y1, y2, y3], _ =>
    have g0 : DataW.trod enc Tryz.prog W 0 (fun _ => true) true m 45 (([a0, a1, a2, a3, a4, a5, a6, a7, a8, a9].drop 0).take (Tryz.prog.cellsOf 45)) = [y0, y1, y2, y3][0]? := hg 0 _ rfl
    have g1 : DataW.trod enc Tryz.prog W 0 (fun _ => true) true m 45 (([a0, a1, a2, a3, a4, a5, a6, a7, a8, a9].drop 3).take (Tryz.prog.cellsOf 45)) = [y0, y1, y2, y3][1]? := hg 1 _ rfl
    have g2 : DataW.trod enc Tryz.prog W 0 (fun _ => true) true m 70 (([a0, a1, a2, a3, a4, a5, a6, a7, a8, a9].drop 6).take (Tryz.prog.cellsOf 70)) = [y0, y1, y2, y3][2]? := hg 2 _ rfl
    have g3 : DataW.trod enc Tryz.prog W 0 (fun _ => true) true m 71 (([a0, a1, a2, a3, a4, a5, a6, a7, a8, a9].drop 8).take (Tryz.prog.cellsOf 71)) = [y0, y1, y2, y3][3]? := hg 3 _ rfl
    simp only [ e45, e70, e71, List.drop_zero, List.drop_succ_cons, List.take_succ_cons, List.take_zero, List.getElem?_cons_zero, List.getElem?_cons_succ] at g0 g1 g2 g3
    obtain ⟨an, af, ac, h0, p0, f1, f2, f3, f4, w0⟩ := peer_field g0
    obtain ⟨bn, bf, bc, h1, p1, k1, k2, k3, k4, w1⟩ := peer_field g1
    obtain ⟨c0, c1, h2, p2⟩ := two_strings g2
    obtain ⟨n0, n1, h3, p3, q0, q1⟩ := two_u32 g3
    simp only [List.cons.injEq, and_true] at h0 h1 h2 h3
    obtain ⟨rfl, rfl, rfl⟩ := h0
    obtain ⟨rfl, rfl, rfl⟩ := h1
    obtain ⟨rfl, rfl⟩ := h2
    obtain ⟨rfl, rfl⟩ := h3
    simp only [Prod.mk.injEq] at hx
    obtain ⟨rfl, rfl⟩ := hx
    rw [DataW.weights, Tryz.underlying73] at hsz
    simp only [List.map_cons, List.map_nil, DataW.weightsEach, List.append_nil, List.mem_append] at hsz
    refine ⟨⟨an, af, ac, bn, bf, bc, c0, c1, n0, n1, rfl, ?_, ?_, ⟨f1, f2, f3, f4⟩, ⟨k1, k2, k3, k4⟩, q0, q1⟩, ?_⟩
    · exact sized_of (t := 45) (d := y0.1) (fun n hn => hsz n (.inl hn)) w0
    · exact sized_of (t := 45) (d := y1.1) (fun n hn => hsz n (.inr (.inl hn))) w1
    · intro x hx
      simp [p0, p1, p2, p3] at hx
theorem pair_row : 73 < Tryz.prog.types.size := by rw [show Tryz.prog.types.size = 229 by kernel_rfl]; decide
end Go.Proofs.YtokkokgdjnkbnaaGreatDoor
end
