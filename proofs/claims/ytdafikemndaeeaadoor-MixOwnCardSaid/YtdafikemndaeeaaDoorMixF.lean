/- '[]byte(s)', then an append onto it. -/
import Derived.Test.YtdafikemndaeeaaDoorMixE
import Derived.Deep.Upon
import Derived.Test.YtdafikemndaeeaaDoorChain
open Go Go.RowKit
namespace Go.Proofs.YtdafikemndaeeaaDoor

/-- the row of a conversion, whole -/
def FullConv (b : Nat) (s : ByteArray) (cap : Nat) (w : World) : Prop :=
  ∃ cs : Array Value, w.heap[b]? = some (.cells cs 5 (cs.size, cs.size + 1)) ∧ cs.size = cap ∧ s.size ≤ cap ∧ ∀ j, (h : j < s.size) → cs[j]? = some (byteV s[j])
theorem FullConv.mk (w : World) (s : ByteArray) : FullConv w.heap.size s (grownCap w s.size 0 5) (Lib.bytesWorld w 5 s) := by
  have hge := grownCap_ge w s.size 0 5
  refine ⟨_, Lib.bytesWorld_at_new w 5 s, by simp [Lib.bytesCells]; omega, hge, fun j h => ?_⟩
  have := Lib.bytesWorld_cell w 5 s j h
  rw [cell_of_block (Lib.bytesWorld_at_new w 5 s)] at this
  rw [this]
  simp [byteV, List.getD, h]; rfl
theorem FullConv.below {b B cap : Nat} {s : ByteArray} {w w' : World} (h : FullConv b s cap w) (hb : Below B w w') (hB : b < B) : FullConv b s cap w' := by
  obtain ⟨cs, h1, h2⟩ := h
  exact ⟨cs, (hb.block b hB).trans h1, h2⟩
theorem FullConv.lt {b cap : Nat} {s : ByteArray} {w : World} (h : FullConv b s cap w) : b < w.heap.size := by
  obtain ⟨cs, h1, _⟩ := h
  exact (Array.getElem?_eq_some_iff.1 h1).1

/-- a row that reads so -/
def RowIs (v : Value) (l : List UInt8) (w : World) : Prop := ∃ g c, v = .slice (some ⟨g, 0, none⟩) l.length c ∧ ∀ j, (h : j < l.length) → w.cell? ⟨g, j, none⟩ = some (byteV l[j])

theorem tape_setCells (b : Nat) : ∀ (vs : List Value) (o : Nat) (w : World), (w.setCells b o vs).tape = w.tape
  | [], _, _ => rfl
  | v :: r, o, w => by rw [World.setCells, tape_setCells b r]; rfl
theorem size_setCells (b : Nat) : ∀ (vs : List Value) (o : Nat) (w : World), (w.setCells b o vs).heap.size = w.heap.size
  | [], _, _ => rfl
  | v :: r, o, w => by rw [World.setCells, size_setCells b r]; simp [World.setCell]

theorem run_app_conv {base g cap : Nat} {s : ByteArray} {w : World} (hc : FullConv g s cap w) (hB : base ≤ g) (v : Value) (d : List UInt8) (hd : BufIs base v d w) (hd0 : d ≠ []) (hs : s.size ≤ 1000) (hl : d.length ≤ 1000) (ty : TypeId) :
    ∃ v' w', (Builtin.append_ #[34, 34] ty #[.slice (some ⟨g, 0, none⟩) s.size cap, v]).run Tryd.prog w = .ok v' w' ∧ RowIs v' (s.data.toList ++ d) w' ∧ Below base w w' := by
  obtain ⟨i0, hi, hz0, hz1, hz2⟩ := info_parts Tryd.infoByte
  have hglt := hc.lt
  obtain ⟨cs, hblk, hcs, hsc, hcell⟩ := hc
  rcases hd.shape with ⟨rfl, rfl⟩ | ⟨h, c, rfl, hh1, hh2, hh3, hh4⟩
  · exact absurd rfl hd0
  have hsrc : Src Tryd.prog 1 34 (.slice (some ⟨h, 0, none⟩) d.length c) d.length (bytesV d) w := by
    refine Src.ofSlice w Tryd.underlying34 _ _ _ _ (by rw [bytesV_length]; omega) ?_ (bytesV_one _)
    intro j u hj
    rw [Lib.add_plain, Nat.zero_add]
    have hlt : j < d.length := by have := (List.getElem?_eq_some_iff.1 hj).1; rwa [bytesV_length] at this
    rw [bytesV_get d j hlt] at hj
    cases hj
    exact hd.cell j hlt
  have hold : ∀ j, (h : j < s.size) → w.cell? ⟨g, j, none⟩ = some (byteV s[j]) := fun j h => by
    rw [cell_of_block hblk]; exact hcell j h
  have hlen : (s.data.toList ++ d).length = s.size + d.length := by rw [List.length_append, Array.length_toList]; rfl
  have hget : ∀ j, (h : j < (s.data.toList ++ d).length) → (h2 : j < s.size) → (s.data.toList ++ d)[j] = s[j] := fun j h h2 => by
    rw [List.getElem_append_left (by simpa using h2)]; rfl
  by_cases hroom : s.size + d.length ≤ cap
  · have hrun := run_append_room_src (P := Tryd.prog) w 34 34 ty 5 i0 Tryd.underlying34 hi g 0 s.size cap _ d.length (bytesV d) (by rw [hz1]; exact hsrc) hroom
      (by intro j hj; rw [hz1, cell_of_block hblk]; rw [bytesV_length] at hj; rw [Array.getElem?_eq_getElem (by omega)]; rfl)
      (by intro j hj; rw [hz1]; rw [bytesV_length] at hj; simp [World.frozen?, hblk]; omega)
    rw [hz1] at hrun
    refine ⟨_, _, hrun, ⟨g, cap, by rw [hlen], fun j hj => ?_⟩, ?_⟩
    · rw [hlen] at hj
      by_cases hj2 : j < s.size
      · rw [World.cell?_setCells_out g _ _ _ _ (fun _ _ => .inl (by simp; omega)), hold j hj2, hget j (by rw [hlen]; exact hj) hj2]
      · have := World.cell?_setCells_in g (bytesV d) (0 + s.size * 1) w (by intro k hk; rw [cell_of_block hblk]; rw [bytesV_length] at hk; rw [Array.getElem?_eq_getElem (by omega)]; rfl) (j - s.size) (by rw [bytesV_length]; omega)
        rw [show 0 + s.size * 1 + (j - s.size) = j by omega] at this
        rw [this, List.getElem_append_right (by simpa using hj2)]
        simp [bytesV]
    · exact ⟨World.os_setCells _ _ _ _, tape_setCells _ _ _ _, World.output_setCells _ _ _ _, by rw [size_setCells]; exact Nat.le_refl _, fun k hk => World.heap_setCells_other _ _ _ _ (by omega) (by omega)⟩
  · have hfc : (Builtin.firstCells i0.size s.size (.slice (some ⟨g, 0, none⟩) s.size cap)).run Tryd.prog w.drew = .ok (bytesV s.data.toList).toArray w.drew := by
      refine run_firstCells_some (P := Tryd.prog) w.drew i0.size s.size ⟨g, 0, none⟩ s.size cap _ (by rw [bytesV_length, hz1, Array.length_toList, Nat.mul_one]; rfl) (fun j u hu => ?_)
      have hlt : j < s.size := by have := (List.getElem?_eq_some_iff.1 hu).1; rw [bytesV_length] at this; simpa using this
      rw [bytesV_get _ j (by simpa using hlt)] at hu
      cases hu
      rw [Lib.add_plain, Nat.zero_add]
      exact hold j hlt
    have hrun := run_append_grow_src (P := Tryd.prog) w 34 34 ty 5 i0 (.int .u8 0) Tryd.underlying34 hi hz0 (some ⟨g, 0, none⟩) s.size cap _ hfc _ d.length (bytesV d) (by rw [hz1]; exact hsrc) (by omega) (by omega)
      (by rw [hz2]; have := nextslicecap_le (need := s.size + d.length) (old := cap) (by omega); omega)
    have happ : bytesV s.data.toList ++ bytesV d = bytesV (s.data.toList ++ d) := (bytesV_append _ _).symm
    rw [happ] at hrun
    refine ⟨_, _, hrun, ⟨_, _, by rw [hlen], fun j hj => ?_⟩, (below_drewN (Below.refl base w) 1).alloc (by show base ≤ w.heap.size; omega) _⟩
    have hb := cell_of_block (alloc_get w.drew (.cells ((bytesV (s.data.toList ++ d)).toArray ++ Builtin.zeroCells (Value.int IntKind.u8 0).cells (grownCap w (s.size + d.length) cap 5 - (s.size + d.length))) 5 (0, 0))) j
    refine hb.trans ?_
    rw [Array.getElem?_append_left (by simp only [List.size_toArray, bytesV_length]; exact hj), List.getElem?_toArray]
    exact bytesV_get _ j hj
end Go.Proofs.YtdafikemndaeeaaDoor
