/- Texts laid together: MixF, MixG, MixH, MixI, RSl, Tm, TmR. -/
import Derived.Test.YtkipjbmckpmmfaaDoorV12
import Derived.Deep.Upon
import Derived.Test.YtkipjbmckpmmfaaDoorV7
import Derived.Test.YtkipjbmckpmmfaaDoorV4
import Derived.Test.YtkipjbmckpmmfaaDoorV9
import Derived.Maps.AppendAt
section
/- '[]byte(s)', then an append onto it. -/
open Go Go.RowKit
namespace Go.Proofs.YtkipjbmckpmmfaaDoor

/-- the row of a conversion, whole -/
def FullConv (b : Nat) (s : ByteArray) (cap : Nat) (w : World) : Prop :=
  ∃ cs : Array Value, w.heap[b]? = some (.cells cs 5 (cs.size, cs.size + 1)) ∧ cs.size = cap ∧ s.size ≤ cap ∧ ∀ j, (h : j < s.size) → cs[j]? = some (byteV s[j])
theorem FullConv.mk (w : World) (s : ByteArray) : FullConv w.heap.size s (grownCap w s.size 0 5) (Lib.bytesWorld w 5 s) := by
  have hge := grownCap_ge w s.size 0 5
  refine ⟨_, Lib.bytesWorld_at_new w 5 s, by simp [Lib.bytesCells]; omega, hge, fun j h => ?_⟩
  have := Lib.bytesWorld_cell w 5 s j h
  rw [cell_of_block (Lib.bytesWorld_at_new w 5 s)] at this
  rw [this]
  simp [byteV, List.getD, h]; rfl
theorem FullConv.below {b B cap : Nat} {s : ByteArray} {w w' : World} (h : FullConv b s cap w) (hb : Below B w w') (hB : b < B) : FullConv b s cap w' := by
  obtain ⟨cs, h1, h2⟩ := h
  exact ⟨cs, (hb.block b hB).trans h1, h2⟩
theorem FullConv.lt {b cap : Nat} {s : ByteArray} {w : World} (h : FullConv b s cap w) : b < w.heap.size := by
  obtain ⟨cs, h1, _⟩ := h
  exact (Array.getElem?_eq_some_iff.1 h1).1

/-- a row that reads so -/
def RowIs (v : Value) (l : List UInt8) (w : World) : Prop := ∃ g c, v = .slice (some ⟨g, 0, none⟩) l.length c ∧ ∀ j, (h : j < l.length) → w.cell? ⟨g, j, none⟩ = some (byteV l[j])

end Go.Proofs.YtkipjbmckpmmfaaDoor
end
section
/- Package mix: Digest. -/
open Go Go.RowKit
namespace Go.Proofs.YtkipjbmckpmmfaaDoor

end Go.Proofs.YtkipjbmckpmmfaaDoor
end
section
/- The reference of mix: Digest. -/
open Go Go.RowKit
namespace Go.Proofs.YtkipjbmckpmmfaaDoor

theorem RowIs.below {v : Value} {l : List UInt8} {w w' : World} (h : RowIs v l w) (hb : Below w.heap.size w w') : RowIs v l w' := by
  obtain ⟨g, c, rfl, hc⟩ := h
  refine ⟨g, c, rfl, fun j hj => ?_⟩
  rw [hb.cell (World.block_lt_of_cell? w _ (hc j hj))]
  exact hc j hj

end Go.Proofs.YtkipjbmckpmmfaaDoor
end
section
/- Package mix and its reference: Same; slices.Equal; the layer's sign of life. -/
open Go Go.RowKit
namespace Go.Proofs.YtkipjbmckpmmfaaDoor

/-- a slice of bytes that reads so: nil, empty, or a row's part -/
def SliceIs (v : Value) (l : List UInt8) (w : World) : Prop :=
  ∃ a c, v = .slice a l.length c ∧ ∀ j, (h : j < l.length) → ∃ g o, a = some ⟨g, o, none⟩ ∧ w.cell? ⟨g, o + j, none⟩ = some (byteV l[j])
theorem SliceIs.below {v : Value} {l : List UInt8} {w w' : World} (h : SliceIs v l w) (hb : Below w.heap.size w w') : SliceIs v l w' := by
  obtain ⟨a, c, rfl, hc⟩ := h
  refine ⟨a, c, rfl, fun j hj => ?_⟩
  obtain ⟨g, o, ha, hc⟩ := hc j hj
  exact ⟨g, o, ha, by rw [hb.cell (World.block_lt_of_cell? w _ hc)]; exact hc⟩
theorem BufIs.slice {base : Nat} {v : Value} {l : List UInt8} {w : World} (h : BufIs base v l w) : SliceIs v l w := by
  rcases h.shape with ⟨rfl, rfl⟩ | ⟨g, c, rfl, _⟩
  · exact ⟨none, 0, rfl, fun j hj => absurd hj (Nat.not_lt_zero _)⟩
  · exact ⟨_, c, rfl, fun j hj => ⟨g, 0, rfl, by rw [Nat.zero_add]; exact h.cell j hj⟩⟩
end Go.Proofs.YtkipjbmckpmmfaaDoor
end
section
/- Slices of bytes that are read: with their capacity; cuts; appends of them. No function of the program is looked at here. -/
open Go Go.RowKit
namespace Go.Proofs.YtkipjbmckpmmfaaDoor

/-- the value v is a slice whose elements are l -/
def RSl (v : Value) (l : List UInt8) (w : World) : Prop :=
  ∃ a c, v = .slice a l.length c ∧ l.length ≤ c ∧ c ≤ maxLen ∧ ∀ j, (h : j < l.length) → ∃ g o, a = some ⟨g, o, none⟩ ∧ w.cell? ⟨g, o + j, none⟩ = some (byteV l[j])
theorem RSl.slice {v : Value} {l : List UInt8} {w : World} (h : RSl v l w) : SliceIs v l w := by
  obtain ⟨a, c, hv, _, _, hc⟩ := h
  exact ⟨a, c, hv, hc⟩
theorem RSl.le {v : Value} {l : List UInt8} {w : World} (h : RSl v l w) : l.length ≤ maxLen := by
  obtain ⟨a, c, hv, h1, h2, _⟩ := h; omega
theorem RSl.frame {v : Value} {l : List UInt8} {w w' : World} (h : RSl v l w) (hb : ∀ (p : Addr) x, w.cell? p = some x → w'.cell? p = some x) : RSl v l w' := by
  obtain ⟨a, c, rfl, h1, h2, hc⟩ := h
  refine ⟨a, c, rfl, h1, h2, fun j hj => ?_⟩
  obtain ⟨g, o, ha, hc⟩ := hc j hj
  exact ⟨g, o, ha, hb _ _ hc⟩
theorem RSl.below {v : Value} {l : List UInt8} {w w' : World} (h : RSl v l w) (hb : Below w.heap.size w w') : RSl v l w' :=
  h.frame fun p x hx => by rw [hb.cell (World.block_lt_of_cell? w _ hx)]; exact hx
theorem RSl.drew {v : Value} {l : List UInt8} {w : World} (h : RSl v l w) : RSl v l w.drew := h.frame fun _ _ hx => hx
theorem RSl.drewN {v : Value} {l : List UInt8} {w : World} (h : RSl v l w) (n : Nat) : RSl v l (w.drewN n) := h.frame fun _ _ hx => hx
theorem RSl.alloc {v : Value} {l : List UInt8} {w : World} (h : RSl v l w) (o : Obj) : RSl v l (w.alloc o) := h.below ((Below.refl _ _).alloc (Nat.le_refl _) o)
theorem RSl.nil (w : World) : RSl (.slice none 0 0) [] w := ⟨none, 0, rfl, Nat.le_refl _, Nat.zero_le _, fun _ hj => absurd hj (Nat.not_lt_zero _)⟩
theorem run_app_nil0 {base : Nat} {v : Value} {l : List UInt8} {w : World} (h : BufIs base v l w) (c : Nat) : (Builtin.append_ #[127, 127] 127 #[v, .slice none 0 c]).run Tryd.prog w = .ok v w := by
  obtain ⟨i0, hi, _⟩ := info_parts Tryd.infoByte
  have ht := Tryd.underlying127
  rcases h.shape with ⟨rfl, rfl⟩ | ⟨g, cap, rfl, _, _, hnc, _⟩
  · simp [Builtin.append_, run_underlying ht, sizeOf, typeInfo, hi, Builtin.lenOf, Builtin.firstCells]
  · simp [Builtin.append_, run_underlying ht, sizeOf, typeInfo, hi, Builtin.lenOf, Builtin.firstCells, hnc, storeCells]
theorem RSl.shape {v : Value} {l : List UInt8} {w : World} (h : RSl v l w) : ∃ a c, v = .slice a l.length c ∧ l.length ≤ c ∧ c ≤ maxLen := by
  obtain ⟨a, c, hv, h1, h2, _⟩ := h
  exact ⟨a, c, hv, h1, h2⟩

/-- append of what a slice holds -/
theorem BufIs.app {base : Nat} {v sv : Value} {l d : List UInt8} {w : World} (h : BufIs base v l w) (hs : RSl sv d w) (hl : l.length + d.length ≤ 140737488355328) (hB : base ≤ w.heap.size) :
    ∃ v' w', (Builtin.append_ #[127, 127] 127 #[v, sv]).run Tryd.prog w = .ok v' w' ∧ BufIs base v' (l ++ d) w' ∧ w.grownBy w' v.ownBlock := by
  obtain ⟨i0, hi, hz0, hz1, hz2⟩ := info_parts Tryd.infoByte
  obtain ⟨a, c, rfl, hc1, hc2, hc⟩ := hs
  by_cases hd : d = []
  · subst hd
    cases a with
    | none => exact ⟨v, w, run_app_nil0 h c, by simpa using h, ⟨rfl, rfl, rfl, Nat.le_refl _, fun _ _ _ => rfl⟩⟩
    | some ad =>
      obtain ⟨v', w', hr, h2, h3, _⟩ := run_append_own_at (P := Tryd.prog) w base 127 127 5 i0 (.int .u8 0) 1 1 Tryd.underlying127 hi hz0 hz1 hz2 rfl (by decide) v l.length (bytesV l) h ad 0 c [] rfl (fun j u hj => by simp at hj) (fun u hu => by cases hu) (by unfold maxLen; omega) (by simp at hl ⊢; omega) hB
      refine ⟨v', w', hr, ?_, h3⟩
      unfold BufIs
      simpa using h2
  · obtain ⟨g, o, rfl, _⟩ := hc 0 (List.length_pos_iff.2 hd)
    obtain ⟨v', w', hr, h2, h3, _⟩ := run_append_own_at (P := Tryd.prog) w base 127 127 5 i0 (.int .u8 0) 1 1 Tryd.underlying127 hi hz0 hz1 hz2 rfl (by decide) v l.length (bytesV l) h ⟨g, o, none⟩ d.length c (bytesV d) (by rw [bytesV_length]; omega) (fun j u hj => by
        have hlt : j < d.length := by
          rcases Nat.lt_or_ge j d.length with h | h
          · exact h
          · simp [bytesV, List.getElem?_eq_none h] at hj
        rw [bytesV_get d j hlt] at hj
        cases hj
        obtain ⟨g', o', he, hx⟩ := hc j hlt
        cases he
        rw [Lib.add_plain]
        exact hx) (bytesV_one _) (by unfold maxLen; omega) (by omega) hB
    refine ⟨v', w', hr, ?_, h3⟩
    unfold BufIs
    rw [bytesV_append, List.length_append]
    exact h2
end Go.Proofs.YtkipjbmckpmmfaaDoor
end
section
/- Terms: plain values, and what a term is in a world. No function of the program is looked at here. -/
open Go Go.RowKit
namespace Go.Proofs.YtkipjbmckpmmfaaDoor

inductive Tm where
  | mk (kind int : Int) (text : ByteArray) (cr : Int) (nums : List Int) (args : List Tm)
def Tm.kind : Tm → Int | .mk k _ _ _ _ _ => k
def Tm.int : Tm → Int | .mk _ i _ _ _ _ => i
def Tm.text : Tm → ByteArray | .mk _ _ s _ _ _ => s
def Tm.cr : Tm → Int | .mk _ _ _ c _ _ => c
def Tm.nums : Tm → List Int | .mk _ _ _ _ n _ => n
def Tm.args : Tm → List Tm | .mk _ _ _ _ _ a => a

/-- a row of numbers of 32 bits -/
def NumsAt (S : Nat → Prop) (v : Value) (l : List Int) (w : World) : Prop :=
  ∃ a c, v = .slice a l.length c ∧ (l.length ≤ c ∧ l.length * 4 ≤ 140737488351232) ∧ c ≤ maxLen ∧ ∀ i, (h : i < l.length) → 0 ≤ l[i] ∧ l[i] < 4294967296 ∧ ∃ g o, a = some ⟨g, o, none⟩ ∧ S g ∧ w.cell? ⟨g, o + i, none⟩ = some (.int .u32 l[i])
/-- the bounds of a part's own fields -/
structure Part (k i : Int) (s : ByteArray) (c : Int) : Prop where
  k0 : -9223372036854775808 ≤ k
  k1 : k ≤ 9223372036854775807
  i0 : -9223372036854775808 ≤ i
  i1 : i ≤ 9223372036854775807
  sz : s.size ≤ 140737488351232
  c0 : 0 ≤ c
  c1 : c < 4294967296
mutual
/-- the six values are a term, whose rows lie in blocks of S -/
def TmAt (S : Nat → Prop) : Tm → List Value → World → Prop
  | .mk k i s c ns al, vs, w => Part k i s c ∧ ∃ nv a cap, vs = [.int .i64 k, .int .i64 i, .string s, .int .u32 c, nv, .slice a al.length cap] ∧ NumsAt S nv ns w ∧ (al.length ≤ cap ∧ cap ≤ maxLen) ∧ al.length * 88 ≤ 140737488351232 ∧ ArgsAt S al a w
def ArgsAt (S : Nat → Prop) : List Tm → Option Addr → World → Prop
  | [], _, _ => True
  | t :: r, a, w => ∃ g o vs, a = some ⟨g, o, none⟩ ∧ S g ∧ (∀ j, j < 6 → w.cell? ⟨g, o + j, none⟩ = vs[j]?) ∧ TmAt S t vs w ∧ ArgsAt S r (some ⟨g, o + 6, none⟩) w
end
theorem NumsAt.frame {S : Nat → Prop} {v : Value} {l : List Int} {w w' : World} (h : NumsAt S v l w) (hb : ∀ b, S b → w'.heap[b]? = w.heap[b]?) : NumsAt S v l w' := by
  obtain ⟨a, c, h1, h2, h3, h4⟩ := h
  refine ⟨a, c, h1, h2, h3, fun i hi => ?_⟩
  obtain ⟨k1, k2, g, o, ha, hS, hc⟩ := h4 i hi
  refine ⟨k1, k2, g, o, ha, hS, ?_⟩
  unfold World.cell? at hc ⊢
  rw [hb g hS]; exact hc
theorem NumsAt.mono {S S' : Nat → Prop} {v : Value} {l : List Int} {w : World} (h : NumsAt S v l w) (hS : ∀ b, b < w.heap.size → S b → S' b) : NumsAt S' v l w := by
  obtain ⟨a, c, h1, h2, h3, h4⟩ := h
  refine ⟨a, c, h1, h2, h3, fun i hi => ?_⟩
  obtain ⟨k1, k2, g, o, ha, hSg, hc⟩ := h4 i hi
  exact ⟨k1, k2, g, o, ha, hS g (World.block_lt_of_cell? w _ hc) hSg, hc⟩
mutual
theorem TmAt.frame {S : Nat → Prop} {w w' : World} (hb : ∀ b, S b → w'.heap[b]? = w.heap[b]?) : ∀ {t : Tm} {vs : List Value}, TmAt S t vs w → TmAt S t vs w'
  | .mk k i s c ns al, vs, h => by
    rw [TmAt] at h ⊢
    obtain ⟨hp, nv, a, cap, h1, h2, h3, h4, h5⟩ := h
    exact ⟨hp, nv, a, cap, h1, h2.frame hb, h3, h4, ArgsAt.frame hb h5⟩
theorem ArgsAt.frame {S : Nat → Prop} {w w' : World} (hb : ∀ b, S b → w'.heap[b]? = w.heap[b]?) : ∀ {l : List Tm} {a : Option Addr}, ArgsAt S l a w → ArgsAt S l a w'
  | [], _, _ => by rw [ArgsAt]; trivial
  | t :: r, a, h => by
    rw [ArgsAt] at h ⊢
    obtain ⟨g, o, vs, h1, h2, h3, h4, h5⟩ := h
    refine ⟨g, o, vs, h1, h2, fun j hj => ?_, TmAt.frame hb h4, ArgsAt.frame hb h5⟩
    rw [← h3 j hj]
    unfold World.cell?
    rw [hb g h2]
end
mutual
theorem TmAt.mono {S S' : Nat → Prop} {w : World} (hS : ∀ b, b < w.heap.size → S b → S' b) : ∀ {t : Tm} {vs : List Value}, TmAt S t vs w → TmAt S' t vs w
  | .mk k i s c ns al, vs, h => by
    rw [TmAt] at h ⊢
    obtain ⟨hp, nv, a, cap, h1, h2, h3, h4, h5⟩ := h
    exact ⟨hp, nv, a, cap, h1, h2.mono hS, h3, h4, ArgsAt.mono hS h5⟩
theorem ArgsAt.mono {S S' : Nat → Prop} {w : World} (hS : ∀ b, b < w.heap.size → S b → S' b) : ∀ {l : List Tm} {a : Option Addr}, ArgsAt S l a w → ArgsAt S' l a w
  | [], _, _ => by rw [ArgsAt]; trivial
  | t :: r, a, h => by
    rw [ArgsAt] at h ⊢
    obtain ⟨g, o, vs, h1, h2, h3, h4, h5⟩ := h
    have hlt : g < w.heap.size := by
      have h0 := h3 0 (by decide)
      match t, h4 with
      | .mk k i s c ns al, h4 =>
        rw [TmAt] at h4
        obtain ⟨_, nv, a, cap, h1, _⟩ := h4
        rw [h1] at h0
        exact World.block_lt_of_cell? w _ h0
    exact ⟨g, o, vs, h1, hS g hlt h2, h3, TmAt.mono hS h4, ArgsAt.mono hS h5⟩
end
theorem TmAt.below {t : Tm} {vs : List Value} {S : Nat → Prop} {w w' : World} (h : TmAt S t vs w) (hb : Below w.heap.size w w') : TmAt S t vs w' := by
  have h1 : TmAt (fun b => b < w.heap.size ∧ S b) t vs w := h.mono fun b hb hS => ⟨hb, hS⟩
  exact (h1.frame (w' := w') fun b hS => hb.block b hS.1).mono fun _ _ hS => hS.2
theorem ArgsAt.below {l : List Tm} {a : Option Addr} {S : Nat → Prop} {w w' : World} (h : ArgsAt S l a w) (hb : Below w.heap.size w w') : ArgsAt S l a w' := by
  have h1 : ArgsAt (fun b => b < w.heap.size ∧ S b) l a w := h.mono fun b hb hS => ⟨hb, hS⟩
  exact (h1.frame (w' := w') fun b hS => hb.block b hS.1).mono fun _ _ hS => hS.2
theorem NumsAt.below {l : List Int} {v : Value} {S : Nat → Prop} {w w' : World} (h : NumsAt S v l w) (hb : Below w.heap.size w w') : NumsAt S v l w' := by
  have h1 : NumsAt (fun b => b < w.heap.size ∧ S b) v l w := h.mono fun b hb hS => ⟨hb, hS⟩
  exact (h1.frame (w' := w') fun b hS => hb.block b hS.1).mono fun _ _ hS => hS.2
theorem TmAt.keep {t : Tm} {vs : List Value} {S S' : Nat → Prop} {w w' : World} (h : TmAt S t vs w) (k : Keep S' w w') (hS : ∀ b, b < w.heap.size → S b → ¬ S' b) : TmAt S t vs w' := by
  have h1 : TmAt (fun b => b < w.heap.size ∧ S b) t vs w := h.mono fun b hb hS => ⟨hb, hS⟩
  exact (h1.frame (w' := w') fun b hb => k.block b hb.1 (hS b hb.1 hb.2)).mono fun _ _ hS => hS.2
theorem ArgsAt.keep {l : List Tm} {a : Option Addr} {S S' : Nat → Prop} {w w' : World} (h : ArgsAt S l a w) (k : Keep S' w w') (hS : ∀ b, b < w.heap.size → S b → ¬ S' b) : ArgsAt S l a w' := by
  have h1 : ArgsAt (fun b => b < w.heap.size ∧ S b) l a w := h.mono fun b hb hS => ⟨hb, hS⟩
  exact (h1.frame (w' := w') fun b hb => k.block b hb.1 (hS b hb.1 hb.2)).mono fun _ _ hS => hS.2
theorem NumsAt.keep {l : List Int} {v : Value} {S S' : Nat → Prop} {w w' : World} (h : NumsAt S v l w) (k : Keep S' w w') (hS : ∀ b, b < w.heap.size → S b → ¬ S' b) : NumsAt S v l w' := by
  have h1 : NumsAt (fun b => b < w.heap.size ∧ S b) v l w := h.mono fun b hb hS => ⟨hb, hS⟩
  exact (h1.frame (w' := w') fun b hb => k.block b hb.1 (hS b hb.1 hb.2)).mono fun _ _ hS => hS.2
theorem Tm.arg_lt {t : Tm} {i : Nat} (h : i < t.args.length) : SizeOf.sizeOf t.args[i] < SizeOf.sizeOf t := by
  cases t with
  | mk k j s c ns al =>
    have h1 : SizeOf.sizeOf al[i] < SizeOf.sizeOf al := List.sizeOf_lt_of_mem (List.getElem_mem h)
    show SizeOf.sizeOf al[i] < _
    simp only [Tm.mk.sizeOf_spec]
    omega
/-- the elements of a row of terms -/
theorem ArgsAt.get {S : Nat → Prop} {w : World} : ∀ {l : List Tm} {a : Option Addr}, ArgsAt S l a w → ∀ i, (h : i < l.length) → ∃ g o vs, a = some ⟨g, o, none⟩ ∧ S g ∧ (∀ j, j < 6 → w.cell? ⟨g, o + (i * 6 + j), none⟩ = vs[j]?) ∧ TmAt S l[i] vs w := by
  intro l
  induction l with
  | nil => intro a _ i h; exact absurd h (Nat.not_lt_zero _)
  | cons t r ih =>
    intro a h i hi
    rw [ArgsAt] at h
    obtain ⟨g, o, vs, h1, h2, h3, h4, h5⟩ := h
    cases i with
    | zero => exact ⟨g, o, vs, h1, h2, fun j hj => by rw [show o + (0 * 6 + j) = o + j by omega]; exact h3 j hj, h4⟩
    | succ i =>
      obtain ⟨g', o', vs', ha, hS, hc, ht⟩ := ih h5 i (by simpa using hi)
      cases ha
      exact ⟨g, o, vs', h1, h2, fun j hj => by rw [show o + ((i + 1) * 6 + j) = o + 6 + (i * 6 + j) by omega]; exact hc j hj, ht⟩
/-- a row of terms from its elements -/
theorem ArgsAt.mk {S : Nat → Prop} {w : World} {g : Nat} (hS : S g) : ∀ {l : List Tm} {o : Nat}, (∀ i, (h : i < l.length) → ∃ vs, (∀ j, j < 6 → w.cell? ⟨g, o + (i * 6 + j), none⟩ = vs[j]?) ∧ TmAt S l[i] vs w) → ArgsAt S l (some ⟨g, o, none⟩) w := by
  intro l
  induction l with
  | nil => intro o _; rw [ArgsAt]; trivial
  | cons t r ih =>
    intro o h
    rw [ArgsAt]
    obtain ⟨vs, hc, ht⟩ := h 0 (Nat.zero_lt_succ _)
    refine ⟨g, o, vs, rfl, hS, fun j hj => by have := hc j hj; rwa [show o + (0 * 6 + j) = o + j by omega] at this, ht, ih fun i hi => ?_⟩
    obtain ⟨vs', hc', ht'⟩ := h (i + 1) (by simpa using hi)
    exact ⟨vs', fun j hj => by have := hc' j hj; rwa [show o + ((i + 1) * 6 + j) = o + 6 + (i * 6 + j) by omega] at this, ht'⟩
/-- what a term's values look like -/
theorem TmAt.parts {S : Nat → Prop} {t : Tm} {vs : List Value} {w : World} (h : TmAt S t vs w) : Part t.kind t.int t.text t.cr ∧ ∃ nv a cap, vs = [.int .i64 t.kind, .int .i64 t.int, .string t.text, .int .u32 t.cr, nv, .slice a t.args.length cap] ∧ NumsAt S nv t.nums w ∧ (t.args.length ≤ cap ∧ cap ≤ maxLen) ∧ t.args.length * 88 ≤ 140737488351232 ∧ ArgsAt S t.args a w := by
  cases t
  rw [TmAt] at h
  exact h
theorem TmAt.of {S : Nat → Prop} {t : Tm} {vs : List Value} {w : World} (h : Part t.kind t.int t.text t.cr ∧ ∃ nv a cap, vs = [.int .i64 t.kind, .int .i64 t.int, .string t.text, .int .u32 t.cr, nv, .slice a t.args.length cap] ∧ NumsAt S nv t.nums w ∧ (t.args.length ≤ cap ∧ cap ≤ maxLen) ∧ t.args.length * 88 ≤ 140737488351232 ∧ ArgsAt S t.args a w) : TmAt S t vs w := by
  cases t
  rw [TmAt]
  exact h
theorem TmAt.six {S : Nat → Prop} {t : Tm} {vs : List Value} {w : World} (h : TmAt S t vs w) : vs.length = 6 := by
  obtain ⟨_, nv, a, cap, rfl, _⟩ := h.parts
  rfl
theorem NumsAt.slice {S : Nat → Prop} {v : Value} {l : List Int} {w : World} (h : NumsAt S v l w) : ∃ a c, v = .slice a l.length c ∧ l.length ≤ c ∧ c ≤ maxLen := by
  obtain ⟨a, c, h1, h2, h3, _⟩ := h
  exact ⟨a, c, h1, h2.1, h3⟩
theorem TmAt.one {S : Nat → Prop} {t : Tm} {vs : List Value} {w : World} (h : TmAt S t vs w) : ∀ u ∈ vs, u.oneCell' = true := by
  obtain ⟨_, nv, a, cap, rfl, hn, _⟩ := h.parts
  obtain ⟨na, nc, rfl, _⟩ := hn.slice
  intro u hu
  simp only [List.mem_cons, List.not_mem_nil, or_false] at hu
  rcases hu with rfl | rfl | rfl | rfl | rfl | rfl <;> rfl
def termL : ByteArray := ⟨#[116, 101, 114, 109]⟩
/-- are the fields that a kind does not name zero? -/
def emptyS (k i : Int) (s : ByteArray) (c : Int) (nn an : Nat) (tx nu ar : Bool) : Bool :=
  (tx || decide (s = ⟨#[]⟩)) && (nu || (decide (nn = 0) && decide (c = 0))) && (ar || decide (an = 0)) && (decide (k = 1) || decide (i = 0))
def Tm.empty (t : Tm) (tx nu ar : Bool) : Bool := emptyS t.kind t.int t.text t.cr t.nums.length t.args.length tx nu ar
/-- the last of a list is none -/
def lastOk (al : List Tm) : Bool := match al.getLast? with | some x => decide (x.kind ≠ 7) | none => false
/-- has a part its form? -/
def formS (t : Tm) : Bool :=
  if t.kind = 1 then t.empty false false false
  else if t.kind = 2 then t.empty true false false
  else if t.kind = 3 then t.empty true true false && decide (t.nums.length = 3)
  else if t.kind = 4 then t.empty true true false && decide (t.nums.length = 2)
  else if t.kind = 5 then t.empty false false true
  else if t.kind = 6 then t.empty false false false
  else if t.kind = 7 then t.empty false false true && decide (2 ≤ t.args.length) && lastOk t.args
  else false
theorem lastOk_get {al : List Tm} (h : 2 ≤ al.length) : lastOk al = decide ((al[al.length - 1]'(by omega)).kind ≠ 7) := by
  unfold lastOk
  rw [List.getLast?_eq_getElem?, List.getElem?_eq_getElem (by omega)]
end Go.Proofs.YtkipjbmckpmmfaaDoor
end
section
/- Rows of terms that a call owns. -/
open Go Go.RowKit
namespace Go.Proofs.YtkipjbmckpmmfaaDoor

theorem flat_get (css : List (List Value)) : (∀ cs ∈ css, cs.length = 6) → ∀ (i : Nat) (hi : i < css.length) (j : Nat), j < 6 → css.flatten[i * 6 + j]? = (css[i])[j]? := by
  induction css with
  | nil => intro _ i hi; exact absurd hi (Nat.not_lt_zero _)
  | cons c r ih =>
    intro h i hi j hj
    have hc : c.length = 6 := h c (List.mem_cons_self ..)
    rw [List.flatten_cons]
    cases i with
    | zero => rw [List.getElem?_append_left (by omega)]; simp
    | succ i =>
      rw [List.getElem?_append_right (by omega), hc, show (i + 1) * 6 + j - 6 = i * 6 + j by omega, ih (fun x hx => h x (List.mem_cons_of_mem _ hx)) i (by simpa using hi) j hj]
      simp
/-- the value v is a row of terms that the call owns: nil, or in a block from base on; the terms' own rows lie in blocks of S -/
def TsIs (base : Nat) (S : Nat → Prop) (v : Value) (l : List Tm) (w : World) : Prop :=
  ∃ css : List (List Value), css.length = l.length ∧ w.ownsRow base 27 6 v l.length css.flatten ∧ ∀ i (h : i < css.length) (h2 : i < l.length), TmAt S l[i] css[i] w
theorem TsIs.nil (base : Nat) (S : Nat → Prop) (w : World) : TsIs base S (.slice none 0 0) [] w := ⟨[], rfl, ⟨rfl, .inl ⟨rfl, rfl⟩⟩, fun _ h => absurd h (Nat.not_lt_zero _)⟩
theorem TsIs.shape {base : Nat} {S : Nat → Prop} {v : Value} {l : List Tm} {w : World} (h : TsIs base S v l w) : (v = .slice none 0 0 ∧ l = []) ∨ ∃ g c, v = .slice (some ⟨g, 0, none⟩) l.length c ∧ base ≤ g ∧ g < w.heap.size ∧ l.length ≤ c ∧ c ≤ maxLen := by
  obtain ⟨css, _, ⟨h1, ⟨hv, hn⟩ | ⟨g, cap, cur, hv, hbg, hcell, hn, hc, _⟩⟩, _⟩ := h
  · exact .inl ⟨hv, List.eq_nil_of_length_eq_zero hn⟩
  · exact .inr ⟨g, cap, hv, hbg, (Array.getElem?_eq_some_iff.1 hcell).1, hn, hc⟩
theorem TsIs.block {base : Nat} {S : Nat → Prop} {v : Value} {l : List Tm} {w : World} (h : TsIs base S v l w) {g : Nat} (hg : v.ownBlock = some g) : base ≤ g ∧ g < w.heap.size ∧ ∃ cur, w.heap[g]? = some (.cells cur 27 (0, 0)) := by
  obtain ⟨css, _, ⟨h1, ⟨hv, hn⟩ | ⟨g', cap, cur, hv, hbg, hcell, hn, hc, _⟩⟩, _⟩ := h
  · rw [hv] at hg; cases hg
  · rw [hv] at hg; cases hg
    exact ⟨hbg, (Array.getElem?_eq_some_iff.1 hcell).1, cur, hcell⟩
theorem TsIs.frame {base : Nat} {S : Nat → Prop} {v : Value} {l : List Tm} {w w' : World} (h : TsIs base S v l w) (hb : ∀ g, v.ownBlock = some g → w'.heap[g]? = w.heap[g]?) (hS : ∀ b, b < w.heap.size → S b → w'.heap[b]? = w.heap[b]?) : TsIs base S v l w' := by
  obtain ⟨css, hl, ⟨h1, h2⟩, ht⟩ := h
  refine ⟨css, hl, ⟨h1, h2.imp_right ?_⟩, fun i h h2 => ?_⟩
  · rintro ⟨g, cap, cur, hv, hbg, hg, rest⟩
    exact ⟨g, cap, cur, hv, hbg, (hb g (by rw [hv]; rfl)).trans hg, rest⟩
  · have h3 : TmAt (fun b => b < w.heap.size ∧ S b) l[i] css[i] w := (ht i h h2).mono fun b hb hS => ⟨hb, hS⟩
    exact (h3.frame (w' := w') fun b hb => hS b hb.1 hb.2).mono fun _ _ hS => hS.2
theorem TsIs.below {base B : Nat} {S : Nat → Prop} {v : Value} {l : List Tm} {w w' : World} (h : TsIs base S v l w) (hb : Below B w w') (hB : w.heap.size ≤ B) : TsIs base S v l w' :=
  h.frame (fun g hg => hb.block g (Nat.lt_of_lt_of_le (h.block hg).2.1 hB)) (fun b hlt _ => hb.block b (Nat.lt_of_lt_of_le hlt hB))
theorem TsIs.alloc {base : Nat} {S : Nat → Prop} {v : Value} {l : List Tm} {w : World} (h : TsIs base S v l w) (o : Obj) : TsIs base S v l (w.alloc o) := h.below ((Below.refl _ _).alloc (Nat.le_refl _) o) (Nat.le_refl _)
theorem TsIs.drewN {base : Nat} {S : Nat → Prop} {v : Value} {l : List Tm} {w : World} (h : TsIs base S v l w) (n : Nat) : TsIs base S v l (w.drewN n) := h.frame (fun _ _ => rfl) (fun _ _ _ => rfl)
theorem TsIs.mono {base base' : Nat} {S S' : Nat → Prop} {v : Value} {l : List Tm} {w : World} (h : TsIs base S v l w) (hb : base' ≤ base) (hS : ∀ b, b < w.heap.size → S b → S' b) : TsIs base' S' v l w := by
  obtain ⟨css, hl, ⟨h1, h2⟩, ht⟩ := h
  refine ⟨css, hl, ⟨h1, h2.imp_right ?_⟩, fun i h h2 => (ht i h h2).mono hS⟩
  rintro ⟨g, cap, cur, hv, hbg, rest⟩
  exact ⟨g, cap, cur, hv, by omega, rest⟩
theorem TsIs.keep {base : Nat} {S S' : Nat → Prop} {v : Value} {l : List Tm} {w w' : World} (h : TsIs base S v l w) (k : Keep S' w w') (hb : ∀ g, v.ownBlock = some g → ¬ S' g) (hS : ∀ b, b < w.heap.size → S b → ¬ S' b) : TsIs base S v l w' :=
  h.frame (fun g hg => k.block g (h.block hg).2.1 (hb g hg)) (fun b hlt hSb => k.block b hlt (hS b hlt hSb))
/-- an element of a row -/
theorem TsIs.at_ {base : Nat} {S : Nat → Prop} {l : List Tm} {w : World} {g n c : Nat} (h : TsIs base S (.slice (some ⟨g, 0, none⟩) n c) l w) (i : Nat) (hi : i < l.length) :
    ∃ vs, (∀ j, j < 6 → w.cell? ⟨g, i * 6 + j, none⟩ = vs[j]?) ∧ TmAt S l[i] vs w := by
  obtain ⟨css, hl, ⟨h1, ⟨h2, _⟩ | ⟨g', cap, cur, hv, hbg, hcell, hn, hc, hcs, htake⟩⟩, ht⟩ := h
  · cases h2
  · cases hv
    have hic : i < css.length := by omega
    have h6 : ∀ cs ∈ css, cs.length = 6 := fun cs hcs => by
      obtain ⟨k, hk, rfl⟩ := List.getElem_of_mem hcs
      exact (ht k hk (by omega)).six
    refine ⟨css[i], fun j hj => ?_, ht i hic hi⟩
    have h2 : cur.toList[i * 6 + j]? = (css[i])[j]? := by
      rw [← flat_get css h6 i hic j hj, ← htake, List.getElem?_take_of_lt (by omega)]
    have h3 : cur[i * 6 + j]? = (css[i])[j]? := by rw [← h2]; simp
    simp only [World.cell?, hcell]
    simpa using h3
theorem Tryd.infoTerm : (Tryd.prog.info? 27).map (fun i => (i.zero, i.size, i.bytes)) = some (some (.agg #[.int .i64 0, .int .i64 0, .string ⟨#[]⟩, .int .u32 0, .slice none 0 0, .slice none 0 0]), 6, 88) := by kernel_rfl
/-- one term more, which lies at a place -/
theorem TsIs.app {base : Nat} {S : Nat → Prop} {v : Value} {l : List Tm} {w : World} {t : Tm} {vs : List Value} (h : TsIs base S v l w) (ht : TmAt S t vs w) (g o c : Nat) (hc : ∀ j, j < 6 → w.cell? ⟨g, o + j, none⟩ = vs[j]?)
    (hl : (l.length + 1) * 88 ≤ 140737488355328) (hB : base ≤ w.heap.size) (hv : ∀ k, v.ownBlock = some k → ¬ S k) :
    ∃ v' w', (Builtin.append_ #[25, 25] 25 #[v, .slice (some ⟨g, o, none⟩) 1 c]).run Tryd.prog w = .ok v' w' ∧ TsIs base S v' (l ++ [t]) w' ∧ w.grownBy w' v.ownBlock ∧ (v'.ownBlock = v.ownBlock ∨ v'.ownBlock = some w.heap.size) := by
  obtain ⟨i0, hi, hz0, hz1, hz2⟩ := info_parts Tryd.infoTerm
  obtain ⟨css, hlen, hown, hts⟩ := h
  have h6 := ht.six
  obtain ⟨v', w', hr, h2, h3, _, h4⟩ := run_append_own_at (P := Tryd.prog) w base 25 25 27 i0 _ 6 88 Tryd.underlying25 hi hz0 hz1 hz2 rfl (by decide) v l.length css.flatten hown ⟨g, o, none⟩ 1 c vs (by omega) (fun j u hj => by
    have hj6 : j < 6 := by rw [← h6]; exact (List.getElem?_eq_some_iff.1 hj).1
    rw [Lib.add_plain, hc j hj6]; exact hj) ht.one (by unfold maxLen; omega) hl hB
  refine ⟨v', w', hr, ⟨css ++ [vs], by simp [hlen], ?_, fun i hi hi2 => ?_⟩, h3, h4⟩
  · rw [List.length_append, List.length_singleton, List.flatten_append, List.flatten_cons, List.flatten_nil, List.append_nil]
    exact h2
  · have hkeep : ∀ {t : Tm} {cs : List Value}, TmAt S t cs w → TmAt S t cs w' := fun h => by
      have h1 : TmAt (fun b => b < w.heap.size ∧ S b) _ _ w := h.mono fun b hb hS => ⟨hb, hS⟩
      exact (h1.frame (w' := w') fun b hb => h3.block b hb.1 (fun e => hv b e.symm hb.2)).mono fun _ _ hS => hS.2
    by_cases e : i < l.length
    · have e1 : (css ++ [vs])[i] = css[i]'(by omega) := List.getElem_append_left (by omega)
      have e2 : (l ++ [t])[i] = l[i] := List.getElem_append_left e
      rw [e1, e2]
      exact hkeep (hts i (by omega) e)
    · have hil : i = l.length := by simp at hi2; omega
      subst hil
      have e1 : (css ++ [vs])[l.length] = vs := by
        rw [List.getElem_append_right (by omega)]
        simp [hlen]
      have e2 : (l ++ [t])[l.length] = t := by simp
      rw [e1, e2]
      exact hkeep ht
/-- a row of terms as a term's arguments -/
theorem TsIs.args {base : Nat} {S S2 : Nat → Prop} {v : Value} {l : List Tm} {w : World} (h : TsIs base S v l w) (hS : ∀ b, b < w.heap.size → S b → S2 b) (hv : ∀ k, v.ownBlock = some k → S2 k) :
    ∃ a cap, v = .slice a l.length cap ∧ (l.length ≤ cap ∧ cap ≤ maxLen) ∧ ArgsAt S2 l a w := by
  rcases h.shape with ⟨rfl, rfl⟩ | ⟨g, c, rfl, hbg, hlt, hc, hm⟩
  · exact ⟨none, 0, rfl, ⟨Nat.le_refl _, Nat.zero_le _⟩, by rw [ArgsAt]; trivial⟩
  · refine ⟨some ⟨g, 0, none⟩, c, rfl, ⟨hc, hm⟩, ArgsAt.mk (hv g rfl) fun i hi => ?_⟩
    obtain ⟨vs, hcs, ht⟩ := h.at_ i hi
    exact ⟨vs, fun j hj => by rw [Nat.zero_add]; exact hcs j hj, ht.mono hS⟩
end Go.Proofs.YtkipjbmckpmmfaaDoor
end
