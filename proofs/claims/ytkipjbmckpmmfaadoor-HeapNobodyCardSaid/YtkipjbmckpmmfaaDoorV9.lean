/- Texts laid together: Keep, RowV. -/
import Derived.Test.YtkipjbmckpmmfaaDoorV6
import Derived.Maps.AppendAt
import Derived.WideShapes
section
/- Words on memory: what a call may have turned (a set of blocks), and what it left. No function of the program is looked at here. -/
open Go Go.RowKit
namespace Go.Proofs.YtkipjbmckpmmfaaDoor

/-- w' is w but for the blocks of S and new ones. -/
structure Keep (S : Nat → Prop) (w w' : World) : Prop where
  os : w'.os = w.os
  tape : w'.tape = w.tape
  output : w'.output = w.output
  size : w.heap.size ≤ w'.heap.size
  block : ∀ k, k < w.heap.size → ¬ S k → w'.heap[k]? = w.heap[k]?

/-- one block -/
def Blk1 (b : Nat) : Nat → Prop := fun k => k = b
theorem Keep.refl (S : Nat → Prop) (w : World) : Keep S w w := ⟨rfl, rfl, rfl, Nat.le_refl _, fun _ _ _ => rfl⟩
/-- S' may have new blocks in it -/
theorem Keep.trans {S S' : Nat → Prop} {a b c : World} (h : Keep S a b) (k : Keep S' b c) (hs : ∀ i, i < a.heap.size → S' i → S i) : Keep S a c :=
  ⟨k.os.trans h.os, k.tape.trans h.tape, k.output.trans h.output, Nat.le_trans h.size k.size, fun i hi hn => (k.block i (Nat.lt_of_lt_of_le hi h.size) (fun e => hn (hs i hi e))).trans (h.block i hi hn)⟩
theorem Keep.more {S S' : Nat → Prop} {w w' : World} (h : Keep S w w') (hs : ∀ i, i < w.heap.size → S i → S' i) : Keep S' w w' := ⟨h.os, h.tape, h.output, h.size, fun i hi hn => h.block i hi (fun e => hn (hs i hi e))⟩
theorem Keep.of_below {w w' : World} {B : Nat} (h : Below B w w') (hB : w.heap.size ≤ B) (S : Nat → Prop) : Keep S w w' := ⟨h.os, h.tape, h.output, h.size, fun i hi _ => h.block i (Nat.lt_of_lt_of_le hi hB)⟩
theorem Keep.alloc {S : Nat → Prop} {a w : World} (h : Keep S a w) (o : Obj) : Keep S a (w.alloc o) :=
  ⟨h.os, h.tape, h.output, Nat.le_trans h.size (by simp), fun i hi hn => (Below.heap_alloc w o i (Nat.lt_of_lt_of_le hi h.size)).trans (h.block i hi hn)⟩
theorem Keep.drew {S : Nat → Prop} {a w : World} (h : Keep S a w) : Keep S a w.drew := ⟨h.os, h.tape, h.output, h.size, h.block⟩
theorem Keep.drewN {S : Nat → Prop} {a w : World} (h : Keep S a w) (n : Nat) : Keep S a (w.drewN n) := ⟨h.os, h.tape, h.output, h.size, h.block⟩
theorem Keep.setCell {S : Nat → Prop} {a w : World} (h : Keep S a w) {p : Addr} (hp : p.block < a.heap.size → S p.block) (u : Value) : Keep S a (w.setCell p u) :=
  ⟨h.os, h.tape, h.output, by simpa [World.setCell] using h.size, fun i hi hn => (Below.heap_setCell w p u i (fun e => by subst e; exact hn (hp hi))).trans (h.block i hi hn)⟩
theorem Keep.grown {S : Nat → Prop} {a w w' : World} {row : Option Nat} (h : Keep S a w) (hg : w.grownBy w' row) (hr : ∀ k, row = some k → k < a.heap.size → S k) : Keep S a w' :=
  ⟨hg.os.trans h.os, hg.tape.trans h.tape, hg.output.trans h.output, Nat.le_trans h.size hg.size, fun i hi hn => (hg.block i (Nat.lt_of_lt_of_le hi h.size) (fun e => hn (hr i e.symm hi))).trans (h.block i hi hn)⟩
/-- behind a call that makes memory alone -/
theorem Keep.below {S : Nat → Prop} {a w w' : World} (h : Keep S a w) (hb : Below w.heap.size w w') : Keep S a w' :=
  ⟨hb.os.trans h.os, hb.tape.trans h.tape, hb.output.trans h.output, Nat.le_trans h.size hb.size, fun i hi hn => (hb.block i (Nat.lt_of_lt_of_le hi h.size)).trans (h.block i hi hn)⟩
theorem Keep.toBelow {S : Nat → Prop} {w w' : World} {B : Nat} (h : Keep S w w') (hB : B ≤ w.heap.size) (hS : ∀ k, S k → B ≤ k) : Below B w w' :=
  ⟨h.os, h.tape, h.output, h.size, fun k hk => h.block k (by omega) (fun e => by have := hS k e; omega)⟩
/-- under a call's base: what the callee may turn lies above it -/
theorem below_keep {S : Nat → Prop} {a w w' : World} {B : Nat} (h : Below B a w) (k : Keep S w w') (hB : B ≤ w.heap.size) (hS : ∀ k, S k → B ≤ k) : Below B a w' := h.trans (k.toBelow hB hS)
/-- a block's cells -/
def Cells (w : World) (g : Nat) (t : TypeId) (cs : List Value) : Prop := w.heap[g]? = some (.cells cs.toArray t (0, 0))
theorem Cells.lt {w : World} {g : Nat} {t : TypeId} {cs : List Value} (h : Cells w g t cs) : g < w.heap.size := (Array.getElem?_eq_some_iff.1 h).1
theorem Cells.keep {S : Nat → Prop} {w w' : World} {g : Nat} {t : TypeId} {cs : List Value} (h : Cells w g t cs) (k : Keep S w w') (hS : ¬ S g) : Cells w' g t cs := (k.block g h.lt hS).trans h
theorem Cells.frame {w w' : World} {g : Nat} {t : TypeId} {cs : List Value} (h : Cells w g t cs) (hb : w'.heap[g]? = w.heap[g]?) : Cells w' g t cs := hb.trans h
theorem Cells.cell {w : World} {g : Nat} {t : TypeId} {cs : List Value} (h : Cells w g t cs) (i : Nat) : w.cell? ⟨g, i, none⟩ = cs[i]? := by
  unfold Cells at h; simp [World.cell?, h]
theorem Cells.frozen {w : World} {g : Nat} {t : TypeId} {cs : List Value} (h : Cells w g t cs) (i : Nat) : w.frozen? ⟨g, i, none⟩ = false := by
  unfold Cells at h; simp [World.frozen?, h]
theorem Cells.drew {w : World} {g : Nat} {t : TypeId} {cs : List Value} (h : Cells w g t cs) : Cells w.drew g t cs := h
theorem Cells.drewN {w : World} {g : Nat} {t : TypeId} {cs : List Value} (h : Cells w g t cs) (n : Nat) : Cells (w.drewN n) g t cs := h
theorem Cells.alloc {w : World} {g : Nat} {t : TypeId} {cs : List Value} (h : Cells w g t cs) (o : Obj) : Cells (w.alloc o) g t cs := (Below.heap_alloc w o g h.lt).trans h
theorem Cells.grown {w w' : World} {g : Nat} {t : TypeId} {cs : List Value} {row : Option Nat} (h : Cells w g t cs) (hg : w.grownBy w' row) (hne : row ≠ some g) : Cells w' g t cs := (hg.block g h.lt (Ne.symm hne)).trans h
theorem Cells.below {w w' : World} {g : Nat} {t : TypeId} {cs : List Value} (h : Cells w g t cs) (hb : Below w.heap.size w w') : Cells w' g t cs := (hb.block g h.lt).trans h
theorem Cells.set_ {w : World} {g : Nat} {t : TypeId} {cs : List Value} (h : Cells w g t cs) (i : Nat) (u : Value) : Cells (w.setCell ⟨g, i, none⟩ u) g t (cs.set i u) := by
  unfold Cells at h ⊢
  simp [World.setCell, Array.getElem?_modify, h]
theorem Cells.far {w : World} {g : Nat} {t : TypeId} {cs : List Value} (h : Cells w g t cs) {p : Addr} (hp : g ≠ p.block) (u : Value) : Cells (w.setCell p u) g t cs := (Below.heap_setCell w p u g hp).trans h
theorem Cells.new (w : World) (t : TypeId) (cs : List Value) : Cells (w.alloc (.cells cs.toArray t)) w.heap.size t cs := by
  show (w.heap.push _)[w.heap.size]? = _
  simp

/-- The value v is a list of strings in a block of its own. -/
def strsV (l : List ByteArray) : List Value := l.map .string
def StrsIs (v : Value) (l : List ByteArray) (w : World) : Prop := w.ownsRow 0 9 1 v l.length (strsV l)
theorem StrsIs.nil (w : World) : StrsIs (.slice none 0 0) [] w := ⟨rfl, .inl ⟨rfl, rfl⟩⟩
theorem StrsIs.frame {v : Value} {l : List ByteArray} {w w' : World} (h : StrsIs v l w) (hb : ∀ g, v.ownBlock = some g → w'.heap[g]? = w.heap[g]?) : StrsIs v l w' := by
  obtain ⟨h1, h2⟩ := h
  refine ⟨h1, h2.imp_right ?_⟩
  rintro ⟨g, cap, cur, hv, hbg, hg, rest⟩
  exact ⟨g, cap, cur, hv, hbg, (hb g (by rw [hv]; rfl)).trans hg, rest⟩
theorem StrsIs.lt {v : Value} {l : List ByteArray} {w : World} (h : StrsIs v l w) {g : Nat} (hg : v.ownBlock = some g) : g < w.heap.size ∧ ∃ cur, w.heap[g]? = some (.cells cur 9 (0, 0)) := by
  obtain ⟨_, ⟨hv, _⟩ | ⟨g', cap, cur, hv, hbg, hcell, _⟩⟩ := h
  · rw [hv] at hg; cases hg
  · rw [hv] at hg
    cases hg
    exact ⟨(Array.getElem?_eq_some_iff.1 hcell).1, cur, hcell⟩
theorem StrsIs.shape {v : Value} {l : List ByteArray} {w : World} (h : StrsIs v l w) : (v = .slice none 0 0 ∧ l = []) ∨ ∃ g c, v = .slice (some ⟨g, 0, none⟩) l.length c ∧ g < w.heap.size ∧ l.length ≤ c ∧ c ≤ maxLen := by
  obtain ⟨h1, ⟨hv, hn⟩ | ⟨g, cap, cur, hv, hbg, hcell, hn, hc, _⟩⟩ := h
  · exact .inl ⟨hv, List.eq_nil_of_length_eq_zero hn⟩
  · exact .inr ⟨g, cap, hv, (Array.getElem?_eq_some_iff.1 hcell).1, hn, hc⟩
theorem StrsIs.cell {l : List ByteArray} {w : World} {g n c : Nat} (h : StrsIs (.slice (some ⟨g, 0, none⟩) n c) l w) (i : Nat) (hi : i < l.length) : w.cell? ⟨g, i, none⟩ = some (.string l[i]) := by
  obtain ⟨h1, ⟨h2, _⟩ | ⟨g', cap, cur, hv, hbg, hcell, hn, hc, hcs, htake⟩⟩ := h
  · cases h2
  · cases hv
    have h2 : cur.toList[i]? = (strsV l)[i]? := by
      rw [← htake, List.getElem?_take_of_lt (by omega)]
    simp only [World.cell?, hcell]
    have h3 : cur[i]? = (strsV l)[i]? := by rw [← h2]; simp
    simp only [strsV, List.getElem?_map, List.getElem?_eq_getElem hi] at h3
    simpa using h3
theorem StrsIs.drew {v : Value} {l : List ByteArray} {w : World} (h : StrsIs v l w) : StrsIs v l w.drew := h.frame fun _ _ => rfl
theorem StrsIs.drewN {v : Value} {l : List ByteArray} {w : World} (h : StrsIs v l w) (n : Nat) : StrsIs v l (w.drewN n) := h.frame fun _ _ => rfl
theorem StrsIs.alloc {v : Value} {l : List ByteArray} {w : World} (h : StrsIs v l w) (o : Obj) : StrsIs v l (w.alloc o) := h.frame fun _ hg => Below.heap_alloc w o _ (h.lt hg).1
theorem StrsIs.keep {S : Nat → Prop} {v : Value} {l : List ByteArray} {w w' : World} (h : StrsIs v l w) (k : Keep S w w') (hS : ∀ g, v.ownBlock = some g → ¬ S g) : StrsIs v l w' :=
  h.frame fun g hg => k.block g (h.lt hg).1 (hS g hg)
theorem StrsIs.ne_cells {v : Value} {l : List ByteArray} {w : World} (h : StrsIs v l w) {g : Nat} {t : TypeId} {cs : List Value} (hc : Cells w g t cs) (ht : t ≠ 9) : v.ownBlock ≠ some g := by
  intro e
  obtain ⟨_, cur, hcur⟩ := h.lt e
  unfold Cells at hc
  rw [hc] at hcur
  injection hcur with hcur
  injection hcur with _ h2
  exact ht h2
theorem run_strs_len {v : Value} {l : List ByteArray} {w : World} (h : StrsIs v l w) (w2 : World) : (Builtin.len_ #[49] 3 #[v]).run Tryd.prog w2 = .ok (.int .i64 l.length) w2 := by
  have hu := Tryd.underlying49
  rcases h.shape with ⟨rfl, rfl⟩ | ⟨g, c, rfl, _⟩
  · go_simp
  · go_simp
theorem Tryd.infoString : (Tryd.prog.info? 9).map (fun i => (i.zero, i.size, i.bytes)) = some (some (.string ⟨#[]⟩), 1, 16) := by kernel_rfl

/-- append(l, s) -/
theorem StrsIs.app {v : Value} {l : List ByteArray} {w : World} (h : StrsIs v l w) (s : ByteArray) (hl : l.length ≤ 1099511627776) :
    ∃ v' w', (Builtin.append_ #[49, 49] 49 #[v, .slice (some ⟨w.heap.size, 0, none⟩) 1 1]).run Tryd.prog (w.alloc (.cells #[.string s] 9 (0, 0))) = .ok v' w' ∧ StrsIs v' (l ++ [s]) w' ∧
      (w.alloc (.cells #[.string s] 9 (0, 0))).grownBy w' v.ownBlock ∧ (v'.ownBlock = v.ownBlock ∨ v'.ownBlock = some (w.heap.size + 1)) := by
  obtain ⟨i0, hi, hz0, hz1, hz2⟩ := info_parts Tryd.infoString
  obtain ⟨v', w', hr, h2, h3, _, h5⟩ := run_append_own_at (P := Tryd.prog) (w.alloc (.cells #[.string s] 9 (0, 0))) 0 49 49 9 i0 _ 1 16 Tryd.underlying49 hi hz0 hz1 hz2 rfl (by decide) v l.length (strsV l) (h.alloc _)
    ⟨w.heap.size, 0, none⟩ 1 1 [.string s] rfl (by
      intro j u hj
      match j, hj with
      | 0, hj => simp at hj; subst hj; exact World.cell?_alloc_new _ _ _ _
      | j + 1, hj => simp at hj) (by intro u hu; simp at hu; subst hu; rfl) (by unfold maxLen; omega) (by omega) (Nat.zero_le _)
  refine ⟨v', w', hr, ?_, h3, by simpa using h5⟩
  unfold StrsIs
  rw [List.length_append]
  simpa [strsV] using h2

theorem wp_app_eq {P : Program} {ops : Array Oper} {rest : List Oper} {o : Oper} {a : Act} {Q : Exit → Act → World → Prop} {w : World} (hgd : o.guard = none) (s x : Operand) (t t2 : TypeId)
    (ho : o.op = .call { callee := .builtin .append, args := #[s, x], argTypes := #[t, t2] })
    (v1 v2 v' : Value) (w' : World) (hs : a.eval s = v1) (hx : a.eval x = v2) (hrun : (Builtin.append_ #[t, t2] o.type #[v1, v2]).run P w = .ok v' w')
    (h : wpList P ops Q rest (a.put o.dst v') w') : wpList P ops Q (o :: rest) a w := by
  refine wpList_plain hgd fun K hK' => ?_
  unfold Oper.wp
  simp [execOp, ho, resolve, invoke, builtin, hs, hx, hrun, Result.andThen]
  exact hK' _ _ h
theorem step_app_eq {P : Program} {ops : Array Oper} {o : Oper} {a : Act} {K : Act → World → Prop} {Q : Exit → Act → World → Prop} {E : Prop} {w : World} (hgd : o.guard = none) (s x : Operand) (t t2 : TypeId)
    (ho : o.op = .call { callee := .builtin .append, args := #[s, x], argTypes := #[t, t2] })
    (v1 v2 v' : Value) (w' : World) (hs : a.eval s = v1) (hx : a.eval x = v2) (hrun : (Builtin.append_ #[t, t2] o.type #[v1, v2]).run P w = .ok v' w')
    (h : K (a.put o.dst v') w') : if Region.wanted o (yielded ops a.tmps) = true then Oper.wp P o a w K Q else E := by
  have hw : Region.wanted o (yielded ops a.tmps) = true := by simp [Region.wanted, hgd]
  rw [if_pos hw]
  unfold Oper.wp
  simp [execOp, ho, resolve, invoke, builtin, hs, hx, hrun, Result.andThen]
  exact h

/-- faults do not turn -/
def NF (w : World) (b : Nat) : Prop := ∀ cs f, w.heap[b]? ≠ some (.cells cs 93 f)
theorem ErrIs.keep {S : Nat → Prop} {w w' : World} (k : Keep S w w') (hS : ∀ b, S b → NF w b) : ∀ {l : List Lk} {v : Value}, ErrIs w v l → ErrIs w' v l := by
  intro l
  induction l with
  | nil => exact fun h => h
  | cons x rest ih =>
    intro v h
    obtain ⟨b, u, hv, hc, hr⟩ := h
    exact ⟨b, u, hv, (k.block b (Array.getElem?_eq_some_iff.1 hc).1 (fun e => hS b e _ _ hc)).trans hc, ih hr⟩
theorem NF.cells {w : World} {g : Nat} {t : TypeId} {cs : List Value} (h : Cells w g t cs) (ht : t ≠ 93) : NF w g := by
  intro cs' f e
  unfold Cells at h
  rw [h] at e
  injection e with e
  injection e with _ e
  exact ht e
theorem NF.strs {w : World} {v : Value} {l : List ByteArray} (h : StrsIs v l w) {b : Nat} (hb : v.ownBlock = some b) : NF w b := by
  obtain ⟨_, cur, hc⟩ := h.lt hb
  intro cs' f e
  rw [hc] at e
  injection e with e
  injection e with _ e
  exact absurd e (by decide)
theorem LinksIs.keep {S : Nat → Prop} {base : Nat} {v : Value} {l : List Lk} {w w' : World} (h : LinksIs base v l w) (k : Keep S w w') (hS : ∀ b, S b → b < base) : LinksIs base v l w' :=
  h.frame fun g hg => k.block g (h.block hg).2 (fun e => by have := hS g e; have := (h.block hg).1; omega)
end Go.Proofs.YtkipjbmckpmmfaaDoor
end
section
/- Rows of values of one cell each, of any type: those that a call owns, those that are read. No function of the program is looked at here. -/
open Go Go.RowKit
namespace Go.Proofs.YtkipjbmckpmmfaaDoor
set_option linter.unusedVariables false

/-- the value v is a row of values that the call owns: nil, or in a block from base on -/
def RowV (base : Nat) (e : TypeId) (v : Value) (l : List Value) (w : World) : Prop := w.ownsRow base e 1 v l.length l
theorem RowV.nil (base : Nat) (e : TypeId) (w : World) : RowV base e (.slice none 0 0) [] w := ⟨rfl, .inl ⟨rfl, rfl⟩⟩
theorem RowV.frame {base : Nat} {e : TypeId} {v : Value} {l : List Value} {w w' : World} (h : RowV base e v l w) (hb : ∀ g, v.ownBlock = some g → w'.heap[g]? = w.heap[g]?) : RowV base e v l w' := by
  obtain ⟨h1, h2⟩ := h
  refine ⟨h1, h2.imp_right ?_⟩
  rintro ⟨g, cap, cur, hv, hbg, hg, rest⟩
  exact ⟨g, cap, cur, hv, hbg, (hb g (by rw [hv]; rfl)).trans hg, rest⟩
theorem RowV.block {base : Nat} {e : TypeId} {v : Value} {l : List Value} {w : World} (h : RowV base e v l w) {g : Nat} (hg : v.ownBlock = some g) : base ≤ g ∧ g < w.heap.size ∧ ∃ cur, w.heap[g]? = some (.cells cur e (0, 0)) := by
  obtain ⟨_, ⟨hv, _⟩ | ⟨g', cap, cur, hv, hbg, hcell, _⟩⟩ := h
  · rw [hv] at hg; cases hg
  · rw [hv] at hg; cases hg
    exact ⟨hbg, (Array.getElem?_eq_some_iff.1 hcell).1, cur, hcell⟩
theorem RowV.shape {base : Nat} {e : TypeId} {v : Value} {l : List Value} {w : World} (h : RowV base e v l w) : (v = .slice none 0 0 ∧ l = []) ∨ ∃ g c, v = .slice (some ⟨g, 0, none⟩) l.length c ∧ base ≤ g ∧ g < w.heap.size ∧ l.length ≤ c ∧ c ≤ maxLen := by
  obtain ⟨h1, ⟨hv, hn⟩ | ⟨g, cap, cur, hv, hbg, hcell, hn, hc, _⟩⟩ := h
  · exact .inl ⟨hv, List.eq_nil_of_length_eq_zero hn⟩
  · exact .inr ⟨g, cap, hv, hbg, (Array.getElem?_eq_some_iff.1 hcell).1, hn, hc⟩
theorem RowV.form {base : Nat} {e : TypeId} {v : Value} {l : List Value} {w : World} (h : RowV base e v l w) : ∃ a c, v = .slice a l.length c := by
  rcases h.shape with ⟨rfl, rfl⟩ | ⟨g, c, rfl, _⟩
  · exact ⟨none, 0, rfl⟩
  · exact ⟨_, c, rfl⟩
theorem RowV.cell {base : Nat} {e : TypeId} {l : List Value} {w : World} {g n c : Nat} (h : RowV base e (.slice (some ⟨g, 0, none⟩) n c) l w) (i : Nat) (hi : i < l.length) : w.cell? ⟨g, i, none⟩ = some l[i] := by
  obtain ⟨h1, ⟨h2, _⟩ | ⟨g', cap, cur, hv, hbg, hcell, hn, hc, hcs, htake⟩⟩ := h
  · cases h2
  · cases hv
    have h2 : cur.toList[i]? = l[i]? := by
      have := congrArg (fun z : List Value => z[i]?) htake
      simp only [Nat.mul_one] at this
      rwa [List.getElem?_take_of_lt hi] at this
    have h3 : cur[i]? = some l[i] := by rw [List.getElem?_eq_getElem hi] at h2; simpa using h2
    simp only [World.cell?, hcell]
    simpa using h3
theorem RowV.mono {base base' : Nat} {e : TypeId} {v : Value} {l : List Value} {w : World} (h : RowV base e v l w) (hb : base' ≤ base) : RowV base' e v l w := by
  obtain ⟨h1, h2⟩ := h
  refine ⟨h1, h2.imp_right ?_⟩
  rintro ⟨g, cap, cur, hv, hbg, rest⟩
  exact ⟨g, cap, cur, hv, by omega, rest⟩
theorem RowV.keep {S : Nat → Prop} {base : Nat} {e : TypeId} {v : Value} {l : List Value} {w w' : World} (h : RowV base e v l w) (k : Keep S w w') (hS : ∀ g, v.ownBlock = some g → ¬ S g) : RowV base e v l w' :=
  h.frame fun g hg => k.block g (h.block hg).2.1 (hS g hg)
theorem RowV.below {base : Nat} {e : TypeId} {v : Value} {l : List Value} {w w' : World} (h : RowV base e v l w) (hb : Below w.heap.size w w') : RowV base e v l w' :=
  h.frame fun g hg => hb.block g (h.block hg).2.1
theorem RowV.drewN {base : Nat} {e : TypeId} {v : Value} {l : List Value} {w : World} (h : RowV base e v l w) (n : Nat) : RowV base e v l (w.drewN n) := h.frame fun _ _ => rfl
theorem RowV.alloc {base : Nat} {e : TypeId} {v : Value} {l : List Value} {w : World} (h : RowV base e v l w) (o : Obj) : RowV base e v l (w.alloc o) := h.frame fun g hg => Below.heap_alloc w o g (h.block hg).2.1
theorem RowV.ne_cells {base : Nat} {e : TypeId} {v : Value} {l : List Value} {w : World} (h : RowV base e v l w) {g : Nat} {t : TypeId} {cs : List Value} (hc : Cells w g t cs) (ht : t ≠ e) : v.ownBlock ≠ some g := by
  intro hg
  obtain ⟨_, _, cur, hcur⟩ := h.block hg
  unfold Cells at hc
  rw [hc] at hcur
  injection hcur with hcur
  injection hcur with _ h2
  exact ht h2
theorem NF.row {base : Nat} {e : TypeId} {v : Value} {l : List Value} {w : World} (h : RowV base e v l w) (he : e ≠ 93) {b : Nat} (hb : v.ownBlock = some b) : NF w b := by
  obtain ⟨_, _, cur, hcur⟩ := h.block hb
  intro cs f e2
  rw [hcur] at e2
  injection e2 with e2
  injection e2 with _ h2
  exact he h2
/-- a row just laid -/
theorem RowV.lit {base : Nat} {w : World} (e : TypeId) (l : List Value) (hb : base ≤ w.heap.size) (hl : l.length ≤ maxLen) : RowV base e (.slice (some ⟨w.heap.size, 0, none⟩) l.length l.length) l (w.alloc (.cells l.toArray e (0, 0))) := by
  refine ⟨by simp, .inr ⟨w.heap.size, l.length, l.toArray, rfl, hb, ?_, Nat.le_refl _, hl, by simp, List.take_of_length_le (by simp)⟩⟩
  show (w.heap.push _)[w.heap.size]? = _
  simp
/-- a row of values that is read; its block is one of S -/
def AtV (S : Nat → Prop) (v : Value) (l : List Value) (w : World) : Prop :=
  ∃ a c, v = .slice a l.length c ∧ (l.length ≤ c ∧ c ≤ maxLen) ∧ ∀ i, (h : i < l.length) → ∃ g o, a = some ⟨g, o, none⟩ ∧ S g ∧ w.cell? ⟨g, o + i, none⟩ = some l[i]
theorem AtV.nil (S : Nat → Prop) (w : World) : AtV S (.slice none 0 0) [] w := ⟨none, 0, rfl, ⟨Nat.le_refl _, Nat.zero_le _⟩, fun i h => absurd h (Nat.not_lt_zero _)⟩
theorem AtV.form {S : Nat → Prop} {v : Value} {l : List Value} {w : World} (h : AtV S v l w) : ∃ a c, v = .slice a l.length c := by
  obtain ⟨a, c, h1, _⟩ := h; exact ⟨a, c, h1⟩
theorem AtV.frame {S : Nat → Prop} {v : Value} {l : List Value} {w w' : World} (h : AtV S v l w) (hb : ∀ g, S g → w'.heap[g]? = w.heap[g]?) : AtV S v l w' := by
  obtain ⟨a, c, h1, h2, h3⟩ := h
  refine ⟨a, c, h1, h2, fun i hi => ?_⟩
  obtain ⟨g, o, ha, hS, hc⟩ := h3 i hi
  refine ⟨g, o, ha, hS, ?_⟩
  unfold World.cell? at hc ⊢
  rw [hb g hS]; exact hc
theorem AtV.mono {S S' : Nat → Prop} {v : Value} {l : List Value} {w : World} (h : AtV S v l w) (hS : ∀ b, b < w.heap.size → S b → S' b) : AtV S' v l w := by
  obtain ⟨a, c, h1, h2, h3⟩ := h
  refine ⟨a, c, h1, h2, fun i hi => ?_⟩
  obtain ⟨g, o, ha, hg, hc⟩ := h3 i hi
  exact ⟨g, o, ha, hS g (World.block_lt_of_cell? w _ hc) hg, hc⟩
theorem AtV.keep {S S' : Nat → Prop} {v : Value} {l : List Value} {w w' : World} (h : AtV S v l w) (k : Keep S' w w') (hS : ∀ b, S b → ¬ S' b) : AtV S v l w' := by
  have h1 : AtV (fun b => b < w.heap.size ∧ S b) v l w := h.mono fun b hb hs => ⟨hb, hs⟩
  exact (h1.frame (w' := w') fun b hb => k.block b hb.1 (hS b hb.2)).mono fun _ _ hs => hs.2
theorem AtV.below {S : Nat → Prop} {v : Value} {l : List Value} {w w' : World} (h : AtV S v l w) (hb : Below w.heap.size w w') : AtV S v l w' := by
  have h1 : AtV (fun b => b < w.heap.size ∧ S b) v l w := h.mono fun b hb hs => ⟨hb, hs⟩
  exact (h1.frame (w' := w') fun b hb2 => hb.block b hb2.1).mono fun _ _ hs => hs.2
theorem AtV.cell {S : Nat → Prop} {l : List Value} {w : World} {a : Option Addr} {n c : Nat} (h : AtV S (.slice a n c) l w) (hl : l ≠ []) : ∃ g o, a = some ⟨g, o, none⟩ ∧ S g ∧ ∀ i, (h : i < l.length) → w.cell? ⟨g, o + i, none⟩ = some l[i] := by
  obtain ⟨a', c', h1, h2, h3⟩ := h
  cases h1
  obtain ⟨g, o, ha, hS, _⟩ := h3 0 (List.length_pos_iff.2 hl)
  refine ⟨g, o, ha, hS, fun i hi => ?_⟩
  obtain ⟨g', o', ha', _, hc⟩ := h3 i hi
  rw [ha] at ha'; cases ha'
  exact hc
theorem RowV.at_ {base : Nat} {e : TypeId} {v : Value} {l : List Value} {w : World} (h : RowV base e v l w) : AtV (fun g => v.ownBlock = some g) v l w := by
  rcases h.shape with ⟨rfl, rfl⟩ | ⟨g, c, rfl, _, _, h1, h2⟩
  · exact AtV.nil _ w
  · exact ⟨_, c, rfl, ⟨h1, h2⟩, fun i hi => ⟨g, 0, rfl, rfl, by rw [Nat.zero_add]; exact h.cell i hi⟩⟩
/-- one value set -/
theorem RowV.set_ {base : Nat} {e : TypeId} {l : List Value} {w : World} {g n c : Nat} (h : RowV base e (.slice (some ⟨g, 0, none⟩) n c) l w) (i : Nat) (u : Value) (hu : u.oneCell' = true) : RowV base e (.slice (some ⟨g, 0, none⟩) n c) (l.set i u) (w.setCell ⟨g, i, none⟩ u) := by
  obtain ⟨h1, ⟨h2, _⟩ | ⟨g', cap, cur, hv, hbg, hcell, hn, hc, hcs, htake⟩⟩ := h
  · cases h2
  · cases hv
    refine ⟨by simp, .inr ⟨g, c, cur.setIfInBounds i u, by simp, hbg, ?_, by simpa using hn, hc, by simpa using hcs, ?_⟩⟩
    · simp [World.setCell, Array.getElem?_modify, hcell]
    · simp only [Nat.mul_one, List.length_set] at htake ⊢
      rw [Array.toList_setIfInBounds, List.take_set, htake]
/-- append -/
theorem RowV.app {T e : TypeId} {z : Value} {by_ : Nat} (hu : Tryd.prog.underlying T = some (.slice e)) (hinfo : (Tryd.prog.info? e).map (fun i => (i.zero, i.size, i.bytes)) = some (some z, 1, by_)) (hz : z.cells.size = 1)
    {base : Nat} {S : Nat → Prop} {v dv : Value} {l d : List Value} {w : World} (h : RowV base e v l w) (hd : AtV S dv d w) (h1 : ∀ u ∈ d, u.oneCell' = true) (h63 : l.length + d.length ≤ maxLen) (hl : (l.length + d.length) * by_ ≤ 140737488355328) (hB : base ≤ w.heap.size) :
    ∃ a' c' w', (Builtin.append_ #[T, T] T #[v, dv]).run Tryd.prog w = .ok (.slice a' (l.length + d.length) c') w' ∧ RowV base e (.slice a' (l.length + d.length) c') (l ++ d) w' ∧ w.grownBy w' v.ownBlock ∧ ((Value.slice a' (l.length + d.length) c').ownBlock = v.ownBlock ∨ (Value.slice a' (l.length + d.length) c').ownBlock = some w.heap.size) := by
  obtain ⟨i0, hi, hz0, hz1, hz2⟩ := info_parts hinfo
  obtain ⟨a, c, rfl, ⟨hc1, hc2⟩, hc⟩ := hd
  have main : ∀ ad : Addr, a = some ad → ∃ v' w', (Builtin.append_ #[T, T] T #[v, .slice a d.length c]).run Tryd.prog w = .ok v' w' ∧ RowV base e v' (l ++ d) w' ∧ w.grownBy w' v.ownBlock ∧ (v'.ownBlock = v.ownBlock ∨ v'.ownBlock = some w.heap.size) := by
    intro ad ha
    subst ha
    obtain ⟨v', w', hr, h2, h3, _, h4⟩ := run_append_own_at (P := Tryd.prog) w base T T e i0 z 1 by_ hu hi hz0 hz1 hz2 hz (by decide) v l.length l h ad d.length c d (by omega) (fun j u hj => by
      have hlt : j < d.length := (List.getElem?_eq_some_iff.1 hj).1
      obtain ⟨g, o, he, _, hx⟩ := hc j hlt
      cases he
      rw [WideShapes.add_plain, hx, ← hj, List.getElem?_eq_getElem hlt]) h1 h63 hl hB
    exact ⟨v', w', hr, by unfold RowV; rw [List.length_append]; exact h2, h3, h4⟩
  have fin : (∃ v' w', (Builtin.append_ #[T, T] T #[v, .slice a d.length c]).run Tryd.prog w = .ok v' w' ∧ RowV base e v' (l ++ d) w' ∧ w.grownBy w' v.ownBlock ∧ (v'.ownBlock = v.ownBlock ∨ v'.ownBlock = some w.heap.size)) := by
    cases ha : a with
    | some ad => rw [← ha]; exact main ad ha
    | none =>
      subst ha
      have hd0 : d = [] := by
        cases d with
        | nil => rfl
        | cons x r => obtain ⟨_, _, e, _⟩ := hc 0 (by simp); cases e
      subst hd0
      refine ⟨v, w, ?_, by simpa using h, ⟨rfl, rfl, rfl, Nat.le_refl _, fun _ _ _ => rfl⟩, .inl rfl⟩
      rcases h.shape with ⟨rfl, rfl⟩ | ⟨g, cap, rfl, _, _, hnc, _⟩
      · simp [Builtin.append_, run_underlying hu, sizeOf, typeInfo, hi, Builtin.lenOf, Builtin.firstCells]
      · simp [Builtin.append_, run_underlying hu, sizeOf, typeInfo, hi, Builtin.lenOf, Builtin.firstCells, hnc, storeCells]
  obtain ⟨v', w', hr, h2, h3, h4⟩ := fin
  obtain ⟨a', c', rfl⟩ := h2.form
  rw [List.length_append] at hr h2 h4
  exact ⟨a', c', w', hr, h2, h3, h4⟩
/-- words -/
def wordV (n : Nat) : Value := .int .u64 n
def wordsV (l : List Nat) : List Value := l.map wordV
theorem wordsV_len (l : List Nat) : (wordsV l).length = l.length := by simp [wordsV]
theorem wordsV_app (l k : List Nat) : wordsV (l ++ k) = wordsV l ++ wordsV k := by simp [wordsV]
theorem wordsV_one (l : List Nat) : ∀ u ∈ wordsV l, u.oneCell' = true := by
  intro u hu
  simp only [wordsV, List.mem_map] at hu
  obtain ⟨c, _, rfl⟩ := hu
  rfl
theorem wordsV_get (l : List Nat) (i : Nat) (h : i < (wordsV l).length) : (wordsV l)[i] = .int .u64 (l.getD i 0 : Nat) := by
  have h2 : i < l.length := by rwa [wordsV_len] at h
  simp [wordsV, wordV, List.getD, h2]
theorem Tryd.infoU64 : (Tryd.prog.info? 34).map (fun i => (i.zero, i.size, i.bytes)) = some (some (.int .u64 0), 1, 8) := by kernel_rfl
/-- append of words -/
theorem words_app {base : Nat} {S : Nat → Prop} {v dv : Value} {l d : List Nat} {w : World} (h : RowV base 34 v (wordsV l) w) (hd : AtV S dv (wordsV d) w) (hl : l.length + d.length ≤ 17592186044416) (hB : base ≤ w.heap.size) :
    ∃ a' n' c' w', n' = (l ++ d).length ∧ (Builtin.append_ #[48, 48] 48 #[v, dv]).run Tryd.prog w = .ok (.slice a' n' c') w' ∧ RowV base 34 (.slice a' n' c') (wordsV (l ++ d)) w' ∧ w.grownBy w' v.ownBlock ∧ ((Value.slice a' n' c').ownBlock = v.ownBlock ∨ (Value.slice a' n' c').ownBlock = some w.heap.size) := by
  obtain ⟨a', c', w', h1, h2, h3, h4⟩ := RowV.app Tryd.underlying48 Tryd.infoU64 rfl h hd (wordsV_one _) (by simp only [wordsV_len]; unfold maxLen; omega) (by simp only [wordsV_len]; omega) hB
  rw [← wordsV_app] at h2
  exact ⟨a', _, c', w', by simp [wordsV_len], h1, h2, h3, h4⟩
theorem wordsV_one_at {w : World} (x : Nat) : AtV (fun b => b = w.heap.size) (.slice (some ⟨w.heap.size, 0, none⟩) 1 1) (wordsV [x]) (w.alloc (.cells #[.int .u64 x] 34 (0, 0))) :=
  (RowV.lit (base := 0) (w := w) 34 (wordsV [x]) (Nat.zero_le _) (by simp [wordsV, maxLen])).at_.mono fun b _ hb => (Option.some.inj hb).symm
/-- a row that the call owns, or one whose capacity is its length in a longer block (behind slices.Clip) -/
def RowX (base : Nat) (e : TypeId) (v : Value) (l : List Value) (w : World) : Prop :=
  RowV base e v l w ∨ ∃ g cur, v = .slice (some ⟨g, 0, none⟩) l.length l.length ∧ base ≤ g ∧ w.heap[g]? = some (.cells cur e (0, 0)) ∧ l.length ≤ maxLen ∧ cur.toList.take l.length = l
theorem RowV.x {base : Nat} {e : TypeId} {v : Value} {l : List Value} {w : World} (h : RowV base e v l w) : RowX base e v l w := .inl h
theorem RowX.frame {base : Nat} {e : TypeId} {v : Value} {l : List Value} {w w' : World} (h : RowX base e v l w) (hb : ∀ g, v.ownBlock = some g → w'.heap[g]? = w.heap[g]?) : RowX base e v l w' := by
  rcases h with h | ⟨g, cur, rfl, h1, h2, h3, h4⟩
  · exact .inl (h.frame hb)
  · exact .inr ⟨g, cur, rfl, h1, (hb g rfl).trans h2, h3, h4⟩
theorem RowX.block {base : Nat} {e : TypeId} {v : Value} {l : List Value} {w : World} (h : RowX base e v l w) {g : Nat} (hg : v.ownBlock = some g) : base ≤ g ∧ g < w.heap.size ∧ ∃ cur, w.heap[g]? = some (.cells cur e (0, 0)) := by
  rcases h with h | ⟨g', cur, rfl, h1, h2, h3, h4⟩
  · exact h.block hg
  · cases hg
    exact ⟨h1, (Array.getElem?_eq_some_iff.1 h2).1, cur, h2⟩
theorem RowX.shape {base : Nat} {e : TypeId} {v : Value} {l : List Value} {w : World} (h : RowX base e v l w) : (v = .slice none 0 0 ∧ l = []) ∨ ∃ g c, v = .slice (some ⟨g, 0, none⟩) l.length c ∧ base ≤ g ∧ g < w.heap.size ∧ l.length ≤ c ∧ c ≤ maxLen := by
  rcases h with h | ⟨g, cur, rfl, h1, h2, h3, h4⟩
  · exact h.shape
  · exact .inr ⟨g, _, rfl, h1, (Array.getElem?_eq_some_iff.1 h2).1, Nat.le_refl _, h3⟩
theorem RowX.form {base : Nat} {e : TypeId} {v : Value} {l : List Value} {w : World} (h : RowX base e v l w) : ∃ a c, v = .slice a l.length c := by
  rcases h.shape with ⟨rfl, rfl⟩ | ⟨g, c, rfl, _⟩
  · exact ⟨none, 0, rfl⟩
  · exact ⟨_, c, rfl⟩
theorem RowX.cell {base : Nat} {e : TypeId} {l : List Value} {w : World} {g n c : Nat} (h : RowX base e (.slice (some ⟨g, 0, none⟩) n c) l w) (i : Nat) (hi : i < l.length) : w.cell? ⟨g, i, none⟩ = some l[i] := by
  rcases h with h | ⟨g', cur, hv, h1, h2, h3, h4⟩
  · exact h.cell i hi
  · cases hv
    have h5 : cur.toList[i]? = l[i]? := by
      have := congrArg (fun z : List Value => z[i]?) h4
      rwa [List.getElem?_take_of_lt hi] at this
    have h6 : cur[i]? = some l[i] := by rw [List.getElem?_eq_getElem hi] at h5; simpa using h5
    simp only [World.cell?, h2]
    simpa using h6
theorem RowX.keep {S : Nat → Prop} {base : Nat} {e : TypeId} {v : Value} {l : List Value} {w w' : World} (h : RowX base e v l w) (k : Keep S w w') (hS : ∀ g, v.ownBlock = some g → ¬ S g) : RowX base e v l w' :=
  h.frame fun g hg => k.block g (h.block hg).2.1 (hS g hg)
theorem RowX.below {base : Nat} {e : TypeId} {v : Value} {l : List Value} {w w' : World} (h : RowX base e v l w) (hb : Below w.heap.size w w') : RowX base e v l w' := h.frame fun g hg => hb.block g (h.block hg).2.1
theorem RowX.drewN {base : Nat} {e : TypeId} {v : Value} {l : List Value} {w : World} (h : RowX base e v l w) (n : Nat) : RowX base e v l (w.drewN n) := h.frame fun _ _ => rfl
theorem RowX.alloc {base : Nat} {e : TypeId} {v : Value} {l : List Value} {w : World} (h : RowX base e v l w) (o : Obj) : RowX base e v l (w.alloc o) := h.frame fun g hg => Below.heap_alloc w o g (h.block hg).2.1
theorem RowX.ne_cells {base : Nat} {e : TypeId} {v : Value} {l : List Value} {w : World} (h : RowX base e v l w) {g : Nat} {t : TypeId} {cs : List Value} (hc : Cells w g t cs) (ht : t ≠ e) : v.ownBlock ≠ some g := by
  intro hg
  obtain ⟨_, _, cur, hcur⟩ := h.block hg
  unfold Cells at hc
  rw [hc] at hcur
  injection hcur with hcur
  injection hcur with _ h2
  exact ht h2
theorem RowX.nf {base : Nat} {e : TypeId} {v : Value} {l : List Value} {w : World} (h : RowX base e v l w) (he : e ≠ 93) {b : Nat} (hb : v.ownBlock = some b) : NF w b := by
  obtain ⟨_, _, cur, hcur⟩ := h.block hb
  intro cs f e2
  rw [hcur] at e2
  injection e2 with e2
  injection e2 with _ h2
  exact he h2
theorem RowX.at_ {base : Nat} {e : TypeId} {v : Value} {l : List Value} {w : World} (h : RowX base e v l w) : AtV (fun g => v.ownBlock = some g) v l w := by
  rcases h.shape with ⟨rfl, rfl⟩ | ⟨g, c, rfl, _, _, h1, h2⟩
  · exact AtV.nil _ w
  · exact ⟨_, c, rfl, ⟨h1, h2⟩, fun i hi => ⟨g, 0, rfl, rfl, by rw [Nat.zero_add]; exact h.cell i hi⟩⟩
/-- append of words onto such a row -/
theorem words_appX {base : Nat} {S : Nat → Prop} {v dv : Value} {l d : List Nat} {w : World} (h : RowX base 34 v (wordsV l) w) (hd : AtV S dv (wordsV d) w) (hne : d ≠ []) (hl : l.length + d.length ≤ 17592186044416) (hB : base ≤ w.heap.size) :
    ∃ a' n' c' w', n' = (l ++ d).length ∧ (Builtin.append_ #[48, 48] 48 #[v, dv]).run Tryd.prog w = .ok (.slice a' n' c') w' ∧ RowV base 34 (.slice a' n' c') (wordsV (l ++ d)) w' ∧ w.grownBy w' v.ownBlock ∧ ((Value.slice a' n' c').ownBlock = v.ownBlock ∨ (Value.slice a' n' c').ownBlock = some w.heap.size) := by
  rcases h with h | hx
  · exact words_app h hd hl hB
  obtain ⟨i0, hi, hz0, hz1, hz2⟩ := info_parts Tryd.infoU64
  have hX : RowX base 34 v (wordsV l) w := .inr hx
  obtain ⟨g, cur, rfl, h1, h2, h3, h4⟩ := hx
  obtain ⟨a, c, rfl, ⟨hc1, hc2⟩, hc⟩ := hd
  obtain ⟨gd, od, rfl, _, _⟩ := hc 0 (by rw [wordsV_len]; exact List.length_pos_iff.2 hne)
  have hdp : 0 < d.length := List.length_pos_iff.2 hne
  rw [wordsV_len] at hX ⊢
  simp only [wordsV_len] at hc1 ⊢
  have hr := run_append_grow (P := Tryd.prog) w 48 48 34 i0 (.int .u64 0) Tryd.underlying48 hi hz0 ⟨g, 0, none⟩ l.length l.length (wordsV l) (by rw [hz1, wordsV_len]; omega) (fun j u hj => by
      have hlt : j < (wordsV l).length := (List.getElem?_eq_some_iff.1 hj).1
      rw [WideShapes.add_plain, Nat.zero_add, hX.cell j hlt, ← hj, List.getElem?_eq_getElem hlt]) ⟨gd, od, none⟩ d.length c (wordsV d) (by rw [hz1, wordsV_len]; omega) (fun j u hj => by
      have hlt : j < (wordsV d).length := (List.getElem?_eq_some_iff.1 hj).1
      obtain ⟨g', o', he, _, hx⟩ := hc j hlt
      cases he
      rw [WideShapes.add_plain, hx, ← hj, List.getElem?_eq_getElem hlt]) (by omega) (by omega) (growslice_fits (by omega) (by rw [hz2]; omega))
  have hge := grownCap_ge w (l.length + d.length) l.length 34
  refine ⟨_, _, _, _, by simp, hr, ?_, ⟨rfl, rfl, rfl, by simp, fun k hk _ => heap_alloc_old w.drew _ hk⟩, .inr rfl⟩
  have hlw : (wordsV (l ++ d)).length = l.length + d.length := by rw [wordsV_len, List.length_append]
  unfold RowV
  rw [hlw]
  refine ⟨by rw [hlw]; omega, .inr ⟨w.heap.size, _, _, rfl, hB, heap_alloc_new w.drew _, hge, grownCap_le_maxLen w _ _ _ (by unfold maxLen; omega), ?_, ?_⟩⟩
  · simp only [Array.size_append, List.size_toArray, size_zeroCells, wordsV_len]
    show l.length + d.length + (grownCap w (l.length + d.length) l.length 34 - (l.length + d.length)) * 1 = _
    omega
  · simp only [Array.toList_append, List.append_assoc, Nat.mul_one]
    rw [← List.append_assoc, ← wordsV_app, ← hlw]
    exact List.take_left
end Go.Proofs.YtkipjbmckpmmfaaDoor
end
