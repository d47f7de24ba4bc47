/- Texts laid together: Keep. -/
import Derived.Test.YtlahagabcnmdiaaGreatDoorV6
import Derived.Maps.AppendAt
section
/- Words on memory: what a call may have turned (a set of blocks), and what it left. No function of the program is looked at here. -/
open Go Go.RowKit
namespace Go.Proofs.YtlahagabcnmdiaaGreatDoor

/-- w' is w but for the blocks of S and new ones. -/
structure Keep (S : Nat → Prop) (w w' : World) : Prop where
  os : w'.os = w.os
  tape : w'.tape = w.tape
  output : w'.output = w.output
  size : w.heap.size ≤ w'.heap.size
  block : ∀ k, k < w.heap.size → ¬ S k → w'.heap[k]? = w.heap[k]?

/-- no block -/
def Nob : Nat → Prop := fun _ => False
/-- one block -/
def Blk1 (b : Nat) : Nat → Prop := fun k => k = b
theorem Keep.refl (S : Nat → Prop) (w : World) : Keep S w w := ⟨rfl, rfl, rfl, Nat.le_refl _, fun _ _ _ => rfl⟩
/-- S' may have new blocks in it -/
theorem Keep.trans {S S' : Nat → Prop} {a b c : World} (h : Keep S a b) (k : Keep S' b c) (hs : ∀ i, i < a.heap.size → S' i → S i) : Keep S a c :=
  ⟨k.os.trans h.os, k.tape.trans h.tape, k.output.trans h.output, Nat.le_trans h.size k.size, fun i hi hn => (k.block i (Nat.lt_of_lt_of_le hi h.size) (fun e => hn (hs i hi e))).trans (h.block i hi hn)⟩
theorem Keep.more {S S' : Nat → Prop} {w w' : World} (h : Keep S w w') (hs : ∀ i, i < w.heap.size → S i → S' i) : Keep S' w w' := ⟨h.os, h.tape, h.output, h.size, fun i hi hn => h.block i hi (fun e => hn (hs i hi e))⟩
theorem Keep.of_below {w w' : World} {B : Nat} (h : Below B w w') (hB : w.heap.size ≤ B) (S : Nat → Prop) : Keep S w w' := ⟨h.os, h.tape, h.output, h.size, fun i hi _ => h.block i (Nat.lt_of_lt_of_le hi hB)⟩
theorem Keep.alloc {S : Nat → Prop} {a w : World} (h : Keep S a w) (o : Obj) : Keep S a (w.alloc o) :=
  ⟨h.os, h.tape, h.output, Nat.le_trans h.size (by simp), fun i hi hn => (Below.heap_alloc w o i (Nat.lt_of_lt_of_le hi h.size)).trans (h.block i hi hn)⟩
theorem Keep.drew {S : Nat → Prop} {a w : World} (h : Keep S a w) : Keep S a w.drew := ⟨h.os, h.tape, h.output, h.size, h.block⟩
theorem Keep.drewN {S : Nat → Prop} {a w : World} (h : Keep S a w) (n : Nat) : Keep S a (w.drewN n) := ⟨h.os, h.tape, h.output, h.size, h.block⟩
theorem Keep.setCell {S : Nat → Prop} {a w : World} (h : Keep S a w) {p : Addr} (hp : p.block < a.heap.size → S p.block) (u : Value) : Keep S a (w.setCell p u) :=
  ⟨h.os, h.tape, h.output, by simpa [World.setCell] using h.size, fun i hi hn => (Below.heap_setCell w p u i (fun e => by subst e; exact hn (hp hi))).trans (h.block i hi hn)⟩
theorem Keep.grown {S : Nat → Prop} {a w w' : World} {row : Option Nat} (h : Keep S a w) (hg : w.grownBy w' row) (hr : ∀ k, row = some k → k < a.heap.size → S k) : Keep S a w' :=
  ⟨hg.os.trans h.os, hg.tape.trans h.tape, hg.output.trans h.output, Nat.le_trans h.size hg.size, fun i hi hn => (hg.block i (Nat.lt_of_lt_of_le hi h.size) (fun e => hn (hr i e.symm hi))).trans (h.block i hi hn)⟩
/-- behind a call that makes memory alone -/
theorem Keep.below {S : Nat → Prop} {a w w' : World} (h : Keep S a w) (hb : Below w.heap.size w w') : Keep S a w' :=
  ⟨hb.os.trans h.os, hb.tape.trans h.tape, hb.output.trans h.output, Nat.le_trans h.size hb.size, fun i hi hn => (hb.block i (Nat.lt_of_lt_of_le hi h.size)).trans (h.block i hi hn)⟩
theorem Keep.toBelow {S : Nat → Prop} {w w' : World} {B : Nat} (h : Keep S w w') (hB : B ≤ w.heap.size) (hS : ∀ k, S k → B ≤ k) : Below B w w' :=
  ⟨h.os, h.tape, h.output, h.size, fun k hk => h.block k (by omega) (fun e => by have := hS k e; omega)⟩
/-- under a call's base: what the callee may turn lies above it -/
theorem below_keep {S : Nat → Prop} {a w w' : World} {B : Nat} (h : Below B a w) (k : Keep S w w') (hB : B ≤ w.heap.size) (hS : ∀ k, S k → B ≤ k) : Below B a w' := h.trans (k.toBelow hB hS)
/-- a block's cells -/
def Cells (w : World) (g : Nat) (t : TypeId) (cs : List Value) : Prop := w.heap[g]? = some (.cells cs.toArray t (0, 0))
theorem Cells.lt {w : World} {g : Nat} {t : TypeId} {cs : List Value} (h : Cells w g t cs) : g < w.heap.size := (Array.getElem?_eq_some_iff.1 h).1
theorem Cells.keep {S : Nat → Prop} {w w' : World} {g : Nat} {t : TypeId} {cs : List Value} (h : Cells w g t cs) (k : Keep S w w') (hS : ¬ S g) : Cells w' g t cs := (k.block g h.lt hS).trans h
theorem Cells.frame {w w' : World} {g : Nat} {t : TypeId} {cs : List Value} (h : Cells w g t cs) (hb : w'.heap[g]? = w.heap[g]?) : Cells w' g t cs := hb.trans h
theorem Cells.cell {w : World} {g : Nat} {t : TypeId} {cs : List Value} (h : Cells w g t cs) (i : Nat) : w.cell? ⟨g, i, none⟩ = cs[i]? := by
  unfold Cells at h; simp [World.cell?, h]
theorem Cells.frozen {w : World} {g : Nat} {t : TypeId} {cs : List Value} (h : Cells w g t cs) (i : Nat) : w.frozen? ⟨g, i, none⟩ = false := by
  unfold Cells at h; simp [World.frozen?, h]
theorem Cells.drew {w : World} {g : Nat} {t : TypeId} {cs : List Value} (h : Cells w g t cs) : Cells w.drew g t cs := h
theorem Cells.drewN {w : World} {g : Nat} {t : TypeId} {cs : List Value} (h : Cells w g t cs) (n : Nat) : Cells (w.drewN n) g t cs := h
theorem Cells.alloc {w : World} {g : Nat} {t : TypeId} {cs : List Value} (h : Cells w g t cs) (o : Obj) : Cells (w.alloc o) g t cs := (Below.heap_alloc w o g h.lt).trans h
theorem Cells.grown {w w' : World} {g : Nat} {t : TypeId} {cs : List Value} {row : Option Nat} (h : Cells w g t cs) (hg : w.grownBy w' row) (hne : row ≠ some g) : Cells w' g t cs := (hg.block g h.lt (Ne.symm hne)).trans h
theorem Cells.below {w w' : World} {g : Nat} {t : TypeId} {cs : List Value} (h : Cells w g t cs) (hb : Below w.heap.size w w') : Cells w' g t cs := (hb.block g h.lt).trans h
theorem Cells.set_ {w : World} {g : Nat} {t : TypeId} {cs : List Value} (h : Cells w g t cs) (i : Nat) (u : Value) : Cells (w.setCell ⟨g, i, none⟩ u) g t (cs.set i u) := by
  unfold Cells at h ⊢
  simp [World.setCell, Array.getElem?_modify, h]
theorem Cells.far {w : World} {g : Nat} {t : TypeId} {cs : List Value} (h : Cells w g t cs) {p : Addr} (hp : g ≠ p.block) (u : Value) : Cells (w.setCell p u) g t cs := (Below.heap_setCell w p u g hp).trans h
theorem Cells.new (w : World) (t : TypeId) (cs : List Value) : Cells (w.alloc (.cells cs.toArray t)) w.heap.size t cs := by
  show (w.heap.push _)[w.heap.size]? = _
  simp

/-- The value v is a list of strings in a block of its own. -/
def strsV (l : List ByteArray) : List Value := l.map .string
def StrsIs (v : Value) (l : List ByteArray) (w : World) : Prop := w.ownsRow 0 9 1 v l.length (strsV l)
theorem StrsIs.nil (w : World) : StrsIs (.slice none 0 0) [] w := ⟨rfl, .inl ⟨rfl, rfl⟩⟩
theorem StrsIs.frame {v : Value} {l : List ByteArray} {w w' : World} (h : StrsIs v l w) (hb : ∀ g, v.ownBlock = some g → w'.heap[g]? = w.heap[g]?) : StrsIs v l w' := by
  obtain ⟨h1, h2⟩ := h
  refine ⟨h1, h2.imp_right ?_⟩
  rintro ⟨g, cap, cur, hv, hbg, hg, rest⟩
  exact ⟨g, cap, cur, hv, hbg, (hb g (by rw [hv]; rfl)).trans hg, rest⟩
theorem StrsIs.lt {v : Value} {l : List ByteArray} {w : World} (h : StrsIs v l w) {g : Nat} (hg : v.ownBlock = some g) : g < w.heap.size ∧ ∃ cur, w.heap[g]? = some (.cells cur 9 (0, 0)) := by
  obtain ⟨_, ⟨hv, _⟩ | ⟨g', cap, cur, hv, hbg, hcell, _⟩⟩ := h
  · rw [hv] at hg; cases hg
  · rw [hv] at hg
    cases hg
    exact ⟨(Array.getElem?_eq_some_iff.1 hcell).1, cur, hcell⟩
theorem StrsIs.shape {v : Value} {l : List ByteArray} {w : World} (h : StrsIs v l w) : (v = .slice none 0 0 ∧ l = []) ∨ ∃ g c, v = .slice (some ⟨g, 0, none⟩) l.length c ∧ g < w.heap.size ∧ l.length ≤ c ∧ c ≤ maxLen := by
  obtain ⟨h1, ⟨hv, hn⟩ | ⟨g, cap, cur, hv, hbg, hcell, hn, hc, _⟩⟩ := h
  · exact .inl ⟨hv, List.eq_nil_of_length_eq_zero hn⟩
  · exact .inr ⟨g, cap, hv, (Array.getElem?_eq_some_iff.1 hcell).1, hn, hc⟩
theorem StrsIs.cell {l : List ByteArray} {w : World} {g n c : Nat} (h : StrsIs (.slice (some ⟨g, 0, none⟩) n c) l w) (i : Nat) (hi : i < l.length) : w.cell? ⟨g, i, none⟩ = some (.string l[i]) := by
  obtain ⟨h1, ⟨h2, _⟩ | ⟨g', cap, cur, hv, hbg, hcell, hn, hc, hcs, htake⟩⟩ := h
  · cases h2
  · cases hv
    have h2 : cur.toList[i]? = (strsV l)[i]? := by
      rw [← htake, List.getElem?_take_of_lt (by omega)]
    simp only [World.cell?, hcell]
    have h3 : cur[i]? = (strsV l)[i]? := by rw [← h2]; simp
    simp only [strsV, List.getElem?_map, List.getElem?_eq_getElem hi] at h3
    simpa using h3
theorem StrsIs.drew {v : Value} {l : List ByteArray} {w : World} (h : StrsIs v l w) : StrsIs v l w.drew := h.frame fun _ _ => rfl
theorem StrsIs.drewN {v : Value} {l : List ByteArray} {w : World} (h : StrsIs v l w) (n : Nat) : StrsIs v l (w.drewN n) := h.frame fun _ _ => rfl
theorem StrsIs.alloc {v : Value} {l : List ByteArray} {w : World} (h : StrsIs v l w) (o : Obj) : StrsIs v l (w.alloc o) := h.frame fun _ hg => Below.heap_alloc w o _ (h.lt hg).1
theorem StrsIs.keep {S : Nat → Prop} {v : Value} {l : List ByteArray} {w w' : World} (h : StrsIs v l w) (k : Keep S w w') (hS : ∀ g, v.ownBlock = some g → ¬ S g) : StrsIs v l w' :=
  h.frame fun g hg => k.block g (h.lt hg).1 (hS g hg)
theorem StrsIs.ne_cells {v : Value} {l : List ByteArray} {w : World} (h : StrsIs v l w) {g : Nat} {t : TypeId} {cs : List Value} (hc : Cells w g t cs) (ht : t ≠ 9) : v.ownBlock ≠ some g := by
  intro e
  obtain ⟨_, cur, hcur⟩ := h.lt e
  unfold Cells at hc
  rw [hc] at hcur
  injection hcur with hcur
  injection hcur with _ h2
  exact ht h2
theorem run_strs_len {v : Value} {l : List ByteArray} {w : World} (h : StrsIs v l w) (w2 : World) : (Builtin.len_ #[56] 3 #[v]).run Tryz.prog w2 = .ok (.int .i64 l.length) w2 := by
  have hu := Tryz.underlying56
  rcases h.shape with ⟨rfl, rfl⟩ | ⟨g, c, rfl, _⟩
  · go_simp
  · go_simp
theorem Tryz.infoString : (Tryz.prog.info? 9).map (fun i => (i.zero, i.size, i.bytes)) = some (some (.string ⟨#[]⟩), 1, 16) := by kernel_rfl

/-- append(l, s) -/
theorem StrsIs.app {v : Value} {l : List ByteArray} {w : World} (h : StrsIs v l w) (s : ByteArray) (hl : l.length ≤ 1099511627776) :
    ∃ v' w', (Builtin.append_ #[56, 56] 56 #[v, .slice (some ⟨w.heap.size, 0, none⟩) 1 1]).run Tryz.prog (w.alloc (.cells #[.string s] 9 (0, 0))) = .ok v' w' ∧ StrsIs v' (l ++ [s]) w' ∧
      (w.alloc (.cells #[.string s] 9 (0, 0))).grownBy w' v.ownBlock ∧ (v'.ownBlock = v.ownBlock ∨ v'.ownBlock = some (w.heap.size + 1)) := by
  obtain ⟨i0, hi, hz0, hz1, hz2⟩ := info_parts Tryz.infoString
  obtain ⟨v', w', hr, h2, h3, _, h5⟩ := run_append_own_at (P := Tryz.prog) (w.alloc (.cells #[.string s] 9 (0, 0))) 0 56 56 9 i0 _ 1 16 Tryz.underlying56 hi hz0 hz1 hz2 rfl (by decide) v l.length (strsV l) (h.alloc _)
    ⟨w.heap.size, 0, none⟩ 1 1 [.string s] rfl (by
      intro j u hj
      match j, hj with
      | 0, hj => simp at hj; subst hj; exact World.cell?_alloc_new _ _ _ _
      | j + 1, hj => simp at hj) (by intro u hu; simp at hu; subst hu; rfl) (by unfold maxLen; omega) (by omega) (Nat.zero_le _)
  refine ⟨v', w', hr, ?_, h3, by simpa using h5⟩
  unfold StrsIs
  rw [List.length_append]
  simpa [strsV] using h2

theorem wp_app_eq {P : Program} {ops : Array Oper} {rest : List Oper} {o : Oper} {a : Act} {Q : Exit → Act → World → Prop} {w : World} (hgd : o.guard = none) (s x : Operand) (t t2 : TypeId)
    (ho : o.op = .call { callee := .builtin .append, args := #[s, x], argTypes := #[t, t2] })
    (v1 v2 v' : Value) (w' : World) (hs : a.eval s = v1) (hx : a.eval x = v2) (hrun : (Builtin.append_ #[t, t2] o.type #[v1, v2]).run P w = .ok v' w')
    (h : wpList P ops Q rest (a.put o.dst v') w') : wpList P ops Q (o :: rest) a w := by
  refine wpList_plain hgd fun K hK' => ?_
  unfold Oper.wp
  simp [execOp, ho, resolve, invoke, builtin, hs, hx, hrun, Result.andThen]
  exact hK' _ _ h
theorem step_app_eq {P : Program} {ops : Array Oper} {o : Oper} {a : Act} {K : Act → World → Prop} {Q : Exit → Act → World → Prop} {E : Prop} {w : World} (hgd : o.guard = none) (s x : Operand) (t t2 : TypeId)
    (ho : o.op = .call { callee := .builtin .append, args := #[s, x], argTypes := #[t, t2] })
    (v1 v2 v' : Value) (w' : World) (hs : a.eval s = v1) (hx : a.eval x = v2) (hrun : (Builtin.append_ #[t, t2] o.type #[v1, v2]).run P w = .ok v' w')
    (h : K (a.put o.dst v') w') : if Region.wanted o (yielded ops a.tmps) = true then Oper.wp P o a w K Q else E := by
  have hw : Region.wanted o (yielded ops a.tmps) = true := by simp [Region.wanted, hgd]
  rw [if_pos hw]
  unfold Oper.wp
  simp [execOp, ho, resolve, invoke, builtin, hs, hx, hrun, Result.andThen]
  exact h

/-- faults do not turn -/
def NF (w : World) (b : Nat) : Prop := ∀ cs f, w.heap[b]? ≠ some (.cells cs 101 f)
theorem ErrIs.keep {S : Nat → Prop} {w w' : World} (k : Keep S w w') (hS : ∀ b, S b → NF w b) : ∀ {l : List Lk} {v : Value}, ErrIs w v l → ErrIs w' v l := by
  intro l
  induction l with
  | nil => exact fun h => h
  | cons x rest ih =>
    intro v h
    obtain ⟨b, u, hv, hc, hr⟩ := h
    exact ⟨b, u, hv, (k.block b (Array.getElem?_eq_some_iff.1 hc).1 (fun e => hS b e _ _ hc)).trans hc, ih hr⟩
theorem NF.cells {w : World} {g : Nat} {t : TypeId} {cs : List Value} (h : Cells w g t cs) (ht : t ≠ 101) : NF w g := by
  intro cs' f e
  unfold Cells at h
  rw [h] at e
  injection e with e
  injection e with _ e
  exact ht e
theorem NF.strs {w : World} {v : Value} {l : List ByteArray} (h : StrsIs v l w) {b : Nat} (hb : v.ownBlock = some b) : NF w b := by
  obtain ⟨_, cur, hc⟩ := h.lt hb
  intro cs' f e
  rw [hc] at e
  injection e with e
  injection e with _ e
  exact absurd e (by decide)
theorem LinksIs.keep {S : Nat → Prop} {base : Nat} {v : Value} {l : List Lk} {w w' : World} (h : LinksIs base v l w) (k : Keep S w w') (hS : ∀ b, S b → b < base) : LinksIs base v l w' :=
  h.frame fun g hg => k.block g (h.block hg).2 (fun e => by have := hS g e; have := (h.block hg).1; omega)
end Go.Proofs.YtlahagabcnmdiaaGreatDoor
end
