/- Texts laid together: Buf. -/
import Derived.Test.YtkipjbmckpmmfaaDoorProg
import Derived.Test.YtkipjbmckpmmfaaDoorV2
import Derived.Lib.AppendStr
import Derived.Lib.ConvBytes
import Derived.Deep.Draws
section
/- Rows of bytes that a call owns: what append and a conversion do with them. No function of the program is looked at here. -/
open Go Go.RowKit
namespace Go.Proofs.YtkipjbmckpmmfaaDoor

def byteV (c : UInt8) : Value := .int .u8 c.toNat
def bytesV (l : List UInt8) : List Value := l.map byteV
theorem bytesV_length (l : List UInt8) : (bytesV l).length = l.length := by simp [bytesV]
theorem bytesV_append (l k : List UInt8) : bytesV (l ++ k) = bytesV l ++ bytesV k := by simp [bytesV]
theorem bytesV_one (l : List UInt8) : ∀ u ∈ bytesV l, u.oneCell' = true := by
  intro u hu
  simp only [bytesV, List.mem_map] at hu
  obtain ⟨c, _, rfl⟩ := hu
  rfl
theorem bytesV_get (l : List UInt8) (j : Nat) (h : j < l.length) : (bytesV l)[j]? = some (byteV l[j]) := by simp [bytesV, h]
theorem strCells_bytesV (s : ByteArray) : Lib.strCells s = bytesV s.data.toList := rfl

/-- The value v is a row of bytes l that the call owns: nil, or in a block from base on. -/
def BufIs (base : Nat) (v : Value) (l : List UInt8) (w : World) : Prop := w.ownsRow base 5 1 v l.length (bytesV l)

theorem BufIs.nil (base : Nat) (w : World) : BufIs base (.slice none 0 0) [] w := ⟨rfl, .inl ⟨rfl, rfl⟩⟩
theorem BufIs.frame {base : Nat} {v : Value} {l : List UInt8} {w w' : World} (h : BufIs base v l w) (hb : ∀ g, v.ownBlock = some g → w'.heap[g]? = w.heap[g]?) : BufIs base v l w' := by
  obtain ⟨h1, h2⟩ := h
  refine ⟨h1, h2.imp_right ?_⟩
  rintro ⟨g, cap, cur, hv, hbg, hg, rest⟩
  exact ⟨g, cap, cur, hv, hbg, (hb g (by rw [hv]; rfl)).trans hg, rest⟩
theorem BufIs.block {base : Nat} {v : Value} {l : List UInt8} {w : World} (h : BufIs base v l w) {g : Nat} (hg : v.ownBlock = some g) : base ≤ g ∧ g < w.heap.size := by
  obtain ⟨_, ⟨hv, _⟩ | ⟨g', cap, cur, hv, hbg, hcell, _⟩⟩ := h
  · rw [hv] at hg; cases hg
  · rw [hv] at hg
    cases hg
    exact ⟨hbg, (Array.getElem?_eq_some_iff.1 hcell).1⟩
theorem BufIs.alloc {base : Nat} {v : Value} {l : List UInt8} {w : World} (h : BufIs base v l w) (o : Obj) : BufIs base v l (w.alloc o) :=
  h.frame fun _ hg => Below.heap_alloc w o _ (h.block hg).2
theorem BufIs.below {base B : Nat} {v : Value} {l : List UInt8} {w w' : World} (h : BufIs base v l w) (hb : Below B w w') (hB : w.heap.size ≤ B) : BufIs base v l w' :=
  h.frame fun _ hg => hb.block _ (Nat.lt_of_lt_of_le (h.block hg).2 hB)
theorem BufIs.base {base base' : Nat} {v : Value} {l : List UInt8} {w : World} (h : BufIs base v l w) (hb : base' ≤ base) : BufIs base' v l w := by
  obtain ⟨h1, h2⟩ := h
  refine ⟨h1, h2.imp_right ?_⟩
  rintro ⟨g, cap, cur, hv, hbg, rest⟩
  exact ⟨g, cap, cur, hv, by omega, rest⟩

/-- A row that has just been laid. -/
theorem BufIs.lit {base : Nat} {w : World} (l : List UInt8) (hb : base ≤ w.heap.size) (hl : l.length ≤ maxLen) :
    BufIs base (.slice (some ⟨w.heap.size, 0, none⟩) l.length l.length) l (w.alloc (.cells (bytesV l).toArray 5 (0, 0))) := by
  refine ⟨by simp [bytesV], .inr ⟨w.heap.size, l.length, (bytesV l).toArray, rfl, hb, ?_, Nat.le_refl _, hl, by simp [bytesV], List.take_of_length_le (by simp [bytesV])⟩⟩
  show (w.heap.push _)[w.heap.size]? = _
  simp

theorem Tryd.infoByte : (Tryd.prog.info? 5).map (fun i => (i.zero, i.size, i.bytes)) = some (some (.int .u8 0), 1, 1) := by kernel_rfl

/-- append of a row's bytes. -/
theorem wp_app_row {ops : Array Oper} {rest : List Oper} {o : Oper} {a : Act} {Q : Exit → Act → World → Prop} {w : World} (hgd : o.guard = none) (s x : Operand)
    (ho : o.op = .call { callee := .builtin .append, args := #[s, x], argTypes := #[127, 127] })
    (base : Nat) (v : Value) (l : List UInt8) (hs : a.eval s = v) (hown : BufIs base v l w)
    (ad : Addr) (m c : Nat) (news : List UInt8) (hx : a.eval x = .slice (some ad) m c) (hl : news.length = m) (hnews : ∀ j, (h : j < news.length) → w.cell? (ad.add j) = some (byteV news[j]))
    (hbytes : l.length + news.length ≤ 140737488355328) (hbase : base ≤ w.heap.size)
    (h : ∀ v' w', BufIs base v' (l ++ news) w' → w.grownBy w' v.ownBlock → wpList Tryd.prog ops Q rest (a.put o.dst v') w') : wpList Tryd.prog ops Q (o :: rest) a w := by
  obtain ⟨i0, hi, hz0, hz1, hz2⟩ := info_parts Tryd.infoByte
  refine wpList_append_own w hgd s x _ ho base 5 i0 (.int .u8 0) 1 1 Tryd.underlying127 hi hz0 hz1 hz2 rfl (by decide) v l.length (bytesV l) hs hown ad m c (bytesV news) hx (by rw [bytesV_length]; omega) ?_ (bytesV_one _) (by unfold maxLen; omega) (by omega) hbase ?_
  · intro j u hj
    have hlt : j < news.length := by
      rcases Nat.lt_or_ge j news.length with h | h
      · exact h
      · simp [bytesV, List.getElem?_eq_none h] at hj
    rw [bytesV_get news j hlt] at hj
    cases hj
    exact hnews j hlt
  · intro v' w' h1 h2 _
    refine h v' w' ?_ h2
    unfold BufIs
    rw [bytesV_append, List.length_append, hl]
    exact h1

/-- append of a string's bytes. -/
theorem wp_app_str {ops : Array Oper} {rest : List Oper} {o : Oper} {a : Act} {Q : Exit → Act → World → Prop} {w : World} (hgd : o.guard = none) (s x : Operand)
    (ho : o.op = .call { callee := .builtin .append, args := #[s, x], argTypes := #[127, 9] })
    (base : Nat) (v : Value) (l : List UInt8) (hs : a.eval s = v) (hown : BufIs base v l w)
    (t : ByteArray) (hx : a.eval x = .string t)
    (hbytes : l.length + t.size ≤ 140737488355328) (hbase : base ≤ w.heap.size)
    (h : ∀ v' w', BufIs base v' (l ++ t.data.toList) w' → w.grownBy w' v.ownBlock → wpList Tryd.prog ops Q rest (a.put o.dst v') w') : wpList Tryd.prog ops Q (o :: rest) a w := by
  obtain ⟨i0, hi, hz0, hz1, hz2⟩ := info_parts Tryd.infoByte
  refine Lib.wpList_append_own_string w hgd s x _ _ ho base 5 i0 Tryd.underlying127 Tryd.underlying9 hi hz0 hz1 hz2 v l.length (bytesV l) hs hown t hx (by unfold maxLen; omega) hbytes hbase ?_
  intro v' w' h1 h2 _
  refine h v' w' ?_ h2
  unfold BufIs
  rw [bytesV_append, List.length_append, ← strCells_bytesV]
  simpa using h1

theorem strOfNums_bytes (l : List UInt8) : strOfNums (l.map fun c => (c.toNat : Int)) = ⟨l.toArray⟩ := by
  simp [strOfNums, List.map_map, Function.comp_def]

/-- string(b) -/
theorem run_buf_string {base : Nat} {v : Value} {l : List UInt8} {w : World} (h : BufIs base v l w) :
    (convert 127 9 v).run Tryd.prog w = .ok (.string ⟨l.toArray⟩) w := by
  obtain ⟨h1, ⟨rfl, hn⟩ | ⟨g, cap, cur, rfl, hbg, hcell, hn, hc, hcs, htake⟩⟩ := h
  · have : l = [] := List.eq_nil_of_length_eq_zero hn
    subst this
    exact run_convert_bytes_nil w 127 5 Tryd.underlying127 Tryd.underlying5 0 0 9 Tryd.underlying9
  · rw [← strOfNums_bytes]
    refine run_convert_bytes_arg w 127 5 Tryd.underlying127 Tryd.underlying5 g 0 l.length cap _ (by simp) ?_ 9 Tryd.underlying9
    intro i hi
    have h2 : cur.toList[i]? = some (byteV l[i]) := by
      have := congrArg (fun z : List Value => z[i]?) htake
      simp only [Nat.mul_one] at this
      rw [List.getElem?_take_of_lt hi, bytesV_get l i hi] at this
      exact this
    simp only [World.cell?, hcell, Nat.zero_add]
    have h3 : cur[i]? = some (byteV l[i]) := by simpa using h2
    simp [h3, byteV, List.getD, hi]

/-- the cells of a row -/
theorem BufIs.cell {base : Nat} {l : List UInt8} {w : World} {g n c : Nat} (h : BufIs base (.slice (some ⟨g, 0, none⟩) n c) l w) (i : Nat) (hi : i < l.length) : w.cell? ⟨g, i, none⟩ = some (byteV l[i]) := by
  obtain ⟨h1, ⟨h2, _⟩ | ⟨g', cap, cur, hv, hbg, hcell, hn, hc, hcs, htake⟩⟩ := h
  · cases h2
  · cases hv
    have h2 : cur.toList[i]? = some (byteV l[i]) := by
      have := congrArg (fun z : List Value => z[i]?) htake
      simp only [Nat.mul_one] at this
      rw [List.getElem?_take_of_lt hi, bytesV_get l i hi] at this
      exact this
    have h3 : cur[i]? = some (byteV l[i]) := by simpa using h2
    simp [World.cell?, hcell, h3]
/-- what a value of a row looks like -/
theorem BufIs.shape {base : Nat} {v : Value} {l : List UInt8} {w : World} (h : BufIs base v l w) : (v = .slice none 0 0 ∧ l = []) ∨ ∃ g c, v = .slice (some ⟨g, 0, none⟩) l.length c ∧ base ≤ g ∧ g < w.heap.size ∧ l.length ≤ c ∧ c ≤ maxLen := by
  obtain ⟨h1, ⟨hv, hn⟩ | ⟨g, cap, cur, hv, hbg, hcell, hn, hc, _⟩⟩ := h
  · exact .inl ⟨hv, List.eq_nil_of_length_eq_zero hn⟩
  · exact .inr ⟨g, cap, hv, hbg, (Array.getElem?_eq_some_iff.1 hcell).1, hn, hc⟩
/-- what of a row's value is needed where the row has grown -/
theorem below_grown {B : Nat} {base : Nat} {v : Value} {l : List UInt8} {a w w' : World} (h : Below B a w) (hv : BufIs base v l w) (hB : B ≤ base) (hB2 : B ≤ w.heap.size) (hg : w.grownBy w' v.ownBlock) : Below B a w' :=
  h.grown hg hB2 fun _ hk => Nat.le_trans hB (hv.block hk).1

/-- A row of a conversion: the bytes of a string, and its mark. -/
def ConvRow (b : Nat) (s : ByteArray) (w : World) : Prop := ∃ cs k, w.heap[b]? = some (.cells cs 5 (k, k + 1)) ∧ ∀ j, (h : j < s.size) → cs[j]? = some (byteV s[j])
theorem ConvRow.cell {b : Nat} {s : ByteArray} {w : World} (h : ConvRow b s w) (j : Nat) (hj : j < s.size) : w.cell? ⟨b, j, none⟩ = some (.int .u8 s[j].toNat) := by
  obtain ⟨cs, k, h1, h2⟩ := h
  simp [World.cell?, h1, h2 j hj, byteV]
theorem ConvRow.mk (w : World) (s : ByteArray) : ConvRow w.heap.size s (Lib.bytesWorld w 5 s) := by
  refine ⟨_, _, Lib.bytesWorld_at_new w 5 s, fun j h => ?_⟩
  simp [Lib.bytesCells, Array.getElem?_append, h, byteV]
  rfl
theorem ConvRow.apart {b : Nat} {s : ByteArray} {w : World} (h : ConvRow b s w) {base : Nat} {v : Value} {l : List UInt8} (hv : BufIs base v l w) : v.ownBlock ≠ some b := by
  obtain ⟨cs, k, h1, _⟩ := h
  obtain ⟨_, ⟨rfl, _⟩ | ⟨g, cap, cur, rfl, hbg, hcell, _⟩⟩ := hv
  · simp [Value.ownBlock]
  · intro e
    cases e
    rw [h1] at hcell
    simp at hcell
theorem ConvRow.frame {b : Nat} {s : ByteArray} {w w' : World} (h : ConvRow b s w) (hb : w'.heap[b]? = w.heap[b]?) : ConvRow b s w' := by
  obtain ⟨cs, k, h1, h2⟩ := h
  exact ⟨cs, k, hb.trans h1, h2⟩
theorem ConvRow.lt {b : Nat} {s : ByteArray} {w : World} (h : ConvRow b s w) : b < w.heap.size := by
  obtain ⟨cs, k, h1, _⟩ := h
  exact (Array.getElem?_eq_some_iff.1 h1).1
theorem ConvRow.grown {b : Nat} {s : ByteArray} {w w' : World} (h : ConvRow b s w) {base : Nat} {v : Value} {l : List UInt8} (hv : BufIs base v l w) (hg : w.grownBy w' v.ownBlock) : ConvRow b s w' :=
  h.frame (hg.block b h.lt (fun e => h.apart hv e.symm))
theorem ConvRow.alloc {b : Nat} {s : ByteArray} {w : World} (h : ConvRow b s w) (o : Obj) : ConvRow b s (w.alloc o) := h.frame (Below.heap_alloc w o b h.lt)
theorem below_bytesWorld {B : Nat} {a w : World} (h : Below B a w) (hB : B ≤ w.heap.size) (e : TypeId) (s : ByteArray) : Below B a (Lib.bytesWorld w e s) :=
  h.trans ⟨by simp [Lib.bytesWorld, World.freeze, World.alloc, World.drew, -World.alloc_eq, -World.drew_eq], by simp [Lib.bytesWorld, World.freeze, World.alloc, World.drew, -World.alloc_eq, -World.drew_eq], by simp [Lib.bytesWorld, World.freeze, World.alloc, World.drew, -World.alloc_eq, -World.drew_eq], by rw [Lib.bytesWorld_size]; omega, fun k hk => Lib.bytesWorld_at_old w e s k (by omega)⟩
theorem BufIs.bytesWorld {base : Nat} {v : Value} {l : List UInt8} {w : World} (h : BufIs base v l w) (e : TypeId) (s : ByteArray) : BufIs base v l (Lib.bytesWorld w e s) :=
  h.frame fun g hg => Lib.bytesWorld_at_old w e s g (h.block hg).2
theorem lit_cells (w : World) (l : List UInt8) (b : Nat) (hb : b = w.heap.size) : ∀ j, (h : j < l.length) → (w.alloc (.cells (bytesV l).toArray 5 (0, 0))).cell? ((⟨b, 0, none⟩ : Addr).add j) = some (byteV l[j]) := by
  intro j h
  subst hb
  have h1 : (w.alloc (.cells (bytesV l).toArray 5 (0, 0))).heap[w.heap.size]? = some (.cells (bytesV l).toArray 5 (0, 0)) := by
    show (w.heap.push _)[w.heap.size]? = _
    simp
  have h2 : ((⟨w.heap.size, 0, none⟩ : Addr).add j) = ⟨w.heap.size, j, none⟩ := by unfold Addr.add; split <;> simp_all
  rw [h2]
  simp only [World.cell?, h1]
  simp [bytesV, h]
theorem BufIs.drew {base : Nat} {v : Value} {l : List UInt8} {w : World} (h : BufIs base v l w) : BufIs base v l w.drew := h.frame fun _ _ => rfl
theorem ConvRow.drew {b : Nat} {s : ByteArray} {w : World} (h : ConvRow b s w) : ConvRow b s w.drew := h.frame rfl
theorem BufIs.drewN {base : Nat} {v : Value} {l : List UInt8} {w : World} (h : BufIs base v l w) (n : Nat) : BufIs base v l (w.drewN n) := h.frame fun _ _ => rfl
theorem below_drewN {B : Nat} {a w : World} (h : Below B a w) (n : Nat) : Below B a (w.drewN n) := ⟨h.os, h.tape, h.output, h.size, h.block⟩
/-- append of a row's bytes, as one step of a region that draws. -/
theorem step_app_row {ops : Array Oper} {o : Oper} {a : Act} {K : Act → World → Prop} {Q : Exit → Act → World → Prop} {E : Prop} {w : World} (hgd : o.guard = none) (s x : Operand)
    (ho : o.op = .call { callee := .builtin .append, args := #[s, x], argTypes := #[127, 127] })
    (base : Nat) (v : Value) (l : List UInt8) (hs : a.eval s = v) (hown : BufIs base v l w)
    (ad : Addr) (m c : Nat) (news : List UInt8) (hx : a.eval x = .slice (some ad) m c) (hl : news.length = m) (hnews : ∀ j, (h : j < news.length) → w.cell? (ad.add j) = some (byteV news[j]))
    (hbytes : l.length + news.length ≤ 140737488355328) (hbase : base ≤ w.heap.size)
    (h : ∀ v' w', BufIs base v' (l ++ news) w' → w.grownBy w' v.ownBlock → K (a.put o.dst v') w') : if Region.wanted o (yielded ops a.tmps) = true then Oper.wp Tryd.prog o a w K Q else E := by
  have hw : Region.wanted o (yielded ops a.tmps) = true := by simp [Region.wanted, hgd]
  rw [if_pos hw]
  obtain ⟨i0, hi, hz0, hz1, hz2⟩ := info_parts Tryd.infoByte
  refine wp_append_own w s x _ ho base 5 i0 (.int .u8 0) 1 1 Tryd.underlying127 hi hz0 hz1 hz2 rfl (by decide) v l.length (bytesV l) hs hown ad m c (bytesV news) hx (by rw [bytesV_length]; omega) ?_ (bytesV_one _) (by unfold maxLen; omega) (by omega) hbase ?_
  · intro j u hj
    have hlt : j < news.length := by
      rcases Nat.lt_or_ge j news.length with h | h
      · exact h
      · simp [bytesV, List.getElem?_eq_none h] at hj
    rw [bytesV_get news j hlt] at hj
    cases hj
    exact hnews j hlt
  · intro v' w' h1 h2 _
    refine h v' w' ?_ h2
    unfold BufIs
    rw [bytesV_append, List.length_append, hl]
    exact h1
end Go.Proofs.YtkipjbmckpmmfaaDoor
end
