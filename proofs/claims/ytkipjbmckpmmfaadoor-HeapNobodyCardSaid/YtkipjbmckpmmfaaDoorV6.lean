/- Texts laid together: Links. -/
import Derived.Test.YtkipjbmckpmmfaaDoorV4
import Derived.Test.YtkipjbmckpmmfaaDoorV5
import Derived.Deep.RegionLaw
import Derived.StillTailTactics
section
/- Lists of links: what heddlemem.One, Chain and Refused do with them. -/
open Go Go.RowKit Go.Extern.Stop Go.Stop Go.Extern
namespace Go.Proofs.YtkipjbmckpmmfaaDoor

def lkV (k : Lk) : List Value := [.string k.layer, .int .i64 k.at_, .int .i64 k.code]
def linksV (l : List Lk) : List Value := l.flatMap lkV
theorem linksV_length (l : List Lk) : (linksV l).length = l.length * 3 := by
  induction l with
  | nil => rfl
  | cons k l ih => simp only [linksV, List.flatMap_cons, List.length_append, List.length_cons] at *; simp [lkV] at *; omega
theorem linksV_append (l k : List Lk) : linksV (l ++ k) = linksV l ++ linksV k := by simp [linksV]
theorem linksV_one (l : List Lk) : ∀ u ∈ linksV l, u.oneCell' = true := by
  intro u hu
  simp only [linksV, List.mem_flatMap] at hu
  obtain ⟨k, _, hk⟩ := hu
  simp only [lkV, List.mem_cons, List.not_mem_nil, or_false] at hk
  rcases hk with rfl | rfl | rfl <;> rfl

/-- The value v is a list of links that the call owns: nil, or in a block from base on. -/
def LinksIs (base : Nat) (v : Value) (l : List Lk) (w : World) : Prop := w.ownsRow base 78 3 v l.length (linksV l)
theorem LinksIs.nil (base : Nat) (w : World) : LinksIs base (.slice none 0 0) [] w := ⟨rfl, .inl ⟨rfl, rfl⟩⟩
theorem LinksIs.frame {base : Nat} {v : Value} {l : List Lk} {w w' : World} (h : LinksIs base v l w) (hb : ∀ g, v.ownBlock = some g → w'.heap[g]? = w.heap[g]?) : LinksIs base v l w' := by
  obtain ⟨h1, h2⟩ := h
  refine ⟨h1, h2.imp_right ?_⟩
  rintro ⟨g, cap, cur, hv, hbg, hg, rest⟩
  exact ⟨g, cap, cur, hv, hbg, (hb g (by rw [hv]; rfl)).trans hg, rest⟩
theorem LinksIs.block {base : Nat} {v : Value} {l : List Lk} {w : World} (h : LinksIs base v l w) {g : Nat} (hg : v.ownBlock = some g) : base ≤ g ∧ g < w.heap.size := by
  obtain ⟨_, ⟨hv, _⟩ | ⟨g', cap, cur, hv, hbg, hcell, _⟩⟩ := h
  · rw [hv] at hg; cases hg
  · rw [hv] at hg
    cases hg
    exact ⟨hbg, (Array.getElem?_eq_some_iff.1 hcell).1⟩
theorem LinksIs.alloc {base : Nat} {v : Value} {l : List Lk} {w : World} (h : LinksIs base v l w) (o : Obj) : LinksIs base v l (w.alloc o) :=
  h.frame fun _ hg => Below.heap_alloc w o _ (h.block hg).2
theorem LinksIs.drew {base : Nat} {v : Value} {l : List Lk} {w : World} (h : LinksIs base v l w) : LinksIs base v l w.drew := h.frame fun _ _ => rfl
theorem LinksIs.below {base B : Nat} {v : Value} {l : List Lk} {w w' : World} (h : LinksIs base v l w) (hb : Below B w w') (hB : w.heap.size ≤ B) : LinksIs base v l w' :=
  h.frame fun _ hg => hb.block _ (Nat.lt_of_lt_of_le (h.block hg).2 hB)
theorem LinksIs.base {base base' : Nat} {v : Value} {l : List Lk} {w : World} (h : LinksIs base v l w) (hb : base' ≤ base) : LinksIs base' v l w := by
  obtain ⟨h1, h2⟩ := h
  refine ⟨h1, h2.imp_right ?_⟩
  rintro ⟨g, cap, cur, hv, hbg, rest⟩
  exact ⟨g, cap, cur, hv, by omega, rest⟩
theorem LinksIs.shape {base : Nat} {v : Value} {l : List Lk} {w : World} (h : LinksIs base v l w) : (v = .slice none 0 0 ∧ l = []) ∨ ∃ g c, v = .slice (some ⟨g, 0, none⟩) l.length c ∧ base ≤ g ∧ g < w.heap.size ∧ l.length ≤ c ∧ c ≤ maxLen := by
  obtain ⟨h1, ⟨hv, hn⟩ | ⟨g, cap, cur, hv, hbg, hcell, hn, hc, _⟩⟩ := h
  · exact .inl ⟨hv, List.eq_nil_of_length_eq_zero hn⟩
  · exact .inr ⟨g, cap, hv, hbg, (Array.getElem?_eq_some_iff.1 hcell).1, hn, hc⟩
theorem linksV_get (l : List Lk) : ∀ (i : Nat) (hi : i < l.length) (j : Nat), j < 3 → (linksV l)[i * 3 + j]? = (lkV l[i])[j]? := by
  induction l with
  | nil => intro i hi; simp at hi
  | cons k l ih =>
    intro i hi j hj
    have e : linksV (k :: l) = lkV k ++ linksV l := by simp [linksV]
    rw [e]
    cases i with
    | zero => simp only [Nat.zero_mul, Nat.zero_add, List.getElem_cons_zero]; rw [List.getElem?_append_left (by simp [lkV]; omega)]
    | succ i =>
      rw [List.getElem?_append_right (by simp [lkV]; omega)]
      have := ih i (by simpa using hi) j hj
      rw [show (i + 1) * 3 + j - (lkV k).length = i * 3 + j by simp [lkV]; omega, this]
      simp
theorem LinksIs.cells {base : Nat} {l : List Lk} {w : World} {g n c : Nat} (h : LinksIs base (.slice (some ⟨g, 0, none⟩) n c) l w) (i : Nat) (hi : i < l.length) (j : Nat) (hj : j < 3) : w.cell? ⟨g, i * 3 + j, none⟩ = (lkV l[i])[j]? := by
  obtain ⟨h1, ⟨h2, _⟩ | ⟨g', cap, cur, hv, hbg, hcell, hn, hc, hcs, htake⟩⟩ := h
  · cases h2
  · cases hv
    have h2 : cur.toList[i * 3 + j]? = (lkV l[i])[j]? := by
      rw [← linksV_get l i hi j hj, ← htake, List.getElem?_take_of_lt (by omega)]
    have h3 : cur[i * 3 + j]? = (lkV l[i])[j]? := by rw [← h2]; simp
    simp only [World.cell?, hcell]
    simpa using h3
theorem LinksIs.lit {base : Nat} {w : World} (k : Lk) (hb : base ≤ w.heap.size) :
    LinksIs base (.slice (some ⟨w.heap.size, 0, none⟩) 1 1) [k] (w.alloc (.cells #[.string k.layer, .int .i64 k.at_, .int .i64 k.code] 78 (0, 0))) := by
  refine ⟨rfl, .inr ⟨w.heap.size, 1, _, rfl, hb, alloc_get _ _, Nat.le_refl _, by decide, rfl, rfl⟩⟩

theorem one_any (layer : ByteArray) (at_ code : Int) (w : World) :
    Calls Tryd.prog 13 #[.string layer, .int .i64 at_, .int .i64 code] w fun e w' => e = .returned (.slice (some ⟨w.heap.size, 0, none⟩) 1 1) ∧ w' = w.alloc (.cells #[.string layer, .int .i64 at_, .int .i64 code] 78 (0, 0)) := by
  go_enter Tryd.func13, Tryd.ntmps13
  go_wp2
  go_ret
  exact ⟨rfl, rfl⟩

theorem Tryd.infoLink : (Tryd.prog.info? 78).map (fun i => (i.zero, i.size, i.bytes)) = some (some (.agg #[.string ⟨#[]⟩, .int .i64 0, .int .i64 0]), 3, 32) := by kernel_rfl

theorem step_app_links {ops : Array Oper} {o : Oper} {a : Act} {K : Act → World → Prop} {Q : Exit → Act → World → Prop} {E : Prop} {w : World} (hgd : o.guard = none) (s x : Operand)
    (ho : o.op = .call { callee := .builtin .append, args := #[s, x], argTypes := #[38, 38] })
    (base : Nat) (v : Value) (l : List Lk) (hs : a.eval s = v) (hown : LinksIs base v l w)
    (ad : Addr) (m c : Nat) (news : List Lk) (hx : a.eval x = .slice (some ad) m c) (hl : news.length = m) (hnews : ∀ j u, (linksV news)[j]? = some u → w.cell? (ad.add j) = some u)
    (hbytes : (l.length + m) * 32 ≤ 140737488355328) (hbase : base ≤ w.heap.size)
    (h : ∀ v' w', LinksIs base v' (l ++ news) w' → w.grownBy w' v.ownBlock → K (a.put o.dst v') w') : if Region.wanted o (yielded ops a.tmps) = true then Oper.wp Tryd.prog o a w K Q else E := by
  have hw : Region.wanted o (yielded ops a.tmps) = true := by simp [Region.wanted, hgd]
  rw [if_pos hw]
  obtain ⟨i0, hi, hz0, hz1, hz2⟩ := info_parts Tryd.infoLink
  refine wp_append_own w s x _ ho base 78 i0 _ 3 32 Tryd.underlying38 hi hz0 hz1 hz2 rfl (by decide) v l.length (linksV l) hs hown ad m c (linksV news) hx (by rw [linksV_length]; omega) hnews (linksV_one _) (by unfold maxLen; omega) hbytes hbase ?_
  intro v' w' h1 h2 _
  refine h v' w' ?_ h2
  unfold LinksIs
  rw [linksV_append, List.length_append, hl]
  exact h1

/-- errors.As of a fault, at a variable of the call's own. -/
theorem as_hit2 (eb tb : Nat) (w : World) (hg : w.cell? ⟨0, 0, none⟩ = some (.iface 131 (.agg #[.pointer (some ⟨4, 30, none⟩)]))) (ht : w.heap[tb]? = some (.cells #[.pointer none] 91 (0, 0))) :
    Calls Tryd.prog 37 #[.iface 91 (.pointer (some ⟨eb, 0, none⟩)), .iface 97 (.pointer (some ⟨tb, 0, none⟩))] w fun ev w' => ev = .returned (.bool true) ∧ w.grownBy w' (some tb) ∧ w'.heap[tb]? = some (.cells #[.pointer (some ⟨eb, 0, none⟩)] 91 (0, 0)) := by
  have hlt := (Array.getElem?_eq_some_iff.1 ht).1
  refine (as_hit ⟨eb, 0, none⟩ ⟨tb, 0, none⟩ (.pointer none) w hg (by simp [World.cell?, ht]) (by simp [World.frozen?, ht])).mono ?_
  rintro e w' ⟨rfl, rfl⟩
  refine ⟨rfl, ⟨rfl, rfl, rfl, by simp [World.setCell]; omega, ?_⟩, ?_⟩
  · intro k hk hne
    rw [Below.heap_setCell _ _ _ _ (by intro e; exact hne (by rw [e])), Below.heap_alloc _ _ _ (by simp; omega), Below.heap_alloc _ _ _ (by simp; omega), Below.heap_alloc _ _ _ (by simp; omega), Below.heap_alloc _ _ _ (by omega)]
  · simp only [World.setCell, Array.getElem?_modify]
    rw [if_pos trivial, Below.heap_alloc _ _ _ (by simp; omega), Below.heap_alloc _ _ _ (by simp; omega), Below.heap_alloc _ _ _ (by simp; omega), Below.heap_alloc _ _ _ (by omega), ht]
    rfl
end Go.Proofs.YtkipjbmckpmmfaaDoor
end
