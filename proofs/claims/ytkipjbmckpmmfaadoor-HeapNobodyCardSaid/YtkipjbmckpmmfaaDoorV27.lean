/- Texts laid together: Core, EtS, Part. -/
import Derived.Test.YtkipjbmckpmmfaaDoorV16
import Derived.Test.YtkipjbmckpmmfaaDoorV25
import Derived.Test.YtkipjbmckpmmfaaDoorV24
import Derived.Test.YtkipjbmckpmmfaaDoorV13
import Derived.Test.YtkipjbmckpmmfaaDoorV26
import Derived.BigRegion
import Derived.Lib.SliceRun
import Derived.Deep.RegionLaw
import Derived.StillTailTactics
section
/- What layer 4 takes from other texts: rows of terms, the blocks of a growing slice, a store of a struct into a block. No function of the program is looked at here. -/
open Go Go.RowKit
namespace Go.Proofs.YtkipjbmckpmmfaaDoor
set_option linter.unusedVariables false
set_option linter.unusedSimpArgs false

/-- a struct stored into a block that is known whole, as one step of a region that draws -/
theorem step_store_blk {P : Program} {ops : Array Oper} {o : Oper} {a : Act} {K : Act → World → Prop} {Q : Exit → Act → World → Prop} {E : Prop} {w : World} (hgd : o.guard = none) (ty : TypeId) (x y : Operand) (ho : o.op = .store ty x y)
    (g off : Nat) (vs : List Value) (hx : a.eval x = .pointer (some ⟨g, off, none⟩)) (hy : a.eval y = .agg vs.toArray) (hi : (P.info? ty).map (·.size) = some vs.length) (h1 : ∀ v ∈ vs, v.oneCell' = true)
    (t : TypeId) (cs : List Value) (hC : Cells w g t cs) (hn : off + vs.length ≤ cs.length)
    (h : ∀ w', Cells w' g t (setFrom cs off vs) → w.grownBy w' (some g) → K (a.put o.dst undef) w') : if Region.wanted o (yielded ops a.tmps) = true then Oper.wp P o a w K Q else E := by
  have hw : Region.wanted o (yielded ops a.tmps) = true := by simp [Region.wanted, hgd]
  rw [if_pos hw]
  exact wp_store_mid ty x y ho g off vs.toArray hx hy (by simpa using hC.there off vs.length hn) (by simpa using hi) (all_oneCell_toArray h1) (by simpa using h _ (hC.setCells vs off) (grown_setCells vs w off))
theorem TsIs.empty {base z : Nat} {S : Nat → Prop} {w : World} (hz : base ≤ z) (h : Cells w z 27 []) : TsIs base S (.slice (some ⟨z, 0, none⟩) 0 0) [] w :=
  ⟨[], rfl, ⟨rfl, .inr ⟨z, 0, #[], rfl, hz, h, Nat.le_refl _, Nat.zero_le _, rfl, rfl⟩⟩, fun _ h => absurd h (Nat.not_lt_zero _)⟩
/-- the terms of a row that lies at a place -/
def RowAt (S : Nat → Prop) (g o : Nat) (d : List Tm) (w : World) : Prop := ∀ i (h : i < d.length), ∃ vs, (∀ j, j < 6 → w.cell? ⟨g, o + (i * 6 + j), none⟩ = vs[j]?) ∧ TmAt S d[i] vs w
theorem RowAt.tail {S : Nat → Prop} {g o : Nat} {t : Tm} {d : List Tm} {w : World} (h : RowAt S g o (t :: d) w) : RowAt S g (o + 6) d w := fun i hi => by
  obtain ⟨vs, h1, h2⟩ := h (i + 1) (by simpa using hi)
  exact ⟨vs, fun j hj => by have := h1 j hj; rwa [show o + ((i + 1) * 6 + j) = o + 6 + (i * 6 + j) by omega] at this, h2⟩
/-- the cells of such a row -/
theorem RowAt.cells {S : Nat → Prop} {g : Nat} {w : World} : ∀ {d : List Tm} {o : Nat}, RowAt S g o d w → ∃ css : List (List Value), css.length = d.length ∧ (∀ cs ∈ css, cs.length = 6) ∧ (∀ i (h : i < css.length) (h2 : i < d.length), TmAt S d[i] css[i] w) ∧ ∀ j u, css.flatten[j]? = some u → w.cell? ⟨g, o + j, none⟩ = some u
  | [], o, _ => ⟨[], rfl, (fun _ h => absurd h List.not_mem_nil), fun _ h => absurd h (Nat.not_lt_zero _), fun j u h => by simp at h⟩
  | t :: d, o, h => by
    obtain ⟨vs, h1, h2⟩ := h 0 (Nat.zero_lt_succ _)
    obtain ⟨css, k1, k2, k3, k4⟩ := RowAt.cells h.tail
    have h6 := h2.six
    refine ⟨vs :: css, by simp [k1], fun cs hcs => ?_, fun i hi hi2 => ?_, fun j u hj => ?_⟩
    · rcases List.mem_cons.1 hcs with rfl | hcs
      · exact h6
      · exact k2 cs hcs
    · cases i with
      | zero => exact h2
      | succ i => exact k3 i (by simpa using hi) (by simpa using hi2)
    · rw [List.flatten_cons] at hj
      by_cases e : j < 6
      · rw [List.getElem?_append_left (by omega)] at hj
        have := h1 j e
        rw [show o + (0 * 6 + j) = o + j by omega] at this
        rw [this]; exact hj
      · rw [List.getElem?_append_right (by omega), h6] at hj
        have := k4 _ _ hj
        rwa [show o + 6 + (j - 6) = o + j by omega] at this
theorem RowAt.frame {S : Nat → Prop} {g o : Nat} {d : List Tm} {w w' : World} (h : RowAt S g o d w) (hg : w'.heap[g]? = w.heap[g]?) (hb : ∀ b, S b → w'.heap[b]? = w.heap[b]?) : RowAt S g o d w' := fun i hi => by
  obtain ⟨vs, h1, h2⟩ := h i hi
  exact ⟨vs, fun j hj => by rw [← h1 j hj]; unfold World.cell?; rw [hg], h2.frame hb⟩
end Go.Proofs.YtkipjbmckpmmfaaDoor
end
section
/- Layer 4, plain: the bytes of a term. -/
open Go Go.RowKit
namespace Go.Proofs.YtkipjbmckpmmfaaDoor
set_option linter.unusedVariables false

/-- four bytes, the greatest first -/
def fourB (n : Int) : List UInt8 := [UInt8.ofNat (n.toNat / 16777216), UInt8.ofNat (n.toNat / 65536), UInt8.ofNat (n.toNat / 256), UInt8.ofNat n.toNat]
def atomB (s : ByteArray) : List UInt8 := 119 :: UInt8.ofNat s.size :: s.data.toList
/-- an int that is too wide for the wire -/
def wideI (k i : Int) : Bool := decide (k = 1) && (decide (i < -2147483648) || decide (2147483647 < i))
/-- a part's own bytes -/
def headB (k i : Int) (s : ByteArray) (c : Int) (ns : List Int) (n : Nat) : List UInt8 :=
  if k = 1 then (if wideI k i then [] else if 0 ≤ i ∧ i ≤ 255 then [97, UInt8.ofNat i.toNat] else 98 :: fourB (i % 4294967296))
  else if k = 2 then atomB s
  else if k = 5 then (if n < 256 then [104, UInt8.ofNat n] else 105 :: fourB n)
  else if k = 6 then [106]
  else if k = 7 then 108 :: fourB ((n : Int) - 1)
  else if k = 4 then 88 :: (atomB s ++ fourB (ns.getD 0 0) ++ fourB (ns.getD 1 0) ++ fourB c)
  else if k = 3 then [90, 0, 3] ++ atomB s ++ fourB c ++ ns.flatMap fourB
  else []
/-- what a writer has -/
structure Wr where
  b : List UInt8
  part : Nat
  wide : Int
def Wr.head (st : Wr) (k i : Int) (s : ByteArray) (c : Int) (ns : List Int) (n : Nat) : Wr :=
  ⟨st.b ++ headB k i s c ns n, st.part + 1, if wideI k i && decide (st.wide < 0) then st.part else st.wide⟩
mutual
def sizeT : Tm → Nat
  | .mk _ _ _ _ _ al => 1 + sizeTL al
def sizeTL : List Tm → Nat
  | [] => 0
  | t :: r => sizeT t + sizeTL r
end
mutual
/-- what is written of what was checked -/
def okT : Tm → Prop
  | .mk k i s c ns al => partS (.mk k i s c ns al) 0 = [] ∧ okTL al
def okTL : List Tm → Prop
  | [] => True
  | t :: r => okT t ∧ okTL r
end
theorem partS_at (t : Tm) (a b : Int) : partS t a = [] ↔ partS t b = [] := by
  unfold partS
  split
  · simp
  · split
    · split <;> simp
    · split
      · simp [overL_nil]
      · split
        · simp [overL_nil]
        · simp
mutual
theorem walkS_ok : ∀ (t : Tm) (n dm d : Nat), (walkS t n dm d).1 = [] → okT t ∧ (walkS t n dm d).2.1 = n + sizeT t
  | .mk k i s c ns al, n, dm, d, h => by
    rw [walkS] at h ⊢
    split at h
    · cases h
    · split at h
      · cases h
      · split at h
        · rename_i hp; exact absurd h hp
        · rename_i h1 h2 h3
          rw [if_neg h1, if_neg h2, if_neg h3]
          obtain ⟨k1, k2⟩ := walkLS_ok al _ _ _ h
          refine ⟨?_, ?_⟩
          · rw [okT]; exact ⟨(partS_at _ _ _).1 (Classical.not_not.1 h3), k1⟩
          · rw [k2, sizeT]; omega
theorem walkLS_ok : ∀ (l : List Tm) (n dm d : Nat), (walkLS l n dm d).1 = [] → okTL l ∧ (walkLS l n dm d).2.1 = n + sizeTL l
  | [], n, dm, d, _ => by rw [walkLS, okTL, sizeTL]; exact ⟨trivial, rfl⟩
  | t :: r, n, dm, d, h => by
    rw [walkLS] at h ⊢
    split at h
    · rename_i h1; exact absurd h h1
    · rename_i h1
      rw [if_neg h1]
      obtain ⟨k1, k2⟩ := walkS_ok t n dm d (Classical.not_not.1 h1)
      obtain ⟨k3, k4⟩ := walkLS_ok r _ _ _ h
      rw [okTL, sizeTL]
      exact ⟨⟨k1, k3⟩, by rw [k4, k2]; omega⟩
end
theorem checkS_ok {t : Tm} (h : checkS t = []) : okT t ∧ sizeT t ≤ 4096 := by
  obtain ⟨h1, h2⟩ := walkS_ok t 0 0 1 h
  have := (walkS_le t 0 0 1 (by omega) (by omega) (by omega)).1
  exact ⟨h1, by omega⟩
theorem text_ok {t : Tm} (h : partS t 0 = []) : t.text.size ≤ 255 := by
  unfold partS at h
  split at h
  · cases h
  · rename_i hf
    have hfm : formS t = true := by simpa using hf
    have hemp : ∀ {nn an : Nat} {nu ar : Bool}, emptyS t.kind t.int t.text t.cr nn an false nu ar = true → t.text.size ≤ 255 := by
      intro nn an nu ar he
      unfold emptyS at he
      simp only [Bool.false_or, Bool.and_eq_true, decide_eq_true_eq] at he
      rw [he.1.1.1]; decide
    by_cases k2 : t.kind = 2
    · rw [if_neg (by omega), if_pos k2, overL_nil] at h
      unfold quoteS at h
      split at h
      · cases h
      · omega
    · by_cases k34 : t.kind = 3 ∨ t.kind = 4
      · rw [if_neg (by omega), if_neg k2, if_pos k34, overL_nil] at h
        unfold nodeS at h
        split at h
        · rename_i hg
          unfold goodAll goodS at hg
          simp only [Bool.and_eq_true, decide_eq_true_eq] at hg
          have := hg.1.1.1.2
          omega
        · cases h
      · unfold formS at hfm
        split at hfm
        · exact hemp hfm
        · rw [if_neg (by omega), if_neg (by omega)] at hfm
          split at hfm
          · exact hemp hfm
          · split at hfm
            · exact hemp hfm
            · split at hfm
              · simp only [Bool.and_eq_true] at hfm; exact hemp hfm.1.1
              · cases hfm
end Go.Proofs.YtkipjbmckpmmfaaDoor
end
section
/- Layer 2, plain: which parts are parts; the bounds of their numbers. No function of the program is looked at here. -/
open Go Go.RowKit
namespace Go.Proofs.YtkipjbmckpmmfaaDoor
set_option linter.unusedVariables false
set_option linter.unusedSimpArgs false

theorem partS_form {t : Tm} {a : Int} (h : partS t a = []) : formS t = true := by
  unfold partS at h
  split at h
  · cases h
  · rename_i h1; simpa using h1
theorem partS_iff (k i : Int) (s : ByteArray) (c : Int) (ns : List Int) (al : List Tm) : partS (.mk k i s c ns al) 0 = [] ↔
    (k = 1 ∧ s = ⟨#[]⟩ ∧ ns = [] ∧ c = 0 ∧ al = [] ∧ -576460752303423488 ≤ i ∧ i ≤ 576460752303423487) ∨
    (k = 2 ∧ i = 0 ∧ (quoteS s).2 = [] ∧ ns = [] ∧ c = 0 ∧ al = []) ∨
    (k = 3 ∧ i = 0 ∧ (nodeS s).2.2 = [] ∧ ns.length = 3 ∧ al = []) ∨
    (k = 4 ∧ i = 0 ∧ (nodeS s).2.2 = [] ∧ ns.length = 2 ∧ al = []) ∨
    (k = 5 ∧ i = 0 ∧ s = ⟨#[]⟩ ∧ ns = [] ∧ c = 0) ∨
    (k = 6 ∧ i = 0 ∧ s = ⟨#[]⟩ ∧ ns = [] ∧ c = 0 ∧ al = []) ∨
    (k = 7 ∧ i = 0 ∧ s = ⟨#[]⟩ ∧ ns = [] ∧ c = 0 ∧ 2 ≤ al.length ∧ lastOk al = true) := by
  have hE : ∀ (k i : Int) (s : ByteArray) (c : Int) (nn an : Nat) (tx nu ar : Bool), emptyS k i s c nn an tx nu ar = true ↔ ((tx = true ∨ s = ⟨#[]⟩) ∧ (nu = true ∨ (nn = 0 ∧ c = 0)) ∧ (ar = true ∨ an = 0) ∧ (k = 1 ∨ i = 0)) := by
    intro k i s c nn an tx nu ar
    unfold emptyS
    simp only [Bool.and_eq_true, Bool.or_eq_true, decide_eq_true_eq, and_assoc]
  have hF : formS (.mk k i s c ns al) = true ↔ (k = 1 ∧ s = ⟨#[]⟩ ∧ ns = [] ∧ c = 0 ∧ al = []) ∨ (k = 2 ∧ i = 0 ∧ ns = [] ∧ c = 0 ∧ al = []) ∨ (k = 3 ∧ i = 0 ∧ ns.length = 3 ∧ al = []) ∨ (k = 4 ∧ i = 0 ∧ ns.length = 2 ∧ al = []) ∨ (k = 5 ∧ i = 0 ∧ s = ⟨#[]⟩ ∧ ns = [] ∧ c = 0) ∨ (k = 6 ∧ i = 0 ∧ s = ⟨#[]⟩ ∧ ns = [] ∧ c = 0 ∧ al = []) ∨ (k = 7 ∧ i = 0 ∧ s = ⟨#[]⟩ ∧ ns = [] ∧ c = 0 ∧ 2 ≤ al.length ∧ lastOk al = true) := by
    show (if k = 1 then emptyS k i s c ns.length al.length false false false else if k = 2 then emptyS k i s c ns.length al.length true false false else if k = 3 then emptyS k i s c ns.length al.length true true false && decide (ns.length = 3) else if k = 4 then emptyS k i s c ns.length al.length true true false && decide (ns.length = 2) else if k = 5 then emptyS k i s c ns.length al.length false false true else if k = 6 then emptyS k i s c ns.length al.length false false false else if k = 7 then emptyS k i s c ns.length al.length false false true && decide (2 ≤ al.length) && lastOk al else false) = true ↔ _
    by_cases h1 : k = 1
    · subst h1
      rw [if_pos rfl, hE]
      simp [List.length_eq_zero_iff, and_assoc]
    · rw [if_neg h1]
      by_cases h2 : k = 2
      · subst h2
        rw [if_pos rfl, hE]
        simp [List.length_eq_zero_iff, and_assoc]
        constructor
        · rintro ⟨e1, e2, e3, e4⟩; exact ⟨e4, e1, e2, e3⟩
        · rintro ⟨e4, e1, e2, e3⟩; exact ⟨e1, e2, e3, e4⟩
      · rw [if_neg h2]
        by_cases h3 : k = 3
        · subst h3
          rw [if_pos rfl, Bool.and_eq_true, hE]
          simp [List.length_eq_zero_iff, and_assoc]
          constructor
          · rintro ⟨e1, e2, e3⟩; exact ⟨e2, e3, e1⟩
          · rintro ⟨e2, e3, e1⟩; exact ⟨e1, e2, e3⟩
        · rw [if_neg h3]
          by_cases h4 : k = 4
          · subst h4
            rw [if_pos rfl, Bool.and_eq_true, hE]
            simp [List.length_eq_zero_iff, and_assoc]
            constructor
            · rintro ⟨e1, e2, e3⟩; exact ⟨e2, e3, e1⟩
            · rintro ⟨e2, e3, e1⟩; exact ⟨e1, e2, e3⟩
          · rw [if_neg h4]
            by_cases h5 : k = 5
            · subst h5
              rw [if_pos rfl, hE]
              simp [List.length_eq_zero_iff, and_assoc]
              constructor
              · rintro ⟨e1, e2, e3, e4⟩; exact ⟨e4, e1, e2, e3⟩
              · rintro ⟨e4, e1, e2, e3⟩; exact ⟨e1, e2, e3, e4⟩
            · rw [if_neg h5]
              by_cases h6 : k = 6
              · subst h6
                rw [if_pos rfl, hE]
                simp [List.length_eq_zero_iff, and_assoc]
                constructor
                · rintro ⟨e1, e2, e3, e4, e5⟩; exact ⟨e5, e1, e2, e3, e4⟩
                · rintro ⟨e5, e1, e2, e3, e4⟩; exact ⟨e1, e2, e3, e4, e5⟩
              · rw [if_neg h6]
                by_cases h7 : k = 7
                · subst h7
                  rw [if_pos rfl, Bool.and_eq_true, Bool.and_eq_true, hE]
                  simp [List.length_eq_zero_iff, and_assoc]
                  constructor
                  · rintro ⟨e1, e2, e3, e4, e5, e6⟩; exact ⟨e4, e1, e2, e3, e5, e6⟩
                  · rintro ⟨e4, e1, e2, e3, e5, e6⟩; exact ⟨e1, e2, e3, e4, e5, e6⟩
                · rw [if_neg h7]; simp [h1, h2, h3, h4, h5, h6, h7]
  constructor
  · intro h
    have hf := hF.1 (partS_form h)
    have hfalse : formS (.mk k i s c ns al) ≠ false := by rw [partS_form h]; decide
    unfold partS at h
    rw [if_neg hfalse] at h
    replace h : (if k = 1 then (if i < -576460752303423488 ∨ 576460752303423487 < i then [⟨termL, 0, 2⟩] else []) else if k = 2 then overL 0 (quoteS s).2 else if k = 3 ∨ k = 4 then overL 0 (nodeS s).2.2 else []) = [] := h
    rcases hf with ⟨rfl, e⟩ | ⟨rfl, e1, e⟩ | ⟨rfl, e1, e⟩ | ⟨rfl, e1, e⟩ | e | e | e
    · rw [if_pos rfl] at h
      split at h
      · cases h
      · exact .inl ⟨rfl, e.1, e.2.1, e.2.2.1, e.2.2.2, by omega, by omega⟩
    · rw [if_neg (by decide), if_pos rfl, overL_nil] at h
      exact .inr (.inl ⟨rfl, e1, h, e⟩)
    · rw [if_neg (by decide), if_neg (by decide), if_pos (.inl rfl), overL_nil] at h
      exact .inr (.inr (.inl ⟨rfl, e1, h, e⟩))
    · rw [if_neg (by decide), if_neg (by decide), if_pos (.inr rfl), overL_nil] at h
      exact .inr (.inr (.inr (.inl ⟨rfl, e1, h, e⟩)))
    · exact .inr (.inr (.inr (.inr (.inl e))))
    · exact .inr (.inr (.inr (.inr (.inr (.inl e)))))
    · exact .inr (.inr (.inr (.inr (.inr (.inr e)))))
  · intro h
    have hf : formS (.mk k i s c ns al) = true := hF.2 (by
      rcases h with ⟨e1, e2, e3, e4, e5, _⟩ | ⟨e1, e2, _, e3⟩ | ⟨e1, e2, _, e3⟩ | ⟨e1, e2, _, e3⟩ | e | e | e
      · exact .inl ⟨e1, e2, e3, e4, e5⟩
      · exact .inr (.inl ⟨e1, e2, e3⟩)
      · exact .inr (.inr (.inl ⟨e1, e2, e3⟩))
      · exact .inr (.inr (.inr (.inl ⟨e1, e2, e3⟩)))
      · exact .inr (.inr (.inr (.inr (.inl e))))
      · exact .inr (.inr (.inr (.inr (.inr (.inl e)))))
      · exact .inr (.inr (.inr (.inr (.inr (.inr e))))))
    unfold partS
    rw [if_neg (by rw [hf]; decide)]
    show (if k = 1 then (if i < -576460752303423488 ∨ 576460752303423487 < i then [⟨termL, 0, 2⟩] else []) else if k = 2 then overL 0 (quoteS s).2 else if k = 3 ∨ k = 4 then overL 0 (nodeS s).2.2 else []) = []
    rcases h with ⟨rfl, _, _, _, _, e1, e2⟩ | ⟨rfl, _, e, _⟩ | ⟨rfl, _, e, _⟩ | ⟨rfl, _, e, _⟩ | ⟨rfl, _⟩ | ⟨rfl, _⟩ | ⟨rfl, _⟩
    · rw [if_pos rfl, if_neg (by omega)]
    · rw [if_neg (by decide), if_pos rfl, overL_nil]; exact e
    · rw [if_neg (by decide), if_neg (by decide), if_pos (.inl rfl), overL_nil]; exact e
    · rw [if_neg (by decide), if_neg (by decide), if_pos (.inr rfl), overL_nil]; exact e
    · rfl
    · rfl
    · rfl
mutual
/-- the bounds of all numbers of 32 bits -/
def bndT : Tm → Prop
  | .mk _ _ _ c ns al => (0 ≤ c ∧ c < 4294967296) ∧ (∀ x ∈ ns, 0 ≤ x ∧ x < 4294967296) ∧ bndL al
def bndL : List Tm → Prop
  | [] => True
  | t :: r => bndT t ∧ bndL r
end
theorem length_le_sizeTL : ∀ al : List Tm, al.length ≤ sizeTL al
  | [] => by rw [sizeTL]; exact Nat.le_refl _
  | .mk k i s c ns a :: r => by
    rw [sizeTL, sizeT, List.length_cons]
    have := length_le_sizeTL r
    omega
mutual
/-- all parts are fine, and no deeper than f -/
def okF : Tm → Nat → Prop
  | .mk k i s c ns al, f => partS (.mk k i s c ns al) 0 = [] ∧ 1 ≤ f ∧ okFL al (f - 1)
def okFL : List Tm → Nat → Prop
  | [], _ => True
  | t :: r, f => okF t f ∧ okFL r f
end
mutual
theorem walkS_iff : ∀ (t : Tm) (n dm d : Nat), n ≤ 4096 → ((walkS t n dm d).1 = [] ↔ okF t (257 - d) ∧ n + sizeT t ≤ 4096)
  | .mk k i s c ns al, n, dm, d, hn => by
    rw [walkS, okF, sizeT]
    split
    · constructor
      · intro h; cases h
      · intro h; omega
    · split
      · constructor
        · intro h; cases h
        · intro h; have := h.1.2.1; omega
      · split
        · rename_i hp
          constructor
          · intro h; exact absurd h hp
          · intro h; exact absurd ((partS_at _ _ _).1 h.1.1) hp
        · rename_i h1 h2 h3
          rw [walkLS_iff al _ _ _ (by omega), show 257 - (d + 1) = 257 - d - 1 by omega]
          have := (partS_at _ _ 0).1 (Classical.not_not.1 h3)
          constructor
          · rintro ⟨e1, e2⟩; exact ⟨⟨this, by omega, e1⟩, by omega⟩
          · rintro ⟨⟨_, _, e1⟩, e2⟩; exact ⟨e1, by omega⟩
theorem walkLS_iff : ∀ (l : List Tm) (n dm d : Nat), n ≤ 4096 → ((walkLS l n dm d).1 = [] ↔ okFL l (257 - d) ∧ n + sizeTL l ≤ 4096)
  | [], n, dm, d, hn => by rw [walkLS, okFL, sizeTL]; simp; omega
  | t :: r, n, dm, d, hn => by
    rw [walkLS, okFL, sizeTL]
    have ht := walkS_iff t n dm d hn
    split
    · rename_i h1
      constructor
      · intro h; exact absurd h h1
      · rintro ⟨⟨e1, _⟩, e2⟩; exact absurd (ht.2 ⟨e1, by omega⟩) h1
    · rename_i h1
      have h1' := Classical.not_not.1 h1
      obtain ⟨e1, e2⟩ := ht.1 h1'
      rw [walkLS_iff r _ _ _ (by rw [(walkS_ok t n dm d h1').2]; exact e2), (walkS_ok t n dm d h1').2]
      constructor
      · rintro ⟨e3, e4⟩; exact ⟨⟨e1, e3⟩, by omega⟩
      · rintro ⟨⟨_, e3⟩, e4⟩; exact ⟨e3, by omega⟩
end
theorem checkS_iff (t : Tm) : checkS t = [] ↔ okF t 256 ∧ sizeT t ≤ 4096 := by
  unfold checkS
  rw [walkS_iff t 0 0 1 (by omega), Nat.zero_add]
mutual
theorem TmAt.bnd {S : Nat → Prop} {w : World} : ∀ {t : Tm} {vs : List Value}, TmAt S t vs w → bndT t
  | .mk k i s c ns al, vs, h => by
    rw [TmAt] at h
    obtain ⟨hp, nv, a, cap, h1, ⟨_, _, _, _, _, h2⟩, h3, h4, h5⟩ := h
    rw [bndT]
    refine ⟨⟨hp.c0, hp.c1⟩, fun x hx => ?_, ArgsAt.bnd h5⟩
    obtain ⟨i, hi, rfl⟩ := List.mem_iff_getElem.1 hx
    exact ⟨(h2 i hi).1, (h2 i hi).2.1⟩
theorem ArgsAt.bnd {S : Nat → Prop} {w : World} : ∀ {l : List Tm} {a : Option Addr}, ArgsAt S l a w → bndL l
  | [], _, _ => by rw [bndL]; trivial
  | t :: r, a, h => by
    rw [ArgsAt] at h
    obtain ⟨g, o, vs, h1, h2, h3, h4, h5⟩ := h
    rw [bndL]
    exact ⟨TmAt.bnd h4, ArgsAt.bnd h5⟩
end
end Go.Proofs.YtkipjbmckpmmfaaDoor
end
