/- Texts laid together: Ls. -/
import Derived.Test.YtlahagabcnmdiaaDoorP11
import Derived.Test.YtlahagabcnmdiaaDoorP19
import Derived.Test.YtlahagabcnmdiaaDoorP20
section
/- A row of terms in a cell of a block, and one term more in it. No function of the program is looked at here. -/
open Go Go.RowKit
namespace Go.Proofs.YtlahagabcnmdiaaDoor
set_option linter.unusedVariables false

/-- cell j of block g holds the row v of the terms l, whose own rows lie in S; all of it from base on -/
structure LsAt (base g : Nat) (T : TypeId) (cs : List Value) (j : Nat) (v : Value) (S : Nat → Prop) (l : List Tm) (W : World) : Prop where
  cells : Cells W g T cs
  at_ : cs[j]? = some v
  rows : TsIs base S v l W
  hS : ∀ q, S q → base ≤ q ∧ q < W.heap.size ∧ q ≠ g
  hv : ∀ q, v.ownBlock = some q → base ≤ q ∧ q ≠ g ∧ ¬ S q
/-- what one term more may turn -/
def LsK (g : Nat) (v : Value) : Nat → Prop := fun q => q = g ∨ v.ownBlock = some q
theorem LsAt.keep {S' : Nat → Prop} {base g j : Nat} {T : TypeId} {cs : List Value} {v : Value} {S : Nat → Prop} {l : List Tm} {W W' : World} (h : LsAt base g T cs j v S l W) (k : Keep S' W W') (hg : ¬ S' g) (hv : ∀ q, v.ownBlock = some q → ¬ S' q) (hS : ∀ q, S q → ¬ S' q) : LsAt base g T cs j v S l W' :=
  ⟨h.cells.keep k hg, h.at_, h.rows.keep k hv (fun q _ hq => hS q hq), fun q hq => ⟨(h.hS q hq).1, Nat.lt_of_lt_of_le (h.hS q hq).2.1 k.size, (h.hS q hq).2.2⟩, h.hv⟩
theorem LsAt.below {base g j : Nat} {T : TypeId} {cs : List Value} {v : Value} {S : Nat → Prop} {l : List Tm} {W W' : World} (h : LsAt base g T cs j v S l W) (hb : Below W.heap.size W W') : LsAt base g T cs j v S l W' :=
  h.keep (S' := Nob) (keepB hb) (fun e => e) (fun _ _ e => e) (fun _ _ e => e)
theorem LsAt.nil {base g : Nat} {T : TypeId} {cs : List Value} {j : Nat} {W : World} (hC : Cells W g T cs) (hj : cs[j]? = some (.slice none 0 0)) : LsAt base g T cs j (.slice none 0 0) (fun _ => False) [] W :=
  ⟨hC, hj, TsIs.nil _ _ _, fun _ h => h.elim, fun _ h => by cases h⟩
theorem LsAt.form {base g j : Nat} {T : TypeId} {cs : List Value} {v : Value} {S : Nat → Prop} {l : List Tm} {W : World} (h : LsAt base g T cs j v S l W) : ∃ a c, v = .slice a l.length c ∧ (l.length ≤ c ∧ c ≤ maxLen) := by
  rcases h.rows.shape with ⟨rfl, rfl⟩ | ⟨k, c, rfl, _, _, h1, h2⟩
  · exact ⟨none, 0, rfl, Nat.le_refl _, Nat.zero_le _⟩
  · exact ⟨_, c, rfl, h1, h2⟩
theorem keepSet' {S : Nat → Prop} {a w : World} {g : Nat} (h : Keep S a w) (hg : S g) (i : Nat) (u : Value) : Keep S a (w.setCell ⟨g, i, none⟩ u) := h.setCell (p := ⟨g, i, none⟩) (fun _ => hg) u
/-- the append and both orders of the stores -/
def LsEnd (base g : Nat) (T : TypeId) (cs : List Value) (j : Nat) (v v2 : Value) (S SC : Nat → Prop) (kk : Nat) (vs3 : List Value) (l : List Tm) (t : Tm) (W W2 : World) : Prop :=
  Keep (LsK g v) W W2 ∧ Cells W2 g T cs ∧
  (∃ cs', Cells W2 kk 30 cs' ∧ l.length * 6 + 6 ≤ cs'.length ∧ ∀ W5, Cells W5 kk 30 (setFrom cs' (l.length * 6) vs3) → W2.grownBy W5 (some kk) →
    Keep (LsK g v) W W5 ∧ Cells W5 g T cs ∧ Keep (LsK g v) W (W5.setCell ⟨g, j, none⟩ v2) ∧ ∃ S2, (∀ q, S2 q → S q ∨ SC q) ∧ LsAt base g T (cs.set j v2) j v2 S2 (l ++ [t]) (W5.setCell ⟨g, j, none⟩ v2)) ∧
  (Keep (LsK g v) W (W2.setCell ⟨g, j, none⟩ v2) ∧ ∃ cs', Cells (W2.setCell ⟨g, j, none⟩ v2) kk 30 cs' ∧ l.length * 6 + 6 ≤ cs'.length ∧ ∀ W5, Cells W5 kk 30 (setFrom cs' (l.length * 6) vs3) → (W2.setCell ⟨g, j, none⟩ v2).grownBy W5 (some kk) →
    Keep (LsK g v) W W5 ∧ ∃ S2, (∀ q, S2 q → S q ∨ SC q) ∧ LsAt base g T (cs.set j v2) j v2 S2 (l ++ [t]) W5)
theorem ls_app {base g j zb : Nat} {T : TypeId} {cs : List Value} {v : Value} {S SC : Nat → Prop} {l : List Tm} {t : Tm} {vs3 : List Value} {W : World} (h : LsAt base g T cs j v S l W) (hl : l.length < 1000000000000) (hbg : base ≤ W.heap.size)
    (hZ : Cells W zb 30 termZ) (hT : TmAt SC t vs3 W) (hSC : ∀ q, SC q → base ≤ q ∧ q < W.heap.size ∧ q ≠ g ∧ v.ownBlock ≠ some q) :
    ∃ kk cc W2, (Builtin.append_ #[28, 28] 28 #[v, .slice (some ⟨zb, 0, none⟩) 1 1]).run Tryd.prog W = .ok (.slice (some ⟨kk, 0, none⟩) (l.length + 1) cc) W2 ∧ l.length + 1 ≤ cc ∧ cc ≤ maxLen ∧
      (base ≤ kk ∧ kk ≠ g) ∧ LsEnd base g T cs j v (.slice (some ⟨kk, 0, none⟩) (l.length + 1) cc) S SC kk vs3 l t W W2 := by
  have hglt := h.cells.lt
  obtain ⟨S2, hS2⟩ : ∃ S2 : Nat → Prop, ∀ q, S2 q ↔ S q ∨ SC q := ⟨_, fun _ => Iff.rfl⟩
  have hTW : TsIs base S2 v l W := h.rows.mono (Nat.le_refl _) (fun q hlt hq => (hS2 q).2 (.inl hq))
  have hvS2 : ∀ k, v.ownBlock = some k → ¬ S2 k := fun k hk h2 => by
    rcases (hS2 k).1 h2 with h1 | h1
    · exact (h.hv k hk).2.2 h1
    · exact (hSC k h1).2.2.2 hk
  obtain ⟨v2, W2, hrun, hTS, hg, hob⟩ := hTW.app (zero_at S2 W) zb 0 1 (fun j hj => by rw [Nat.zero_add]; exact hZ.cell j) (by omega) hbg hvS2
  obtain ⟨_, hn⟩ | ⟨kk, cc, rfl, _, hkk, hcc, hcm⟩ := hTS.shape
  · simp at hn
  have hlen : (l ++ [Tm.zero]).length = l.length + 1 := by simp
  rw [hlen] at hrun hTS hob hcc
  have hkc : (v.ownBlock = some kk ∧ kk < W.heap.size) ∨ kk = W.heap.size := by
    rcases hob with e | e
    · exact .inl ⟨e.symm, (h.rows.block e.symm).2.1⟩
    · exact .inr (Option.some.inj e)
  have hkg : kk ≠ g := by rcases hkc with ⟨h1, _⟩ | h1; exact (h.hv kk h1).2.1; omega
  have hkS : ¬ S2 kk := by
    rcases hkc with ⟨h1, _⟩ | h1
    · exact hvS2 kk h1
    · intro h2
      rcases (hS2 kk).1 h2 with h3 | h3
      · have := (h.hS kk h3).2.1; omega
      · have := (hSC kk h3).2.1; omega
  have hkb : base ≤ kk := by rcases hkc with ⟨h1, _⟩ | h1; exact (h.hv kk h1).1; omega
  have hkK : kk < W.heap.size → LsK g v kk := fun hlt => by rcases hkc with ⟨h1, _⟩ | h1; exact .inr h1; omega
  have hS2g : ∀ q, S2 q → base ≤ q ∧ q < W.heap.size ∧ q ≠ g := fun q hq => by
    rcases (hS2 q).1 hq with h1 | h1
    · exact h.hS q h1
    · have := hSC q h1; exact ⟨this.1, this.2.1, this.2.2.1⟩
  have hK2 : Keep (LsK g v) W W2 := (Keep.refl _ W).grown hg (fun k hk _ => .inr hk)
  have hC2 : Cells W2 g T cs := h.cells.grown hg (fun e => (h.hv g e).2.1 rfl)
  have hTC2 : TmAt S2 t vs3 W2 := (TmAt.frame (w' := W2) (fun q hq => hg.block q (hSC q hq).2.1 (fun e => (hSC q hq).2.2.2 e.symm)) hT).mono (fun q _ hq => (hS2 q).2 (.inr hq))
  have hat : (cs.set j (.slice (some ⟨kk, 0, none⟩) (l.length + 1) cc))[j]? = some (.slice (some ⟨kk, 0, none⟩) (l.length + 1) cc) := by
    have := (List.getElem?_eq_some_iff.1 h.at_).1
    simp [this]
  refine ⟨kk, cc, W2, hrun, hcc, hcm, ⟨hkb, hkg⟩, hK2, hC2, ?_, ?_⟩
  · obtain ⟨cs', h1, h2, h3⟩ := TsIs.turn hTS hTC2 hkS
    refine ⟨cs', h1, h2, fun W5 h5 hg5 => ?_⟩
    have C5 := hC2.grown hg5 (fun e => hkg (Option.some.inj e))
    have T5 := h3 W5 h5 hg5
    have K5 := hK2.grown hg5 (fun k hk hlt => by cases hk; exact hkK hlt)
    refine ⟨K5, C5, keepSet' K5 (.inl rfl) _ _, S2, fun q hq => (hS2 q).1 hq, C5.set_ j _, hat, ?_, fun q hq => ?_, fun q hq => ?_⟩
    · exact T5.keep (keepSet (Keep.refl (Blk1 g) W5) j _) (fun q hq e => by cases hq; exact hkg e) (fun q _ hq e => (hS2g q hq).2.2 e)
    · have := hS2g q hq
      have hsz := K5.size
      exact ⟨this.1, by show q < (W5.setCell _ _).heap.size; rw [World.size_setCell]; omega, this.2.2⟩
    · cases hq; exact ⟨hkb, hkg, hkS⟩
  · have C4 := hC2.set_ j (.slice (some ⟨kk, 0, none⟩) (l.length + 1) cc)
    have KS := keepSet (Keep.refl (Blk1 g) W2) j (.slice (some ⟨kk, 0, none⟩) (l.length + 1) cc)
    have T4 := hTS.keep KS (fun q hq e => by cases hq; exact hkg e) (fun q _ hq e => (hS2g q hq).2.2 e)
    have TC4 := hTC2.keep KS (fun q _ hq e => (hS2g q hq).2.2 e)
    have K4 := keepSet' hK2 (show LsK g v g from .inl rfl) j (.slice (some ⟨kk, 0, none⟩) (l.length + 1) cc)
    refine ⟨K4, ?_⟩
    obtain ⟨cs', h1, h2, h3⟩ := TsIs.turn T4 TC4 hkS
    refine ⟨cs', h1, h2, fun W5 h5 hg5 => ?_⟩
    have C5 := C4.grown hg5 (fun e => hkg (Option.some.inj e))
    have K5 := K4.grown hg5 (fun k hk hlt => by cases hk; exact hkK hlt)
    refine ⟨K5, S2, fun q hq => (hS2 q).1 hq, C5, hat, h3 W5 h5 hg5, fun q hq => ?_, fun q hq => ?_⟩
    · have := hS2g q hq
      have hsz := K5.size
      exact ⟨this.1, by omega, this.2.2⟩
    · cases hq; exact ⟨hkb, hkg, hkS⟩
end Go.Proofs.YtlahagabcnmdiaaDoor
end
