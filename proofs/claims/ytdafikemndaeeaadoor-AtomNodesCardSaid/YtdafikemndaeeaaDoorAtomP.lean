/- Layer 1, plain lists: what is quoted is read as itself; what is read is an atom. No program here. -/
import Derived.Test.YtdafikemndaeeaaDoorAtomG
open Go Go.RowKit
namespace Go.Proofs.YtdafikemndaeeaaDoor

theorem utfGo_ascii (s : ByteArray) (h : ∀ i, (hi : i < s.size) → s[i].toNat < 128) : ∀ f p, utfGo s f p = -1 := by
  intro f
  induction f with
  | zero => exact fun _ => rfl
  | succ f ih =>
    intro p
    rw [utfGo]
    split
    · rename_i hp
      rw [decode_ascii s p hp (h p hp)]
      have := h p hp
      rw [if_neg (by simp; omega)]
      exact ih _
    · rfl

theorem kind_ascii (c : UInt8) (h : kindS c.toNat ≠ 0) : c.toNat < 128 := by
  unfold kindS at h
  (repeat' split at h) <;> omega

/-- a text that may be an atom's -/
def Good (l : List UInt8) : Prop := l.length ≤ 255 ∧ utfS ⟨l.toArray⟩ = -1

theorem size_mk (l : List UInt8) : (⟨l.toArray⟩ : ByteArray).size = l.length := by simp [ByteArray.size]
theorem mk_eta (s : ByteArray) : (⟨s.data.toList.toArray⟩ : ByteArray) = s := by obtain ⟨⟨l⟩⟩ := s; rfl

theorem quoteS_good (l : List UInt8) (h : Good l) : ∃ q, quoteS ⟨l.toArray⟩ = (q, []) := by
  obtain ⟨h1, h2⟩ := h
  unfold quoteS
  rw [size_mk, if_neg (by omega), h2, if_neg (by decide)]
  split
  · exact ⟨_, rfl⟩
  · exact ⟨_, rfl⟩
theorem quoteS_ok {s : ByteArray} {q : List UInt8} (h : quoteS s = (q, [])) : Good s.data.toList ∧ ((plainS s.data.toList = true ∧ q = s.data.toList) ∨ (plainS s.data.toList = false ∧ q = 39 :: (quoteBodyS s.data.toList ++ [39]))) := by
  unfold quoteS at h
  split at h
  · cases h
  · rename_i h1
    split at h
    · cases h
    · rename_i h2
      have hg : Good s.data.toList := by
        refine ⟨by simp; omega, ?_⟩
        rw [mk_eta]
        rcases utfGo_cases s s.size 0 with h | h
        · exact h
        · exact absurd h h2
      split at h
      · rename_i hp; cases h; exact ⟨hg, .inl ⟨hp, rfl⟩⟩
      · rename_i hp; cases h; exact ⟨hg, .inr ⟨by simpa using hp, rfl⟩⟩
theorem validS_of_quote {s : ByteArray} {q : List UInt8} (h : quoteS s = (q, [])) : validS s = true := by
  unfold validS; rw [h]; rfl

/-! ### what is quoted is read -/
theorem nib_hex : ∀ n : Fin 16, nibbleS (hexD n.val).toNat = (n.val : Int) := by decide +kernel
theorem nib_hexD (n : Nat) (h : n < 16) : nibbleS (hexD n).toNat = (n : Int) := nib_hex ⟨n, h⟩

theorem quoted_esc (S : ByteArray) (frm : Int) (f i : Nat) (acc r : List UInt8) (x : Int) (n : Nat) (h : S.data.toList.drop i = 92 :: r) (hr : r ≠ []) (he : escapeS r = (x, (n : Int))) (hn : n ≠ 0) :
    quotedGo S frm (f + 1) i acc = quotedGo S frm f (i + 1 + n) (acc ++ [UInt8.ofNat x.toNat]) := by
  rw [quotedGo, h]
  simp only
  rw [if_neg (by decide), if_neg (by decide), if_pos trivial, if_neg hr, he]
  simp only
  rw [if_neg (by omega), Int.toNat_natCast]
theorem quoted_byte (S : ByteArray) (frm : Int) (f i : Nat) (acc r : List UInt8) (c : UInt8) (h : S.data.toList.drop i = c :: r) (h1 : c ≠ 39) (h2 : c ≠ 92) (h3 : ¬ (c.toNat < 32 ∨ c = 127)) :
    quotedGo S frm (f + 1) i acc = quotedGo S frm f (i + 1) (acc ++ [c]) := by
  rw [quotedGo, h]
  simp only
  rw [if_neg h1, if_neg h3, if_neg h2]

theorem quoted_step (S : ByteArray) (frm : Int) (f i : Nat) (acc : List UInt8) (c : UInt8) (rest : List UInt8) (h : S.data.toList.drop i = quoteByteS c ++ rest) :
    quotedGo S frm (f + 1) i acc = quotedGo S frm f (i + (quoteByteS c).length) (acc ++ [c]) := by
  unfold quoteByteS at h ⊢
  by_cases c1 : c = 39 ∨ c = 92
  · rw [if_pos c1] at h ⊢
    have e : escapeS (c :: rest) = (((c.toNat : Nat) : Int), ((1 : Nat) : Int)) := by
      rw [escapeS]
      rw [if_neg (by rcases c1 with rfl | rfl <;> decide), if_neg (by rcases c1 with rfl | rfl <;> decide), if_neg (by rcases c1 with rfl | rfl <;> decide), if_pos c1]
      rfl
    rw [quoted_esc S frm f i acc _ _ 1 h (by simp) e (by decide)]
    simp
  rw [if_neg c1] at h ⊢
  by_cases c2 : c = 10
  · subst c2
    simp only [if_true] at h ⊢
    rw [quoted_esc S frm f i acc (110 :: rest) 10 1 h (by simp) (show escapeS (110 :: rest) = (10, ((1 : Nat) : Int)) by rw [escapeS]; rfl) (by decide)]
    rfl
  rw [if_neg c2] at h ⊢
  by_cases c3 : c = 9
  · subst c3
    simp only [if_true] at h ⊢
    rw [quoted_esc S frm f i acc (116 :: rest) 9 1 h (by simp) (show escapeS (116 :: rest) = (9, ((1 : Nat) : Int)) by rw [escapeS]; rfl) (by decide)]
    rfl
  rw [if_neg c3] at h ⊢
  by_cases c4 : c = 13
  · subst c4
    simp only [if_true] at h ⊢
    rw [quoted_esc S frm f i acc (114 :: rest) 13 1 h (by simp) (show escapeS (114 :: rest) = (13, ((1 : Nat) : Int)) by rw [escapeS]; rfl) (by decide)]
    rfl
  rw [if_neg c4] at h ⊢
  by_cases c5 : c.toNat < 32 ∨ c = 127
  · rw [if_pos c5] at h ⊢
    have hc := c.toNat_lt
    have e : escapeS (120 :: hexD (c.toNat / 16) :: hexD (c.toNat % 16) :: rest) = (((c.toNat : Nat) : Int), ((3 : Nat) : Int)) := by
      rw [escapeS, if_neg (by decide), if_neg (by decide), if_neg (by decide), if_neg (by decide), if_pos rfl, hexS, nib_hexD _ (by omega), nib_hexD _ (by omega), if_pos ⟨by omega, by omega⟩]
      congr 1
      omega
    rw [quoted_esc S frm f i acc _ _ 3 h (by simp) e (by decide)]
    simp
  · rw [if_neg c5] at h ⊢
    rw [quoted_byte S frm f i acc rest c h (fun h => c1 (.inl h)) (fun h => c1 (.inr h)) c5]
    rfl

theorem quoted_body (S : ByteArray) (frm : Int) (rest : List UInt8) : ∀ (l : List UInt8) (f i : Nat) (acc : List UInt8), S.data.toList.drop i = quoteBodyS l ++ 39 :: rest → l.length < f → Good (acc ++ l) →
    quotedGo S frm f i acc = (acc ++ l, (i : Int) + (quoteBodyS l).length + 1, []) := by
  intro l
  induction l with
  | nil =>
    intro f i acc h hf hg
    obtain ⟨f, rfl⟩ : ∃ g, f = g + 1 := ⟨f - 1, by simp at hf; omega⟩
    rw [quotedGo, h]
    simp only [quoteBodyS, List.flatMap_nil, List.nil_append, List.append_nil] at hg ⊢
    rw [if_pos trivial, if_neg (by have := hg.1; omega), if_neg (by rw [hg.2]; decide)]
    simp
  | cons c l ih =>
    intro f i acc h hf hg
    obtain ⟨f, rfl⟩ : ∃ g, f = g + 1 := ⟨f - 1, by simp at hf; omega⟩
    have hb : quoteBodyS (c :: l) = quoteByteS c ++ quoteBodyS l := by simp [quoteBodyS]
    rw [hb, List.append_assoc] at h
    rw [quoted_step S frm f i acc c _ h, ih f (i + (quoteByteS c).length) (acc ++ [c]) ?_ (by simp at hf; omega) (by simpa using hg)]
    · rw [hb]; simp; omega
    · rw [← List.drop_drop, h]; simp

theorem quoteBodyS_ge (l : List UInt8) : l.length ≤ (quoteBodyS l).length := by
  induction l with
  | nil => simp
  | cons c l ih =>
    have h1 : 1 ≤ (quoteByteS c).length := by unfold quoteByteS; (repeat' split) <;> simp
    simp only [quoteBodyS, List.flatMap_cons, List.length_append, List.length_cons] at *
    omega

theorem scan_back (S : ByteArray) (i : Nat) (s : ByteArray) (q rest : List UInt8) (hq : quoteS s = (q, [])) (hd : S.data.toList.drop i = q ++ rest) (hr : rest = [] ∨ q.head? = some 39) :
    scanS S i = (s.data.toList, (i : Int) + q.length, []) := by
  obtain ⟨hg, ⟨hp, rfl⟩ | ⟨hp, rfl⟩⟩ := quoteS_ok hq
  · have hl : 0 < s.data.toList.length := by
      cases h : s.data.toList with
      | nil => rw [h] at hp; cases hp
      | cons => simp
    obtain ⟨c, l, hs⟩ : ∃ c l, s.data.toList = c :: l := by
      cases h : s.data.toList with
      | nil => rw [h] at hl; simp at hl
      | cons c l => exact ⟨c, l, rfl⟩
    rw [hs] at hp hd hr hg ⊢
    simp only [plainS, Bool.and_eq_true, beq_iff_eq, Bool.not_eq_true'] at hp
    obtain ⟨⟨hk, hw⟩, hres⟩ := hp
    have hc39 : c ≠ 39 := by rintro rfl; revert hk; decide
    have hr : rest = [] := by
      rcases hr with h | h
      · exact h
      · simp at h; exact absurd h hc39
    subst hr
    have hdl : i < S.data.toList.length := by
      rcases Nat.lt_or_ge i S.data.toList.length with h | h
      · exact h
      · rw [List.drop_eq_nil_of_le h] at hd; cases hd
    unfold scanS
    rw [if_neg (by simp at hdl; omega), Int.toNat_natCast, hd]
    simp only [List.append_nil]
    rw [if_neg hc39, if_pos hk, hw, if_neg (by have := hg.1; omega), if_neg (by rw [List.take_length]; simp [hres]), List.take_length]
  · have hdl : i < S.data.toList.length := by
      rcases Nat.lt_or_ge i S.data.toList.length with h | h
      · exact h
      · rw [List.drop_eq_nil_of_le h] at hd; cases hd
    unfold scanS
    rw [if_neg (by simp at hdl; omega), Int.toNat_natCast, hd]
    simp only [List.cons_append]
    rw [if_pos trivial]
    unfold quotedS
    have hlen := congrArg List.length hd
    simp only [List.length_drop, List.length_append, List.length_cons, List.length_nil] at hlen
    have hlb : s.data.toList.length ≤ (quoteBodyS s.data.toList).length := quoteBodyS_ge _
    rw [quoted_body S i rest s.data.toList S.size (i + 1) [] ?_ ?_ (by simpa using hg)]
    · simp; omega
    · rw [← List.drop_drop, hd]; simp
    · have : S.data.toList.length = S.size := by simp
      omega

/-! ### what is read is an atom -/
theorem quotedGo_good (S : ByteArray) (frm : Int) : ∀ (f i : Nat) (acc : List UInt8), frm < i → (quotedGo S frm f i acc).2.2 = [] → Good (quotedGo S frm f i acc).1 ∧ frm < (quotedGo S frm f i acc).2.1
  | 0, i, acc, _, h => by rw [quotedGo] at h; cases h
  | f + 1, i, acc, hf, h => by
    rw [quotedGo] at h ⊢
    split at h
    · cases h
    · rename_i c r hd
      by_cases c1 : c = 39
      · simp only [if_pos c1] at h ⊢
        by_cases d1 : 255 < acc.length
        · rw [if_pos d1] at h; cases h
        · simp only [if_neg d1] at h ⊢
          by_cases d2 : 0 ≤ utfS ⟨acc.toArray⟩
          · rw [if_pos d2] at h; cases h
          · simp only [if_neg d2]
            refine ⟨⟨by omega, ?_⟩, by omega⟩
            rcases utfGo_cases ⟨acc.toArray⟩ (⟨acc.toArray⟩ : ByteArray).size 0 with h | h
            · exact h
            · exact absurd h d2
      · simp only [if_neg c1] at h ⊢
        by_cases c2 : c.toNat < 32 ∨ c = 127
        · rw [if_pos c2] at h; cases h
        · simp only [if_neg c2] at h ⊢
          by_cases c3 : c = 92
          · simp only [if_pos c3] at h ⊢
            by_cases d1 : r = []
            · rw [if_pos d1] at h; cases h
            · simp only [if_neg d1] at h ⊢
              by_cases d2 : (escapeS r).2 = 0
              · rw [if_pos d2] at h; cases h
              · simp only [if_neg d2] at h ⊢
                exact quotedGo_good S frm f _ _ (by omega) h
          · simp only [if_neg c3] at h ⊢
            exact quotedGo_good S frm f _ _ (by omega) h
theorem quotedGo_bad (S : ByteArray) (frm : Int) : ∀ (f i : Nat) (acc : List UInt8), (quotedGo S frm f i acc).2.2 ≠ [] → (quotedGo S frm f i acc).1 = [] ∧ (quotedGo S frm f i acc).2.1 = 0
  | 0, i, acc, _ => by rw [quotedGo]; exact ⟨rfl, rfl⟩
  | f + 1, i, acc, h => by
    rw [quotedGo] at h ⊢
    split
    · exact ⟨rfl, rfl⟩
    · rename_i c r hd
      simp only [hd] at h
      by_cases c1 : c = 39
      · simp only [if_pos c1] at h ⊢
        by_cases d1 : 255 < acc.length
        · rw [if_pos d1]; exact ⟨rfl, rfl⟩
        · simp only [if_neg d1] at h ⊢
          by_cases d2 : 0 ≤ utfS ⟨acc.toArray⟩
          · rw [if_pos d2]; exact ⟨rfl, rfl⟩
          · simp only [if_neg d2] at h; exact absurd rfl h
      · simp only [if_neg c1] at h ⊢
        by_cases c2 : c.toNat < 32 ∨ c = 127
        · rw [if_pos c2]; exact ⟨rfl, rfl⟩
        · simp only [if_neg c2] at h ⊢
          by_cases c3 : c = 92
          · simp only [if_pos c3] at h ⊢
            by_cases d1 : r = []
            · rw [if_pos d1]; exact ⟨rfl, rfl⟩
            · simp only [if_neg d1] at h ⊢
              by_cases d2 : (escapeS r).2 = 0
              · rw [if_pos d2]; exact ⟨rfl, rfl⟩
              · simp only [if_neg d2] at h ⊢
                exact quotedGo_bad S frm f _ _ h
          · simp only [if_neg c3] at h ⊢
            exact quotedGo_bad S frm f _ _ h

theorem take_word : ∀ (l : List UInt8), ∀ c ∈ l.take (wordS l), c.toNat < 128
  | [], c, h => by simp [wordS] at h
  | a :: l, c, h => by
    rw [wordS_cons] at h
    split at h
    · simp at h
    · rename_i hk
      rw [Nat.add_comm, List.take_succ_cons] at h
      rcases List.mem_cons.1 h with rfl | h
      · exact kind_ascii _ hk
      · exact take_word l c h
theorem good_ascii (l : List UInt8) (h : l.length ≤ 255) (ha : ∀ c ∈ l, c.toNat < 128) : Good l := by
  refine ⟨h, utfGo_ascii _ (fun i hi => ?_) _ _⟩
  exact ha _ (by
    show (⟨l.toArray⟩ : ByteArray).data[i] ∈ l
    simp)

theorem scan_good (s : ByteArray) (frm : Int) (h : (scanS s frm).2.2 = []) : Good (scanS s frm).1 ∧ frm < (scanS s frm).2.1 := by
  unfold scanS at h ⊢
  by_cases c1 : frm < 0 ∨ (s.size : Int) < frm
  · rw [if_pos c1] at h; cases h
  simp only [if_neg c1] at h ⊢
  split
  · rename_i hd; simp only [hd] at h; cases h
  · rename_i c r hd
    simp only [hd] at h
    by_cases c2 : c = 39
    · simp only [if_pos c2] at h ⊢
      have := quotedGo_good s frm.toNat s.size (frm.toNat + 1) [] (by omega) h
      exact ⟨this.1, by have := this.2; show frm < _; unfold quotedS; omega⟩
    · simp only [if_neg c2] at h ⊢
      by_cases c3 : kindS c.toNat = 1
      · simp only [if_pos c3] at h ⊢
        by_cases c4 : 255 < wordS (c :: r)
        · rw [if_pos c4] at h; cases h
        · simp only [if_neg c4] at h ⊢
          by_cases c5 : reservedS ((c :: r).take (wordS (c :: r))) = true
          · rw [if_pos c5] at h; cases h
          · rw [if_neg c5]
            refine ⟨good_ascii _ ?_ (take_word _), ?_⟩
            · have := List.length_take_le (wordS (c :: r)) (c :: r); show List.length (List.take _ _) ≤ 255; omega
            · have : 1 ≤ wordS (c :: r) := by rw [wordS_cons, if_neg (by rw [c3]; decide)]; omega
              show frm < frm + _
              omega
      · rw [if_neg c3] at h; cases h
theorem scan_bad (s : ByteArray) (frm : Int) (h : (scanS s frm).2.2 ≠ []) : (scanS s frm).1 = [] ∧ (scanS s frm).2.1 = 0 := by
  unfold scanS at h ⊢
  by_cases c1 : frm < 0 ∨ (s.size : Int) < frm
  · rw [if_pos c1]; exact ⟨rfl, rfl⟩
  simp only [if_neg c1] at h ⊢
  split
  · exact ⟨rfl, rfl⟩
  · rename_i c r hd
    simp only [hd] at h
    by_cases c2 : c = 39
    · simp only [if_pos c2] at h ⊢
      exact quotedGo_bad s frm.toNat s.size (frm.toNat + 1) [] h
    · simp only [if_neg c2] at h ⊢
      by_cases c3 : kindS c.toNat = 1
      · simp only [if_pos c3] at h ⊢
        by_cases c4 : 255 < wordS (c :: r)
        · rw [if_pos c4]; exact ⟨rfl, rfl⟩
        · simp only [if_neg c4] at h ⊢
          by_cases c5 : reservedS ((c :: r).take (wordS (c :: r))) = true
          · rw [if_pos c5]; exact ⟨rfl, rfl⟩
          · rw [if_neg c5] at h; exact absurd rfl h
      · rw [if_neg c3]; exact ⟨rfl, rfl⟩
end Go.Proofs.YtdafikemndaeeaaDoor
