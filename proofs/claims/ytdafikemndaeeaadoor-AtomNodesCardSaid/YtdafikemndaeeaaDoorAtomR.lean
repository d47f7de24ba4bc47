/- The reference's Node is package atom's Node. -/
import Derived.Test.YtdafikemndaeeaaDoorAtomQ
open Go Go.RowKit
namespace Go.Proofs.YtdafikemndaeeaaDoor

theorem extract_list (s : ByteArray) (a b : Nat) : (s.extract a b).data.toList = (s.data.toList.drop a).take (b - a) := by
  rw [ByteArray.data_extract, Array.toList_extract, List.extract_eq_take_drop]
theorem isEmpty_list (s : ByteArray) : s.toList.isEmpty = decide (s.size = 0) := by
  rw [toList_data]
  cases h : s.data.toList with
  | nil => have : s.size = 0 := by simpa using congrArg List.length h
           simp [this]
  | cons a b => have : s.size = b.length + 1 := by simpa using congrArg List.length h
                simp [this]
theorem idx_neg (l : List UInt8) (c : UInt8) : Lib.indexByte l c < 0 ↔ c ∉ l := by
  constructor
  · intro h hm
    have h1 : Lib.indexByte l c = -1 := by have := Lib.indexByte_ge l c; omega
    obtain ⟨k, hk, hkk⟩ := List.getElem_of_mem hm
    exact Lib.indexByte_none h1 k (by rw [List.getElem?_eq_getElem hk, hkk])
  · intro h
    rcases Int.lt_or_le (Lib.indexByte l c) 0 with h1 | h1
    · exact h1
    · have := (Lib.indexByte_some (l := l) (c := c) (o := (Lib.indexByte l c).toNat) (by omega)).1
      exact absurd (List.mem_of_getElem? this) h

theorem nodeRS_eq (s : ByteArray) : nodeRS s = nodeS s := by
  by_cases h : Lib.indexByte s.data.toList 64 < 0
  · have hm := (idx_neg _ _).1 h
    have he : endN s = (-1, (decide (3 ≤ (s.size : Int)) && decide ((s.size : Int) ≤ 64)) && s.data.toList.all okN) := runN_before _ hm 0 _
    have hc : cutS s 64 = (s, ⟨#[]⟩, false) := by unfold cutS; rw [if_neg (by omega)]
    unfold nodeRS nodeS goodAll goodS
    rw [he, hc]
    simp
  · obtain ⟨k, hk⟩ : ∃ k : Nat, Lib.indexByte s.data.toList 64 = k := ⟨(Lib.indexByte s.data.toList 64).toNat, by omega⟩
    have hsome := Lib.indexByte_some hk
    have hlt : k < s.size := by
      have := (List.getElem?_eq_some_iff.1 hsome.1).1
      simpa using this
    have hc : cutS s 64 = (s.extract 0 k, s.extract (k + 1) s.size, true) := by
      unfold cutS; rw [if_pos (by omega), hk]; rfl
    have hla : (s.extract 0 k).data.toList = s.data.toList.take k := by rw [extract_list]; simp
    have hlb : (s.extract (k + 1) s.size).data.toList = s.data.toList.drop (k + 1) := by
      rw [extract_list]
      exact List.take_of_length_le (by simp)
    have hsza : (s.extract 0 k).size = k := by simp [ByteArray.size_extract]; omega
    have hszb : (s.extract (k + 1) s.size).size = s.size - (k + 1) := by simp [ByteArray.size_extract]
    have hsplit : s.data.toList = s.data.toList.take k ++ (64 :: s.data.toList.drop (k + 1)) := by
      have h1 : s.data.toList.drop k = 64 :: s.data.toList.drop (k + 1) := by
        rw [List.drop_eq_getElem_cons (by simpa using hlt)]
        congr 1
        have := hsome.1
        rw [List.getElem?_eq_getElem (by simpa using hlt)] at this
        exact Option.some.inj this
      rw [← h1, List.take_append_drop]
    have hpre : 64 ∉ s.data.toList.take k := by
      intro hm
      obtain ⟨j, hj, hjj⟩ := List.getElem_of_mem hm
      rw [List.length_take] at hj
      have := hsome.2 j (by omega)
      rw [List.getElem_take] at hjj
      exact this (by rw [List.getElem?_eq_getElem (by omega), hjj])
    have hlen : (s.data.toList.take k).length = k := by rw [List.length_take]; simp; omega
    have he : endN s = runN (s.data.toList.drop (k + 1)) (k + 1) ((k : Int), (decide (3 ≤ (s.size : Int)) && decide ((s.size : Int) ≤ 64)) && (s.data.toList.take k).all okN) := by
      unfold endN
      generalize (decide (3 ≤ (s.size : Int)) && decide ((s.size : Int) ≤ 64)) = g0
      generalize hA : s.data.toList.take k = A at *
      generalize hB : s.data.toList.drop (k + 1) = B at *
      rw [hsplit, runN_append, runN_before _ hpre, runN, hlen, Nat.zero_add]
      rw [stepN, if_pos ((is64 64).2 rfl)]
      simp
    unfold nodeRS nodeS goodAll goodS
    rw [he, hc]
    simp only [hla, hlb, isEmpty_list, hsza, hszb]
    by_cases h2 : 64 ∈ s.data.toList.drop (k + 1)
    · have h3 : 0 ≤ Lib.indexByte (s.data.toList.drop (k + 1)) 64 := by
        rcases Int.lt_or_le (Lib.indexByte (s.data.toList.drop (k + 1)) 64) 0 with h4 | h4
        · exact absurd h2 ((idx_neg _ _).1 h4)
        · exact h4
      rw [runN_twice _ h2 _ _ _ (by omega)]
      simp [h3]
    · have h3 : ¬ 0 ≤ Lib.indexByte (s.data.toList.drop (k + 1)) 64 := by
        have := (idx_neg _ _).2 h2; omega
      rw [runN_after _ h2 _ (by omega)]
      generalize (s.data.toList.take k).all okN = A1
      generalize (s.data.toList.drop (k + 1)).all okH = A2
      simp only [decide_eq_false h3, Bool.not_false, Bool.and_true, Bool.true_and]
      by_cases c1 : k = 0
      · subst c1; simp
      · by_cases c2 : s.size = k + 1
        · have : ((k : Int) == (s.size : Int) - 1) = true := by simp; omega
          simp [c2]
        · have h5 : ((k : Int) == (s.size : Int) - 1) = false := by simp; omega
          have h6 : decide ((k : Int) < 1) = false := by simp; omega
          have h7 : decide (3 ≤ (s.size : Int)) = true := by simp; omega
          have h8 : decide (s.size - (k + 1) = 0) = false := by simp; omega
          have h9 : decide (k = 0) = false := by simp [c1]
          have h10 : decide ((s.size : Int) ≤ 64) = decide (s.size ≤ 64) := by
            by_cases h : s.size ≤ 64
            · simp [h]; omega
            · simp [h]; omega
          rw [h5, h6, h7, h8, h9, h10]
          cases decide (s.size ≤ 64) <;> cases A1 <;> cases A2 <;> simp
end Go.Proofs.YtdafikemndaeeaaDoor
