/- The reference of layer 1: which atoms stand without quotes; how an atom is written. -/
import Derived.Test.YtdafikemndaeeaaDoorAtomI
import Derived.Test.YtdafikemndaeeaaDoorRefused
open Go Go.RowKit
namespace Go.Proofs.YtdafikemndaeeaaDoor

theorem lit_cells2 (w : World) (a b : UInt8) : ∀ j, (h : j < [a, b].length) → (w.alloc (.cells #[.int .u8 a.toNat, .int .u8 b.toNat] 5 (0, 0))).cell? ((⟨w.heap.size, 0, none⟩ : Addr).add j) = some (byteV [a, b][j]) := lit_cells w [a, b] _ rfl

theorem small_any (c : Int) (w : World) : Calls Tryd.prog 80 #[.int .u8 c] w fun e w' => e = .returned (.bool (kindS c == 1)) ∧ w' = w := by
  by_cases h1 : 97 ≤ c
  · by_cases h2 : c ≤ 122
    · have P := Lib.hid (show (kindS c == 1) = true by unfold kindS; rw [if_pos ⟨h1, h2⟩]; rfl)
      go_enter Tryd.func80, Tryd.ntmps80
      go_wp2
      go_ret
      exact ⟨ret_bool P.out.symm, rfl⟩
    · have P := Lib.hid (show (kindS c == 1) = false by unfold kindS; rw [if_neg (by omega)]; (repeat' split) <;> rfl)
      go_enter Tryd.func80, Tryd.ntmps80
      go_wp2
      go_ret
      exact ⟨ret_bool P.out.symm, rfl⟩
  · have P := Lib.hid (show (kindS c == 1) = false by unfold kindS; rw [if_neg (by omega)]; (repeat' split) <;> rfl)
    go_enter Tryd.func80, Tryd.ntmps80
    go_wp2
    go_ret
    exact ⟨ret_bool P.out.symm, rfl⟩

theorem kindS_ne (c : Int) : (kindS c != 0) = (decide (97 ≤ c ∧ c ≤ 122) || (decide (65 ≤ c ∧ c ≤ 90) || (decide (48 ≤ c ∧ c ≤ 57) || (decide (c = 95 ∨ c = 64))))) := by
  unfold kindS
  by_cases h1 : 97 ≤ c ∧ c ≤ 122
  · simp [h1]
  · by_cases h2 : 65 ≤ c ∧ c ≤ 90
    · simp [h1, h2]
    · by_cases h3 : 48 ≤ c ∧ c ≤ 57
      · simp [h1, h2, h3]
      · by_cases h4 : c = 95 ∨ c = 64
        · simp [h1, h2, h3, h4]
        · simp [h1, h2, h3, h4]

set_option maxHeartbeats 4000000 in
theorem inWord_any (c : Int) (w : World) : Calls Tryd.prog 72 #[.int .u8 c] w fun e w' => e = .returned (.bool (kindS c != 0)) ∧ w' = w := by
  by_cases h1 : kindS c = 1
  · have hb : (kindS c == 1) = true := by simp [h1]
    have P := Lib.hid (show (kindS c != 0) = true by rw [h1]; rfl)
    clear h1
    go_enter Tryd.func72, Tryd.ntmps72
    go_wp2_with (go_at_call 80; refine (small_any _ _).mono ?_; rintro e w' ⟨rfl, rfl⟩)
    go_ret
    exact ⟨ret_bool P.out.symm, rfl⟩
  · have hb : (kindS c == 1) = false := by simp [h1]
    have h97 := Lib.hid (show ¬ (97 ≤ c ∧ c ≤ 122) from fun h => h1 (by unfold kindS; rw [if_pos h]))
    have c95 : (c == 95) = true ∨ (c == 95) = false := by cases (c == 95) <;> simp
    have c64 : (c == 64) = true ∨ (c == 64) = false := by cases (c == 64) <;> simp
    clear h1
    rcases c95 with c95 | c95 <;> rcases c64 with c64 | c64
    all_goals
      go_enter Tryd.func72, Tryd.ntmps72
      go_wp2_with (go_at_call 80; refine (small_any _ _).mono ?_; rintro e w' ⟨rfl, rfl⟩)
    all_goals
      go_ret
      refine ⟨ret_bool ?_, rfl⟩
      have := h97.out
      rw [kindS_ne]
      simp only [beq_iff_eq, beq_eq_false_iff_ne] at c95 c64
      first | (symm; simp; omega) | (simp; omega) | (rw [Bool.eq_iff_iff]; simp; omega)

def resArr : Array Value := (reservedL.map fun l => Value.string ⟨l.toArray⟩).toArray
set_option maxHeartbeats 4000000 in
set_option maxRecDepth 100000 in
theorem reservedR_any (s : ByteArray) (w : World) :
    Calls Tryd.prog 81 #[.string s] w fun e w' => e = .returned (.bool (reservedS s.data.toList)) ∧ Below w.heap.size w w' := by
  go_enter Tryd.func81, Tryd.ntmps81
  go_wp2
  obtain ⟨W, hW⟩ : ∃ W, W = w.alloc (Obj.cells resArr 9) := ⟨_, rfl⟩
  have hbl : Below w.heap.size w W := by rw [hW]; exact (Below.refl _ _).alloc (Nat.le_refl _) _
  have hcells : ∀ k, (h : k < 19) → W.cell? ⟨w.heap.size, k, none⟩ = some (.string ⟨(reservedL[k]'(by simpa [reservedL] using h)).toArray⟩) := by
    intro k h
    rw [hW, cell_of_block (alloc_get _ _)]
    simp only [resArr, List.getElem?_toArray, List.getElem?_map]
    rw [List.getElem?_eq_getElem (by simpa [reservedL] using h)]
    rfl
  show Code.wp _ _ _ _ (w.alloc (Obj.cells resArr 9))
  rw [← hW]
  have HC := Lib.hid hcells
  clear hW hcells
  go_loop [4] (fun i => ∃ k : Nat, k ≤ 19 ∧ i = .int .i64 k ∧ (reservedL.take k).contains s.data.toList = false) (fun i => 19 - (intOf i).toNat)
  case atStart => exact ⟨0, by omega, rfl, rfl⟩
  case round =>
    obtain ⟨k, hk, rfl, hno⟩ := hrel
    have HN := Lib.hid hno
    clear hno
    have hrl : reservedL.length = 19 := rfl
    by_cases hlt : k < 19
    · have hcell := HC.out k hlt
      have hkI : (k : Int) < 19 := by omega
      obtain ⟨r, hr⟩ : ∃ r : ByteArray, r = ⟨(reservedL[k]'(by omega)).toArray⟩ := ⟨_, rfl⟩
      have hrd : r.data.toList = reservedL[k]'(by omega) := by rw [hr]
      rw [← hr] at hcell
      have HR := Lib.hid hrd
      clear hr hrd
      by_cases he : r.data.toList = s.data.toList
      · have hb : (r.toList == s.toList) = true := by rw [toList_data, toList_data, he]; simp
        have P := Lib.hid (show reservedS s.data.toList = true by
          unfold reservedS
          rw [← he, HR.out]
          simp)
        clear he
        go_wp2
        go_ret
        exact ⟨ret_bool P.out.symm, hbl⟩
      · have hb : (r.toList == s.toList) = false := by rw [toList_data, toList_data]; simpa using he
        have HE := Lib.hid he
        clear he
        go_wp2
        go_round
        case rel =>
          refine ⟨k + 1, by omega, by go_num, ?_⟩
          rw [List.take_succ_eq_append_getElem (by omega)]
          have h1 := HN.out
          have h2 := HE.out
          rw [HR.out] at h2
          simp only [List.contains_eq_mem, List.mem_append, List.mem_singleton, decide_eq_false_iff_not, not_or] at h1 ⊢
          exact ⟨h1, fun e => h2 e.symm⟩
        case measure => simp [intOf]; omega
    · have hk19 : k = 19 := by omega
      have P := Lib.hid (show reservedS s.data.toList = false by
        have := HN.out
        rw [hk19, List.take_of_length_le (by omega)] at this
        exact this)
      clear hk19
      go_wp2
      go_ret
      exact ⟨ret_bool P.out.symm, hbl⟩

/-- of all places from i on: does a byte of a word stand there? -/
theorem word_all (l : List UInt8) : wordS l = l.length ↔ ∀ c ∈ l, kindS c.toNat ≠ 0 := by
  induction l with
  | nil => simp [wordS]
  | cons c l ih =>
    rw [wordS_cons]
    have := wordS_le l
    by_cases h : kindS c.toNat = 0
    · rw [if_pos h]; simp [h]
    · rw [if_neg h]
      simp only [List.length_cons, List.mem_cons, forall_eq_or_imp]
      rw [← ih]
      constructor
      · intro e; exact ⟨h, by omega⟩
      · intro e; omega

set_option maxHeartbeats 4000000 in
set_option maxRecDepth 100000 in
theorem plainR_any (s : ByteArray) (w : World) (hs : s.size ≤ maxLen) :
    Calls Tryd.prog 65 #[.string s] w fun e w' => e = .returned (.bool (plainS s.data.toList)) ∧ Below w.heap.size w w' := by
  unfold maxLen at hs
  have HR := Lib.hid (fun w => reservedR_any s w)
  by_cases h0 : s.size = 0
  · have he : s.data.toList = [] := by apply List.eq_nil_of_length_eq_zero; simpa using h0
    have he' : s.toList = [] := by rw [toList_data]; exact he
    have hee : s.toList.isEmpty = true := by rw [he']; rfl
    have P := Lib.hid (show plainS s.data.toList = false by rw [he]; rfl)
    clear he he'
    go_enter Tryd.func65, Tryd.ntmps65
    go_wp2
    go_ret
    exact ⟨ret_bool P.out.symm, Below.refl _ _⟩
  have hpos : 0 < s.size := by omega
  have hd := drop_cons s 0 hpos
  rw [List.drop_zero] at hd
  have hee : s.toList.isEmpty = false := by rw [toList_data, hd]; rfl
  have P := Lib.hid (show plainS s.data.toList = (kindS (s[0].toNat : Int) == 1 && wordS s.data.toList == s.data.toList.length && !reservedS s.data.toList) by rw [hd]; rfl)
  clear h0 hd
  by_cases hk : kindS (s[0].toNat : Int) = 1
  · have hkb : (kindS (s[0].toNat : Int) == 1) = true := by simp [hk]
    by_cases hr : reservedS s.data.toList = true
    · have P2 := Lib.hid (show plainS s.data.toList = false by rw [P.out, hr]; simp)
      rw [hr] at HR
      clear hk hr
      go_enter Tryd.func65, Tryd.ntmps65
      go_wp2_with (first | (go_at_call 80; refine (small_any _ _).mono ?_; rintro e w' ⟨rfl, rfl⟩) | (go_at_call 81; refine (HR.out _).mono ?_; rintro e w1 ⟨rfl, hb1⟩))
      go_ret
      exact ⟨ret_bool P2.out.symm, hb1⟩
    · have hr' : reservedS s.data.toList = false := by simpa using hr
      rw [hr'] at HR
      have P2 := Lib.hid (show plainS s.data.toList = (wordS s.data.toList == s.data.toList.length) by rw [P.out, hr', hkb]; simp)
      clear hk hr hr'
      go_enter Tryd.func65, Tryd.ntmps65
      go_wp2_with (first | (go_at_call 80; refine (small_any _ _).mono ?_; rintro e w' ⟨rfl, rfl⟩) | (go_at_call 81; refine (HR.out _).mono ?_; rintro e w1 ⟨rfl, hb1⟩))
      go_loop [3] (fun i => ∃ k : Nat, k ≤ s.size ∧ i = .int .i64 k ∧ ∀ c ∈ s.data.toList.take k, kindS c.toNat ≠ 0) (fun i => s.size - (intOf i).toNat)
      case atStart => exact ⟨0, by omega, rfl, by simp⟩
      case round =>
        obtain ⟨k, hks, rfl, hall⟩ := hrel
        have HA := Lib.hid hall
        clear hall
        by_cases hlt : k < s.size
        · have htk := Lib.hid (show s.data.toList.take (k + 1) = s.data.toList.take k ++ [s[k]] by
            rw [List.take_succ_eq_append_getElem (by simpa using hlt)]; rfl)
          by_cases hz : kindS (s[k].toNat : Int) = 0
          · have hzb : (kindS (s[k].toNat : Int) != 0) = false := by simp [hz]
            have P3 := Lib.hid (show plainS s.data.toList = false by
              rw [P2.out]
              have : ¬ wordS s.data.toList = s.data.toList.length := by
                rw [word_all]
                intro h
                exact h s[k] (by show s.data[k] ∈ s.data.toList; simp) hz
              simpa using this)
            clear hz
            go_wp2_with (go_at_call 72; refine (inWord_any _ _).mono ?_; rintro e w' ⟨rfl, rfl⟩)
            go_ret
            exact ⟨ret_bool P3.out.symm, hb1⟩
          · have hzb : (kindS (s[k].toNat : Int) != 0) = true := by simp [hz]
            have HZ := Lib.hid hz
            clear hz
            go_wp2_with (go_at_call 72; refine (inWord_any _ _).mono ?_; rintro e w' ⟨rfl, rfl⟩)
            go_round
            case rel =>
              refine ⟨k + 1, by omega, by go_num, ?_⟩
              rw [htk.out]
              intro c hc
              rcases List.mem_append.1 hc with h | h
              · exact HA.out c h
              · rw [List.mem_singleton.1 h]; exact HZ.out
            case measure => simp [intOf]; omega
        · have P3 := Lib.hid (show plainS s.data.toList = true by
            rw [P2.out]
            have h := HA.out
            rw [List.take_of_length_le (by simp; omega)] at h
            simpa using (word_all _).2 h)
          go_wp2
          go_ret
          exact ⟨ret_bool P3.out.symm, hb1⟩
  · have hkb : (kindS (s[0].toNat : Int) == 1) = false := by simp [hk]
    have P2 := Lib.hid (show plainS s.data.toList = false by rw [P.out, hkb]; simp)
    clear hk
    go_enter Tryd.func65, Tryd.ntmps65
    go_wp2_with (first | (go_at_call 80; refine (small_any _ _).mono ?_; rintro e w' ⟨rfl, rfl⟩))
    go_ret
    exact ⟨ret_bool P2.out.symm, Below.refl _ _⟩

theorem no01_any (at_ code : Int) (w : World) :
    Calls Tryd.prog 64 #[.int .i64 at_, .int .i64 code] w fun e w' => ∃ v, e = .returned v ∧ LinksIs w.heap.size v [⟨atomL, at_, code⟩] w' ∧ Below w.heap.size w w' := by
  go_enter Tryd.func64, Tryd.ntmps64
  go_wp2_with (go_at_call 36; refine (one_any _ _ _ _).mono ?_; rintro e w' ⟨rfl, rfl⟩)
  go_ret
  exact ⟨_, rfl, LinksIs.lit ⟨atomL, at_, code⟩ (Nat.le_refl _), (Below.refl _ _).alloc (Nat.le_refl _) _⟩
end Go.Proofs.YtdafikemndaeeaaDoor
