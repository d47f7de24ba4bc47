/- Package mix and its reference: Same; slices.Equal; the layer's sign of life. -/
import Derived.Test.YtdafikemndaeeaaDoorMixH
import Derived.Test.YtdafikemndaeeaaDoorErrIs
open Go Go.RowKit
namespace Go.Proofs.YtdafikemndaeeaaDoor

/-- a slice of bytes that reads so: nil, empty, or a row's part -/
def SliceIs (v : Value) (l : List UInt8) (w : World) : Prop :=
  ∃ a c, v = .slice a l.length c ∧ ∀ j, (h : j < l.length) → ∃ g o, a = some ⟨g, o, none⟩ ∧ w.cell? ⟨g, o + j, none⟩ = some (byteV l[j])
theorem SliceIs.below {v : Value} {l : List UInt8} {w w' : World} (h : SliceIs v l w) (hb : Below w.heap.size w w') : SliceIs v l w' := by
  obtain ⟨a, c, rfl, hc⟩ := h
  refine ⟨a, c, rfl, fun j hj => ?_⟩
  obtain ⟨g, o, ha, hc⟩ := hc j hj
  exact ⟨g, o, ha, by rw [hb.cell (World.block_lt_of_cell? w _ hc)]; exact hc⟩
theorem BufIs.slice {base : Nat} {v : Value} {l : List UInt8} {w : World} (h : BufIs base v l w) : SliceIs v l w := by
  rcases h.shape with ⟨rfl, rfl⟩ | ⟨g, c, rfl, _⟩
  · exact ⟨none, 0, rfl, fun j hj => absurd hj (Nat.not_lt_zero _)⟩
  · exact ⟨_, c, rfl, fun j hj => ⟨g, 0, rfl, by rw [Nat.zero_add]; exact h.cell j hj⟩⟩
theorem run_slice_string {v : Value} {l : List UInt8} {w : World} (h : SliceIs v l w) :
    (convert 34 9 v).run Tryd.prog w = .ok (.string ⟨l.toArray⟩) w := by
  obtain ⟨a, c, rfl, hc⟩ := h
  cases l with
  | nil =>
    cases a with
    | none => exact run_convert_bytes_nil w 34 5 Tryd.underlying34 Tryd.underlying5 0 c 9 Tryd.underlying9
    | some ad => exact run_convert_bytes_back w 34 9 5 ad c [] Tryd.underlying34 Tryd.underlying5 Tryd.underlying9 (fun j hj => absurd hj (Nat.not_lt_zero _))
  | cons b r =>
    obtain ⟨g, o, rfl, _⟩ := hc 0 (by simp)
    refine run_convert_bytes_back w 34 9 5 ⟨g, o, none⟩ c (b :: r) Tryd.underlying34 Tryd.underlying5 Tryd.underlying9 (fun j hj => ?_)
    obtain ⟨g', o', he, hc'⟩ := hc j hj
    cases he
    rw [Lib.add_plain]
    exact hc'
theorem run_slice_len {v : Value} {l : List UInt8} {w : World} (h : SliceIs v l w) (w2 : World) : (Builtin.len_ #[34] 3 #[v]).run Tryd.prog w2 = .ok (.int .i64 l.length) w2 := by
  have hu := Tryd.underlying34
  obtain ⟨a, c, rfl, _⟩ := h
  go_simp

set_option maxHeartbeats 4000000 in
set_option maxRecDepth 100000 in
theorem equal_any (v1 v2 : Value) (l1 l2 : List UInt8) (w : World) (h1 : SliceIs v1 l1 w) (h2 : SliceIs v2 l2 w) (m1 : l1.length ≤ maxLen) :
    Calls Tryd.prog 58 #[v1, v2] w fun e w' => e = .returned (.bool (decide (l1 = l2))) ∧ Below w.heap.size w w' := by
  unfold maxLen at m1
  obtain ⟨a1, c1, rfl, hc1⟩ := h1
  obtain ⟨a2, c2, rfl, hc2⟩ := h2
  by_cases hl : l1.length = l2.length
  · have hl' : ((l1.length : Int) != (l2.length : Int)) = false := by rw [hl]; simp
    have HL := Lib.hid hl
    have H1 := Lib.hid hc1
    have H2 := Lib.hid hc2
    clear hl hc1 hc2
    go_enter Tryd.func58, Tryd.ntmps58
    go_wp2
    go_loopw [13] (fun i wr => ∃ k n : Nat, k ≤ l1.length ∧ i = .int .i64 k ∧ l1.take k = l2.take k ∧ wr = w.drewN n) (fun i _ => l1.length - (intOf i).toNat)
    case atStart => exact ⟨0, 0, Nat.zero_le _, rfl, rfl, rfl⟩
    case round =>
      obtain ⟨k, n, hk, rfl, htk, rfl⟩ := hrel
      have HTK := Lib.hid htk
      clear htk
      by_cases hlt : k < l1.length
      · have hk2 : k < l2.length := by rw [← HL.out]; exact hlt
        have hki : (k : Int) < (l1.length : Int) := by omega
        have hki2 : (k : Int) < (l2.length : Int) := by omega
        obtain ⟨g1, o1, rfl, hx1⟩ := H1.out k hlt
        obtain ⟨g2, o2, rfl, hx2⟩ := H2.out k hk2
        have hd1 : w.cell? ⟨g1, o1 + k, none⟩ = some (.int .u8 l1[k].toNat) := hx1
        have hd2 : w.cell? ⟨g2, o2 + k, none⟩ = some (.int .u8 l2[k].toNat) := hx2
        clear hx1 hx2
        by_cases he : l1[k] = l2[k]
        · have hne : ((l1[k].toNat : Int) != (l2[k].toNat : Int)) = false := by rw [he]; simp
          have hnx := Lib.hid (show l1.take (k + 1) = l2.take (k + 1) by
            rw [List.take_succ_eq_append_getElem hlt, List.take_succ_eq_append_getElem hk2, HTK.out, he])
          clear he
          go_wp2
          go_quiet (fail)
          go_wp2
          go_roundw
          case rel => exact ⟨k + 1, _, by omega, by go_num, hnx.out, by first | rfl | rw [World.drewN_drewN]⟩
          case measure => simp [intOf]; omega
        · have hne : ((l1[k].toNat : Int) != (l2[k].toNat : Int)) = true := by
            have := byte_neb he
            simpa [bne] using this
          have hf := Lib.hid (show decide (l1 = l2) = false by
            refine decide_eq_false fun e => he ?_
            subst e; rfl)
          clear he
          go_wp2
          go_quiet (fail)
          go_wp2
          go_ret
          exact ⟨ret_bool hf.out.symm, by first | exact below_drewN (below_drewN (Below.refl _ _) _) _ | exact below_drewN (Below.refl _ _) _⟩
      · have hf := Lib.hid (show decide (l1 = l2) = true by
          have h := HTK.out
          rw [List.take_of_length_le (by omega), List.take_of_length_le (by rw [← HL.out]; omega)] at h
          simpa using h)
        obtain rfl : k = l1.length := by omega
        clear hlt
        go_wp2
        go_ret
        exact ⟨ret_bool hf.out.symm, below_drewN (Below.refl _ _) _⟩
  · have hl' : ((l1.length : Int) != (l2.length : Int)) = true := by simp; omega
    have hf : decide (l1 = l2) = false := by simpa using fun e : l1 = l2 => hl (congrArg List.length e)
    clear hl hc1 hc2
    go_enter Tryd.func58, Tryd.ntmps58
    go_wp2
    go_ret
    exact ⟨ret_bool hf.symm, Below.refl _ _⟩

/-- whether a digest is that of a cookie and a challenge -/
def sameS (s : ByteArray) (u : Nat) (d : List UInt8) : Bool := decide (cookieS s = []) && decide (digS (textS s u).data.toList = d)
theorem errIs_cookie (s : ByteArray) (h : cookieS s ≠ []) : errIsS (cookieS s) 140 = true := by
  unfold cookieS at *
  (repeat' split) <;> simp_all [errIsS, lastCode]

set_option maxHeartbeats 4000000 in
set_option maxRecDepth 100000 in
theorem same_any (s : ByteArray) (u : Nat) (dv : Value) (d : List UInt8) (w : World) (hu : u < 4294967296) (hd : SliceIs dv d w) (hP : Pow10 w) :
    Calls Tryd.prog 22 #[.string s, .int .u32 u, dv] w fun e w' => e = .returned (.bool (sameS s u d)) ∧ Below w.heap.size w w' := by
  have HD := Lib.hid (digest_any s u hu w hP)
  have HS := Lib.hid hd
  clear hd
  by_cases hk : cookieS s = []
  · have h1 : digestS s u = (digS (textS s u).data.toList, []) := by unfold digestS; rw [if_pos hk]
    rw [h1] at HD
    have hr := Lib.hid (show sameS s u d = decide (digS (textS s u).data.toList = d) by unfold sameS; simp [hk])
    clear h1
    go_enter Tryd.func22, Tryd.ntmps22
    go_wp2_with fail
    refine HD.out.mono ?_
    rintro e w1 ⟨v, ev, rfl, hv, her, hb1⟩
    go_wp2_with fail
    refine (errors_is _ _ _ _ her).mono ?_
    rintro e w2 ⟨rfl, rfl⟩
    have he : errIsS [] 140 = false := by decide
    go_wp2_with fail
    refine (equal_any v dv _ d _ hv.slice (HS.out.below hb1) (by rw [digS_length]; decide)).mono ?_
    rintro e w3 ⟨rfl, hb3⟩
    go_wp2
    go_ret
    exact ⟨ret_bool hr.out.symm, hb1.trans (hb3.mono hb1.size)⟩
  · have h1 : digestS s u = ([], cookieS s) := by unfold digestS; rw [if_neg hk]
    rw [h1] at HD
    have hr := Lib.hid (show sameS s u d = false by unfold sameS; simp [hk])
    have he := errIs_cookie s hk
    clear h1
    go_enter Tryd.func22, Tryd.ntmps22
    go_wp2_with fail
    refine HD.out.mono ?_
    rintro e w1 ⟨v, ev, rfl, hv, her, hb1⟩
    go_wp2_with fail
    refine (errors_is _ _ _ _ her).mono ?_
    rintro e w2 ⟨rfl, rfl⟩
    go_wp2
    go_ret
    exact ⟨ret_bool hr.out.symm, hb1⟩

set_option maxHeartbeats 4000000 in
set_option maxRecDepth 100000 in
theorem sameR_any (s : ByteArray) (u : Nat) (dv : Value) (d : List UInt8) (w : World) (hu : u < 4294967296) (hd : SliceIs dv d w) :
    Calls Tryd.prog 23 #[.string s, .int .u32 u, dv] w fun e w' => e = .returned (.bool (sameS s u d)) ∧ Below w.heap.size w w' := by
  have HD := Lib.hid (digestR_any s u hu w)
  have HS := Lib.hid hd
  clear hd
  by_cases hk : cookieS s = []
  · have h1 : digestS s u = (digS (textS s u).data.toList, []) := by unfold digestS; rw [if_pos hk]
    rw [h1] at HD
    have hr := Lib.hid (show sameS s u d = decide (digS (textS s u).data.toList = d) by unfold sameS; simp [hk])
    clear h1
    go_enter Tryd.func23, Tryd.ntmps23
    go_wp2_with fail
    refine HD.out.mono ?_
    rintro e w1 ⟨v, ev, rfl, hv, hlk, hb1⟩
    have hlen := run_links_len hlk
    have hs1 := run_buf_string hv
    have hs2 := run_slice_string (HS.out.below hb1)
    rw [List.length_nil] at hlen
    clear hlk hv
    have hbe : (digS (textS s u).data.toList == d) = decide (digS (textS s u).data.toList = d) := Bool.eq_iff_iff.2 (by simp)
    go_wp2
    go_ret
    exact ⟨ret_bool hr.out.symm, hb1⟩
  · have h1 : digestS s u = ([], cookieS s) := by unfold digestS; rw [if_neg hk]
    rw [h1] at HD
    have hr := Lib.hid (show sameS s u d = false by unfold sameS; simp [hk])
    have hpos : ((cookieS s).length == 0) = false := by
      cases hl : cookieS s with
      | nil => exact absurd hl hk
      | cons k r => simp
    clear h1
    go_enter Tryd.func23, Tryd.ntmps23
    go_wp2_with fail
    refine HD.out.mono ?_
    rintro e w1 ⟨v, ev, rfl, hv, hlk, hb1⟩
    have hlen := run_links_len hlk
    clear hlk
    go_wp2
    go_ret
    exact ⟨ret_bool hr.out.symm, hb1⟩

/-- secret -/
def secretL : ByteArray := ⟨#[115, 101, 99, 114, 101, 116]⟩
theorem secret_ok : cookieS secretL = [] := by decide +kernel
theorem secret_text (u : Nat) (h : u < 10) : (textS secretL u).data.toList = [115, 101, 99, 114, 101, 116, UInt8.ofNat (48 + u)] := by
  rw [textS_list, Lib.decDigits_one h]; rfl
theorem secret_two : digS (textS secretL 7).data.toList ≠ digS (textS secretL 8).data.toList := by
  rw [secret_text 7 (by omega), secret_text 8 (by omega)]
  decide +kernel
set_option maxHeartbeats 4000000 in
set_option maxRecDepth 100000 in
theorem alive07 (w : World) (hP : Pow10 w) : Calls Tryd.prog 26 #[] w fun e w' => e = .returned (.bool true) ∧ Below w.heap.size w w' := by
  have HD := Lib.hid (digest_any secretL 7 (by omega) w hP)
  have h1 : digestS secretL 7 = (digS (textS secretL 7).data.toList, []) := by unfold digestS; rw [if_pos secret_ok]
  rw [h1] at HD
  have HS7 := fun v w1 (hv : SliceIs v (digS (textS secretL 7).data.toList) w1) (h : Below w.heap.size w w1) => Lib.hid (same_any secretL 7 v _ w1 (by omega) hv (hP.below h))
  have HS8 := fun v w1 (hv : SliceIs v (digS (textS secretL 7).data.toList) w1) (h : Below w.heap.size w w1) => Lib.hid (same_any secretL 8 v _ w1 (by omega) hv (hP.below h))
  have e7 : sameS secretL 7 (digS (textS secretL 7).data.toList) = true := by unfold sameS; rw [secret_ok]; simp
  have e8 : sameS secretL 8 (digS (textS secretL 7).data.toList) = false := by
    unfold sameS; rw [decide_eq_false (p := digS (textS secretL 8).data.toList = digS (textS secretL 7).data.toList) (fun e => secret_two e.symm)]; simp
  rw [e7] at HS7
  rw [e8] at HS8
  have h16 := digS_length (textS secretL 7).data.toList
  generalize digS (textS secretL 7).data.toList = d at *
  clear h1 e7 e8
  unfold secretL at *
  go_enter Tryd.func26, Tryd.ntmps26
  go_wp2_with fail
  refine HD.out.mono ?_
  rintro e w1 ⟨v, ev, rfl, hv, her, hb1⟩
  obtain rfl : ev = .nilIface := her
  have hlen := run_buf_len hv
  rw [h16] at hlen
  have hsl := hv.slice
  have H7 := HS7 v w1 hsl hb1
  clear hv
  go_wp2_with fail
  refine H7.out.mono ?_
  rintro e w2 ⟨rfl, hb2⟩
  have H8 := HS8 v w2 (hsl.below hb2) (hb1.trans (hb2.mono hb1.size))
  go_wp2_with fail
  refine H8.out.mono ?_
  rintro e w3 ⟨rfl, hb3⟩
  go_wp2
  go_ret
  exact ⟨rfl, (hb1.trans (hb2.mono hb1.size)).trans (hb3.mono (Nat.le_trans hb1.size hb2.size))⟩
end Go.Proofs.YtdafikemndaeeaaDoor
