/- Texts laid together: ShkA, ShkB, ShkF, ShkW, Msg, ShkX, ShkZ. -/
import Derived.Test.YtokkokgdjnkbnaaGreatDoorP16
import Derived.Test.YtokkokgdjnkbnaaGreatDoorP17
import Derived.Test.YtokkokgdjnkbnaaGreatDoorP13
import Derived.Lib.SmallJoins
import Derived.ProofKit
section
/- Package shake: faults, bytes of numbers, statuses, the form of a message. -/
open Go Go.RowKit
namespace Go.Proofs.YtokkokgdjnkbnaaGreatDoor

theorem ErrIs.cons {w : World} {u : Value} {l : List Lk} (k : Lk) (h : ErrIs w u l) :
    ErrIs (w.alloc (.cells #[.string k.layer, .int .i64 k.at_, .int .i64 k.code, u] 130 (0, 0))) (.iface 128 (.pointer (some ⟨w.heap.size, 0, none⟩))) (k :: l) :=
  ⟨w.heap.size, u, rfl, alloc_get _ _, h.below ((Below.refl _ _).alloc (Nat.le_refl _) _)⟩

def IfaceV (u : Value) : Prop := u = .nilIface ∨ ∃ t p, u = .iface t (.pointer p)
theorem ErrIs.iface {w : World} {u : Value} {l : List Lk} (h : ErrIs w u l) : IfaceV u := by
  cases l with
  | nil => exact .inl h
  | cons k l => obtain ⟨b, u', rfl, _⟩ := h; exact .inr ⟨_, _, rfl⟩
theorem fault_any (at_ code : Int) (u : Value) (w : World) (hu : IfaceV u) :
    Calls Tryz.prog 28 #[.int .i64 at_, .int .i64 code, u] w fun e w' => e = .returned (.iface 128 (.pointer (some ⟨w.heap.size, 0, none⟩))) ∧ w' = w.alloc (.cells #[.string shakeL, .int .i64 at_, .int .i64 code, u] 130 (0, 0)) := by
  rcases hu with rfl | ⟨t, p, rfl⟩
  all_goals
    go_enter Tryz.func28, Tryz.ntmps28
    go_wp2
    go_ret
    exact ⟨rfl, rfl⟩

def RetE (B : Nat) (w : World) (l : List Lk) (e : Ending) (w' : World) : Prop := ∃ ev, e = .returned ev ∧ ErrIs w' ev l ∧ Below B w w'
theorem fault_nil (at_ code : Int) (w : World) : Calls Tryz.prog 28 #[.int .i64 at_, .int .i64 code, .nilIface] w (RetE w.heap.size w [⟨shakeL, at_, code⟩]) :=
  (fault_any at_ code .nilIface w (.inl rfl)).mono (by rintro e w' ⟨rfl, rfl⟩; exact ⟨_, rfl, ErrIs.one, (Below.refl _ _).alloc (Nat.le_refl _) _⟩)

set_option maxHeartbeats 4000000 in
theorem over_any (at_ : Int) (ev : Value) (k : Lk) (l : List Lk) (w : World) (her : ErrIs w ev (k :: l)) (hE : ErrT w) :
    Calls Tryz.prog 32 #[.int .i64 at_, ev] w (RetE w.heap.size w (⟨shakeL, at_, k.code⟩ :: k :: l)) := by
  have HER := Lib.hid her
  obtain ⟨b, u, rfl, hc, hr⟩ := her
  have hb0 : Below w.heap.size w (w.alloc (.cells #[.pointer none] 128 (0, 0))) := (Below.refl _ _).alloc (Nat.le_refl _) _
  have HA := Lib.hid (as_hit2 b w.heap.size (w.alloc (.cells #[.pointer none] 128 (0, 0))) (hE.below hb0) (alloc_get _ _))
  have hblt : b < w.heap.size := (Array.getElem?_eq_some_iff.1 hc).1
  have HC := Lib.hid hc
  clear hc hr hE hb0
  go_enter Tryz.func32, Tryz.ntmps32
  go_wp2_with fail
  refine HA.out.mono ?_
  rintro e w2 ⟨rfl, hg, hf⟩
  have hb2 : Below w.heap.size w w2 := below_grownBy ((Below.refl _ w).alloc (Nat.le_refl _) _) hg (by simp) (Nat.le_refl _)
  have hc2 := (hb2.block b hblt).trans HC.out
  have c0 := cell_of_block hf 0
  have d2 := cell_of_block hc2 2
  simp only [List.getElem?_toArray, List.getElem?_cons_zero, List.getElem?_cons_succ] at c0 d2
  have HB2 := Lib.hid hb2
  clear hg hf hc2 hb2
  go_wp2_with (go_at_call 28; refine (fault_any _ _ _ _ (.inr ⟨_, _, rfl⟩)).mono ?_; rintro e w3 ⟨rfl, rfl⟩)
  go_ret
  exact ⟨_, rfl, ErrIs.cons ⟨shakeL, at_, k.code⟩ (HER.out.below HB2.out), HB2.out.alloc HB2.out.size _⟩

theorem letter_any (k : Int) (w : World) (h1 : 1 ≤ k) (h5 : k ≤ 5) : Calls Tryz.prog 29 #[.int .i64 k] w fun e w' => e = .returned (.int .u8 (letS k).toNat) ∧ w = w' := by
  have hk : k = 1 ∨ k = 2 ∨ k = 3 ∨ k = 4 ∨ k = 5 := by omega
  rcases hk with rfl | rfl | rfl | rfl | rfl
  all_goals
    go_enter Tryz.func29, Tryz.ntmps29
    go_wp2
    go_ret
    exact ⟨rfl, rfl⟩

set_option maxHeartbeats 8000000 in
set_option maxRecDepth 100000 in
theorem shPut_any (base : Nat) (v : Value) (l : List UInt8) (n : Int) (m : Nat) (w : World) (hm : m ≤ 8) (hv : BufIs base v l w) (hB : base ≤ w.heap.size) (hl : l.length ≤ 1000) :
    Calls Tryz.prog 30 #[v, .int .u64 n, .int .i64 (m : Int)] w fun e w' => ∃ v', e = .returned v' ∧ BufIs base v' (l ++ beN n m) w' ∧ Below base w w' := by
  have HV := Lib.hid hv
  have HW := Lib.hid (Below.refl base w)
  have HSZ := Lib.hid hB
  have hwz := w.heap.size
  have hbl := beN_length n m
  have HBL := Lib.hid hbl
  have hm0 : (0 : Int) ≤ m := by omega
  have hm8 : (m : Int) ≤ 8 := by omega
  clear hv hbl
  go_enter Tryz.func30, Tryz.ntmps30
  go_wp2
  go_loopw [0, 7] (fun v i w2 => ∃ k : Nat, k ≤ m ∧ i = .int .i64 ((k : Int) - 1) ∧ BufIs base v (l ++ (beN n m).take (m - k)) w2 ∧ Below base w w2 ∧ base ≤ w2.heap.size) (fun _ i _ => (intOf i + 1).toNat)
  case atStart => exact ⟨m, Nat.le_refl _, rfl, by simpa using HV.out, HW.out, HSZ.out⟩
  case round =>
    obtain ⟨k, hkm, rfl, hv, hbw, hws⟩ := hrel
    by_cases hk0 : k = 0
    · have hk1 : ¬ (0 : Int) ≤ (k : Int) - 1 := by omega
      have HV2 := Lib.hid (show BufIs base u0 (l ++ beN n m) wr by
        rw [hk0, Nat.sub_zero, List.take_of_length_le (by rw [HBL.out]; omega)] at hv; exact hv)
      have HB2 := Lib.hid hbw
      clear hk0 hv hbw
      go_wp2
      go_ret
      exact ⟨_, rfl, HV2.out, HB2.out⟩
    · have hk1 : (0 : Int) ≤ (k : Int) - 1 := by omega
      have HTK := Lib.hid (show (beN n m).take (m - (k - 1)) = (beN n m).take (m - k) ++ [b8 n (2 ^ (8 * (k - 1)))] by
        have := beN_take n m (k - 1) (by omega)
        rw [this, show k - 1 + 1 = k by omega])
      have hle : ((beN n m).take (m - k)).length ≤ 8 := by rw [List.length_take]; omega
      have HV2 := Lib.hid hv
      have HB2 := Lib.hid hbw
      have HS2 := Lib.hid hws
      clear hv hbw
      go_wp2_with (at_builtin; refine stop ?_)
      refine Stopped.of ?_
      refine wp_app_row rfl (.tmp 14) (.tmp 20) rfl base u0 (l ++ (beN n m).take (m - k)) rfl (HV2.out.alloc _) ⟨wr.heap.size, 0, none⟩ 1 1 [b8 n (2 ^ (8 * (k - 1)))] rfl rfl (b8_cells _ n (2 ^ (8 * (k - 1)))) (by rw [List.length_append, List.length_singleton]; omega) (by have := HS2.out; simp; omega) ?_
      intro v3 w3' hb3 hg3
      have H3 := Lib.hid hb3
      have W3 := Lib.hid (below_grown (HB2.out.alloc HS2.out _) (HV2.out.alloc _) (Nat.le_refl _) (by have := HS2.out; simp; omega) hg3)
      have S3 := Lib.hid (show base ≤ w3'.heap.size by have h1 := hg3.size; have h2 := HS2.out; simp at h1; omega)
      clear hb3 hg3
      go_wp2
      go_roundw
      case rel =>
        refine ⟨k - 1, by omega, by go_num, ?_, W3.out, S3.out⟩
        rw [HTK.out, ← List.append_assoc]
        exact H3.out
      case measure => simp [intOf]; omega

set_option maxRecDepth 10000 in
theorem or256 (x c : Int) (h0 : 0 ≤ x) (h1 : x < 72057594037927936) (h2 : 0 ≤ c) (h3 : c < 256) : bits BinOp.or IntKind.u64 (x * 256) c = x * 256 + c := by
  obtain ⟨a, rfl⟩ := Int.eq_ofNat_of_zero_le h0
  obtain ⟨b, rfl⟩ := Int.eq_ofNat_of_zero_le h2
  have hs : a * 256 + b < 2 ^ 64 := by omega
  have ho : a * 256 ||| b = a * 256 + b := by
    have := Nat.shiftLeft_add_eq_or_of_lt (a := a) (b := b) (i := 8) (by omega)
    rw [Nat.shiftLeft_eq] at this
    exact this.symm
  have g1 : (BitVec.ofInt 64 ((a : Int) * 256)).toNat = a * 256 := by
    rw [show (a : Int) * 256 = ((a * 256 : Nat) : Int) by omega, BitVec.ofInt_natCast, BitVec.toNat_ofNat]; exact Nat.mod_eq_of_lt (by omega)
  have g2 : (BitVec.ofInt 64 (b : Int)).toNat = b := by
    rw [BitVec.ofInt_natCast, BitVec.toNat_ofNat]; exact Nat.mod_eq_of_lt (by omega)
  have hw : ∀ n : Int, IntKind.u64.wrap n = n % 18446744073709551616 := IntKind.wrap_u64
  show IntKind.u64.wrap ((BitVec.ofInt 64 ((a : Int) * 256) ||| BitVec.ofInt 64 (b : Int)).toNat : Int) = _
  rw [BitVec.toNat_or, g1, g2, ho, hw]
  omega

set_option maxHeartbeats 8000000 in
set_option maxRecDepth 100000 in
theorem number_any (v : Value) (b : List UInt8) (m : Nat) (w : World) (hv : RSl v b w) (hm : m ≤ b.length) (h8 : m ≤ 8) :
    Calls Tryz.prog 44 #[v, .int .i64 (m : Int)] w fun e w' => e = .returned (.int .u64 (numS (b.take m))) ∧ w = w' := by
  obtain ⟨v', hv', _, _, hs⟩ := hv.sub 0 m (Nat.zero_le _) hm
  have hsl := hs rfl
  simp only [List.drop_zero, Nat.sub_zero] at hv'
  have hl : (b.take m).length = m := by rw [List.length_take]; omega
  obtain ⟨a, c, rfl, hc1, hc2, hc⟩ := hv'
  rw [hl] at hsl
  have HC := Lib.hid hc
  have HL := Lib.hid hl
  have hm0 : (m : Int) ≤ 8 := by omega
  clear hc hs hv hl hc1 hc2
  go_enter Tryz.func44, Tryz.ntmps44
  go_wp2
  go_loop [5, 12] (fun n i => ∃ k : Nat, k ≤ m ∧ i = .int .i64 k ∧ n = .int .u64 (numS ((b.take m).take k))) (fun _ i => m - (intOf i).toNat)
  case atStart => exact ⟨0, Nat.zero_le _, rfl, rfl⟩
  case round =>
    obtain ⟨k, hk, rfl, rfl⟩ := hrel
    by_cases hlt : k < m
    · have hki : (k : Int) < (m : Int) := by omega
      have hkl : k < (b.take m).length := by rw [HL.out]; exact hlt
      obtain ⟨g, o, rfl, hx⟩ := HC.out k hkl
      have hx2 : w.cell? ⟨g, o + k, none⟩ = some (.int .u8 (b.take m)[k].toNat) := hx
      have hnx := Lib.hid (show numS ((b.take m).take (k + 1)) = numS ((b.take m).take k) * 256 + (b.take m)[k].toNat by
        rw [List.take_succ_eq_append_getElem hkl, numS_snoc])
      have hbd := numS_bd ((b.take m).take k)
      have hlk : ((b.take m).take k).length ≤ 7 := by rw [List.length_take]; omega
      have hbd2 : numS ((b.take m).take k) < 72057594037927936 := by
        have e0 : 256 ^ ((b.take m).take k).length ≤ 256 ^ 7 := Nat.pow_le_pow_right (by decide) hlk
        have e1 : ((256 ^ ((b.take m).take k).length : Nat) : Int) = (256 : Int) ^ ((b.take m).take k).length := by simp
        have e2 : (256 ^ 7 : Nat) = 72057594037927936 := by decide
        omega
      have hb0 := hbd.1
      have hcb := (b.take m)[k].toNat_lt
      generalize (b.take m)[k] = cb at *
      generalize numS ((b.take m).take k) = x at *
      have hor := or256 x cb.toNat hb0 hbd2 (by omega) (by omega)
      have hw1 : IntKind.u64.wrap (x * 256) = x * 256 := by rw [IntKind.wrap_u64]; omega
      have hw2 : IntKind.u64.wrap (cb.toNat : Int) = cb.toNat := by rw [IntKind.wrap_u64]; omega
      clear hbd hx hlk
      go_wp2
      go_round
      case rel => exact ⟨k + 1, by omega, by go_num, by rw [hnx.out]⟩
      case measure => simp [intOf]; omega
    · have hki : ¬ (k : Int) < (m : Int) := by omega
      have hkm : k = m := by omega
      have P := Lib.hid (show numS ((b.take m).take k) = numS (b.take m) by rw [hkm, List.take_take, Nat.min_self])
      clear hkm HC
      go_wp2
      go_ret
      rw [P.out]
      exact ⟨rfl, rfl⟩
end Go.Proofs.YtokkokgdjnkbnaaGreatDoor
end
section
/- Package shake: statuses, the form of a message; the reference's. -/
open Go Go.RowKit
namespace Go.Proofs.YtokkokgdjnkbnaaGreatDoor

def hasS (l : List ByteArray) (s : ByteArray) : Bool := l.any (fun a => a.data.toList == s.data.toList)
def IdxRet (l : List ByteArray) (s : ByteArray) (w : World) (e : Ending) (w' : World) : Prop := (∃ i : Int, e = .returned (.int .i64 i) ∧ decide (0 ≤ i) = hasS l s) ∧ w = w'
set_option maxHeartbeats 4000000 in
set_option maxRecDepth 100000 in
theorem index_any (v : Value) (l : List ByteArray) (s : ByteArray) (w : World) (hv : SArgIs v l w) (hl : l.length ≤ 1000) :
    Calls Tryz.prog 86 #[v, .string s] w (IdxRet l s w) := by
  obtain ⟨a, c, rfl, hc⟩ := hv
  have HC := Lib.hid hc
  clear hc
  go_enter Tryz.func86, Tryz.ntmps86
  go_wp2
  go_loop [8] (fun i => ∃ k : Nat, k ≤ l.length ∧ i = .int .i64 k ∧ hasS (l.take k) s = false) (fun i => l.length - (intOf i).toNat)
  case atStart => exact ⟨0, Nat.zero_le _, rfl, rfl⟩
  case round =>
    obtain ⟨k, hk, rfl, hno⟩ := hrel
    have HN := Lib.hid hno
    clear hno
    by_cases hlt : k < l.length
    · have hki : (k : Int) < (l.length : Int) := by omega
      obtain ⟨g, o, rfl, hx⟩ := HC.out k hlt
      have hnx := Lib.hid (show hasS (l.take (k + 1)) s = (hasS (l.take k) s || (l[k].data.toList == s.data.toList)) by
        unfold hasS; rw [List.take_succ_eq_append_getElem hlt, List.any_append]; simp)
      by_cases he : l[k].data.toList = s.data.toList
      · have hb : (s.toList == l[k].toList) = true := by rw [toList_data, toList_data, he]; simp
        have P := Lib.hid (show hasS l s = true by
          unfold hasS; rw [List.any_eq_true]; exact ⟨l[k], List.getElem_mem hlt, by simp [he]⟩)
        clear he
        go_wp2
        go_ret
        exact ⟨⟨_, rfl, by rw [P.out]; simp⟩, rfl⟩
      · have hb : (s.toList == l[k].toList) = false := by rw [toList_data, toList_data]; exact beq_eq_false_iff_ne.2 (fun e => he e.symm)
        have P := Lib.hid he
        clear he
        go_wp2
        go_round
        case rel => exact ⟨k + 1, by omega, by go_num, by rw [hnx.out, HN.out]; exact beq_eq_false_iff_ne.2 P.out⟩
        case measure => simp [intOf]; omega
    · have hki : ¬ (k : Int) < (l.length : Int) := by omega
      have P := Lib.hid (show hasS l s = false by
        have := HN.out
        rwa [List.take_of_length_le (by omega)] at this)
      clear HN
      go_wp2
      go_ret
      exact ⟨⟨_, rfl, by rw [P.out]; rfl⟩, rfl⟩

theorem contains_any (v : Value) (l : List ByteArray) (s : ByteArray) (w : World) (hv : SArgIs v l w) (hl : l.length ≤ 1000) :
    Calls Tryz.prog 71 #[v, .string s] w fun e w' => e = .returned (.bool (hasS l s)) ∧ w = w' := by
  have H := Lib.hid (index_any v l s w hv hl)
  clear hv
  go_enter Tryz.func71, Tryz.ntmps71
  go_wp2_with fail
  refine H.out.mono ?_
  rintro e w1 ⟨⟨i, rfl, hi⟩, rfl⟩
  have HI := Lib.hid hi
  clear hi
  go_wp2
  go_ret
  rw [← HI.out]
  exact ⟨rfl, rfl⟩

def statusB : List ByteArray := statusL.map fun l => ⟨l.toArray⟩
theorem isSt_any (s : ByteArray) : hasS statusB s = isSt s := by
  unfold hasS isSt statusB
  rw [List.any_map, Bool.eq_iff_iff, List.any_eq_true, List.contains_iff_mem]
  constructor
  · rintro ⟨x, hx, he⟩
    rw [← (beq_iff_eq.1 he)]; exact hx
  · intro h
    exact ⟨_, h, beq_iff_eq.2 rfl⟩
set_option maxHeartbeats 4000000 in
theorem isStatus_any (s : ByteArray) (w : World) :
    Calls Tryz.prog 43 #[.string s] w fun e w' => e = .returned (.bool (isSt s)) ∧ Below w.heap.size w w' := by
  have hv : SArgIs (.slice (some ⟨w.heap.size, 0, none⟩) 5 5) statusB (w.alloc (.cells (strsV statusB).toArray 9)) := by
    refine ⟨_, 5, rfl, fun j hj => ⟨w.heap.size, 0, rfl, ?_⟩⟩
    rw [(Cells.new w 9 (strsV statusB)).cell (0 + j)]
    simp [strsV, hj]
  have H := Lib.hid (contains_any _ statusB s _ hv (by decide))
  clear hv
  go_enter Tryz.func43, Tryz.ntmps43
  go_wp2_with fail
  refine H.out.mono ?_
  rintro e w1 ⟨rfl, rfl⟩
  go_wp2
  go_ret
  rw [isSt_any]
  exact ⟨rfl, (Below.refl _ w).alloc (Nat.le_refl _) _⟩

theorem isSt_eq (s : ByteArray) : isSt s = (s.toList == [111, 107] || s.toList == [111, 107, 95, 115, 105, 109, 117, 108, 116, 97, 110, 101, 111, 117, 115] || s.toList == [110, 111, 107] || s.toList == [110, 111, 116, 95, 97, 108, 108, 111, 119, 101, 100] || s.toList == [97, 108, 105, 118, 101]) := by
  rw [toList_data]
  unfold isSt statusL
  simp only [List.contains_cons, List.contains_nil, Bool.or_false, Bool.or_assoc]
set_option maxHeartbeats 4000000 in
theorem statusR_any (s : ByteArray) (w : World) :
    Calls Tryz.prog 47 #[.string s] w fun e w' => e = .returned (.bool (isSt s)) ∧ w = w' := by
  have HS := Lib.hid (isSt_eq s)
  by_cases h1 : (s.toList == [111, 107]) = true
  · go_enter Tryz.func47, Tryz.ntmps47
    go_wp2
    go_ret
    rw [HS.out, h1]; exact ⟨rfl, rfl⟩
  have h1' : (s.toList == [111, 107]) = false := by simpa using h1
  clear h1
  by_cases h2 : (s.toList == [111, 107, 95, 115, 105, 109, 117, 108, 116, 97, 110, 101, 111, 117, 115]) = true
  · go_enter Tryz.func47, Tryz.ntmps47
    go_wp2
    go_ret
    rw [HS.out, h1', h2]; exact ⟨rfl, rfl⟩
  have h2' : (s.toList == [111, 107, 95, 115, 105, 109, 117, 108, 116, 97, 110, 101, 111, 117, 115]) = false := by simpa using h2
  clear h2
  by_cases h3 : (s.toList == [110, 111, 107]) = true
  · go_enter Tryz.func47, Tryz.ntmps47
    go_wp2
    go_ret
    rw [HS.out, h1', h2', h3]; exact ⟨rfl, rfl⟩
  have h3' : (s.toList == [110, 111, 107]) = false := by simpa using h3
  clear h3
  by_cases h4 : (s.toList == [110, 111, 116, 95, 97, 108, 108, 111, 119, 101, 100]) = true
  · go_enter Tryz.func47, Tryz.ntmps47
    go_wp2
    go_ret
    rw [HS.out, h1', h2', h3', h4]; exact ⟨rfl, rfl⟩
  have h4' : (s.toList == [110, 111, 116, 95, 97, 108, 108, 111, 119, 101, 100]) = false := by simpa using h4
  clear h4
  go_enter Tryz.func47, Tryz.ntmps47
  go_wp2
  go_ret
  rw [HS.out, h1', h2', h3', h4']
  exact ⟨rfl, rfl⟩
end Go.Proofs.YtokkokgdjnkbnaaGreatDoor
end
section
/- The form of a message: which fields a kind has. -/
open Go Go.RowKit
namespace Go.Proofs.YtokkokgdjnkbnaaGreatDoor

theorem box_cell {w w1 : World} {cs : List Value} {t : TypeId} (hb : Below (w.alloc (.cells cs.toArray t)).heap.size (w.alloc (.cells cs.toArray t)) w1) (i : Nat) : w1.cell? ⟨w.heap.size, i, none⟩ = cs[i]? :=
  ((Cells.new w t cs).below hb).cell i
theorem len_beq (l : List UInt8) (n : Nat) : ((l.length : Int) == (n : Int)) = (l.length == n) := by
  by_cases h : l.length = n
  · simp [h]
  · rw [beq_eq_false_iff_ne.2 h]; exact beq_eq_false_iff_ne.2 (by omega)
theorem len_beq0 (l : List UInt8) : ((l.length : Int) == 0) = (l.length == 0) := len_beq l 0
theorem len_beq16 (l : List UInt8) : ((l.length : Int) == 16) = (l.length == 16) := len_beq l 16

set_option maxHeartbeats 8000000 in
set_option maxRecDepth 100000 in
theorem form_1 (fl cr ch : Int) (nm st : ByteArray) (dg : List UInt8) (dv : Value) (w : World) (hd : RSl dv dg w) :
    Calls Tryz.prog 27 #[(Msg.mk 1 fl cr ch nm st dg).val dv] w fun e w' => e = .returned (.bool (formS ⟨1, fl, cr, ch, nm, st, dg⟩)) ∧ Below w.heap.size w w' := by
  obtain ⟨a, c, rfl, _, _⟩ := hd.shape
  clear hd
  unfold Msg.val
  go_enter Tryz.func27, Tryz.ntmps27
  go_wp2
  all_goals
    go_ret
    refine ⟨ret_bool ?_, (Below.refl _ w).alloc (Nat.le_refl _) _⟩
    first | (simp_all [formS, emp]; done) | (simp_all [formS, emp, len_beq0]; done)
set_option maxHeartbeats 8000000 in
set_option maxRecDepth 100000 in
theorem form_2 (fl cr ch : Int) (nm st : ByteArray) (dg : List UInt8) (dv : Value) (w : World) (hd : RSl dv dg w) :
    Calls Tryz.prog 27 #[(Msg.mk 2 fl cr ch nm st dg).val dv] w fun e w' => e = .returned (.bool (formS ⟨2, fl, cr, ch, nm, st, dg⟩)) ∧ Below w.heap.size w w' := by
  obtain ⟨a, c, rfl, _, _⟩ := hd.shape
  clear hd
  unfold Msg.val
  go_enter Tryz.func27, Tryz.ntmps27
  go_wp2_with fail
  all_goals first
    | (go_ret; refine ⟨ret_bool ?_, (Below.refl _ w).alloc (Nat.le_refl _) _⟩; first | (simp_all [formS, emp]; done) | (simp_all [formS, emp, len_beq0]; done))
    | (refine (isStatus_any _ _).mono ?_
       rintro e w1 ⟨rfl, hb1⟩
       have c0 := box_cell (cs := [_, _, _, _, _, _, _]) hb1 0
       have c6 := box_cell (cs := [_, _, _, _, _, _, _]) hb1 6
       simp only [List.getElem?_cons_zero, List.getElem?_cons_succ] at c0 c6
       have HB1 := Lib.hid (((Below.refl _ w).alloc (Nat.le_refl _) _).trans (hb1.mono (B' := w.heap.size) (by simp)))
       clear hb1
       go_wp2
       all_goals
         go_ret
         refine ⟨ret_bool ?_, HB1.out⟩
         first | (simp_all [formS, emp]; done) | (simp_all [formS, emp, len_beq0]; done))
set_option maxHeartbeats 8000000 in
set_option maxRecDepth 100000 in
theorem form_3 (fl cr ch : Int) (nm st : ByteArray) (dg : List UInt8) (dv : Value) (w : World) (hd : RSl dv dg w) :
    Calls Tryz.prog 27 #[(Msg.mk 3 fl cr ch nm st dg).val dv] w fun e w' => e = .returned (.bool (formS ⟨3, fl, cr, ch, nm, st, dg⟩)) ∧ Below w.heap.size w w' := by
  obtain ⟨a, c, rfl, _, _⟩ := hd.shape
  clear hd
  unfold Msg.val
  go_enter Tryz.func27, Tryz.ntmps27
  go_wp2
  all_goals
    go_ret
    refine ⟨ret_bool ?_, (Below.refl _ w).alloc (Nat.le_refl _) _⟩
    first | (simp_all [formS, emp]; done) | (simp_all [formS, emp, len_beq0]; done)
set_option maxHeartbeats 8000000 in
set_option maxRecDepth 100000 in
theorem form_4 (fl cr ch : Int) (nm st : ByteArray) (dg : List UInt8) (dv : Value) (w : World) (hd : RSl dv dg w) :
    Calls Tryz.prog 27 #[(Msg.mk 4 fl cr ch nm st dg).val dv] w fun e w' => e = .returned (.bool (formS ⟨4, fl, cr, ch, nm, st, dg⟩)) ∧ Below w.heap.size w w' := by
  obtain ⟨a, c, rfl, _, _⟩ := hd.shape
  clear hd
  unfold Msg.val
  go_enter Tryz.func27, Tryz.ntmps27
  go_wp2
  all_goals
    go_ret
    refine ⟨ret_bool ?_, (Below.refl _ w).alloc (Nat.le_refl _) _⟩
    first | (simp_all [formS, emp]; done) | (simp_all [formS, emp, len_beq16]; done)
set_option maxHeartbeats 8000000 in
set_option maxRecDepth 100000 in
theorem form_5 (fl cr ch : Int) (nm st : ByteArray) (dg : List UInt8) (dv : Value) (w : World) (hd : RSl dv dg w) :
    Calls Tryz.prog 27 #[(Msg.mk 5 fl cr ch nm st dg).val dv] w fun e w' => e = .returned (.bool (formS ⟨5, fl, cr, ch, nm, st, dg⟩)) ∧ Below w.heap.size w w' := by
  obtain ⟨a, c, rfl, _, _⟩ := hd.shape
  clear hd
  unfold Msg.val
  go_enter Tryz.func27, Tryz.ntmps27
  go_wp2
  all_goals
    go_ret
    refine ⟨ret_bool ?_, (Below.refl _ w).alloc (Nat.le_refl _) _⟩
    first | (simp_all [formS, emp]; done) | (simp_all [formS, emp, len_beq16]; done)
set_option maxHeartbeats 8000000 in
set_option maxRecDepth 100000 in
theorem form_0 (k fl cr ch : Int) (nm st : ByteArray) (dg : List UInt8) (dv : Value) (w : World) (hd : RSl dv dg w) (hk : k < 1 ∨ 5 < k) :
    Calls Tryz.prog 27 #[(Msg.mk k fl cr ch nm st dg).val dv] w fun e w' => e = .returned (.bool (formS ⟨k, fl, cr, ch, nm, st, dg⟩)) ∧ Below w.heap.size w w' := by
  obtain ⟨a, c, rfl, _, _⟩ := hd.shape
  clear hd
  unfold Msg.val
  have P := Lib.hid (show ∀ (fl cr ch : Int) (nm st : ByteArray) (dg : List UInt8), formS ⟨k, fl, cr, ch, nm, st, dg⟩ = false by
    intro fl cr ch nm st dg
    unfold formS
    simp only
    rw [if_neg (by omega), if_neg (by omega), if_neg (by omega), if_neg (by omega), if_neg (by omega)])
  have b1 : (k == 1) = false := by simp; omega
  have b2 : (k == 2) = false := by simp; omega
  have b3 : (k == 3) = false := by simp; omega
  have b4 : (k == 4) = false := by simp; omega
  have b5 : (k == 5) = false := by simp; omega
  have b3' : (k != 3) = true := by simp; omega
  rcases (show k < 1 ∨ (¬ k < 1 ∧ 5 < k) by omega) with hk | ⟨hk, hk2⟩
  all_goals
    go_enter Tryz.func27, Tryz.ntmps27
    go_wp2
    all_goals
      go_ret
      rw [P.out]
      refine ⟨?_, (Below.refl _ w).alloc (Nat.le_refl _) _⟩
      first | rfl | (refine ret_bool ?_; simp; done) | (refine ret_bool ?_; simp; omega)
theorem form_any (m : Msg) (dv : Value) (w : World) (hd : RSl dv m.digest w) :
    Calls Tryz.prog 27 #[m.val dv] w fun e w' => e = .returned (.bool (formS m)) ∧ Below w.heap.size w w' := by
  obtain ⟨k, fl, cr, ch, nm, st, dg⟩ := m
  by_cases h1 : k = 1
  · subst h1; exact form_1 fl cr ch nm st dg dv w hd
  by_cases h2 : k = 2
  · subst h2; exact form_2 fl cr ch nm st dg dv w hd
  by_cases h3 : k = 3
  · subst h3; exact form_3 fl cr ch nm st dg dv w hd
  by_cases h4 : k = 4
  · subst h4; exact form_4 fl cr ch nm st dg dv w hd
  by_cases h5 : k = 5
  · subst h5; exact form_5 fl cr ch nm st dg dv w hd
  exact form_0 k fl cr ch nm st dg dv w hd (by omega)
set_option maxHeartbeats 8000000 in
set_option maxRecDepth 100000 in
theorem fields_1 (fl cr ch : Int) (nm st : ByteArray) (dg : List UInt8) (dv : Value) (w : World) (hd : RSl dv dg w) :
    Calls Tryz.prog 33 #[(Msg.mk 1 fl cr ch nm st dg).val dv] w fun e w' => e = .returned (.bool (formS ⟨1, fl, cr, ch, nm, st, dg⟩)) ∧ Below w.heap.size w w' := by
  obtain ⟨a, c, rfl, _, _⟩ := hd.shape
  clear hd
  unfold Msg.val
  go_enter Tryz.func33, Tryz.ntmps33
  go_wp2
  all_goals
    go_ret
    refine ⟨ret_bool ?_, (Below.refl _ w).alloc (Nat.le_refl _) _⟩
    first | (simp_all [formS, emp]; done) | (simp_all [formS, emp, len_beq0]; done)
set_option maxHeartbeats 8000000 in
set_option maxRecDepth 100000 in
theorem fields_2 (fl cr ch : Int) (nm st : ByteArray) (dg : List UInt8) (dv : Value) (w : World) (hd : RSl dv dg w) :
    Calls Tryz.prog 33 #[(Msg.mk 2 fl cr ch nm st dg).val dv] w fun e w' => e = .returned (.bool (formS ⟨2, fl, cr, ch, nm, st, dg⟩)) ∧ Below w.heap.size w w' := by
  obtain ⟨a, c, rfl, _, _⟩ := hd.shape
  clear hd
  unfold Msg.val
  go_enter Tryz.func33, Tryz.ntmps33
  go_wp2_with (go_at_call 47; refine (statusR_any _ _).mono ?_; rintro e w1 ⟨rfl, rfl⟩)
  all_goals
    go_ret
    refine ⟨ret_bool ?_, (Below.refl _ _).alloc (Nat.le_refl _) _⟩
    first | (simp_all [formS, emp]; done) | (simp_all [formS, emp, len_beq0]; done)
set_option maxHeartbeats 8000000 in
set_option maxRecDepth 100000 in
theorem fields_3 (fl cr ch : Int) (nm st : ByteArray) (dg : List UInt8) (dv : Value) (w : World) (hd : RSl dv dg w) :
    Calls Tryz.prog 33 #[(Msg.mk 3 fl cr ch nm st dg).val dv] w fun e w' => e = .returned (.bool (formS ⟨3, fl, cr, ch, nm, st, dg⟩)) ∧ Below w.heap.size w w' := by
  obtain ⟨a, c, rfl, _, _⟩ := hd.shape
  clear hd
  unfold Msg.val
  go_enter Tryz.func33, Tryz.ntmps33
  go_wp2
  all_goals
    go_ret
    refine ⟨ret_bool ?_, (Below.refl _ w).alloc (Nat.le_refl _) _⟩
    first | (simp_all [formS, emp]; done) | (simp_all [formS, emp, len_beq0]; done)
set_option maxHeartbeats 8000000 in
set_option maxRecDepth 100000 in
theorem fields_4 (fl cr ch : Int) (nm st : ByteArray) (dg : List UInt8) (dv : Value) (w : World) (hd : RSl dv dg w) :
    Calls Tryz.prog 33 #[(Msg.mk 4 fl cr ch nm st dg).val dv] w fun e w' => e = .returned (.bool (formS ⟨4, fl, cr, ch, nm, st, dg⟩)) ∧ Below w.heap.size w w' := by
  obtain ⟨a, c, rfl, _, _⟩ := hd.shape
  clear hd
  unfold Msg.val
  go_enter Tryz.func33, Tryz.ntmps33
  go_wp2
  all_goals
    go_ret
    refine ⟨ret_bool ?_, (Below.refl _ w).alloc (Nat.le_refl _) _⟩
    first | (simp_all [formS, emp]; done) | (simp_all [formS, emp, len_beq16]; done)
set_option maxHeartbeats 8000000 in
set_option maxRecDepth 100000 in
theorem fields_5 (fl cr ch : Int) (nm st : ByteArray) (dg : List UInt8) (dv : Value) (w : World) (hd : RSl dv dg w) :
    Calls Tryz.prog 33 #[(Msg.mk 5 fl cr ch nm st dg).val dv] w fun e w' => e = .returned (.bool (formS ⟨5, fl, cr, ch, nm, st, dg⟩)) ∧ Below w.heap.size w w' := by
  obtain ⟨a, c, rfl, _, _⟩ := hd.shape
  clear hd
  unfold Msg.val
  go_enter Tryz.func33, Tryz.ntmps33
  go_wp2
  all_goals
    go_ret
    refine ⟨ret_bool ?_, (Below.refl _ w).alloc (Nat.le_refl _) _⟩
    first | (simp_all [formS, emp]; done) | (simp_all [formS, emp, len_beq16]; done)
set_option maxHeartbeats 8000000 in
set_option maxRecDepth 100000 in
theorem fields_0 (k fl cr ch : Int) (nm st : ByteArray) (dg : List UInt8) (dv : Value) (w : World) (hd : RSl dv dg w) (hk : k < 1 ∨ 5 < k) :
    Calls Tryz.prog 33 #[(Msg.mk k fl cr ch nm st dg).val dv] w fun e w' => e = .returned (.bool (formS ⟨k, fl, cr, ch, nm, st, dg⟩)) ∧ Below w.heap.size w w' := by
  obtain ⟨a, c, rfl, _, _⟩ := hd.shape
  clear hd
  unfold Msg.val
  have P := Lib.hid (show ∀ (fl cr ch : Int) (nm st : ByteArray) (dg : List UInt8), formS ⟨k, fl, cr, ch, nm, st, dg⟩ = false by
    intro fl cr ch nm st dg
    unfold formS
    simp only
    rw [if_neg (by omega), if_neg (by omega), if_neg (by omega), if_neg (by omega), if_neg (by omega)])
  have b1 : (k == 1) = false := by simp; omega
  have b2 : (k == 2) = false := by simp; omega
  have b3 : (k == 3) = false := by simp; omega
  have b4 : (k == 4) = false := by simp; omega
  have b5 : (k == 5) = false := by simp; omega
  have b3' : (k != 3) = true := by simp; omega
  rcases (show ¬ 1 ≤ k ∨ (1 ≤ k ∧ ¬ k ≤ 5) by omega) with hk | ⟨hk, hk2⟩
  all_goals
    go_enter Tryz.func33, Tryz.ntmps33
    go_wp2
    all_goals
      go_ret
      rw [P.out]
      refine ⟨?_, (Below.refl _ w).alloc (Nat.le_refl _) _⟩
      first | rfl | (refine ret_bool ?_; simp; done) | (refine ret_bool ?_; simp; omega)
theorem fields_any (m : Msg) (dv : Value) (w : World) (hd : RSl dv m.digest w) :
    Calls Tryz.prog 33 #[m.val dv] w fun e w' => e = .returned (.bool (formS m)) ∧ Below w.heap.size w w' := by
  obtain ⟨k, fl, cr, ch, nm, st, dg⟩ := m
  by_cases h1 : k = 1
  · subst h1; exact fields_1 fl cr ch nm st dg dv w hd
  by_cases h2 : k = 2
  · subst h2; exact fields_2 fl cr ch nm st dg dv w hd
  by_cases h3 : k = 3
  · subst h3; exact fields_3 fl cr ch nm st dg dv w hd
  by_cases h4 : k = 4
  · subst h4; exact fields_4 fl cr ch nm st dg dv w hd
  by_cases h5 : k = 5
  · subst h5; exact fields_5 fl cr ch nm st dg dv w hd
  exact fields_0 k fl cr ch nm st dg dv w hd (by omega)
end Go.Proofs.YtokkokgdjnkbnaaGreatDoor
end
section
/- Package shake: Write. -/
open Go Go.RowKit
namespace Go.Proofs.YtokkokgdjnkbnaaGreatDoor

theorem Cells.belowB {w w' : World} {g B : Nat} {t : TypeId} {cs : List Value} (h : Cells w g t cs) (hb : Below B w w') (hg : g < B) : Cells w' g t cs := (hb.block g hg).trans h
theorem RSl.belowB {v : Value} {l : List UInt8} {w w' : World} {B : Nat} (h : RSl v l w) (hb : Below B w w') (hB : w.heap.size ≤ B) : RSl v l w' := h.below (hb.mono hB)
theorem nodeS_two (s : ByteArray) : (nodeS s).2.2 = [] ∨ (nodeS s).2.2 = [⟨atomL, 0, 24⟩] := by
  unfold nodeS; split
  · exact .inl rfl
  · exact .inr rfl
theorem nodeS_size (s : ByteArray) (h : (nodeS s).2.2 = []) : s.size ≤ 64 := by
  unfold nodeS at h
  by_cases hg : goodAll s = true
  · unfold goodAll goodS at hg
    simp only [Bool.and_eq_true, decide_eq_true_eq] at hg
    exact hg.1.1.1.2
  · rw [if_neg hg] at h; cases h
/-- A call that hands back bytes of its own and an error. -/
def RetBE (B : Nat) (w : World) (r : List UInt8 × List Lk) (e : Ending) (w' : World) : Prop := ∃ v ev, e = .returned (.tuple #[v, ev]) ∧ BufIs B v r.1 w' ∧ ErrIs w' ev r.2 ∧ Below B w w'
theorem BufIs.one {w : World} (c : UInt8) : BufIs w.heap.size (.slice (some ⟨w.heap.size, 0, none⟩) 1 1) [c] (w.alloc (.cells #[.int .u8 c.toNat] 5)) :=
  BufIs.lit [c] (Nat.le_refl _) (by simp [maxLen])

set_option maxHeartbeats 8000000 in
set_option maxRecDepth 100000 in
theorem write_bad (m : Msg) (dv : Value) (w : World) (hd : RSl dv m.digest w) (hf : formS m = false) :
    Calls Tryz.prog 9 #[m.val dv] w (RetBE w.heap.size w (writeS m)) := by
  have HR := Lib.hid (show writeS m = ([], [⟨shakeL, 0, 1⟩]) by unfold writeS; rw [if_pos hf])
  have HF := Lib.hid (form_any m dv (w.alloc (.cells [.int .i64 m.kind, .int .u64 m.flags, .int .u32 m.creation, .int .u32 m.challenge, .string m.name, .string m.status, dv].toArray 27)) (hd.alloc _))
  rw [hf] at HF
  obtain ⟨a, c, rfl, _, _⟩ := hd.shape
  clear hd hf
  unfold Msg.val at *
  go_enter Tryz.func9, Tryz.ntmps9
  go_wp2_with fail
  refine HF.out.mono ?_
  rintro e w1 ⟨rfl, hb1⟩
  have HB := Lib.hid (((Below.refl _ w).alloc (Nat.le_refl _) _).trans (hb1.mono (B' := w.heap.size) (by simp)))
  clear hb1
  go_wp2_with fail
  refine (fault_nil _ _ _).mono ?_
  rintro e w2 ⟨ev, rfl, her, hb2⟩
  go_wp2
  go_ret2
  rw [HR.out]
  exact ⟨_, _, rfl, BufIs.nil _ _, her, HB.out.trans (hb2.mono HB.out.size)⟩

set_option maxHeartbeats 8000000 in
set_option maxRecDepth 100000 in
theorem write_2 (fl cr ch : Int) (nm st : ByteArray) (dg : List UInt8) (dv : Value) (w : World) (hd : RSl dv dg w) (hz : st.size ≤ 140737488351232) (hf : formS ⟨2, fl, cr, ch, nm, st, dg⟩ = true) :
    Calls Tryz.prog 9 #[(Msg.mk 2 fl cr ch nm st dg).val dv] w (RetBE w.heap.size w (writeS ⟨2, fl, cr, ch, nm, st, dg⟩)) := by
  have HR := Lib.hid (show writeS ⟨2, fl, cr, ch, nm, st, dg⟩ = (115 :: st.data.toList, []) by unfold writeS; rw [if_neg (by rw [hf]; decide)]; simp)
  have HF := Lib.hid (form_any ⟨2, fl, cr, ch, nm, st, dg⟩ dv (w.alloc (.cells [.int .i64 2, .int .u64 fl, .int .u32 cr, .int .u32 ch, .string nm, .string st, dv].toArray 27)) (hd.alloc _))
  rw [hf] at HF
  obtain ⟨a, c, rfl, _, _⟩ := hd.shape
  clear hd hf
  unfold Msg.val at *
  go_enter Tryz.func9, Tryz.ntmps9
  go_wp2_with fail
  refine HF.out.mono ?_
  rintro e w1 ⟨rfl, hb1⟩
  have HB := Lib.hid (((Below.refl _ w).alloc (Nat.le_refl _) _).trans (hb1.mono (B' := w.heap.size) (by simp)))
  have hwz := hb1.size
  simp at hwz
  have c0 := box_cell hb1 0
  have c5 := box_cell hb1 5
  simp only [List.getElem?_cons_zero, List.getElem?_cons_succ] at c0 c5
  have V1 := Lib.hid (BufIs.one (w := w1) (letS 2))
  have hD := ((Cells.new w _ _).below hb1).alloc (.cells #[.int .u8 (letS 2).toNat] 5)
  have d0 := hD.cell 0
  have d5 := hD.cell 5
  simp only [List.getElem?_cons_zero, List.getElem?_cons_succ] at d0 d5
  clear hb1 hD
  go_wp2_with fail
  refine (letter_any 2 _ (by decide) (by decide)).mono ?_
  rintro e w2 ⟨rfl, rfl⟩
  go_wp2_with (at_builtin; refine stop ?_)
  refine Stopped.of ?_
  refine wp_app_str rfl (.tmp 24) (.tmp 26) rfl w1.heap.size _ [letS 2] rfl V1.out st rfl (by simp; omega) (by simp) ?_
  intro v' w3 hb3 hg3
  have W3 := Lib.hid (below_grown ((Below.refl w1.heap.size w1).alloc (Nat.le_refl _) _) V1.out (Nat.le_refl _) (by simp) hg3)
  have H3 := Lib.hid hb3
  clear hb3 hg3
  go_wp2
  go_ret2
  rw [HR.out]
  exact ⟨_, _, rfl, H3.out.base (by omega), rfl, HB.out.trans (W3.out.mono (by omega))⟩

set_option maxHeartbeats 8000000 in
set_option maxRecDepth 100000 in
theorem write_5 (fl cr ch : Int) (nm st : ByteArray) (dg : List UInt8) (dv : Value) (w : World) (hd : RSl dv dg w) (hz : dg.length ≤ 140737488351232) (hf : formS ⟨5, fl, cr, ch, nm, st, dg⟩ = true) :
    Calls Tryz.prog 9 #[(Msg.mk 5 fl cr ch nm st dg).val dv] w (RetBE w.heap.size w (writeS ⟨5, fl, cr, ch, nm, st, dg⟩)) := by
  have HR := Lib.hid (show writeS ⟨5, fl, cr, ch, nm, st, dg⟩ = (97 :: dg, []) by unfold writeS; rw [if_neg (by rw [hf]; decide)]; simp)
  have HF := Lib.hid (form_any ⟨5, fl, cr, ch, nm, st, dg⟩ dv (w.alloc (.cells [.int .i64 5, .int .u64 fl, .int .u32 cr, .int .u32 ch, .string nm, .string st, dv].toArray 27)) (hd.alloc _))
  rw [hf] at HF
  have HD := Lib.hid hd
  obtain ⟨a, c, rfl, _, _⟩ := hd.shape
  clear hd hf
  unfold Msg.val at *
  go_enter Tryz.func9, Tryz.ntmps9
  go_wp2_with fail
  refine HF.out.mono ?_
  rintro e w1 ⟨rfl, hb1⟩
  have hb1' := ((Below.refl _ w).alloc (Nat.le_refl _) _).trans (hb1.mono (B' := w.heap.size) (by simp))
  have HB := Lib.hid hb1'
  have hwz := hb1.size
  simp at hwz
  have c0 := box_cell hb1 0
  have c6 := box_cell hb1 6
  simp only [List.getElem?_cons_zero, List.getElem?_cons_succ] at c0 c6
  have HD1 := Lib.hid (HD.out.below hb1')
  have V1 := Lib.hid (BufIs.one (w := w1) (letS 5))
  have hD := ((Cells.new w _ _).below hb1).alloc (.cells #[.int .u8 (letS 5).toNat] 5)
  have d0 := hD.cell 0
  have d6 := hD.cell 6
  simp only [List.getElem?_cons_zero, List.getElem?_cons_succ] at d0 d6
  clear hb1 hb1' HD hD
  obtain ⟨v', w3, hrun, hb3, hg3⟩ := V1.out.app (HD1.out.alloc _) (by simp; omega) (by simp)
  have W3 := Lib.hid (below_grown ((Below.refl w1.heap.size w1).alloc (Nat.le_refl _) _) V1.out (Nat.le_refl _) (by simp) hg3)
  have H3 := Lib.hid hb3
  have HRUN := Lib.hid hrun
  clear hb3 hg3 hrun
  go_wp2_with fail
  refine (letter_any 5 _ (by decide) (by decide)).mono ?_
  rintro e w2 ⟨rfl, rfl⟩
  go_wp2_with (at_builtin; refine stop ?_)
  refine Stopped.of ?_
  refine wp_app_eq rfl (.tmp 33) (.tmp 35) _ _ rfl _ _ v' w3 rfl rfl HRUN.out ?_
  go_wp2
  go_ret2
  rw [HR.out]
  exact ⟨_, _, rfl, H3.out.base (by omega), rfl, HB.out.trans (W3.out.mono (by omega))⟩

set_option maxHeartbeats 8000000 in
set_option maxRecDepth 100000 in
theorem write_4 (fl cr ch : Int) (nm st : ByteArray) (dg : List UInt8) (dv : Value) (w : World) (hd : RSl dv dg w) (h0 : 0 ≤ ch) (h1 : ch < 4294967296) (hz : dg.length ≤ 140737488351232) (hf : formS ⟨4, fl, cr, ch, nm, st, dg⟩ = true) :
    Calls Tryz.prog 9 #[(Msg.mk 4 fl cr ch nm st dg).val dv] w (RetBE w.heap.size w (writeS ⟨4, fl, cr, ch, nm, st, dg⟩)) := by
  have HR := Lib.hid (show writeS ⟨4, fl, cr, ch, nm, st, dg⟩ = (114 :: (beN ch 4 ++ dg), []) by unfold writeS; rw [if_neg (by rw [hf]; decide)]; simp)
  have HF := Lib.hid (form_any ⟨4, fl, cr, ch, nm, st, dg⟩ dv (w.alloc (.cells [.int .i64 4, .int .u64 fl, .int .u32 cr, .int .u32 ch, .string nm, .string st, dv].toArray 27)) (hd.alloc _))
  rw [hf] at HF
  have HD := Lib.hid hd
  obtain ⟨a, c, rfl, _, _⟩ := hd.shape
  have hw64 : IntKind.u64.wrap ch = ch := by rw [IntKind.wrap_u64]; omega
  clear hd hf
  unfold Msg.val at *
  go_enter Tryz.func9, Tryz.ntmps9
  go_wp2_with fail
  refine HF.out.mono ?_
  rintro e w1 ⟨rfl, hb1⟩
  have hb1' := ((Below.refl _ w).alloc (Nat.le_refl _) _).trans (hb1.mono (B' := w.heap.size) (by simp))
  have HB := Lib.hid hb1'
  have hwz := hb1.size
  simp at hwz
  have hC1 := (Cells.new w _ _).below hb1
  have C1 := Lib.hid hC1
  have c0 := hC1.cell 0
  have c3 := hC1.cell 3
  simp only [List.getElem?_cons_zero, List.getElem?_cons_succ] at c0 c3
  have HD1 := Lib.hid (HD.out.below hb1')
  have V1 := Lib.hid (BufIs.one (w := w1) (letS 4))
  have hD := hC1.alloc (.cells #[.int .u8 (letS 4).toNat] 5)
  have d0 := hD.cell 0
  have d3 := hD.cell 3
  simp only [List.getElem?_cons_zero, List.getElem?_cons_succ] at d0 d3
  clear hb1 hb1' HD hC1 hD
  go_wp2_with fail
  refine (letter_any 4 _ (by decide) (by decide)).mono ?_
  rintro e w2 ⟨rfl, rfl⟩
  go_wp2_with fail
  refine (shPut_any w1.heap.size _ [letS 4] ch 4 _ (by decide) V1.out (by simp) (by simp)).mono ?_
  rintro e w3 ⟨v3, rfl, hv3, hb3⟩
  have hb13 := ((Below.refl w1.heap.size w1).alloc (Nat.le_refl _) _).trans hb3
  have hC3 := C1.out.belowB hb13 (by omega)
  have c6 := hC3.cell 6
  simp only [List.getElem?_cons_zero, List.getElem?_cons_succ] at c6
  obtain ⟨v', w4, hrun, hb4, hg4⟩ := hv3.app (HD1.out.below hb13) (by simp [beN_length]; omega) hb13.size
  have W4 := Lib.hid (below_grown hb13 hv3 (Nat.le_refl _) hb13.size hg4)
  have H4 := Lib.hid hb4
  have HRUN := Lib.hid hrun
  clear hb4 hg4 hrun hC3 hb13 hb3 hv3
  go_wp2_with (at_builtin; refine stop ?_)
  refine Stopped.of ?_
  refine wp_app_eq rfl (.tmp 33) (.tmp 35) _ _ rfl _ _ v' w4 rfl rfl HRUN.out ?_
  go_wp2
  go_ret2
  rw [HR.out]
  exact ⟨_, _, rfl, by have := H4.out.base (base' := w.heap.size) (by omega); simpa [letS] using this, rfl, HB.out.trans (W4.out.mono (by omega))⟩
end Go.Proofs.YtokkokgdjnkbnaaGreatDoor
end
section
/- A message handed in by value: what it gives a walk. Printed by wip/msg.py. -/
open Go Go.RowKit Go.ChangeShapes Go.WideShapes Go.ChangeAt Go.Joins Go.Deep
namespace Go.Proofs.YtokkokgdjnkbnaaGreatDoor
section
variable {H : Type} {enc : TypeId × Value → H} {P : Program} {w : World} {base : Nat} {spare : Nat → Bool} {held : Bool}
theorem open_agg7 {r : Reach} {b0 : Nat} {t : TypeId} {f0 f1 f2 f3 f4 f5 f6 : Field} {v : Value} {d : DataW H} {p : List MemPlace} (hs : P.underlying t = some (.struct #[f0, f1, f2, f3, f4, f5, f6])) (hone : oneCellFields P #[f0, f1, f2, f3, f4, f5, f6] = true) (hC : P.cellsOf t = 7)
    (hv : Value.okWide P w r b0 t v) (h : DataW.Trod enc P w base spare held t v d p) :
    ∃ (v0 v1 v2 v3 v4 v5 v6 : Value) (y0 y1 y2 y3 y4 y5 y6 : DataW H × List MemPlace) (n : Nat), v = .agg #[v0, v1, v2, v3, v4, v5, v6] ∧ d = .agg [y0.1, y1.1, y2.1, y3.1, y4.1, y5.1, y6.1] ∧ p = y0.2 ++ (y1.2 ++ (y2.2 ++ (y3.2 ++ (y4.2 ++ (y5.2 ++ (y6.2)))))) ∧
      DataW.trod enc P w base spare held n f0.type [v0] = some y0 ∧ DataW.trod enc P w base spare held n f1.type [v1] = some y1 ∧ DataW.trod enc P w base spare held n f2.type [v2] = some y2 ∧ DataW.trod enc P w base spare held n f3.type [v3] = some y3 ∧ DataW.trod enc P w base spare held n f4.type [v4] = some y4 ∧ DataW.trod enc P w base spare held n f5.type [v5] = some y5 ∧ DataW.trod enc P w base spare held n f6.type [v6] = some y6 := by
  obtain ⟨cs, rfl, hsz⟩ := okWide_struct hs hv
  obtain ⟨l⟩ := cs
  match l, hsz.trans hC with
  | [c0, c1, c2, c3, c4, c5, c6], _ =>
    obtain ⟨fuel, hf⟩ := h
    obtain ⟨xs, n, _, hx, _, hlen, hg⟩ := DataW.trod_struct hs hf
    obtain ⟨o0, k0⟩ := hone_of hone 0 f0 rfl
    obtain ⟨o1, k1⟩ := hone_of hone 1 f1 rfl
    obtain ⟨o2, k2⟩ := hone_of hone 2 f2 rfl
    obtain ⟨o3, k3⟩ := hone_of hone 3 f3 rfl
    obtain ⟨o4, k4⟩ := hone_of hone 4 f4 rfl
    obtain ⟨o5, k5⟩ := hone_of hone 5 f5 rfl
    obtain ⟨o6, k6⟩ := hone_of hone 6 f6 rfl
    match xs, hlen with
    | [y0, y1, y2, y3, y4, y5, y6], _ =>
      simp only [Prod.mk.injEq] at hx
      exact ⟨c0, c1, c2, c3, c4, c5, c6, y0, y1, y2, y3, y4, y5, y6, n, rfl, by simpa using hx.1, by simpa using hx.2, by simpa [Value.cells, o0, k0] using hg 0 f0 rfl, by simpa [Value.cells, o1, k1] using hg 1 f1 rfl, by simpa [Value.cells, o2, k2] using hg 2 f2 rfl, by simpa [Value.cells, o3, k3] using hg 3 f3 rfl, by simpa [Value.cells, o4, k4] using hg 4 f4 rfl, by simpa [Value.cells, o5, k5] using hg 5 f5 rfl, by simpa [Value.cells, o6, k6] using hg 6 f6 rfl⟩
end

set_option maxRecDepth 100000 in
theorem bytes_field {H : Type} {enc : TypeId × Value → H} {W : World} {v : Value} {n : Nat} {y : DataW H × List MemPlace} (hf : DataW.trod enc Tryz.prog W 0 (fun _ => true) true n 25 [v] = some y) :
    ∃ l, RSl v l W ∧ (∀ x ∈ y.2, x.block < W.heap.size) ∧ (l ≠ [] → ∃ q ∈ y.1.weights Tryz.prog 25, l.length ≤ q) := by
  have c5 : Tryz.prog.cellsOf 5 = 1 := by kernel_rfl
  have hby : Tryz.prog.bytesOf 5 = 1 := by kernel_rfl
  rcases open_ints Tryz.underlying25 Tryz.underlying5 c5 hf with ⟨hcs, hx⟩ | ⟨a, len, cap, zs, hcs, _, hl, hm, hz, hx, hcell, hwz⟩
  · obtain rfl : v = .slice none 0 0 := by simpa using hcs
    subst hx
    exact ⟨[], RSl.nil _, (fun x hx => by cases hx), fun h => absurd rfl h⟩
  obtain rfl : v = .slice (some a) len cap := by simpa using hcs
  subst hx
  simp only [if_true] at hz
  obtain ⟨b, off, spot⟩ := a
  have hlz : len ≤ zs.length := by omega
  have hll : ((zs.take len).map fun z => UInt8.ofNat z.toNat).length = len := by rw [List.length_map, List.length_take]; omega
  refine ⟨(zs.take len).map fun z => UInt8.ofNat z.toNat, ⟨some ⟨b, off, spot⟩, cap, by rw [hll], by rw [hll]; exact hl, hm, fun j hj => ?_⟩, ?_, fun _ => ?_⟩
  · rw [hll] at hj
    have hspot : spot = none := by simpa [Addr.add] using World.cell?_spot (hcell 0 (by omega))
    subst hspot
    refine ⟨b, off, rfl, ?_⟩
    have hc := hcell j (by omega)
    rw [Lib.add_plain] at hc
    rw [hc]
    have hzj : zs.getD j 0 = zs[j]'(by omega) := by simp [List.getD, show j < zs.length by omega]
    have hw := hwz _ (List.getElem_mem (show j < zs.length by omega))
    simp [Lit.wf, IntKind.min, IntKind.max, IntKind.signed, IntKind.bits] at hw
    rw [hzj]
    simp only [List.getElem_map, List.getElem_take, byteV]
    congr 2
    simp
    omega
  · intro x hx
    obtain ⟨j, hj, rfl⟩ := MemPlace.mem_row.1 hx
    have hspot : spot = none := by simpa [Addr.add] using World.cell?_spot (hcell 0 (by omega))
    subst hspot
    have hc := hcell j hj
    rw [Lib.add_plain] at hc
    exact World.block_lt_of_cell? W ⟨b, off + j, none⟩ hc
  · rw [hll]
    rw [DataW.weights, Tryz.underlying25]
    simp only [hby]
    exact ⟨_, List.mem_cons_self .., by simp [lits]; omega⟩

set_option maxRecDepth 100000 in
theorem msg_open {H : Type} {enc : TypeId × Value → H} {W : World} {v : Value} {d : DataW H} {ps : List MemPlace} {r : Reach} {b0 : Nat} (hval : Value.okWide Tryz.prog W r b0 27 v)
    (h : DataW.Trod enc Tryz.prog W 0 (fun _ => true) true 27 v d ps) (hsz : ∀ n ∈ d.weights Tryz.prog 27, n ≤ reachBytes) :
    (∃ (m : Msg) (dv : Value), v = m.val dv ∧ RSl dv m.digest W ∧ m.Ok) ∧ ∀ x ∈ ps, x.block < W.heap.size := by
  obtain ⟨v0, v1, v2, v3, v4, v5, v6, y0, y1, y2, y3, y4, y5, y6, n, rfl, rfl, rfl, t0, t1, t2, t3, t4, t5, t6⟩ := open_agg7 Tryz.underlying27 (by kernel_rfl) (by kernel_rfl) hval h
  rw [DataW.weights, Tryz.underlying27] at hsz
  simp only [List.map_cons, List.map_nil] at hsz
  obtain ⟨k0, e0, rfl, _⟩ := DataW.trod_int Tryz.underlying22 t0
  obtain ⟨k1, e1, rfl, w1⟩ := DataW.trod_int Tryz.underlying23 t1
  obtain ⟨k2, e2, rfl, w2⟩ := DataW.trod_int Tryz.underlying24 t2
  obtain ⟨k3, e3, rfl, w3⟩ := DataW.trod_int Tryz.underlying24 t3
  obtain ⟨k4, e4, rfl, _⟩ := DataW.trod_string Tryz.underlying9 t4
  obtain ⟨k5, e5, rfl, _⟩ := DataW.trod_string Tryz.underlying9 t5
  obtain ⟨l, hl, hp, hq⟩ := bytes_field t6
  obtain rfl : v0 = .int .i64 k0 := by simpa using e0
  obtain rfl : v1 = .int .u64 k1 := by simpa using e1
  obtain rfl : v2 = .int .u32 k2 := by simpa using e2
  obtain rfl : v3 = .int .u32 k3 := by simpa using e3
  obtain rfl : v4 = .string k4 := by simpa using e4
  obtain rfl : v5 = .string k5 := by simpa using e5
  simp [Lit.wf, IntKind.min, IntKind.max, IntKind.signed, IntKind.bits] at w1 w2 w3
  have s4 : k4.size ≤ 140737488351232 := by
    have := hsz k4.data.toList.length (by simp [DataW.weightsEach, DataW.weights])
    simpa [reachBytes] using this
  have s5 : k5.size ≤ 140737488351232 := by
    have := hsz k5.data.toList.length (by simp [DataW.weightsEach, DataW.weights])
    simpa [reachBytes] using this
  have s6 : l.length ≤ 140737488351232 := by
    by_cases hn : l = []
    · subst hn; exact Nat.zero_le _
    · obtain ⟨q, hq1, hq2⟩ := hq hn
      have := hsz q (by simp [DataW.weightsEach, DataW.weights, hq1])
      simp [reachBytes] at this
      omega
  have b0 : 0 ≤ k1 := by omega
  have b1 : k1 < 18446744073709551616 := by omega
  have b2 : 0 ≤ k2 := by omega
  have b3 : k2 < 4294967296 := by omega
  have b4 : 0 ≤ k3 := by omega
  have b5 : k3 < 4294967296 := by omega
  refine ⟨⟨⟨k0, k1, k2, k3, k4, k5, l⟩, v6, rfl, hl, ⟨b0, b1, b2, b3, b4, b5, s4, s5, s6⟩⟩, fun x hx => hp x (by simpa using hx)⟩
set_option maxRecDepth 100000 in
theorem rbytes_open {H : Type} {enc : TypeId × Value → H} {W : World} {v : Value} {d : DataW H} {ps : List MemPlace} {r : Reach} {b0 : Nat} (hval : Value.okWide Tryz.prog W r b0 25 v)
    (h : DataW.Trod enc Tryz.prog W 0 (fun _ => true) true 25 v d ps) (hsz : ∀ n ∈ d.weights Tryz.prog 25, n ≤ reachBytes) :
    (∃ l, RSl v l W ∧ l.length ≤ 140737488351232) ∧ ∀ x ∈ ps, x.block < W.heap.size := by
  obtain ⟨a0, len, cap, rfl⟩ := okWide_slice Tryz.underlying25 hval
  obtain ⟨fuel, hf⟩ := h
  obtain ⟨l, hl, hp, hq⟩ := bytes_field (y := (d, ps)) (by simpa [Value.cells] using hf)
  refine ⟨⟨l, hl, ?_⟩, hp⟩
  by_cases hn : l = []
  · subst hn; exact Nat.zero_le _
  · obtain ⟨q, hq1, hq2⟩ := hq hn
    have := hsz q hq1
    simp [reachBytes] at this
    omega
theorem msg_row : 27 < Tryz.prog.types.size := by rw [show Tryz.prog.types.size = 229 by kernel_rfl]; decide
end Go.Proofs.YtokkokgdjnkbnaaGreatDoor
end
section
/- Package shake: Write, of the kinds with a name; of all. -/
open Go Go.RowKit
namespace Go.Proofs.YtokkokgdjnkbnaaGreatDoor

set_option maxHeartbeats 8000000 in
set_option maxRecDepth 100000 in
theorem write_1 (fl cr ch : Int) (nm st : ByteArray) (dg : List UInt8) (dv : Value) (w : World) (hd : RSl dv dg w) (hr0 : 0 ≤ cr) (hr1 : cr < 4294967296) (h0 : 0 ≤ ch) (h1 : ch < 4294967296) (hz : nm.size ≤ 140737488351232) (hE : ErrT w) (hf : formS ⟨1, fl, cr, ch, nm, st, dg⟩ = true) :
    Calls Tryz.prog 9 #[(Msg.mk 1 fl cr ch nm st dg).val dv] w (RetBE w.heap.size w (writeS ⟨1, fl, cr, ch, nm, st, dg⟩)) := by
  have HR1 := Lib.hid (show (nodeS nm).2.2 ≠ [] → writeS ⟨1, fl, cr, ch, nm, st, dg⟩ = ([], [⟨shakeL, 0, 24⟩, ⟨atomL, 0, 24⟩]) by
    intro hn; unfold writeS; rw [if_neg (by rw [hf]; decide)]; simp [hn])
  have HR2 := Lib.hid (show (nodeS nm).2.2 = [] → writeS ⟨1, fl, cr, ch, nm, st, dg⟩ = (78 :: (beN fl 8 ++ beN cr 4 ++ beN nm.size 2 ++ nm.data.toList), []) by
    intro hn; unfold writeS; rw [if_neg (by rw [hf]; decide)]; simp [hn])
  have HF := Lib.hid (form_any ⟨1, fl, cr, ch, nm, st, dg⟩ dv (w.alloc (.cells [.int .i64 1, .int .u64 fl, .int .u32 cr, .int .u32 ch, .string nm, .string st, dv].toArray 27)) (hd.alloc _))
  rw [hf] at HF
  obtain ⟨a, c, rfl, _, _⟩ := hd.shape
  have hwc : IntKind.u64.wrap cr = cr := by rw [IntKind.wrap_u64]; omega
  have hwh : IntKind.u64.wrap ch = ch := by rw [IntKind.wrap_u64]; omega
  have hwn : IntKind.u64.wrap (nm.size : Int) = nm.size := by rw [IntKind.wrap_u64]; omega
  have hn2 : (nodeS nm).2.2 = [] → nm.size ≤ 64 := nodeS_size nm
  have hnc : (nodeS nm).2.2 = [] ∨ (nodeS nm).2.2 = [⟨atomL, 0, 24⟩] := nodeS_two nm
  have HE := Lib.hid hE
  clear hd hf hE
  unfold Msg.val at *
  go_enter Tryz.func9, Tryz.ntmps9
  go_wp2_with fail
  refine HF.out.mono ?_
  rintro e w1 ⟨rfl, hb1⟩
  have hb1' := ((Below.refl _ w).alloc (Nat.le_refl _) _).trans (hb1.mono (B' := w.heap.size) (by simp))
  have HB := Lib.hid hb1'
  have hwz := hb1.size
  simp at hwz
  have hC1 := (Cells.new w _ _).below hb1
  have c0 := hC1.cell 0
  have V1 := Lib.hid (BufIs.one (w := w1) (letS 1))
  have hD := hC1.alloc (.cells #[.int .u8 (letS 1).toNat] 5)
  have C2 := Lib.hid hD
  have d0 := hD.cell 0
  have d4 := hD.cell 4
  simp only [List.getElem?_cons_zero, List.getElem?_cons_succ] at c0 d0 d4
  have hb2 := hb1'.alloc hb1'.size (.cells #[.int .u8 (letS 1).toNat] 5)
  have HB2 := Lib.hid hb2
  have HN := Lib.hid (node_any nm (w1.alloc (.cells #[.int .u8 (letS 1).toNat] 5)) hz)
  clear hb1 hb1' hC1 hD hb2
  go_wp2_with fail
  refine (letter_any 1 _ (by decide) (by decide)).mono ?_
  rintro e w2 ⟨rfl, rfl⟩
  go_wp2_with fail
  refine HN.out.mono ?_
  rintro e w3 ⟨ev, rfl, her, hb3⟩
  have hb3' := HB2.out.trans (hb3.mono HB2.out.size)
  rcases hnc with hn | hn
  rotate_left
  · have HR := Lib.hid (HR1.out (by rw [hn]; simp))
    rw [hn] at her
    have HO := Lib.hid (over_any 0 ev ⟨atomL, 0, 24⟩ [] w3 her (HE.out.below hb3'))
    have HB3 := Lib.hid hb3'
    obtain ⟨eb, eu, rfl, _, _⟩ := her
    clear hb3 hb3' hn hn2 HR1 HR2
    go_wp2_with fail
    refine HO.out.mono ?_
    rintro e w4 ⟨ev4, rfl, her4, hb4⟩
    go_wp2
    go_ret2
    rw [HR.out]
    exact ⟨_, _, rfl, BufIs.nil _ _, her4, HB3.out.trans (hb4.mono HB3.out.size)⟩
  have HR := Lib.hid (HR2.out hn)
  rw [hn] at her
  obtain rfl : ev = .nilIface := her
  have hnz := hn2 hn
  have V3 := Lib.hid (V1.out.below hb3 (Nat.le_refl _))
  have hC3 := C2.out.below hb3
  have C3 := Lib.hid hC3
  have e0 := hC3.cell 0
  have e1 := hC3.cell 1
  simp only [List.getElem?_cons_zero, List.getElem?_cons_succ] at e0 e1
  have hs3 := hb3.size
  simp at hs3
  have HB3 := Lib.hid hb3'
  have L3 := Lib.hid ((Below.refl w1.heap.size w1).alloc (Nat.le_refl _) (.cells #[.int .u8 (letS 1).toNat] 5) |>.trans (hb3.mono (by simp)))
  clear hb3 hb3' hn hn2 HR1 HR2 hC3 HN
  go_wp2_with fail
  refine (shPut_any w1.heap.size _ [letS 1] fl 8 _ (by decide) V3.out (by omega) (by simp)).mono ?_
  rintro e w4 ⟨v4, rfl, hv4, hb4⟩

  have hC4 := C3.out.belowB hb4 (by omega)
  have C4 := Lib.hid hC4
  have V4 := Lib.hid hv4
  have L4 := Lib.hid (L3.out.trans hb4)
  have hs4 := hb4.size
  have x4_0 := hC4.cell 0
  have x4_2 := hC4.cell 2
  simp only [List.getElem?_cons_zero, List.getElem?_cons_succ] at x4_0 x4_2
  clear hC4 hb4 hv4
  go_wp2_with fail
  refine (shPut_any w1.heap.size _ ([letS 1] ++ beN fl 8) cr 4 _ (by decide) V4.out (by omega) (by simp [beN_length])).mono ?_
  rintro e w5 ⟨v5, rfl, hv5, hb5⟩
  have hC5 := C4.out.belowB hb5 (by omega)
  have C5 := Lib.hid hC5
  have V5 := Lib.hid hv5
  have L5 := Lib.hid (L4.out.trans hb5)
  have hs5 := hb5.size
  have x5_0 := hC5.cell 0
  have x5_4 := hC5.cell 4
  simp only [List.getElem?_cons_zero, List.getElem?_cons_succ] at x5_0 x5_4
  clear hC5 hb5 hv5
  go_wp2_with fail
  refine (shPut_any w1.heap.size _ (([letS 1] ++ beN fl 8) ++ beN cr 4) (nm.size : Int) 2 _ (by decide) V5.out (by omega) (by simp [beN_length])).mono ?_
  rintro e w6 ⟨v6, rfl, hv6, hb6⟩
  have hC6 := C5.out.belowB hb6 (by omega)
  have V6 := Lib.hid hv6
  have L6 := Lib.hid (L5.out.trans hb6)
  have hs6 := hb6.size
  have y4 := hC6.cell 4
  simp only [List.getElem?_cons_zero, List.getElem?_cons_succ] at y4
  clear hC6 hb6 hv6
  go_wp2_with (at_builtin; refine stop ?_)
  refine Stopped.of ?_
  refine wp_app_str rfl (.tmp 71) (.tmp 73) rfl w1.heap.size _ ((([letS 1] ++ beN fl 8) ++ beN cr 4) ++ beN (nm.size : Int) 2) rfl V6.out nm rfl (by simp [beN_length]; omega) (by omega) ?_
  intro v' w9 hb9 hg9
  have W9 := Lib.hid (below_grown L6.out V6.out (Nat.le_refl _) (by omega) hg9)
  have H9 := Lib.hid hb9
  clear hb9 hg9
  go_wp2
  go_ret2
  rw [HR.out]
  exact ⟨_, _, rfl, by have := H9.out.base (base' := w.heap.size) (by omega); simpa [letS] using this, rfl, HB.out.trans (W9.out.mono (by omega))⟩

set_option maxHeartbeats 8000000 in
set_option maxRecDepth 100000 in
theorem write_3 (fl cr ch : Int) (nm st : ByteArray) (dg : List UInt8) (dv : Value) (w : World) (hd : RSl dv dg w) (hr0 : 0 ≤ cr) (hr1 : cr < 4294967296) (h0 : 0 ≤ ch) (h1 : ch < 4294967296) (hz : nm.size ≤ 140737488351232) (hE : ErrT w) (hf : formS ⟨3, fl, cr, ch, nm, st, dg⟩ = true) :
    Calls Tryz.prog 9 #[(Msg.mk 3 fl cr ch nm st dg).val dv] w (RetBE w.heap.size w (writeS ⟨3, fl, cr, ch, nm, st, dg⟩)) := by
  have HR1 := Lib.hid (show (nodeS nm).2.2 ≠ [] → writeS ⟨3, fl, cr, ch, nm, st, dg⟩ = ([], [⟨shakeL, 0, 24⟩, ⟨atomL, 0, 24⟩]) by
    intro hn; unfold writeS; rw [if_neg (by rw [hf]; decide)]; simp [hn])
  have HR2 := Lib.hid (show (nodeS nm).2.2 = [] → writeS ⟨3, fl, cr, ch, nm, st, dg⟩ = (78 :: (beN fl 8 ++ beN ch 4 ++ beN cr 4 ++ beN nm.size 2 ++ nm.data.toList), []) by
    intro hn; unfold writeS; rw [if_neg (by rw [hf]; decide)]; simp [hn])
  have HF := Lib.hid (form_any ⟨3, fl, cr, ch, nm, st, dg⟩ dv (w.alloc (.cells [.int .i64 3, .int .u64 fl, .int .u32 cr, .int .u32 ch, .string nm, .string st, dv].toArray 27)) (hd.alloc _))
  rw [hf] at HF
  obtain ⟨a, c, rfl, _, _⟩ := hd.shape
  have hwc : IntKind.u64.wrap cr = cr := by rw [IntKind.wrap_u64]; omega
  have hwh : IntKind.u64.wrap ch = ch := by rw [IntKind.wrap_u64]; omega
  have hwn : IntKind.u64.wrap (nm.size : Int) = nm.size := by rw [IntKind.wrap_u64]; omega
  have hn2 : (nodeS nm).2.2 = [] → nm.size ≤ 64 := nodeS_size nm
  have hnc : (nodeS nm).2.2 = [] ∨ (nodeS nm).2.2 = [⟨atomL, 0, 24⟩] := nodeS_two nm
  have HE := Lib.hid hE
  clear hd hf hE
  unfold Msg.val at *
  go_enter Tryz.func9, Tryz.ntmps9
  go_wp2_with fail
  refine HF.out.mono ?_
  rintro e w1 ⟨rfl, hb1⟩
  have hb1' := ((Below.refl _ w).alloc (Nat.le_refl _) _).trans (hb1.mono (B' := w.heap.size) (by simp))
  have HB := Lib.hid hb1'
  have hwz := hb1.size
  simp at hwz
  have hC1 := (Cells.new w _ _).below hb1
  have c0 := hC1.cell 0
  have V1 := Lib.hid (BufIs.one (w := w1) (letS 3))
  have hD := hC1.alloc (.cells #[.int .u8 (letS 3).toNat] 5)
  have C2 := Lib.hid hD
  have d0 := hD.cell 0
  have d4 := hD.cell 4
  simp only [List.getElem?_cons_zero, List.getElem?_cons_succ] at c0 d0 d4
  have hb2 := hb1'.alloc hb1'.size (.cells #[.int .u8 (letS 3).toNat] 5)
  have HB2 := Lib.hid hb2
  have HN := Lib.hid (node_any nm (w1.alloc (.cells #[.int .u8 (letS 3).toNat] 5)) hz)
  clear hb1 hb1' hC1 hD hb2
  go_wp2_with fail
  refine (letter_any 3 _ (by decide) (by decide)).mono ?_
  rintro e w2 ⟨rfl, rfl⟩
  go_wp2_with fail
  refine HN.out.mono ?_
  rintro e w3 ⟨ev, rfl, her, hb3⟩
  have hb3' := HB2.out.trans (hb3.mono HB2.out.size)
  rcases hnc with hn | hn
  rotate_left
  · have HR := Lib.hid (HR1.out (by rw [hn]; simp))
    rw [hn] at her
    have HO := Lib.hid (over_any 0 ev ⟨atomL, 0, 24⟩ [] w3 her (HE.out.below hb3'))
    have HB3 := Lib.hid hb3'
    obtain ⟨eb, eu, rfl, _, _⟩ := her
    clear hb3 hb3' hn hn2 HR1 HR2
    go_wp2_with fail
    refine HO.out.mono ?_
    rintro e w4 ⟨ev4, rfl, her4, hb4⟩
    go_wp2
    go_ret2
    rw [HR.out]
    exact ⟨_, _, rfl, BufIs.nil _ _, her4, HB3.out.trans (hb4.mono HB3.out.size)⟩
  have HR := Lib.hid (HR2.out hn)
  rw [hn] at her
  obtain rfl : ev = .nilIface := her
  have hnz := hn2 hn
  have V3 := Lib.hid (V1.out.below hb3 (Nat.le_refl _))
  have hC3 := C2.out.below hb3
  have C3 := Lib.hid hC3
  have e0 := hC3.cell 0
  have e1 := hC3.cell 1
  simp only [List.getElem?_cons_zero, List.getElem?_cons_succ] at e0 e1
  have hs3 := hb3.size
  simp at hs3
  have HB3 := Lib.hid hb3'
  have L3 := Lib.hid ((Below.refl w1.heap.size w1).alloc (Nat.le_refl _) (.cells #[.int .u8 (letS 3).toNat] 5) |>.trans (hb3.mono (by simp)))
  clear hb3 hb3' hn hn2 HR1 HR2 hC3 HN
  go_wp2_with fail
  refine (shPut_any w1.heap.size _ [letS 3] fl 8 _ (by decide) V3.out (by omega) (by simp)).mono ?_
  rintro e w4 ⟨v4, rfl, hv4, hb4⟩

  have hC4 := C3.out.belowB hb4 (by omega)
  have C4 := Lib.hid hC4
  have V4 := Lib.hid hv4
  have L4 := Lib.hid (L3.out.trans hb4)
  have hs4 := hb4.size
  have x4_0 := hC4.cell 0
  have x4_3 := hC4.cell 3
  simp only [List.getElem?_cons_zero, List.getElem?_cons_succ] at x4_0 x4_3
  clear hC4 hb4 hv4
  go_wp2_with fail
  refine (shPut_any w1.heap.size _ ([letS 3] ++ beN fl 8) ch 4 _ (by decide) V4.out (by omega) (by simp [beN_length])).mono ?_
  rintro e w5 ⟨v5, rfl, hv5, hb5⟩
  have hC5 := C4.out.belowB hb5 (by omega)
  have C5 := Lib.hid hC5
  have V5 := Lib.hid hv5
  have L5 := Lib.hid (L4.out.trans hb5)
  have hs5 := hb5.size
  have x5_0 := hC5.cell 0
  have x5_2 := hC5.cell 2
  simp only [List.getElem?_cons_zero, List.getElem?_cons_succ] at x5_0 x5_2
  clear hC5 hb5 hv5
  go_wp2_with fail
  refine (shPut_any w1.heap.size _ (([letS 3] ++ beN fl 8) ++ beN ch 4) cr 4 _ (by decide) V5.out (by omega) (by simp [beN_length])).mono ?_
  rintro e w6 ⟨v6, rfl, hv6, hb6⟩
  have hC6 := C5.out.belowB hb6 (by omega)
  have C6 := Lib.hid hC6
  have V6 := Lib.hid hv6
  have L6 := Lib.hid (L5.out.trans hb6)
  have hs6 := hb6.size
  have x6_0 := hC6.cell 0
  have x6_4 := hC6.cell 4
  simp only [List.getElem?_cons_zero, List.getElem?_cons_succ] at x6_0 x6_4
  clear hC6 hb6 hv6
  go_wp2_with fail
  refine (shPut_any w1.heap.size _ ((([letS 3] ++ beN fl 8) ++ beN ch 4) ++ beN cr 4) (nm.size : Int) 2 _ (by decide) V6.out (by omega) (by simp [beN_length])).mono ?_
  rintro e w7 ⟨v7, rfl, hv7, hb7⟩
  have hC7 := C6.out.belowB hb7 (by omega)
  have V7 := Lib.hid hv7
  have L7 := Lib.hid (L6.out.trans hb7)
  have hs7 := hb7.size
  have y4 := hC7.cell 4
  simp only [List.getElem?_cons_zero, List.getElem?_cons_succ] at y4
  clear hC7 hb7 hv7
  go_wp2_with (at_builtin; refine stop ?_)
  refine Stopped.of ?_
  refine wp_app_str rfl (.tmp 71) (.tmp 73) rfl w1.heap.size _ (((([letS 3] ++ beN fl 8) ++ beN ch 4) ++ beN cr 4) ++ beN (nm.size : Int) 2) rfl V7.out nm rfl (by simp [beN_length]; omega) (by omega) ?_
  intro v' w9 hb9 hg9
  have W9 := Lib.hid (below_grown L7.out V7.out (Nat.le_refl _) (by omega) hg9)
  have H9 := Lib.hid hb9
  clear hb9 hg9
  go_wp2
  go_ret2
  rw [HR.out]
  exact ⟨_, _, rfl, by have := H9.out.base (base' := w.heap.size) (by omega); simpa [letS] using this, rfl, HB.out.trans (W9.out.mono (by omega))⟩

theorem formS_kind {m : Msg} (hf : formS m = true) : m.kind = 1 ∨ m.kind = 2 ∨ m.kind = 3 ∨ m.kind = 4 ∨ m.kind = 5 := by
  obtain ⟨k, fl, cr, ch, nm, st, dg⟩ := m
  show k = 1 ∨ k = 2 ∨ k = 3 ∨ k = 4 ∨ k = 5
  unfold formS at hf
  simp only at hf
  by_cases h1 : k = 1
  · exact .inl h1
  by_cases h2 : k = 2
  · exact .inr (.inl h2)
  by_cases h3 : k = 3
  · exact .inr (.inr (.inl h3))
  by_cases h4 : k = 4
  · exact .inr (.inr (.inr (.inl h4)))
  by_cases h5 : k = 5
  · exact .inr (.inr (.inr (.inr h5)))
  rw [if_neg h1, if_neg h2, if_neg h3, if_neg h4, if_neg h5] at hf
  cases hf
theorem write_any (m : Msg) (dv : Value) (w : World) (hd : RSl dv m.digest w) (hm : m.Ok) (hE : ErrT w) :
    Calls Tryz.prog 9 #[m.val dv] w (RetBE w.heap.size w (writeS m)) := by
  cases hf : formS m with
  | false => exact write_bad m dv w hd hf
  | true =>
    obtain ⟨k, fl, cr, ch, nm, st, dg⟩ := m
    obtain ⟨f0, f1, r0, r1, h0, h1, nz, sz, dz⟩ := hm
    simp only at *
    have hk := formS_kind hf
    simp only at hk
    rcases hk with rfl | rfl | rfl | rfl | rfl
    · exact write_1 fl cr ch nm st dg dv w hd r0 r1 h0 h1 nz hE hf
    · exact write_2 fl cr ch nm st dg dv w hd sz hf
    · exact write_3 fl cr ch nm st dg dv w hd r0 r1 h0 h1 nz hE hf
    · exact write_4 fl cr ch nm st dg dv w hd h0 h1 dz hf
    · exact write_5 fl cr ch nm st dg dv w hd dz hf
end Go.Proofs.YtokkokgdjnkbnaaGreatDoor
end
section
/- Layer 8, plain: what is written is read as it was. -/
open Go Go.RowKit
namespace Go.Proofs.YtokkokgdjnkbnaaGreatDoor

theorem emp_eq {s : ByteArray} (h : emp s = true) : s = ⟨#[]⟩ := by
  unfold emp at h
  rw [toList_data] at h
  obtain ⟨⟨l⟩⟩ := s
  cases l with
  | nil => rfl
  | cons a l => cases h
theorem toArr (s : ByteArray) : (⟨s.data.toList.toArray⟩ : ByteArray) = s := by obtain ⟨⟨l⟩⟩ := s; rfl
theorem cut_mid {a l c : List UInt8} {x n : Nat} (ha : a.length = x) (hl : l.length = n) : cutB (a ++ (l ++ c)) x n = l := by
  subst ha hl; unfold cutB; rw [List.drop_left, List.take_left]
theorem numS_back {n : Int} {k : Nat} (h0 : 0 ≤ n) (h1 : n < 256 ^ k) : numS (beN n k) = n := by rw [numS_beN, Int.emod_eq_of_lt h0 h1]
theorem len0 {l : List UInt8} (h : (l.length == 0) = true) : l = [] := List.eq_nil_of_length_eq_zero (by simpa using h)

theorem readS_1 (b : List UInt8) (n : Nat) (hh : b.head? = some 78) (hn : numS (cutB b 13 2) = n) (hl : b.length = 15 + n) (hd : (nodeS ⟨(b.drop 15).toArray⟩).2.2 = []) :
    readS 1 b = (⟨1, numS (cutB b 1 8), numS (cutB b 9 4), 0, ⟨(b.drop 15).toArray⟩, ⟨#[]⟩, []⟩, []) := by
  unfold readS
  rw [if_neg (by omega), if_neg (by rw [hh]; decide), if_neg (by omega), if_neg (by show ¬ b.length < 15; omega), if_neg (by omega)]
  show (if b.length < 15 + (numS (cutB b 13 2)).toNat then _ else if 15 + (numS (cutB b 13 2)).toNat < b.length then _ else if (nodeS ⟨(b.drop 15).toArray⟩).2.2 ≠ [] then _ else _) = _
  rw [hn, Int.toNat_natCast, if_neg (by omega), if_neg (by omega), if_neg (by simp [hd])]
  rfl
theorem readS_3 (b : List UInt8) (n : Nat) (hh : b.head? = some 78) (hn : numS (cutB b 17 2) = n) (hl : b.length = 19 + n) (hd : (nodeS ⟨(b.drop 19).toArray⟩).2.2 = []) :
    readS 3 b = (⟨3, numS (cutB b 1 8), numS (cutB b 13 4), numS (cutB b 9 4), ⟨(b.drop 19).toArray⟩, ⟨#[]⟩, []⟩, []) := by
  unfold readS
  rw [if_neg (by omega), if_neg (by rw [hh]; decide), if_neg (by omega), if_neg (by show ¬ b.length < 19; omega), if_neg (by omega)]
  show (if b.length < 19 + (numS (cutB b 17 2)).toNat then _ else if 19 + (numS (cutB b 17 2)).toNat < b.length then _ else if (nodeS ⟨(b.drop 19).toArray⟩).2.2 ≠ [] then _ else _) = _
  rw [hn, Int.toNat_natCast, if_neg (by omega), if_neg (by omega), if_neg (by simp [hd])]
  rfl
theorem readS_4 (b : List UInt8) (hh : b.head? = some 114) (hl : b.length = 21) : readS 4 b = (⟨4, 0, 0, numS (cutB b 1 4), ⟨#[]⟩, ⟨#[]⟩, b.drop 5⟩, []) := by
  unfold readS
  rw [if_neg (by omega), if_neg (by rw [hh]; decide), if_neg (by omega), if_neg (by show ¬ b.length < 21; omega), if_pos (by omega), if_pos (by show b.length = 21; exact hl)]
  rfl
theorem readS_5 (b : List UInt8) (hh : b.head? = some 97) (hl : b.length = 17) : readS 5 b = (⟨5, 0, 0, 0, ⟨#[]⟩, ⟨#[]⟩, b.drop 1⟩, []) := by
  unfold readS
  rw [if_neg (by omega), if_neg (by rw [hh]; decide), if_neg (by omega), if_neg (by show ¬ b.length < 17; omega), if_pos (by omega), if_pos (by show b.length = 17; exact hl)]
  rfl

theorem read_write (m : Msg) (hm : m.Ok) (h : (writeS m).2 = []) : readS m.kind (writeS m).1 = (m, []) := by
  obtain ⟨kd, fl, cr, ch, nm, st, dg⟩ := m
  obtain ⟨f0, f1, r0, r1, h0, h1, _, _, _⟩ := hm
  simp only at f0 f1 r0 r1 h0 h1
  have hf : formS ⟨kd, fl, cr, ch, nm, st, dg⟩ = true := by
    cases hf : formS ⟨kd, fl, cr, ch, nm, st, dg⟩ with
    | true => rfl
    | false => unfold writeS at h; rw [if_pos hf] at h; cases h
  have hw : writeS ⟨kd, fl, cr, ch, nm, st, dg⟩ = if kd = 2 then (115 :: st.data.toList, []) else if kd = 4 then (114 :: (beN ch 4 ++ dg), []) else if kd = 5 then (97 :: dg, []) else if (nodeS nm).2.2 ≠ [] then ([], [⟨shakeL, 0, 24⟩, ⟨atomL, 0, 24⟩])
      else (78 :: (beN fl 8 ++ (if kd = 3 then beN ch 4 else []) ++ beN cr 4 ++ beN nm.size 2 ++ nm.data.toList), []) := by
    unfold writeS; rw [if_neg (by simp [hf])]
  rw [hw] at h ⊢
  unfold formS at hf
  simp only at hf ⊢
  have hnl : nm.data.toList.length = nm.size := rfl
  split at hf
  · rename_i hk
    subst hk
    simp only [Bool.and_eq_true, beq_iff_eq] at hf
    obtain ⟨⟨rfl, hs⟩, hd⟩ := hf
    obtain rfl := emp_eq hs
    obtain rfl := List.eq_nil_of_length_eq_zero hd
    rw [if_neg (by decide), if_neg (by decide), if_neg (by decide)] at h ⊢
    have hno : (nodeS nm).2.2 = [] := by
      rcases nodeS_two nm with h2 | h2
      · exact h2
      · rw [if_pos (by simp [h2])] at h; cases h
    have hsz := nodeS_size nm hno
    rw [if_neg (by simp [hno]), if_neg (by decide)]
    simp only [List.append_nil]
    have e1 : ∀ c, 78 :: (beN fl 8 ++ beN cr 4 ++ beN nm.size 2 ++ nm.data.toList) = c → cutB c 1 8 = beN fl 8 ∧ cutB c 9 4 = beN cr 4 ∧ cutB c 13 2 = beN nm.size 2 ∧ c.drop 15 = nm.data.toList ∧ c.length = 15 + nm.size ∧ c.head? = some 78 := by
      rintro c rfl
      refine ⟨?_, ?_, ?_, ?_, ?_, rfl⟩
      · rw [show 78 :: (beN fl 8 ++ beN cr 4 ++ beN nm.size 2 ++ nm.data.toList) = [78] ++ (beN fl 8 ++ (beN cr 4 ++ beN nm.size 2 ++ nm.data.toList)) by simp]
        exact cut_mid rfl (beN_length _ _)
      · rw [show 78 :: (beN fl 8 ++ beN cr 4 ++ beN nm.size 2 ++ nm.data.toList) = ([78] ++ beN fl 8) ++ (beN cr 4 ++ (beN nm.size 2 ++ nm.data.toList)) by simp]
        exact cut_mid (by simp [beN_length]) (beN_length _ _)
      · rw [show 78 :: (beN fl 8 ++ beN cr 4 ++ beN nm.size 2 ++ nm.data.toList) = ([78] ++ beN fl 8 ++ beN cr 4) ++ (beN nm.size 2 ++ nm.data.toList) by simp]
        exact cut_mid (by simp [beN_length]) (beN_length _ _)
      · rw [show 78 :: (beN fl 8 ++ beN cr 4 ++ beN nm.size 2 ++ nm.data.toList) = ([78] ++ beN fl 8 ++ beN cr 4 ++ beN nm.size 2) ++ nm.data.toList by simp]
        exact List.drop_left' (by simp [beN_length])
      · simp [beN_length, hnl]; omega
    generalize 78 :: (beN fl 8 ++ beN cr 4 ++ beN nm.size 2 ++ nm.data.toList) = c at *
    obtain ⟨x1, x2, x3, x4, x5, x6⟩ := e1 c rfl
    have hnn : numS (cutB c 13 2) = nm.size := by rw [x3]; exact numS_back (by omega) (by show (nm.size : Int) < 65536; omega)
    rw [readS_1 c nm.size x6 hnn x5 (by rw [x4, toArr]; exact hno), x1, x2, x4, toArr, numS_back f0 (by simpa using f1), numS_back r0 (by simpa using r1)]
  · split at hf
    · rename_i _ hk
      subst hk
      simp only [Bool.and_eq_true, beq_iff_eq] at hf
      obtain ⟨⟨⟨⟨⟨rfl, rfl⟩, hn⟩, rfl⟩, hs⟩, hd⟩ := hf
      obtain rfl := emp_eq hn
      obtain rfl := List.eq_nil_of_length_eq_zero hd
      rw [if_pos rfl]
      unfold readS
      rw [if_neg (by omega), if_neg (by show ¬ some (115 : UInt8) ≠ some (letS 2); decide), if_pos rfl]
      simp only [List.drop_succ_cons, List.drop_zero, toArr]
      rw [if_pos hs]
    · split at hf
      · rename_i _ _ hk
        subst hk
        simp only [Bool.and_eq_true, beq_iff_eq] at hf
        obtain ⟨hs, hd⟩ := hf
        obtain rfl := emp_eq hs
        obtain rfl := List.eq_nil_of_length_eq_zero hd
        rw [if_neg (by decide), if_neg (by decide), if_neg (by decide)] at h ⊢
        have hno : (nodeS nm).2.2 = [] := by
          rcases nodeS_two nm with h2 | h2
          · exact h2
          · rw [if_pos (by simp [h2])] at h; cases h
        have hsz := nodeS_size nm hno
        rw [if_neg (by simp [hno]), if_pos rfl]
        have e1 : ∀ c, 78 :: (beN fl 8 ++ beN ch 4 ++ beN cr 4 ++ beN nm.size 2 ++ nm.data.toList) = c → cutB c 1 8 = beN fl 8 ∧ cutB c 9 4 = beN ch 4 ∧ cutB c 13 4 = beN cr 4 ∧ cutB c 17 2 = beN nm.size 2 ∧ c.drop 19 = nm.data.toList ∧ c.length = 19 + nm.size ∧ c.head? = some 78 := by
          rintro c rfl
          refine ⟨?_, ?_, ?_, ?_, ?_, ?_, rfl⟩
          · rw [show 78 :: (beN fl 8 ++ beN ch 4 ++ beN cr 4 ++ beN nm.size 2 ++ nm.data.toList) = [78] ++ (beN fl 8 ++ (beN ch 4 ++ beN cr 4 ++ beN nm.size 2 ++ nm.data.toList)) by simp]
            exact cut_mid rfl (beN_length _ _)
          · rw [show 78 :: (beN fl 8 ++ beN ch 4 ++ beN cr 4 ++ beN nm.size 2 ++ nm.data.toList) = ([78] ++ beN fl 8) ++ (beN ch 4 ++ (beN cr 4 ++ beN nm.size 2 ++ nm.data.toList)) by simp]
            exact cut_mid (by simp [beN_length]) (beN_length _ _)
          · rw [show 78 :: (beN fl 8 ++ beN ch 4 ++ beN cr 4 ++ beN nm.size 2 ++ nm.data.toList) = ([78] ++ beN fl 8 ++ beN ch 4) ++ (beN cr 4 ++ (beN nm.size 2 ++ nm.data.toList)) by simp]
            exact cut_mid (by simp [beN_length]) (beN_length _ _)
          · rw [show 78 :: (beN fl 8 ++ beN ch 4 ++ beN cr 4 ++ beN nm.size 2 ++ nm.data.toList) = ([78] ++ beN fl 8 ++ beN ch 4 ++ beN cr 4) ++ (beN nm.size 2 ++ nm.data.toList) by simp]
            exact cut_mid (by simp [beN_length]) (beN_length _ _)
          · rw [show 78 :: (beN fl 8 ++ beN ch 4 ++ beN cr 4 ++ beN nm.size 2 ++ nm.data.toList) = ([78] ++ beN fl 8 ++ beN ch 4 ++ beN cr 4 ++ beN nm.size 2) ++ nm.data.toList by simp]
            exact List.drop_left' (by simp [beN_length])
          · simp [beN_length, hnl]; omega
        generalize 78 :: (beN fl 8 ++ beN ch 4 ++ beN cr 4 ++ beN nm.size 2 ++ nm.data.toList) = c at *
        obtain ⟨x1, x2, x3, x4, x5, x6, x7⟩ := e1 c rfl
        have hnn : numS (cutB c 17 2) = nm.size := by rw [x4]; exact numS_back (by omega) (by show (nm.size : Int) < 65536; omega)
        rw [readS_3 c nm.size x7 hnn x6 (by rw [x5, toArr]; exact hno), x1, x2, x3, x5, toArr, numS_back f0 (by simpa using f1), numS_back r0 (by simpa using r1), numS_back h0 (by simpa using h1)]
      · split at hf
        · rename_i _ _ _ hk
          subst hk
          simp only [Bool.and_eq_true, beq_iff_eq] at hf
          obtain ⟨⟨⟨⟨rfl, rfl⟩, hn⟩, hs⟩, hd⟩ := hf
          obtain rfl := emp_eq hn
          obtain rfl := emp_eq hs
          rw [if_neg (by decide), if_pos rfl]
          rw [readS_4 _ rfl (by simp [beN_length, hd]), show cutB (114 :: (beN ch 4 ++ dg)) 1 4 = beN ch 4 from (show 114 :: (beN ch 4 ++ dg) = [114] ++ (beN ch 4 ++ dg) from rfl) ▸ cut_mid rfl (beN_length _ _), numS_back h0 (by simpa using h1),
            show (114 :: (beN ch 4 ++ dg)).drop 5 = dg from (show 114 :: (beN ch 4 ++ dg) = ([114] ++ beN ch 4) ++ dg by simp) ▸ List.drop_left' (by simp [beN_length])]
        · split at hf
          · rename_i _ _ _ _ hk
            subst hk
            simp only [Bool.and_eq_true, beq_iff_eq] at hf
            obtain ⟨⟨⟨⟨⟨rfl, rfl⟩, hn⟩, rfl⟩, hs⟩, hd⟩ := hf
            obtain rfl := emp_eq hn
            obtain rfl := emp_eq hs
            rw [if_neg (by decide), if_neg (by decide), if_pos rfl, readS_5 _ rfl (by simp [hd])]
            rfl
          · cases hf
end Go.Proofs.YtokkokgdjnkbnaaGreatDoor
end
