/- Texts laid together: EdP, EdQ, EpA, EpB, EpC, EpD, EdR. -/
import Derived.Test.YtlahagabcnmdiaaDoorQ24
import Derived.Test.YtlahagabcnmdiaaDoorQ11
section
/- Package etf: Whole, with no table. Printed by wip/edp.py. -/
open Go Go.RowKit
namespace Go.Proofs.YtlahagabcnmdiaaDoor
set_option linter.unusedVariables false
set_option linter.unusedSimpArgs false

/-- P4.3 -/
def wholeS (l : List UInt8) : Res Tm :=
  match readS l with
  | .ok t st => if st.at_ < l.length then .bad [⟨etfL, st.at_, 86⟩] else .ok t st
  | .bad k => .bad k
def WholeR (w : World) (r : Res Tm) (e : Ending) (w' : World) : Prop :=
  match r with
  | .ok t st => ∃ vs, e = .returned (.tuple #[.agg vs.toArray, .nilIface]) ∧ TmAt (fun q => w.heap.size ≤ q) t vs w' ∧ Below w.heap.size w w'
  | .bad k => ∃ b, e = .returned (.tuple #[.agg termZ.toArray, .iface 92 (.pointer (some ⟨b, 0, none⟩))]) ∧ ErrIs w' (.iface 92 (.pointer (some ⟨b, 0, none⟩))) k ∧ k ≠ [] ∧ Below w.heap.size w w'
theorem readS_at {l : List UInt8} {t : Tm} {st : Rd} (h : readS l = .ok t st) : True := trivial
set_option maxHeartbeats 8000000 in
set_option maxRecDepth 100000 in
theorem whole_nil (l : List UInt8) (v : Value) (w : World) (hv : RSl v l w) (hG : Gt w) (hat : ∀ t st, readS l = .ok t st → st.at_ ≤ 65536) : Calls Tryd.prog 28 #[v, .pointer none] w (WholeR w (wholeS l)) := by
  have BX := Lib.hid ((Below.refl w.heap.size w).alloc (Nat.le_refl _) (.cells #[.int .i64 0, .int .i64 0, .string ⟨#[]⟩, .int .u32 0, .slice none 0 0, .slice none 0 0] 30 (0, 0)))
  have R1 := Lib.hid (show Cells (w.alloc (.cells #[.int .i64 0, .int .i64 0, .string ⟨#[]⟩, .int .u32 0, .slice none 0 0, .slice none 0 0] 30 (0, 0))) w.heap.size 30 termZ from Cells.new w 30 termZ)
  have HRD := Lib.hid (read_any l v _ (hv.below BX.out) (hG.below BX.out))
  have HML := Lib.hid hv.le
  obtain ⟨a, c, rfl⟩ : ∃ a c, v = .slice a l.length c := by obtain ⟨a, c, e, _⟩ := hv; exact ⟨a, c, e⟩
  clear hv hG
  go_enter Tryd.func28, Tryd.ntmps28
  go_wp2_with fail
  generalize w.alloc (.cells #[.int .i64 0, .int .i64 0, .string ⟨#[]⟩, .int .u32 0, .slice none 0 0, .slice none 0 0] 30) = w1 at *
  refine HRD.out.mono ?_
  intro e w2 hr
  cases hk : readS l with
  | bad k =>
    rw [hk] at hr
    have HK := Lib.hid (show wholeS l = .bad k by unfold wholeS; rw [hk])
    obtain ⟨b, rfl, he, hne, hb⟩ := hr
    have HE := Lib.hid he
    have HNE := Lib.hid hne
    have R2 := Lib.hid (R1.out.below hb)
    have B2 := Lib.hid (BX.out.trans (hb.mono BX.out.size))
    have BT := Lib.hid ((Below.refl w2.heap.size w2).alloc (Nat.le_refl _) (.cells termZ.toArray 30 (0, 0)))
    have R3 := Lib.hid (R2.out.below BT.out)
    have HE3 := Lib.hid (HE.out.below BT.out)
    have B3 := Lib.hid (B2.out.trans (BT.out.mono B2.out.size))
    clear he hne hb hk HRD hat
    unfold termZ at *
    go_upto_region 9 with (fail)
    generalize w2.alloc (.cells #[.int .i64 0, .int .i64 0, .string ⟨#[]⟩, .int .u32 0, .slice none 0 0, .slice none 0 0] 30) = w3 at *
    go_wp2_with (refine wpList_store_blk rfl _ (.tmp 4) (.tmp 44) rfl w.heap.size 0 [.int .i64 0, .int .i64 0, .string ⟨#[]⟩, .int .u32 0, .slice none 0 0, .slice none 0 0] (by rfl) (by rfl) (by kernel_rfl) (by simp [Value.oneCell']) 30 _ R3.out (by show 0 + 6 ≤ 6; decide) ?_; intro wz hCz hgz; refine stop ?_)
    refine Stopped.of ?_
    have C0 : Cells wz w.heap.size 30 [.int .i64 0, .int .i64 0, .string ⟨#[]⟩, .int .u32 0, .slice none 0 0, .slice none 0 0] := hCz
    have z0 := C0.cell 0
    have z1 := C0.cell 1
    have z2 := C0.cell 2
    have z3 := C0.cell 3
    have z4 := C0.cell 4
    have z5 := C0.cell 5
    simp only [List.getElem?_cons_zero, List.getElem?_cons_succ] at z0 z1 z2 z3 z4 z5
    have KZ := Lib.hid (show Keep (fun q => q = w.heap.size) w3 wz from (Keep.refl _ _).grown hgz (fun k hk _ => by cases hk; rfl))
    clear C0 hCz hgz
    go_wp2
    refine bodyPost_ret (v := .tuple #[.agg #[.int .i64 0, .int .i64 0, .string ⟨#[]⟩, .int .u32 0, .slice none 0 0, .slice none 0 0], .iface 92 (.pointer (some ⟨b, 0, none⟩))]) (by simp [results, Tryd.results28, go_sem, z0, z1, z2, z3, z4, z5]) rfl ?_
    show WholeR w (wholeS l) _ _
    rw [HK.out]
    exact ⟨b, rfl, HE3.out.keepT KZ.out (fun q (hq : q = w.heap.size) => by rw [hq]; exact ⟨_, _, R3.out, by decide⟩), HNE.out, B3.out.trans (KZ.out.toBelow B3.out.size (fun q (hq : q = w.heap.size) => by omega))⟩
  | ok t st =>
    rw [hk] at hr
    have HA := Lib.hid (hat t st hk)
    obtain ⟨vs, av, rfl, ht, has, hao, hb⟩ := hr
    have HT := Lib.hid ht
    obtain ⟨_, nv, a7, cap7, rfl, hnn, _⟩ := ht.parts
    obtain ⟨na7, nc7, rfl, _, _⟩ := hnn.slice
    obtain ⟨a6, c6, rfl⟩ : ∃ a c, av = .slice a st.atoms.length c := by
      rcases has.shape with ⟨rfl, e⟩ | ⟨q, c, rfl, _⟩
      · exact ⟨none, 0, by rw [e]; rfl⟩
      · exact ⟨_, c, rfl⟩
    have R2 := Lib.hid (R1.out.below hb)
    have B2 := Lib.hid (BX.out.trans (hb.mono BX.out.size))
    have BT := Lib.hid ((Below.refl w2.heap.size w2).alloc (Nat.le_refl _) (.cells #[.int .i64 t.kind, .int .i64 t.int, .string t.text, .int .u32 t.cr, .slice na7 t.nums.length nc7, .slice a7 t.args.length cap7] 30 (0, 0)))
    have T3 := Lib.hid (Cells.new w2 30 [.int .i64 t.kind, .int .i64 t.int, .string t.text, .int .u32 t.cr, .slice na7 t.nums.length nc7, .slice a7 t.args.length cap7])
    have R3 := Lib.hid (R2.out.below BT.out)
    have B3 := Lib.hid (B2.out.trans (BT.out.mono B2.out.size))
    have HT3 := Lib.hid (HT.out.below BT.out)
    have HW1 := Lib.hid R1.out.lt
    have HP := Lib.hid (fun W => put_nil (.slice a6 st.atoms.length c6) W)
    have HRO := Lib.hid (fun W => room_nil (.slice a6 st.atoms.length c6) W)
    by_cases hlt : st.at_ < l.length
    · have hli : (st.at_ : Int) < (l.length : Int) := by omega
      have HK := Lib.hid (show wholeS l = .bad [⟨etfL, st.at_, 86⟩] by unfold wholeS; rw [hk]; simp only; rw [if_pos hlt])
      clear ht hnn has hao hb hk HRD hat hlt
      unfold termZ at *
      go_wp2_with fail
      generalize w2.alloc (.cells #[.int .i64 t.kind, .int .i64 t.int, .string t.text, .int .u32 t.cr, .slice na7 t.nums.length nc7, .slice a7 t.args.length cap7] 30) = w3 at *
      refine (HRO.out _).mono ?_
      rintro e w4 ⟨rfl, rfl⟩
      have HFL := Lib.hid (etFault_any st.at_ 86 .nilIface [] w4 rfl)
      go_wp2_with fail
      refine HFL.out.mono ?_
      rintro e w5 ⟨b, rfl, her, hb5⟩
      have HE3 := Lib.hid her
      have R5 := Lib.hid (R3.out.below hb5)
      have B5 := Lib.hid (B3.out.trans (hb5.mono B3.out.size))
      clear her hb5 HFL
      go_wp2_with (refine wpList_store_blk rfl _ (.tmp 4) (.tmp 33) rfl w.heap.size 0 [.int .i64 0, .int .i64 0, .string ⟨#[]⟩, .int .u32 0, .slice none 0 0, .slice none 0 0] (by rfl) (by rfl) (by kernel_rfl) (by simp [Value.oneCell']) 30 _ R5.out (by show 0 + 6 ≤ 6; decide) ?_; intro wz hCz hgz; refine stop ?_)
      refine Stopped.of ?_
      have C0 : Cells wz w.heap.size 30 [.int .i64 0, .int .i64 0, .string ⟨#[]⟩, .int .u32 0, .slice none 0 0, .slice none 0 0] := hCz
      have z0 := C0.cell 0
      have z1 := C0.cell 1
      have z2 := C0.cell 2
      have z3 := C0.cell 3
      have z4 := C0.cell 4
      have z5 := C0.cell 5
      simp only [List.getElem?_cons_zero, List.getElem?_cons_succ] at z0 z1 z2 z3 z4 z5
      have KZ := Lib.hid (show Keep (fun q => q = w.heap.size) w5 wz from (Keep.refl _ _).grown hgz (fun k hk _ => by cases hk; rfl))
      clear C0 hCz hgz
      go_wp2
      refine bodyPost_ret (v := .tuple #[.agg #[.int .i64 0, .int .i64 0, .string ⟨#[]⟩, .int .u32 0, .slice none 0 0, .slice none 0 0], .iface 92 (.pointer (some ⟨b, 0, none⟩))]) (by simp [results, Tryd.results28, go_sem, z0, z1, z2, z3, z4, z5]) rfl ?_
      show WholeR w (wholeS l) _ _
      rw [HK.out]
      exact ⟨b, rfl, HE3.out.keepT KZ.out (fun q (hq : q = w.heap.size) => by rw [hq]; exact ⟨_, _, R5.out, by decide⟩), by simp, B5.out.trans (KZ.out.toBelow B5.out.size (fun q (hq : q = w.heap.size) => by omega))⟩
    · have hli : ¬ (st.at_ : Int) < (l.length : Int) := by omega
      have hli2 : decide ((st.at_ : Int) < (l.length : Int)) = false := by simpa using hli
      have HK := Lib.hid (show wholeS l = .ok t st by unfold wholeS; rw [hk]; simp only; rw [if_neg hlt])
      clear ht hnn has hao hb hk HRD hat hlt
      unfold termZ at *
      go_wp2_with fail
      generalize w2.alloc (.cells #[.int .i64 t.kind, .int .i64 t.int, .string t.text, .int .u32 t.cr, .slice na7 t.nums.length nc7, .slice a7 t.args.length cap7] 30) = w3 at *
      refine (HP.out _).mono ?_
      rintro e w4 ⟨rfl, rfl⟩
      have m0 := T3.out.cell 0
      have m1 := T3.out.cell 1
      have m2 := T3.out.cell 2
      have m3 := T3.out.cell 3
      have m4 := T3.out.cell 4
      have m5 := T3.out.cell 5
      simp only [List.getElem?_cons_zero, List.getElem?_cons_succ] at m0 m1 m2 m3 m4 m5
      go_wp2_with (refine wpList_store_blk rfl _ (.tmp 4) (.tmp 46) rfl w.heap.size 0 [.int .i64 t.kind, .int .i64 t.int, .string t.text, .int .u32 t.cr, .slice na7 t.nums.length nc7, .slice a7 t.args.length cap7] (by rfl) (by rfl) (by kernel_rfl) (by simp [Value.oneCell']) 30 _ R3.out (by show 0 + 6 ≤ 6; decide) ?_; intro wz hCz hgz; refine stop ?_)
      refine Stopped.of ?_
      clear m0 m1 m2 m3 m4 m5
      have C0 : Cells wz w.heap.size 30 [.int .i64 t.kind, .int .i64 t.int, .string t.text, .int .u32 t.cr, .slice na7 t.nums.length nc7, .slice a7 t.args.length cap7] := hCz
      have z0 := C0.cell 0
      have z1 := C0.cell 1
      have z2 := C0.cell 2
      have z3 := C0.cell 3
      have z4 := C0.cell 4
      have z5 := C0.cell 5
      simp only [List.getElem?_cons_zero, List.getElem?_cons_succ] at z0 z1 z2 z3 z4 z5
      have KZ := Lib.hid (show Keep (fun q => q = w.heap.size) w4 wz from (Keep.refl _ _).grown hgz (fun k hk _ => by cases hk; rfl))
      clear C0 hCz hgz
      go_wp2
      refine bodyPost_ret (v := .tuple #[.agg #[.int .i64 t.kind, .int .i64 t.int, .string t.text, .int .u32 t.cr, .slice na7 t.nums.length nc7, .slice a7 t.args.length cap7], .nilIface]) (by simp [results, Tryd.results28, go_sem, z0, z1, z2, z3, z4, z5]) rfl ?_
      show WholeR w (wholeS l) _ _
      rw [HK.out]
      refine ⟨_, rfl, ?_, B3.out.trans (KZ.out.toBelow B3.out.size (fun q (hq : q = w.heap.size) => by omega))⟩
      refine (HT3.out.keep KZ.out (fun q _ hq (e : q = w.heap.size) => ?_)).mono (fun q _ hq => ?_)
      · have := hq.1; have := HW1.out; omega
      · have := hq.1; have := HW1.out; omega
end Go.Proofs.YtlahagabcnmdiaaDoor
end
section
/- Layer 4, plain: where a reading ends; the bytes that everybody may look up. -/
open Go Go.RowKit
namespace Go.Proofs.YtlahagabcnmdiaaDoor
set_option linter.unusedVariables false

/-- a reading goes on, and not too far -/
def Goes (l : List UInt8) {α : Type} (rd : Rd → Res α) : Prop := ∀ st x st2, rd st = .ok x st2 → st.at_ ≤ st2.at_ ∧ (st.at_ = st2.at_ ∨ (st2.at_ ≤ l.length ∧ st2.at_ ≤ 65536))
theorem Goes.bind {l : List UInt8} {α β : Type} {f : Rd → Res α} {g : α → Rd → Res β} (hf : Goes l f) (hg : ∀ x, Goes l (g x)) : Goes l fun st => (f st).bind g := by
  intro st y st2 h
  obtain ⟨x, s1, h1, h2⟩ := bind_ok h
  have k1 := hf _ _ _ h1
  have k2 := hg x _ _ _ h2
  rcases k2.2 with e | e
  · rw [← e]
    exact ⟨k1.1, k1.2⟩
  · exact ⟨Nat.le_trans k1.1 k2.1, .inr e⟩
theorem goes_ok {l : List UInt8} {α : Type} (x : α) : Goes l (fun st => .ok x st) := fun st y st2 h => by cases h; exact ⟨Nat.le_refl _, .inl rfl⟩
theorem goes_bad {l : List UInt8} {α : Type} (k : List Lk) : Goes l (fun _ => (.bad k : Res α)) := fun st y st2 h => by cases h
theorem goes_need (l : List UInt8) (tag n : Nat) : Goes l (needS l tag n) := fun st x st2 h => by
  rcases needS_cases l tag n st with ⟨k, e⟩ | ⟨e, h1, h2⟩
  · rw [e] at h; cases h
  · rw [e] at h; cases h
    exact ⟨Nat.le_add_right _ _, .inr ⟨h1, h2⟩⟩
def knownL : List UInt8 := [131, 104, 2, 119, 2, 111, 107, 108, 0, 0, 0, 2, 97, 1, 98, 255, 255, 255, 255, 106]
def knownT : Tm := .mk 5 0 ⟨#[]⟩ 0 [] [.mk 2 0 ⟨#[111, 107]⟩ 0 [] [], .mk 7 0 ⟨#[]⟩ 0 [] [.mk 1 1 ⟨#[]⟩ 0 [] [], .mk 1 (-1) ⟨#[]⟩ 0 [] [], .mk 6 0 ⟨#[]⟩ 0 [] []]]
theorem known_read : readS (knownL ++ [7]) = .ok knownT ⟨20, 6, [⟨#[111, 107]⟩]⟩ := by kernel_rfl
theorem known_whole : wholeS (knownL ++ [7]) = .bad [⟨etfL, 20, 86⟩] := by kernel_rfl
theorem known_cut : readS [131, 104, 1] = .bad [⟨etfL, 3, 82⟩] := by kernel_rfl
theorem known_enc : encS knownT = (knownL, []) := by kernel_rfl
end Go.Proofs.YtlahagabcnmdiaaDoor
end
section
/- Layer 4, plain: how what is written is read; the small parts. -/
open Go Go.RowKit
namespace Go.Proofs.YtlahagabcnmdiaaDoor
set_option linter.unusedVariables false
set_option linter.unusedSimpArgs false

/-- the bytes B stand in l from i on -/
def At (l : List UInt8) (i : Nat) (B : List UInt8) : Prop := ∃ p r, l = p ++ (B ++ r) ∧ p.length = i
theorem At.split {l A B : List UInt8} {i : Nat} (h : At l i (A ++ B)) : At l i A ∧ At l (i + A.length) B := by
  obtain ⟨p, r, rfl, rfl⟩ := h
  exact ⟨⟨p, B ++ r, by simp, rfl⟩, ⟨p ++ A, r, by simp, by simp⟩⟩
theorem At.len {l B : List UInt8} {i : Nat} (h : At l i B) : i + B.length ≤ l.length := by
  obtain ⟨p, r, rfl, rfl⟩ := h
  simp
theorem At.cut {l B : List UInt8} {i : Nat} (h : At l i B) : cutB l i B.length = B := by
  obtain ⟨p, r, rfl, rfl⟩ := h
  simp [cutB]
theorem At.head {l B : List UInt8} {i : Nat} {a : UInt8} (h : At l i (a :: B)) : l.getD i 0 = a ∧ i < l.length ∧ At l (i + 1) B := by
  obtain ⟨p, r, rfl, rfl⟩ := h
  refine ⟨by simp [List.getD_eq_getElem?_getD], by simp, ⟨p ++ [a], r, by simp, by simp⟩⟩
theorem At.need {l B : List UInt8} {st : Rd} (h : At l st.at_ B) (tag n : Nat) (hn : n ≤ B.length) (hm : st.at_ + n ≤ 65536) : needS l tag n st = .ok () ⟨st.at_ + n, st.part, st.atoms⟩ := by
  have := h.len
  unfold needS
  rw [if_neg (by omega), if_neg (by omega)]
theorem numS_four {n : Int} (h0 : 0 ≤ n) (h1 : n < 4294967296) : (numS (fourB n) : Int) = n := by
  obtain ⟨m, rfl⟩ := Int.eq_ofNat_of_zero_le h0
  unfold numS fourB
  simp only [Int.toNat_natCast, List.foldl_cons, List.foldl_nil, UInt8.toNat_ofNat']
  omega
theorem At.four {l : List UInt8} {st : Rd} {n : Int} (h : At l st.at_ (fourB n)) (tag : Nat) (hm : st.at_ + 4 ≤ 65536) (h0 : 0 ≤ n) (h1 : n < 4294967296) :
    fourS l tag st = .ok n.toNat ⟨st.at_ + 4, st.part, st.atoms⟩ := by
  unfold fourS
  rw [h.need tag 4 (by rw [fourB_len]; omega) hm]
  have h2 := h.cut
  rw [fourB_len] at h2
  have h3 := numS_four h0 h1
  simp only [Res.bind]
  rw [h2]
  congr 1
  omega
theorem At.txt {l B : List UInt8} {st : Rd} {s : ByteArray} (h : At l st.at_ (UInt8.ofNat s.size :: s.data.toList ++ B)) (hs : s.size ≤ 255) (tag behind : Nat) (hb : behind ≤ B.length) (hm : st.at_ + 1 + s.size + behind ≤ 65536) :
    txtS l tag false behind st = .ok s ⟨st.at_ + 1 + s.size, st.part, st.atoms⟩ := by
  rw [List.cons_append] at h
  have hsz : s.data.toList.length = s.size := Array.length_toList
  have e1 : cutB l st.at_ 1 = [UInt8.ofNat s.size] := by
    have h1 : At l st.at_ ([UInt8.ofNat s.size] ++ (s.data.toList ++ B)) := h
    exact h1.split.1.cut
  have e2 : numS [UInt8.ofNat s.size] = s.size := by
    unfold numS
    simp only [List.foldl_cons, List.foldl_nil, UInt8.toNat_ofNat']
    omega
  obtain ⟨_, _, h2⟩ := h.head
  unfold txtS
  simp only [Bool.false_eq_true, if_false]
  rw [h.need tag 1 (by simp) (by omega), e1, e2]
  simp only [Res.bind]
  have h3 : At l (⟨st.at_ + 1, st.part, st.atoms⟩ : Rd).at_ (s.data.toList ++ B) := h2
  rw [h3.need tag (s.size + behind) (by rw [List.length_append]; omega) (by show st.at_ + 1 + (s.size + behind) ≤ 65536; omega)]
  have h4 := h2.split.1.cut
  rw [hsz] at h4
  dsimp only
  rw [h4]
  congr 2
  show st.at_ + 1 + (s.size + behind) - behind = _
  omega
theorem At.nam {l B : List UInt8} {st : Rd} {s : ByteArray} (h : At l st.at_ (atomB s ++ B)) (hs : s.size ≤ 255) (hn : (nodeS s).2.2 = []) (tag behind : Nat) (hb : behind ≤ B.length) (hm : st.at_ + (atomB s).length + behind ≤ 65536) :
    namS l tag behind st = .ok s ⟨st.at_ + (atomB s).length, st.part, st.atoms ++ [s]⟩ := by
  have hsz : (atomB s).length = s.size + 2 := by unfold atomB; rw [List.length_cons, List.length_cons, Array.length_toList]; rfl
  have h0 : At l st.at_ (119 :: (UInt8.ofNat s.size :: s.data.toList ++ B)) := h
  obtain ⟨e1, _, h1⟩ := h0.head
  unfold namS
  rw [h0.need tag 1 (by simp) (by omega)]
  simp only [Res.bind]
  rw [e1, if_neg (by decide)]
  have h2 : At l (⟨st.at_ + 1, st.part, st.atoms⟩ : Rd).at_ (UInt8.ofNat s.size :: s.data.toList ++ B) := h1
  rw [show ((119 : UInt8) == 118) = false by decide, h2.txt hs tag behind hb (by show st.at_ + 1 + 1 + s.size + behind ≤ 65536; omega)]
  dsimp only
  rw [if_neg (by simp [hn]), hsz]
  congr 2
  omega
theorem At.pid {l : List UInt8} {st : Rd} {s : ByteArray} {a b c : Int} (h : At l st.at_ (atomB s ++ fourB a ++ fourB b ++ fourB c)) (hs : s.size ≤ 255) (hn : (nodeS s).2.2 = []) (tag : Nat) (hm : st.at_ + (atomB s ++ fourB a ++ fourB b ++ fourB c).length ≤ 65536)
    (ha : 0 ≤ a ∧ a < 4294967296) (hb : 0 ≤ b ∧ b < 4294967296) (hc : 0 ≤ c ∧ c < 4294967296) :
    pidS l tag st = .ok (.mk 4 0 s c [a, b] []) ⟨st.at_ + (atomB s ++ fourB a ++ fourB b ++ fourB c).length, st.part, st.atoms ++ [s]⟩ := by
  simp only [List.length_append, fourB_len] at hm ⊢
  simp only [List.append_assoc] at h
  unfold pidS
  rw [h.nam hs hn tag 12 (by simp [fourB_len]) (by omega)]
  obtain ⟨_, h1⟩ := h.split
  obtain ⟨h1, h2⟩ := h1.split
  obtain ⟨h2, h3⟩ := h2.split
  rw [fourB_len] at h2 h3
  rw [fourB_len] at h3
  simp only [Res.bind]
  rw [At.four (st := ⟨st.at_ + (atomB s).length, st.part, st.atoms ++ [s]⟩) h1 tag (by dsimp only; omega) ha.1 ha.2]
  dsimp only
  rw [At.four (st := ⟨st.at_ + (atomB s).length + 4, st.part, st.atoms ++ [s]⟩) h2 tag (by dsimp only; omega) hb.1 hb.2]
  dsimp only
  rw [At.four (st := ⟨st.at_ + (atomB s).length + 4 + 4, st.part, st.atoms ++ [s]⟩) h3 tag (by dsimp only; omega) hc.1 hc.2]
  dsimp only
  rw [Int.toNat_of_nonneg ha.1, Int.toNat_of_nonneg hb.1, Int.toNat_of_nonneg hc.1]
  simp only [Nat.add_assoc]
theorem fours_len (ns : List Int) : (ns.flatMap fourB).length = 4 * ns.length := by
  induction ns with
  | nil => rfl
  | cons x r ih => rw [List.flatMap_cons, List.length_append, ih, fourB_len, List.length_cons]; omega
theorem At.nums {l : List UInt8} (tag : Nat) : ∀ {ns : List Int} {st : Rd}, At l st.at_ (ns.flatMap fourB) → (∀ x ∈ ns, 0 ≤ x ∧ x < 4294967296) → st.at_ + 4 * ns.length ≤ 65536 →
    numsS l tag ns.length st = .ok ns ⟨st.at_ + 4 * ns.length, st.part, st.atoms⟩
  | [], st, h, hb, hm => by rw [List.length_nil, numsS]; rfl
  | x :: r, st, h, hb, hm => by
    rw [List.flatMap_cons] at h
    rw [List.length_cons] at hm ⊢
    obtain ⟨h1, h2⟩ := h.split
    rw [fourB_len] at h2
    have hx := hb x (List.mem_cons_self ..)
    rw [numsS, h1.four tag (by omega) hx.1 hx.2]
    simp only [Res.bind]
    rw [At.nums tag (st := ⟨st.at_ + 4, st.part, st.atoms⟩) h2 (fun y hy => hb y (List.mem_cons_of_mem _ hy)) (by dsimp only; omega)]
    dsimp only
    rw [Int.toNat_of_nonneg hx.1]
    congr 2
    omega
theorem At.ref {l : List UInt8} {st : Rd} {s : ByteArray} {c : Int} {ns : List Int} (h : At l st.at_ (0 :: 3 :: (atomB s ++ fourB c ++ ns.flatMap fourB))) (hs : s.size ≤ 255) (hn : (nodeS s).2.2 = []) (tag : Nat) (hm : st.at_ + (0 :: 3 :: (atomB s ++ fourB c ++ ns.flatMap fourB)).length ≤ 65536)
    (hc : 0 ≤ c ∧ c < 4294967296) (hns : ∀ x ∈ ns, 0 ≤ x ∧ x < 4294967296) (h3 : ns.length = 3) :
    refS l tag st = .ok (.mk 3 0 s c ns []) ⟨st.at_ + (0 :: 3 :: (atomB s ++ fourB c ++ ns.flatMap fourB)).length, st.part, st.atoms ++ [s]⟩ := by
  simp only [List.length_append, List.length_cons, fourB_len, fours_len, h3] at hm ⊢
  simp only [List.append_assoc] at h
  unfold refS
  rw [h.need tag 2 (by simp) (by omega)]
  obtain ⟨e0, _, h⟩ := h.head
  obtain ⟨e1, _, h⟩ := h.head
  simp only [Res.bind]
  rw [e0, e1, if_neg (by decide)]
  have hh : At l (⟨st.at_ + 2, st.part, st.atoms⟩ : Rd).at_ (atomB s ++ (fourB c ++ ns.flatMap fourB)) := h
  rw [hh.nam hs hn tag 16 (by rw [List.length_append, fourB_len, fours_len, h3]; omega) (by dsimp only; omega)]
  obtain ⟨_, h1⟩ := hh.split
  obtain ⟨h1, h2⟩ := h1.split
  rw [fourB_len] at h2
  dsimp only at h1 h2 ⊢
  rw [At.four (st := ⟨st.at_ + 2 + (atomB s).length, st.part, st.atoms ++ [s]⟩) h1 tag (by dsimp only; omega) hc.1 hc.2]
  dsimp only
  have h5 := At.nums tag (st := ⟨st.at_ + 2 + (atomB s).length + 4, st.part, st.atoms ++ [s]⟩) h2 hns (by dsimp only; omega)
  rw [h3] at h5
  rw [h5]
  dsimp only
  rw [Int.toNat_of_nonneg hc.1]
  congr 2
  omega
mutual
/-- what is written of a term that is read again; f: how much deeper it may go -/
def fineT : Tm → Nat → Prop
  | .mk k i s c ns al, f => partS (.mk k i s c ns al) 0 = [] ∧ wideI k i = false ∧ (0 ≤ c ∧ c < 4294967296) ∧ (∀ x ∈ ns, 0 ≤ x ∧ x < 4294967296) ∧ 1 ≤ f ∧ fineL al (f - 1)
def fineL : List Tm → Nat → Prop
  | [], _ => True
  | t :: r, f => fineT t f ∧ fineL r f
end
mutual
/-- the atoms that stand in a term's bytes -/
def atomsT : Tm → List ByteArray
  | .mk k _ s _ _ al => (if k = 2 ∨ k = 3 ∨ k = 4 then [s] else []) ++ atomsL al
def atomsL : List Tm → List ByteArray
  | [] => []
  | t :: r => atomsT t ++ atomsL r
end
theorem encTL_app (a b : List Tm) : encTL (a ++ b) = encTL a ++ encTL b := by
  induction a with
  | nil => rw [List.nil_append, encTL]; rfl
  | cons t r ih => rw [List.cons_append, encTL, encTL, ih, List.append_assoc]
theorem sizeTL_app (a b : List Tm) : sizeTL (a ++ b) = sizeTL a + sizeTL b := by
  induction a with
  | nil => rw [List.nil_append, sizeTL]; omega
  | cons t r ih => rw [List.cons_append, sizeTL, sizeTL, ih]; omega
theorem atomsL_app (a b : List Tm) : atomsL (a ++ b) = atomsL a ++ atomsL b := by
  induction a with
  | nil => rw [List.nil_append, atomsL]; rfl
  | cons t r ih => rw [List.cons_append, atomsL, atomsL, ih, List.append_assoc]
theorem fineL_app (a b : List Tm) (f : Nat) : fineL (a ++ b) f ↔ fineL a f ∧ fineL b f := by
  induction a with
  | nil => rw [List.nil_append, fineL]; simp
  | cons t r ih => rw [List.cons_append, fineL, fineL, ih]; simp only [and_assoc]
theorem length_le_sizeTL : ∀ al : List Tm, al.length ≤ sizeTL al
  | [] => by rw [sizeTL]; exact Nat.le_refl _
  | .mk k i s c ns a :: r => by
    rw [sizeTL, sizeT, List.length_cons]
    have := length_le_sizeTL r
    omega
end Go.Proofs.YtlahagabcnmdiaaDoor
end
section
/- Layer 4, plain: a term that is written is read as itself. -/
open Go Go.RowKit
namespace Go.Proofs.YtlahagabcnmdiaaDoor
set_option linter.unusedVariables false
set_option linter.unusedSimpArgs false

theorem partS_form {t : Tm} {a : Int} (h : partS t a = []) : formS t = true := by
  unfold partS at h
  split at h
  · cases h
  · rename_i h1; simpa using h1
theorem partS_iff (k i : Int) (s : ByteArray) (c : Int) (ns : List Int) (al : List Tm) : partS (.mk k i s c ns al) 0 = [] ↔
    (k = 1 ∧ s = ⟨#[]⟩ ∧ ns = [] ∧ c = 0 ∧ al = [] ∧ -576460752303423488 ≤ i ∧ i ≤ 576460752303423487) ∨
    (k = 2 ∧ i = 0 ∧ (quoteS s).2 = [] ∧ ns = [] ∧ c = 0 ∧ al = []) ∨
    (k = 3 ∧ i = 0 ∧ (nodeS s).2.2 = [] ∧ ns.length = 3 ∧ al = []) ∨
    (k = 4 ∧ i = 0 ∧ (nodeS s).2.2 = [] ∧ ns.length = 2 ∧ al = []) ∨
    (k = 5 ∧ i = 0 ∧ s = ⟨#[]⟩ ∧ ns = [] ∧ c = 0) ∨
    (k = 6 ∧ i = 0 ∧ s = ⟨#[]⟩ ∧ ns = [] ∧ c = 0 ∧ al = []) ∨
    (k = 7 ∧ i = 0 ∧ s = ⟨#[]⟩ ∧ ns = [] ∧ c = 0 ∧ 2 ≤ al.length ∧ lastOk al = true) := by
  have hE : ∀ (k i : Int) (s : ByteArray) (c : Int) (nn an : Nat) (tx nu ar : Bool), emptyS k i s c nn an tx nu ar = true ↔ ((tx = true ∨ s = ⟨#[]⟩) ∧ (nu = true ∨ (nn = 0 ∧ c = 0)) ∧ (ar = true ∨ an = 0) ∧ (k = 1 ∨ i = 0)) := by
    intro k i s c nn an tx nu ar
    unfold emptyS
    simp only [Bool.and_eq_true, Bool.or_eq_true, decide_eq_true_eq, and_assoc]
  have hF : formS (.mk k i s c ns al) = true ↔ (k = 1 ∧ s = ⟨#[]⟩ ∧ ns = [] ∧ c = 0 ∧ al = []) ∨ (k = 2 ∧ i = 0 ∧ ns = [] ∧ c = 0 ∧ al = []) ∨ (k = 3 ∧ i = 0 ∧ ns.length = 3 ∧ al = []) ∨ (k = 4 ∧ i = 0 ∧ ns.length = 2 ∧ al = []) ∨ (k = 5 ∧ i = 0 ∧ s = ⟨#[]⟩ ∧ ns = [] ∧ c = 0) ∨ (k = 6 ∧ i = 0 ∧ s = ⟨#[]⟩ ∧ ns = [] ∧ c = 0 ∧ al = []) ∨ (k = 7 ∧ i = 0 ∧ s = ⟨#[]⟩ ∧ ns = [] ∧ c = 0 ∧ 2 ≤ al.length ∧ lastOk al = true) := by
    show (if k = 1 then emptyS k i s c ns.length al.length false false false else if k = 2 then emptyS k i s c ns.length al.length true false false else if k = 3 then emptyS k i s c ns.length al.length true true false && decide (ns.length = 3) else if k = 4 then emptyS k i s c ns.length al.length true true false && decide (ns.length = 2) else if k = 5 then emptyS k i s c ns.length al.length false false true else if k = 6 then emptyS k i s c ns.length al.length false false false else if k = 7 then emptyS k i s c ns.length al.length false false true && decide (2 ≤ al.length) && lastOk al else false) = true ↔ _
    by_cases h1 : k = 1
    · subst h1
      rw [if_pos rfl, hE]
      simp [List.length_eq_zero_iff, and_assoc]
    · rw [if_neg h1]
      by_cases h2 : k = 2
      · subst h2
        rw [if_pos rfl, hE]
        simp [List.length_eq_zero_iff, and_assoc]
        constructor
        · rintro ⟨e1, e2, e3, e4⟩; exact ⟨e4, e1, e2, e3⟩
        · rintro ⟨e4, e1, e2, e3⟩; exact ⟨e1, e2, e3, e4⟩
      · rw [if_neg h2]
        by_cases h3 : k = 3
        · subst h3
          rw [if_pos rfl, Bool.and_eq_true, hE]
          simp [List.length_eq_zero_iff, and_assoc]
          constructor
          · rintro ⟨e1, e2, e3⟩; exact ⟨e2, e3, e1⟩
          · rintro ⟨e2, e3, e1⟩; exact ⟨e1, e2, e3⟩
        · rw [if_neg h3]
          by_cases h4 : k = 4
          · subst h4
            rw [if_pos rfl, Bool.and_eq_true, hE]
            simp [List.length_eq_zero_iff, and_assoc]
            constructor
            · rintro ⟨e1, e2, e3⟩; exact ⟨e2, e3, e1⟩
            · rintro ⟨e2, e3, e1⟩; exact ⟨e1, e2, e3⟩
          · rw [if_neg h4]
            by_cases h5 : k = 5
            · subst h5
              rw [if_pos rfl, hE]
              simp [List.length_eq_zero_iff, and_assoc]
              constructor
              · rintro ⟨e1, e2, e3, e4⟩; exact ⟨e4, e1, e2, e3⟩
              · rintro ⟨e4, e1, e2, e3⟩; exact ⟨e1, e2, e3, e4⟩
            · rw [if_neg h5]
              by_cases h6 : k = 6
              · subst h6
                rw [if_pos rfl, hE]
                simp [List.length_eq_zero_iff, and_assoc]
                constructor
                · rintro ⟨e1, e2, e3, e4, e5⟩; exact ⟨e5, e1, e2, e3, e4⟩
                · rintro ⟨e5, e1, e2, e3, e4⟩; exact ⟨e1, e2, e3, e4, e5⟩
              · rw [if_neg h6]
                by_cases h7 : k = 7
                · subst h7
                  rw [if_pos rfl, Bool.and_eq_true, Bool.and_eq_true, hE]
                  simp [List.length_eq_zero_iff, and_assoc]
                  constructor
                  · rintro ⟨e1, e2, e3, e4, e5, e6⟩; exact ⟨e4, e1, e2, e3, e5, e6⟩
                  · rintro ⟨e4, e1, e2, e3, e5, e6⟩; exact ⟨e1, e2, e3, e4, e5, e6⟩
                · rw [if_neg h7]; simp [h1, h2, h3, h4, h5, h6, h7]
  constructor
  · intro h
    have hf := hF.1 (partS_form h)
    have hfalse : formS (.mk k i s c ns al) ≠ false := by rw [partS_form h]; decide
    unfold partS at h
    rw [if_neg hfalse] at h
    replace h : (if k = 1 then (if i < -576460752303423488 ∨ 576460752303423487 < i then [⟨termL, 0, 2⟩] else []) else if k = 2 then overL 0 (quoteS s).2 else if k = 3 ∨ k = 4 then overL 0 (nodeS s).2.2 else []) = [] := h
    rcases hf with ⟨rfl, e⟩ | ⟨rfl, e1, e⟩ | ⟨rfl, e1, e⟩ | ⟨rfl, e1, e⟩ | e | e | e
    · rw [if_pos rfl] at h
      split at h
      · cases h
      · exact .inl ⟨rfl, e.1, e.2.1, e.2.2.1, e.2.2.2, by omega, by omega⟩
    · rw [if_neg (by decide), if_pos rfl, overL_nil] at h
      exact .inr (.inl ⟨rfl, e1, h, e⟩)
    · rw [if_neg (by decide), if_neg (by decide), if_pos (.inl rfl), overL_nil] at h
      exact .inr (.inr (.inl ⟨rfl, e1, h, e⟩))
    · rw [if_neg (by decide), if_neg (by decide), if_pos (.inr rfl), overL_nil] at h
      exact .inr (.inr (.inr (.inl ⟨rfl, e1, h, e⟩)))
    · exact .inr (.inr (.inr (.inr (.inl e))))
    · exact .inr (.inr (.inr (.inr (.inr (.inl e)))))
    · exact .inr (.inr (.inr (.inr (.inr (.inr e)))))
  · intro h
    have hf : formS (.mk k i s c ns al) = true := hF.2 (by
      rcases h with ⟨e1, e2, e3, e4, e5, _⟩ | ⟨e1, e2, _, e3⟩ | ⟨e1, e2, _, e3⟩ | ⟨e1, e2, _, e3⟩ | e | e | e
      · exact .inl ⟨e1, e2, e3, e4, e5⟩
      · exact .inr (.inl ⟨e1, e2, e3⟩)
      · exact .inr (.inr (.inl ⟨e1, e2, e3⟩))
      · exact .inr (.inr (.inr (.inl ⟨e1, e2, e3⟩)))
      · exact .inr (.inr (.inr (.inr (.inl e))))
      · exact .inr (.inr (.inr (.inr (.inr (.inl e)))))
      · exact .inr (.inr (.inr (.inr (.inr (.inr e))))))
    unfold partS
    rw [if_neg (by rw [hf]; decide)]
    show (if k = 1 then (if i < -576460752303423488 ∨ 576460752303423487 < i then [⟨termL, 0, 2⟩] else []) else if k = 2 then overL 0 (quoteS s).2 else if k = 3 ∨ k = 4 then overL 0 (nodeS s).2.2 else []) = []
    rcases h with ⟨rfl, _, _, _, _, e1, e2⟩ | ⟨rfl, _, e, _⟩ | ⟨rfl, _, e, _⟩ | ⟨rfl, _, e, _⟩ | ⟨rfl, _⟩ | ⟨rfl, _⟩ | ⟨rfl, _⟩
    · rw [if_pos rfl, if_neg (by omega)]
    · rw [if_neg (by decide), if_pos rfl, overL_nil]; exact e
    · rw [if_neg (by decide), if_neg (by decide), if_pos (.inl rfl), overL_nil]; exact e
    · rw [if_neg (by decide), if_neg (by decide), if_pos (.inr rfl), overL_nil]; exact e
    · rfl
    · rfl
    · rfl
theorem tagB_of {k : UInt8} (h : k ∈ [97, 98, 119, 104, 105, 106, 108, 88, 90]) : tagB k = true := by
  simp only [List.mem_cons, List.not_mem_nil, or_false] at h
  rcases h with rfl | rfl | rfl | rfl | rfl | rfl | rfl | rfl | rfl <;> decide
/-- a part's beginning -/
theorem termS_go {l : List UInt8} {f : Nat} {st : Rd} {k : UInt8} {B : List UInt8} (h : At l st.at_ (k :: B)) (hp : st.part < 4096) (hk : tagB k = true) (hm : st.at_ + 1 ≤ 65536) :
    termS l (f + 1) st = bodyS l (termS l f) st.at_ k ⟨st.at_ + 1, st.part + 1, st.atoms⟩ := by
  obtain ⟨e, h1, _⟩ := h.head
  rw [termS, if_neg (by omega), if_neg (by omega), e, hk, if_neg (by decide)]
  rw [At.need (st := ⟨st.at_, st.part + 1, st.atoms⟩) h st.at_ 1 (by simp) hm]
  rfl
theorem lastOk_last {al : List Tm} (h : lastOk al = true) : ∃ r x, al = r ++ [x] ∧ x.kind ≠ 7 := by
  unfold lastOk at h
  cases hl : al.getLast? with
  | none => rw [hl] at h; cases h
  | some x =>
    rw [hl] at h
    obtain ⟨r, hr⟩ := List.getLast?_eq_some_iff.1 hl
    exact ⟨r, x, hr, of_decide_eq_true h⟩
theorem count_byte {l : List UInt8} {st : Rd} {n : Nat} {B : List UInt8} (h : At l st.at_ (UInt8.ofNat n :: B)) (hn : n < 256) (tag : Nat) (hm : st.at_ + 1 ≤ 65536) :
    countS l tag 104 st = .ok n ⟨st.at_ + 1, st.part, st.atoms⟩ := by
  unfold countS
  rw [if_pos rfl, h.need tag 1 (by simp) hm]
  obtain ⟨e, _, _⟩ := h.head
  simp only [Res.bind]
  rw [e]
  congr 1
  simp only [UInt8.toNat_ofNat']
  omega
theorem count_four {l : List UInt8} {st : Rd} {n : Nat} {k : UInt8} (h : At l st.at_ (fourB (n : Int))) (hn : n < 4294967296) (tag : Nat) (hk : k ≠ 104) (hz : k = 108 → n ≠ 0) (hm : st.at_ + 4 ≤ 65536) :
    countS l tag k st = .ok n ⟨st.at_ + 4, st.part, st.atoms⟩ := by
  unfold countS
  rw [if_neg hk, h.four tag hm (by omega) (by omega)]
  simp only [Res.bind, Int.toNat_natCast]
  rw [if_neg (fun e => hz e.1 e.2)]
mutual
theorem read_enc {l : List UInt8} : ∀ (t : Tm) (f : Nat) (st : Rd), fineT t f → At l st.at_ (encT t) → st.at_ + (encT t).length ≤ 65536 → st.part + sizeT t ≤ 4096 →
    termS l f st = .ok t ⟨st.at_ + (encT t).length, st.part + sizeT t, st.atoms ++ atomsT t⟩
  | .mk k i s c ns al, f, st, hf, hA, hm, hp => by
    rw [fineT] at hf
    obtain ⟨hps, hw, hc, hns, hf1, hal⟩ := hf
    obtain ⟨f, rfl⟩ : ∃ g, f = g + 1 := ⟨f - 1, by omega⟩
    rw [Nat.add_sub_cancel] at hal
    rw [encT] at hA hm ⊢
    rw [sizeT] at hp ⊢
    rw [atomsT]
    rcases (partS_iff k i s c ns al).1 hps with ⟨rfl, rfl, rfl, rfl, rfl, h1, h2⟩ | ⟨rfl, rfl, hq, rfl, rfl, rfl⟩ | ⟨rfl, rfl, hq, h3, rfl⟩ | ⟨rfl, rfl, hq, h3, rfl⟩ | ⟨rfl, rfl, rfl, rfl, rfl⟩ | ⟨rfl, rfl, rfl, rfl, rfl, rfl⟩ | ⟨rfl, rfl, rfl, rfl, rfl, hl2, hlo⟩
    · have hh : headB 1 i ⟨#[]⟩ 0 [] 0 = if 0 ≤ i ∧ i ≤ 255 then [97, UInt8.ofNat i.toNat] else 98 :: fourB (i % 4294967296) := by
        unfold headB; rw [if_pos rfl, hw, if_neg (by decide)]
      rw [encTL, atomsL, sizeTL, List.append_nil, List.length_nil] at *
      rw [hh] at hA hm ⊢
      by_cases hb : 0 ≤ i ∧ i ≤ 255
      · rw [if_pos hb] at hA hm ⊢
        rw [termS_go hA (by omega) (by decide) (by simp at hm; omega)]
        obtain ⟨_, _, hA2⟩ := hA.head
        unfold bodyS
        rw [if_pos rfl, At.need (st := ⟨st.at_ + 1, st.part + 1, st.atoms⟩) hA2 _ 1 (by simp) (by simp at hm; dsimp only; omega)]
        obtain ⟨e, _, _⟩ := hA2.head
        simp only [Res.bind]
        rw [e]
        have : ((UInt8.ofNat i.toNat).toNat : Int) = i := by simp only [UInt8.toNat_ofNat']; omega
        rw [this]
        simp
      · rw [if_neg hb] at hA hm ⊢
        rw [List.length_cons, fourB_len] at hm
        rw [termS_go hA (by omega) (by decide) (by omega)]
        obtain ⟨_, _, hA2⟩ := hA.head
        unfold bodyS
        rw [if_neg (by decide), if_pos rfl, At.four (st := ⟨st.at_ + 1, st.part + 1, st.atoms⟩) hA2 _ (by dsimp only; omega) (by omega) (by omega)]
        simp only [Res.bind]
        have : sInt (i % 4294967296).toNat = i := by
          unfold wideI at hw
          simp only [decide_true, Bool.true_and, Bool.or_eq_false_iff, decide_eq_false_iff_not] at hw
          unfold sInt
          split <;> omega
        rw [this, List.length_cons, fourB_len]
        simp
    · have hh : headB 2 0 s 0 [] 0 = atomB s := by unfold headB; rfl
      have hs : s.size ≤ 255 := text_ok (t := .mk 2 0 s 0 [] []) hps
      have hsz : (atomB s).length = s.size + 2 := by unfold atomB; rw [List.length_cons, List.length_cons, Array.length_toList]; rfl
      rw [encTL, atomsL, sizeTL, List.append_nil, List.length_nil] at *
      rw [hh] at hA hm ⊢
      rw [hsz] at hm ⊢
      rw [termS_go (k := 119) hA (by omega) (by decide) (by omega)]
      obtain ⟨_, _, hA2⟩ := At.head (a := 119) hA
      unfold bodyS
      rw [if_neg (by decide), if_neg (by decide), if_pos (.inr rfl), show ((119 : UInt8) == 118) = false by decide]
      rw [At.txt (B := []) (st := ⟨st.at_ + 1, st.part + 1, st.atoms⟩) (by rw [List.append_nil]; exact hA2) hs _ 0 (by simp) (by dsimp only; omega)]
      simp only [Res.bind]
      rw [if_neg (by simp [hq])]
      simp
      omega
    · have hh : headB 3 0 s c ns 0 = 90 :: 0 :: 3 :: (atomB s ++ fourB c ++ ns.flatMap fourB) := by unfold headB; simp
      have hs : s.size ≤ 255 := text_ok (t := .mk 3 0 s c ns []) hps
      rw [encTL, atomsL, sizeTL, List.append_nil, List.length_nil] at *
      rw [hh] at hA hm ⊢
      rw [List.length_cons] at hm ⊢
      rw [termS_go hA (by omega) (by decide) (by omega)]
      obtain ⟨_, _, hA2⟩ := hA.head
      unfold bodyS farS
      rw [if_neg (by decide), if_neg (by decide), if_neg (by decide), if_neg (by decide), if_neg (by decide), if_neg (by decide), if_neg (by decide)]
      rw [At.ref (st := ⟨st.at_ + 1, st.part + 1, st.atoms⟩) hA2 hs hq _ (by dsimp only; omega) hc hns h3]
      simp
      omega
    · obtain ⟨a, b, rfl⟩ : ∃ a b, ns = [a, b] := by
        match ns, h3 with
        | [a, b], _ => exact ⟨a, b, rfl⟩
      have hh : headB 4 0 s c [a, b] 0 = 88 :: (atomB s ++ fourB a ++ fourB b ++ fourB c) := by unfold headB; simp
      have hs : s.size ≤ 255 := text_ok (t := .mk 4 0 s c [a, b] []) hps
      rw [encTL, atomsL, sizeTL, List.append_nil, List.length_nil] at *
      rw [hh] at hA hm ⊢
      rw [List.length_cons] at hm ⊢
      rw [termS_go hA (by omega) (by decide) (by omega)]
      obtain ⟨_, _, hA2⟩ := hA.head
      unfold bodyS farS
      rw [if_neg (by decide), if_neg (by decide), if_neg (by decide), if_neg (by decide), if_neg (by decide), if_neg (by decide), if_pos rfl]
      rw [At.pid (st := ⟨st.at_ + 1, st.part + 1, st.atoms⟩) hA2 hs hq _ (by dsimp only; omega) (hns a (by simp)) (hns b (by simp)) hc]
      simp
      omega
    · have hlen := length_le_sizeTL al
      obtain ⟨hA1, hA2⟩ := hA.split
      rw [List.length_append] at hm ⊢
      by_cases hb : al.length < 256
      · have hh : headB 5 0 ⟨#[]⟩ 0 [] al.length = [104, UInt8.ofNat al.length] := by unfold headB; simp [hb]
        rw [hh] at hA1 hA2 hm ⊢
        rw [show [104, UInt8.ofNat al.length].length = 2 from rfl] at hm hA2 ⊢
        rw [termS_go hA1 (by omega) (by decide) (by omega)]
        obtain ⟨_, _, hA1⟩ := hA1.head
        unfold bodyS
        rw [if_neg (by decide), if_neg (by decide), if_neg (by decide), if_pos (.inl rfl)]
        rw [count_byte (st := ⟨st.at_ + 1, st.part + 1, st.atoms⟩) hA1 hb _ (by dsimp only; omega)]
        simp only [Res.bind]
        rw [read_encL al f ⟨st.at_ + 1 + 1, st.part + 1, st.atoms⟩ hal hA2 (by dsimp only; omega) (by dsimp only; omega)]
        simp
        omega
      · have hh : headB 5 0 ⟨#[]⟩ 0 [] al.length = 105 :: fourB al.length := by unfold headB; simp [hb]
        rw [hh] at hA1 hA2 hm ⊢
        rw [show (105 :: fourB al.length).length = 5 from rfl] at hm hA2 ⊢
        rw [termS_go hA1 (by omega) (by decide) (by omega)]
        obtain ⟨_, _, hA1⟩ := hA1.head
        unfold bodyS
        rw [if_neg (by decide), if_neg (by decide), if_neg (by decide), if_pos (.inr rfl)]
        rw [count_four (st := ⟨st.at_ + 1, st.part + 1, st.atoms⟩) hA1 (by omega) _ (by decide) (fun e => by cases e) (by dsimp only; omega)]
        simp only [Res.bind]
        rw [read_encL al f ⟨st.at_ + 1 + 4, st.part + 1, st.atoms⟩ hal hA2 (by dsimp only; omega) (by dsimp only; omega)]
        simp
        omega
    · have hh : headB 6 0 ⟨#[]⟩ 0 [] 0 = [106] := by unfold headB; rfl
      rw [encTL, atomsL, sizeTL, List.append_nil, List.length_nil] at *
      rw [hh] at hA hm ⊢
      rw [termS_go hA (by omega) (by decide) (by simp at hm; omega)]
      unfold bodyS
      rw [if_neg (by decide), if_neg (by decide), if_neg (by decide), if_neg (by decide), if_pos rfl]
      simp
    · have hlen := length_le_sizeTL al
      obtain ⟨hA1, hA2⟩ := hA.split
      rw [List.length_append] at hm ⊢
      have hh : headB 7 0 ⟨#[]⟩ 0 [] al.length = 108 :: fourB ((al.length : Int) - 1) := by unfold headB; simp
      rw [hh] at hA1 hA2 hm ⊢
      rw [show (108 :: fourB ((al.length : Int) - 1)).length = 5 from rfl] at hm hA2 ⊢
      rw [termS_go hA1 (by omega) (by decide) (by omega)]
      obtain ⟨_, _, hA1⟩ := hA1.head
      unfold bodyS
      rw [if_neg (by decide), if_neg (by decide), if_neg (by decide), if_neg (by decide), if_neg (by decide), if_pos rfl]
      rw [show (al.length : Int) - 1 = ((al.length - 1 : Nat) : Int) by omega] at hA1
      rw [count_four (st := ⟨st.at_ + 1, st.part + 1, st.atoms⟩) hA1 (by omega) _ (by decide) (fun _ => by omega) (by dsimp only; omega)]
      simp only [Res.bind]
      obtain ⟨r, x, e, hx⟩ := lastOk_last hlo
      have hR := read_encL r f ⟨st.at_ + 1 + 4, st.part + 1, st.atoms⟩ (by rw [e, fineL_app] at hal; exact hal.1)
        (by rw [e, encTL_app] at hA2; exact hA2.split.1) (by rw [e, encTL_app, List.length_append] at hm; dsimp only; omega) (by rw [e, sizeTL_app] at hp; dsimp only; omega)
      have hX := read_enc x f ⟨st.at_ + 5 + (encTL r).length, st.part + 1 + sizeTL r, st.atoms ++ atomsL r⟩ (by rw [e, fineL_app, fineL, fineL] at hal; exact hal.2.1)
        (by rw [e, encTL_app, encTL, encTL, List.append_nil] at hA2; exact hA2.split.2) (by rw [e, encTL_app, List.length_append, encTL, encTL, List.append_nil] at hm; dsimp only; omega) (by rw [e, sizeTL_app, sizeTL, sizeTL] at hp; dsimp only; omega)
      have e1 : al.length - 1 = r.length := by rw [e]; simp
      rw [e1, hR]
      dsimp only
      rw [show st.at_ + 1 + 4 + (encTL r).length = st.at_ + 5 + (encTL r).length by omega, hX]
      unfold joinS
      dsimp only
      rw [if_neg hx, ← e, e, encTL_app, sizeTL_app, atomsL_app, encTL, encTL, sizeTL, sizeTL, atomsL, atomsL]
      simp
      omega
theorem read_encL {l : List UInt8} : ∀ (al : List Tm) (f : Nat) (st : Rd), fineL al f → At l st.at_ (encTL al) → st.at_ + (encTL al).length ≤ 65536 → st.part + sizeTL al ≤ 4096 →
    rowS (termS l f) al.length st = .ok al ⟨st.at_ + (encTL al).length, st.part + sizeTL al, st.atoms ++ atomsL al⟩
  | [], f, st, hf, hA, hm, hp => by
    rw [List.length_nil, rowS, encTL, sizeTL, atomsL, List.append_nil]; rfl
  | t :: r, f, st, hf, hA, hm, hp => by
    rw [fineL] at hf
    rw [encTL] at hA hm ⊢
    rw [sizeTL] at hp ⊢
    rw [atomsL]
    rw [List.length_append] at hm ⊢
    obtain ⟨hA1, hA2⟩ := hA.split
    rw [List.length_cons, rowS, read_enc t f st hf.1 hA1 (by omega) (by omega)]
    simp only [Res.bind]
    rw [read_encL r f ⟨st.at_ + (encT t).length, st.part + sizeT t, st.atoms ++ atomsT t⟩ hf.2 hA2 (by dsimp only; omega) (by dsimp only; omega)]
    simp [Nat.add_assoc]
end
end Go.Proofs.YtlahagabcnmdiaaDoor
end
section
/- Layer 4, plain: which terms have bytes; EtfBack and EtfWide, plain. -/
open Go Go.RowKit
namespace Go.Proofs.YtlahagabcnmdiaaDoor
set_option linter.unusedVariables false
set_option linter.unusedSimpArgs false

mutual
/-- the bounds of all numbers of 32 bits -/
def bndT : Tm → Prop
  | .mk _ _ _ c ns al => (0 ≤ c ∧ c < 4294967296) ∧ (∀ x ∈ ns, 0 ≤ x ∧ x < 4294967296) ∧ bndL al
def bndL : List Tm → Prop
  | [] => True
  | t :: r => bndT t ∧ bndL r
end
mutual
/-- no int is too wide -/
def narrowT : Tm → Prop
  | .mk k i _ _ _ al => wideI k i = false ∧ narrowL al
def narrowL : List Tm → Prop
  | [] => True
  | t :: r => narrowT t ∧ narrowL r
end
mutual
theorem wrT_narrow : ∀ (t : Tm) (st : Wr), (wrT t st).wide < 0 ↔ st.wide < 0 ∧ narrowT t
  | .mk k i s c ns al, st => by
    rw [wrT, narrowT, wrL_narrow al]
    have : (st.head k i s c ns al.length).wide < 0 ↔ st.wide < 0 ∧ wideI k i = false := by
      unfold Wr.head
      cases hw : wideI k i
      · simp
      · simp; omega
    rw [this, and_assoc]
theorem wrL_narrow : ∀ (l : List Tm) (st : Wr), (wrL l st).wide < 0 ↔ st.wide < 0 ∧ narrowL l
  | [], st => by rw [wrL, narrowL]; simp
  | t :: r, st => by rw [wrL, narrowL, wrL_narrow r, wrT_narrow t, and_assoc]
end
mutual
theorem wrT_b : ∀ (t : Tm) (st : Wr), (wrT t st).b = st.b ++ encT t
  | .mk k i s c ns al, st => by
    rw [wrT, encT, wrL_b al]
    unfold Wr.head
    dsimp only
    rw [List.append_assoc]
theorem wrL_b : ∀ (l : List Tm) (st : Wr), (wrL l st).b = st.b ++ encTL l
  | [], st => by rw [wrL, encTL, List.append_nil]
  | t :: r, st => by rw [wrL, encTL, wrL_b r, wrT_b t, List.append_assoc]
end
theorem bytesT_b (t : Tm) : (bytesT t).b = 131 :: encT t := wrT_b t _
theorem bytesT_narrow (t : Tm) : (bytesT t).wide < 0 ↔ narrowT t := by
  unfold bytesT
  rw [wrT_narrow]
  simp
theorem encS_cases (t : Tm) : (checkS t ≠ [] ∧ (encS t).1 = [] ∧ (encS t).2 ≠ []) ∨ (checkS t = [] ∧ ¬ narrowT t ∧ (encS t).1 = [] ∧ (encS t).2 ≠ []) ∨
    (checkS t = [] ∧ narrowT t ∧ 65536 < (encT t).length + 1 ∧ encS t = ([], [⟨etfL, 0, 4⟩])) ∨ (checkS t = [] ∧ narrowT t ∧ (encT t).length + 1 ≤ 65536 ∧ encS t = (131 :: encT t, [])) := by
  have hl : (bytesT t).b.length = (encT t).length + 1 := by rw [bytesT_b]; rfl
  unfold encS
  cases hc : checkS t with
  | cons k r => exact .inl ⟨by simp, rfl, by simp⟩
  | nil =>
    dsimp only
    by_cases h : 0 ≤ (bytesT t).wide
    · rw [if_pos h]
      exact .inr (.inl ⟨rfl, fun e => by have := (bytesT_narrow t).2 e; omega, rfl, by simp⟩)
    · rw [if_neg h]
      have hn := (bytesT_narrow t).1 (by omega)
      by_cases h2 : 65536 < (bytesT t).b.length
      · rw [if_pos h2]; exact .inr (.inr (.inl ⟨rfl, hn, by omega, rfl⟩))
      · rw [if_neg h2, bytesT_b]; exact .inr (.inr (.inr ⟨rfl, hn, by omega, rfl⟩))
mutual
/-- all parts are fine, and no deeper than f -/
def okF : Tm → Nat → Prop
  | .mk k i s c ns al, f => partS (.mk k i s c ns al) 0 = [] ∧ 1 ≤ f ∧ okFL al (f - 1)
def okFL : List Tm → Nat → Prop
  | [], _ => True
  | t :: r, f => okF t f ∧ okFL r f
end
mutual
theorem walkS_iff : ∀ (t : Tm) (n dm d : Nat), n ≤ 4096 → ((walkS t n dm d).1 = [] ↔ okF t (257 - d) ∧ n + sizeT t ≤ 4096)
  | .mk k i s c ns al, n, dm, d, hn => by
    rw [walkS, okF, sizeT]
    split
    · constructor
      · intro h; cases h
      · intro h; omega
    · split
      · constructor
        · intro h; cases h
        · intro h; have := h.1.2.1; omega
      · split
        · rename_i hp
          constructor
          · intro h; exact absurd h hp
          · intro h; exact absurd ((partS_at _ _ _).1 h.1.1) hp
        · rename_i h1 h2 h3
          rw [walkLS_iff al _ _ _ (by omega), show 257 - (d + 1) = 257 - d - 1 by omega]
          have := (partS_at _ _ 0).1 (Classical.not_not.1 h3)
          constructor
          · rintro ⟨e1, e2⟩; exact ⟨⟨this, by omega, e1⟩, by omega⟩
          · rintro ⟨⟨_, _, e1⟩, e2⟩; exact ⟨e1, by omega⟩
theorem walkLS_iff : ∀ (l : List Tm) (n dm d : Nat), n ≤ 4096 → ((walkLS l n dm d).1 = [] ↔ okFL l (257 - d) ∧ n + sizeTL l ≤ 4096)
  | [], n, dm, d, hn => by rw [walkLS, okFL, sizeTL]; simp; omega
  | t :: r, n, dm, d, hn => by
    rw [walkLS, okFL, sizeTL]
    have ht := walkS_iff t n dm d hn
    split
    · rename_i h1
      constructor
      · intro h; exact absurd h h1
      · rintro ⟨⟨e1, _⟩, e2⟩; exact absurd (ht.2 ⟨e1, by omega⟩) h1
    · rename_i h1
      have h1' := Classical.not_not.1 h1
      obtain ⟨e1, e2⟩ := ht.1 h1'
      rw [walkLS_iff r _ _ _ (by rw [(walkS_ok t n dm d h1').2]; exact e2), (walkS_ok t n dm d h1').2]
      constructor
      · rintro ⟨e3, e4⟩; exact ⟨⟨e1, e3⟩, by omega⟩
      · rintro ⟨⟨_, e3⟩, e4⟩; exact ⟨e3, by omega⟩
end
theorem checkS_iff (t : Tm) : checkS t = [] ↔ okF t 256 ∧ sizeT t ≤ 4096 := by
  unfold checkS
  rw [walkS_iff t 0 0 1 (by omega), Nat.zero_add]
mutual
theorem fineT_iff : ∀ (t : Tm) (f : Nat), fineT t f ↔ okF t f ∧ bndT t ∧ narrowT t
  | .mk k i s c ns al, f => by
    rw [fineT, okF, bndT, narrowT, fineL_iff al]
    constructor
    · rintro ⟨h1, h2, h3, h4, h5, h6, h7, h8⟩; exact ⟨⟨h1, h5, h6⟩, ⟨h3, h4, h7⟩, h2, h8⟩
    · rintro ⟨⟨h1, h5, h6⟩, ⟨h3, h4, h7⟩, h2, h8⟩; exact ⟨h1, h2, h3, h4, h5, h6, h7, h8⟩
theorem fineL_iff : ∀ (l : List Tm) (f : Nat), fineL l f ↔ okFL l f ∧ bndL l ∧ narrowL l
  | [], f => by rw [fineL, okFL, bndL, narrowL]; simp
  | t :: r, f => by
    rw [fineL, okFL, bndL, narrowL, fineT_iff t, fineL_iff r]
    constructor
    · rintro ⟨⟨h1, h2, h3⟩, h4, h5, h6⟩; exact ⟨⟨h1, h4⟩, ⟨h2, h5⟩, h3, h6⟩
    · rintro ⟨⟨h1, h4⟩, ⟨h2, h5⟩, h3, h6⟩; exact ⟨⟨h1, h2, h3⟩, h4, h5, h6⟩
end
mutual
theorem okF_mono : ∀ (t : Tm) (f g : Nat), f ≤ g → okF t f → okF t g
  | .mk k i s c ns al, f, g, hfg, h => by
    rw [okF] at h ⊢
    exact ⟨h.1, by omega, okFL_mono al _ _ (by omega) h.2.2⟩
theorem okFL_mono : ∀ (l : List Tm) (f g : Nat), f ≤ g → okFL l f → okFL l g
  | [], f, g, _, _ => by rw [okFL]; trivial
  | t :: r, f, g, hfg, h => by
    rw [okFL] at h ⊢
    exact ⟨okF_mono t f g hfg h.1, okFL_mono r f g hfg h.2⟩
end
theorem read_of_enc {t : Tm} (hc : checkS t = []) (hb : bndT t) (hn : narrowT t) (hl : (encT t).length + 1 ≤ 65536) :
    readS (131 :: encT t) = .ok t ⟨(131 :: encT t).length, sizeT t, atomsT t⟩ := by
  unfold readS
  rw [if_pos ⟨rfl, by simp⟩]
  have hf := (fineT_iff t 256).2 ⟨((checkS_iff t).1 hc).1, hb, hn⟩
  have := read_enc t 256 ⟨1, 0, []⟩ hf (l := 131 :: encT t) ⟨[131], [], by simp, rfl⟩ (by dsimp only; omega) (by have := (checkS_ok hc).2; dsimp only; omega)
  rw [this]
  simp
  omega
theorem whole_of_enc {t : Tm} (hb : bndT t) (h : (encS t).2 = []) : ∃ st, wholeS (encS t).1 = .ok t st := by
  rcases encS_cases t with ⟨_, _, e⟩ | ⟨_, _, _, e⟩ | ⟨_, _, _, e⟩ | ⟨hc, hn, hl, e⟩
  · exact absurd h e
  · exact absurd h e
  · rw [e] at h; cases h
  · rw [e]
    refine ⟨⟨(131 :: encT t).length, sizeT t, atomsT t⟩, ?_⟩
    unfold wholeS
    rw [read_of_enc hc hb hn hl]
    dsimp only
    rw [if_neg (by omega)]
/-! ### an int beside a term (EtfWide) -/
def withInt (t : Tm) (n : Int) : Tm := .mk 5 0 ⟨#[]⟩ 0 [] [t, .mk 1 n ⟨#[]⟩ 0 [] []]
theorem withInt_check {t : Tm} {n : Int} (h : checkS (withInt t n) = []) : checkS t = [] := by
  rw [checkS_iff] at h ⊢
  unfold withInt at h
  rw [okF, okFL, sizeT, sizeTL] at h
  exact ⟨okF_mono t _ _ (by omega) h.1.2.2.1, by omega⟩
theorem withInt_narrow {t : Tm} {n : Int} : narrowT (withInt t n) ↔ narrowT t ∧ ¬ (n < -2147483648 ∨ 2147483647 < n) := by
  unfold withInt
  simp only [narrowT, narrowL]
  unfold wideI
  simp
/-- P4.6 -/
theorem wide_law (t : Tm) (n : Int) : 
    (checkS (withInt t n) ≠ [] → (encS (withInt t n)).2 ≠ [] ∧ (encS (withInt t n)).1 = []) ∧
    ((n < -2147483648 ∨ 2147483647 < n) → (encS (withInt t n)).2 ≠ [] ∧ (encS (withInt t n)).1 = []) ∧
    (checkS (withInt t n) = [] → ¬ (n < -2147483648 ∨ 2147483647 < n) → (encS t).2 ≠ [] → (encS (withInt t n)).2 ≠ []) ∧
    (checkS (withInt t n) = [] → ¬ (n < -2147483648 ∨ 2147483647 < n) → (encS t).2 = [] → (encS (withInt t n)).2 = [] ∨ (encS (withInt t n)).2 = [⟨etfL, 0, 4⟩]) := by
  refine ⟨fun h => ?_, fun h => ?_, fun h hn he => ?_, fun h hn he => ?_⟩
  · rcases encS_cases (withInt t n) with ⟨_, e1, e2⟩ | ⟨hc, _⟩ | ⟨hc, _⟩ | ⟨hc, _⟩
    · exact ⟨e2, e1⟩
    · exact absurd hc h
    · exact absurd hc h
    · exact absurd hc h
  · rcases encS_cases (withInt t n) with ⟨_, e1, e2⟩ | ⟨hc, _, e1, e2⟩ | ⟨hc, h2, _⟩ | ⟨hc, h2, _⟩
    · exact ⟨e2, e1⟩
    · exact ⟨e2, e1⟩
    · exact absurd h (withInt_narrow.1 h2).2
    · exact absurd h (withInt_narrow.1 h2).2
  · rcases encS_cases (withInt t n) with ⟨_, _, e2⟩ | ⟨_, _, _, e2⟩ | ⟨_, _, _, e⟩ | ⟨hc, h2, hl, e⟩
    · exact e2
    · exact e2
    · rw [e]; simp
    · exfalso
      rcases encS_cases t with ⟨h3, _⟩ | ⟨_, h3, _⟩ | ⟨_, _, h3, _⟩ | ⟨_, _, _, e⟩
      · exact h3 (withInt_check hc)
      · exact h3 (withInt_narrow.1 h2).1
      · unfold withInt at hl
        rw [encT, encTL, List.length_append, List.length_append] at hl
        omega
      · rw [e] at he; exact he rfl
  · rcases encS_cases (withInt t n) with ⟨h3, _⟩ | ⟨_, h3, _⟩ | ⟨_, _, _, e⟩ | ⟨hc, h2, hl, e⟩
    · exact absurd h h3
    · refine absurd (withInt_narrow.2 ⟨?_, hn⟩) h3
      rcases encS_cases t with ⟨h4, _⟩ | ⟨_, _, _, h4⟩ | ⟨_, h4, _⟩ | ⟨_, h4, _⟩
      · exact absurd (withInt_check h) h4
      · exact absurd he h4
      · exact h4
      · exact h4
    · rw [e]; exact .inr rfl
    · rw [e]; exact .inl rfl
end Go.Proofs.YtlahagabcnmdiaaDoor
end
section
/- Layer 4, plain: what a reading comes to, and what it looks at; EtfShortest and EtfFurther, plain. -/
open Go Go.RowKit
namespace Go.Proofs.YtlahagabcnmdiaaDoor
set_option linter.unusedVariables false
set_option linter.unusedSimpArgs false

theorem cutB_le (l : List UInt8) (i n : Nat) : (cutB l i n).length ≤ n := by unfold cutB; rw [List.length_take]; omega
theorem fourS_full {l : List UInt8} {tag n : Nat} {st st2 : Rd} (h : fourS l tag st = .ok n st2) : st2 = ⟨st.at_ + 4, st.part, st.atoms⟩ ∧ n < 4294967296 := by
  unfold fourS at h
  obtain ⟨x, s1, h1, h⟩ := bind_ok h
  cases h
  have h2 := needS_ok h1
  refine ⟨h2, ?_⟩
  have h3 := numS_lt (cutB l st.at_ 4)
  have h4 := Nat.pow_le_pow_right (n := 256) (by omega) (cutB_le l st.at_ 4)
  exact Nat.lt_of_lt_of_le h3 h4
theorem txtS_full {l : List UInt8} {tag behind : Nat} {wide : Bool} {st st2 : Rd} {s : ByteArray} (h : txtS l tag wide behind st = .ok s st2) : st2.part = st.part ∧ st2.atoms = st.atoms ∧ st.at_ + 1 + s.size ≤ st2.at_ := by
  rcases txtS_cases l tag wide behind st with ⟨k, e⟩ | ⟨s', n, e, h1, _⟩
  · rw [e] at h; cases h
  · rw [e] at h; cases h; exact ⟨rfl, rfl, h1⟩
theorem namS_full {l : List UInt8} {tag behind : Nat} {st st2 : Rd} {s : ByteArray} (h : namS l tag behind st = .ok s st2) : st2.part = st.part ∧ st2.atoms = st.atoms ++ [s] ∧ st.at_ + 2 + s.size ≤ st2.at_ ∧ (nodeS s).2.2 = [] := by
  unfold namS at h
  obtain ⟨x, s1, h1, h⟩ := bind_ok h
  have e1 := needS_ok h1
  subst e1
  split at h
  · cases h
  · obtain ⟨y, s2, h2, h⟩ := bind_ok h
    have e2 := txtS_full h2
    split at h
    · cases h
    · rename_i hn
      cases h
      dsimp only at e2 ⊢
      exact ⟨e2.1, by rw [e2.2.1], by omega, Classical.not_not.1 hn⟩
theorem numsS_full {l : List UInt8} {tag : Nat} : ∀ {n : Nat} {st st2 : Rd} {r : List Int}, numsS l tag n st = .ok r st2 → st2 = ⟨st.at_ + 4 * n, st.part, st.atoms⟩ ∧ r.length = n ∧ ∀ x ∈ r, 0 ≤ x ∧ x < 4294967296
  | 0, st, st2, r, h => by rw [numsS] at h; cases h; exact ⟨rfl, rfl, fun x hx => by cases hx⟩
  | n + 1, st, st2, r, h => by
    rw [numsS] at h
    obtain ⟨x, s1, h1, h⟩ := bind_ok h
    obtain ⟨y, s2, h2, h⟩ := bind_ok h
    cases h
    obtain ⟨e1, b1⟩ := fourS_full h1
    obtain ⟨e2, l2, b2⟩ := numsS_full h2
    subst e1 e2
    dsimp only
    refine ⟨by congr 1; omega, by rw [List.length_cons, l2], fun z hz => ?_⟩
    rcases List.mem_cons.1 hz with rfl | hz
    · omega
    · exact b2 z hz
theorem countS_full {l : List UInt8} {tag n : Nat} {k : UInt8} {st st2 : Rd} (h : countS l tag k st = .ok n st2) : (k = 104 ∧ st2 = ⟨st.at_ + 1, st.part, st.atoms⟩ ∧ n < 256) ∨ (k ≠ 104 ∧ st2 = ⟨st.at_ + 4, st.part, st.atoms⟩ ∧ n < 4294967296 ∧ (k = 108 → n ≠ 0)) := by
  unfold countS at h
  split at h
  · rename_i hk
    obtain ⟨x, s1, h1, h⟩ := bind_ok h
    cases h
    exact .inl ⟨hk, needS_ok h1, UInt8.toNat_lt _⟩
  · rename_i hk
    obtain ⟨x, s1, h1, h⟩ := bind_ok h
    split at h
    · cases h
    · rename_i hn
      cases h
      obtain ⟨e, b⟩ := fourS_full h1
      exact .inr ⟨hk, e, b, fun e1 e2 => hn ⟨e1, e2⟩⟩
/-- what a reading of a term comes to -/
def Sound (f : Nat) (p : Nat) (rd : Rd → Res Tm) : Prop := ∀ st t st2, st.part ≤ 4096 → rd st = .ok t st2 → okF t f ∧ bndT t ∧ narrowT t ∧ st.part + sizeT t ≤ st2.part + p ∧ st2.part ≤ 4096 ∧ st.at_ + (encT t).length ≤ st2.at_ + p
theorem sound_row {f : Nat} {rd : Rd → Res Tm} (h : Sound f 0 rd) : ∀ (n : Nat) (st : Rd) (r : List Tm) (st2 : Rd), st.part ≤ 4096 → rowS rd n st = .ok r st2 → okFL r f ∧ bndL r ∧ narrowL r ∧ st.part + sizeTL r ≤ st2.part ∧ st2.part ≤ 4096 ∧ st.at_ + (encTL r).length ≤ st2.at_ ∧ r.length = n
  | 0, st, r, st2, hp, hr => by
    rw [rowS] at hr
    cases hr
    rw [okFL, bndL, narrowL, sizeTL, encTL]
    exact ⟨trivial, trivial, trivial, Nat.le_refl _, hp, Nat.le_refl _, rfl⟩
  | n + 1, st, r, st2, hp, hr => by
    rw [rowS] at hr
    obtain ⟨x, s1, h1, hr⟩ := bind_ok hr
    obtain ⟨y, s2, h2, hr⟩ := bind_ok hr
    cases hr
    obtain ⟨a1, a2, a3, a4, a5, a6⟩ := h _ _ _ hp h1
    obtain ⟨b1, b2, b3, b4, b5, b6, b7⟩ := sound_row h n _ _ _ a5 h2
    rw [okFL, bndL, narrowL, sizeTL, encTL, List.length_append, List.length_cons]
    exact ⟨⟨a1, b1⟩, ⟨a2, b2⟩, ⟨a3, b3⟩, by omega, b5, by omega, by omega⟩
theorem lastOk_app {a b : List Tm} (hb : b ≠ []) : lastOk (a ++ b) = lastOk b := by
  unfold lastOk
  rw [List.getLast?_append]
  cases h : b.getLast? with
  | none => exact absurd (List.getLast?_eq_none_iff.1 h) hb
  | some x => rfl
theorem bnd_append (a b : List Tm) : bndL (a ++ b) ↔ bndL a ∧ bndL b := by
  induction a with
  | nil => rw [List.nil_append, bndL]; simp
  | cons t r ih => rw [List.cons_append, bndL, bndL, ih, and_assoc]
theorem narrow_append (a b : List Tm) : narrowL (a ++ b) ↔ narrowL a ∧ narrowL b := by
  induction a with
  | nil => rw [List.nil_append, narrowL]; simp
  | cons t r ih => rw [List.cons_append, narrowL, narrowL, ih, and_assoc]
theorem okFL_app (a b : List Tm) (f : Nat) : okFL (a ++ b) f ↔ okFL a f ∧ okFL b f := by
  induction a with
  | nil => rw [List.nil_append, okFL]; simp
  | cons t r ih => rw [List.cons_append, okFL, okFL, ih, and_assoc]
theorem wide_other {k i : Int} (h : k ≠ 1) : wideI k i = false := by unfold wideI; simp [h]
theorem sound_far {f : Nat} {l : List UInt8} {tag : Nat} {k : UInt8} {st st2 : Rd} {t : Tm} (hp : st.part ≤ 4096) (h : farS l tag k st = .ok t st2) :
    okF t (f + 1) ∧ bndT t ∧ narrowT t ∧ st.part + sizeT t ≤ st2.part + 1 ∧ st2.part ≤ 4096 ∧ st.at_ + (encT t).length ≤ st2.at_ + 1 := by
  unfold farS at h
  split at h
  · unfold pidS at h
    obtain ⟨s, s1, h1, h⟩ := bind_ok h
    obtain ⟨a, s2, h2, h⟩ := bind_ok h
    obtain ⟨b, s3, h3, h⟩ := bind_ok h
    obtain ⟨c, s4, h4, h⟩ := bind_ok h
    cases h
    obtain ⟨e1, _, g1, hn⟩ := namS_full h1
    obtain ⟨e2, b2⟩ := fourS_full h2
    obtain ⟨e3, b3⟩ := fourS_full h3
    obtain ⟨e4, b4⟩ := fourS_full h4
    subst e2 e3 e4
    dsimp only at *
    rw [okF, bndT, narrowT, sizeT, encT, okFL, bndL, narrowL, sizeTL, encTL]
    refine ⟨⟨(partS_iff _ _ _ _ _ _).2 (.inr (.inr (.inr (.inl ⟨rfl, rfl, hn, rfl, rfl⟩)))), by omega, trivial⟩, ⟨by omega, fun x hx => ?_, trivial⟩, ⟨wide_other (by decide), trivial⟩, by omega, by omega, ?_⟩
    · simp only [List.mem_cons, List.not_mem_nil, or_false] at hx
      omega
    · have : (headB 4 0 s c [(a : Int), (b : Int)] ([] : List Tm).length ++ []).length = s.size + 15 := by
        rw [List.append_nil]
        show (88 :: (atomB s ++ fourB a ++ fourB b ++ fourB c)).length = _
        have hsz : (atomB s).length = s.size + 2 := by unfold atomB; rw [List.length_cons, List.length_cons, Array.length_toList]; rfl
        simp only [List.length_cons, List.length_append, fourB_len, hsz]
      rw [this]; omega
  · unfold refS at h
    obtain ⟨x0, s0, h0, h⟩ := bind_ok h
    split at h
    · cases h
    · obtain ⟨s, s1, h1, h⟩ := bind_ok h
      obtain ⟨c, s2, h2, h⟩ := bind_ok h
      obtain ⟨ns, s3, h3, h⟩ := bind_ok h
      cases h
      have e0 := needS_ok h0
      obtain ⟨e1, _, g1, hn⟩ := namS_full h1
      obtain ⟨e2, b2⟩ := fourS_full h2
      obtain ⟨e3, l3, b3⟩ := numsS_full h3
      subst e0 e2 e3
      dsimp only at *
      rw [okF, bndT, narrowT, sizeT, encT, okFL, bndL, narrowL, sizeTL, encTL]
      refine ⟨⟨(partS_iff _ _ _ _ _ _).2 (.inr (.inr (.inl ⟨rfl, rfl, hn, l3, rfl⟩))), by omega, trivial⟩, ⟨by omega, b3, trivial⟩, ⟨wide_other (by decide), trivial⟩, by omega, by omega, ?_⟩
      have : (headB 3 0 s c ns ([] : List Tm).length ++ []).length = s.size + 21 := by
        rw [List.append_nil]
        show (90 :: 0 :: 3 :: (atomB s ++ fourB c ++ ns.flatMap fourB)).length = _
        have hsz : (atomB s).length = s.size + 2 := by unfold atomB; rw [List.length_cons, List.length_cons, Array.length_toList]; rfl
        simp only [List.length_cons, List.length_append, fourB_len, hsz, fours_len, l3]
      rw [this]; omega
theorem sound_body {f : Nat} {l : List UInt8} {rd : Rd → Res Tm} (hrd : Sound f 0 rd) {tag : Nat} {k : UInt8} {st st2 : Rd} {t : Tm} (hp : st.part ≤ 4096) (h : bodyS l rd tag k st = .ok t st2) :
    okF t (f + 1) ∧ bndT t ∧ narrowT t ∧ st.part + sizeT t ≤ st2.part + 1 ∧ st2.part ≤ 4096 ∧ st.at_ + (encT t).length ≤ st2.at_ + 1 := by
  unfold bodyS at h
  split at h
  · obtain ⟨x, s1, h1, h⟩ := bind_ok h
    have e1 := needS_ok h1
    cases h
    subst e1
    have hb := UInt8.toNat_lt (l.getD st.at_ 0)
    dsimp only
    rw [okF, bndT, narrowT, sizeT, encT, okFL, bndL, narrowL, sizeTL, encTL]
    generalize (l.getD st.at_ 0).toNat = m at *
    have hw : wideI 1 (m : Int) = false := by unfold wideI; simp; omega
    refine ⟨⟨(partS_iff _ _ _ _ _ _).2 (.inl ⟨rfl, rfl, rfl, rfl, rfl, by omega, by omega⟩), by omega, trivial⟩, ⟨by omega, fun x hx => (by cases hx), trivial⟩, ⟨hw, trivial⟩, by omega, by omega, ?_⟩
    rw [List.append_nil]
    unfold headB
    rw [if_pos rfl, hw, if_neg (by decide), if_pos ⟨by omega, by omega⟩]
    simp
  · split at h
    · obtain ⟨n, s1, h1, h⟩ := bind_ok h
      obtain ⟨e1, b1⟩ := fourS_full h1
      cases h
      subst e1
      dsimp only
      rw [okF, bndT, narrowT, sizeT, encT, okFL, bndL, narrowL, sizeTL, encTL]
      have hs : -2147483648 ≤ sInt n ∧ sInt n ≤ 2147483647 := by unfold sInt; split <;> omega
      have hw : wideI 1 (sInt n) = false := by unfold wideI; simp; omega
      refine ⟨⟨(partS_iff _ _ _ _ _ _).2 (.inl ⟨rfl, rfl, rfl, rfl, rfl, by omega, by omega⟩), by omega, trivial⟩, ⟨by omega, fun x hx => (by cases hx), trivial⟩, ⟨hw, trivial⟩, by omega, by omega, ?_⟩
      rw [List.append_nil]
      unfold headB
      rw [if_pos rfl, hw, if_neg (by decide)]
      split <;> simp [fourB]
    · split at h
      · obtain ⟨s, s1, h1, h⟩ := bind_ok h
        obtain ⟨e1, _, g1⟩ := txtS_full h1
        split at h
        · cases h
        · rename_i hq
          cases h
          dsimp only
          rw [okF, bndT, narrowT, sizeT, encT, okFL, bndL, narrowL, sizeTL, encTL]
          refine ⟨⟨(partS_iff _ _ _ _ _ _).2 (.inr (.inl ⟨rfl, rfl, Classical.not_not.1 hq, rfl, rfl, rfl⟩)), by omega, trivial⟩, ⟨by omega, fun x hx => (by cases hx), trivial⟩, ⟨wide_other (by decide), trivial⟩, by omega, by omega, ?_⟩
          rw [List.append_nil]
          show st.at_ + (atomB s).length ≤ _
          have hsz : (atomB s).length = s.size + 2 := by unfold atomB; rw [List.length_cons, List.length_cons, Array.length_toList]; rfl
          rw [hsz]; omega
      · split at h
        · rename_i hk
          obtain ⟨n, s1, h1, h⟩ := bind_ok h
          obtain ⟨r, s2, h2, h⟩ := bind_ok h
          cases h
          have hs1 : s1.part = st.part := countS_ok h1
          obtain ⟨a1, a2, a3, a4, a5, a6, a7⟩ := sound_row hrd _ _ _ _ (by omega) h2
          rw [okF, bndT, narrowT, sizeT, encT, List.length_append]
          refine ⟨⟨(partS_iff _ _ _ _ _ _).2 (.inr (.inr (.inr (.inr (.inl ⟨rfl, rfl, rfl, rfl, rfl⟩))))), by omega, a1⟩, ⟨by omega, fun x hx => (by cases hx), a2⟩, ⟨wide_other (by decide), a3⟩, by omega, a5, ?_⟩
          have : (headB 5 0 ⟨#[]⟩ 0 [] r.length).length + st.at_ ≤ s1.at_ + 1 := by
            have e : headB 5 0 ⟨#[]⟩ 0 [] r.length = if r.length < 256 then [104, UInt8.ofNat r.length] else 105 :: fourB r.length := rfl
            rw [e, a7]
            rcases countS_full h1 with ⟨_, e, hb⟩ | ⟨_, e, _, _⟩
            · rw [if_pos hb, e]; simp; omega
            · rw [e]; split <;> simp [fourB] <;> omega
          omega
        · split at h
          · cases h
            rw [okF, bndT, narrowT, sizeT, encT, okFL, bndL, narrowL, sizeTL, encTL]
            refine ⟨⟨(partS_iff _ _ _ _ _ _).2 (.inr (.inr (.inr (.inr (.inr (.inl ⟨rfl, rfl, rfl, rfl, rfl, rfl⟩)))))), by omega, trivial⟩, ⟨by omega, fun x hx => (by cases hx), trivial⟩, ⟨wide_other (by decide), trivial⟩, by omega, hp, ?_⟩
            rw [List.append_nil]
            exact Nat.le_refl _
          · split at h
            · rename_i hk
              obtain ⟨n, s1, h1, h⟩ := bind_ok h
              obtain ⟨r, s2, h2, h⟩ := bind_ok h
              obtain ⟨z, s3, h3, h⟩ := bind_ok h
              cases h
              have hs1 : s1.part = st.part := countS_ok h1
              subst hk
              have hpos := countS_pos h1
              obtain ⟨a1, a2, a3, a4, a5, a6, a7⟩ := sound_row hrd _ _ _ _ (by omega) h2
              obtain ⟨b1, b2, b3, b4, b5, b6⟩ := hrd _ _ _ a5 h3
              have hat : s1.at_ = st.at_ + 4 := by
                rcases countS_full h1 with ⟨e, _, _⟩ | ⟨_, e, _, _⟩
                · cases e
                · rw [e]
              -- the tail
              have hz : ∃ d, (if z.kind = 7 then z.args else [z]) = d ∧ d ≠ [] ∧ lastOk d = true ∧ okFL d f ∧ bndL d ∧ narrowL d ∧ s2.part + sizeTL d ≤ st2.part ∧ s2.at_ + (encTL d).length ≤ st2.at_ := by
                by_cases h7 : z.kind = 7
                · rw [if_pos h7]
                  obtain ⟨k, i, s, c, ns, al⟩ := z
                  rw [okF] at b1
                  rw [bndT] at b2
                  rw [narrowT] at b3
                  rw [sizeT] at b4
                  rw [encT, List.length_append] at b6
                  have hk7 : k = 7 := h7
                  subst hk7
                  rcases (partS_iff _ _ _ _ _ _).1 b1.1 with ⟨e, _⟩ | ⟨e, _⟩ | ⟨e, _⟩ | ⟨e, _⟩ | ⟨e, _⟩ | ⟨e, _⟩ | ⟨_, _, _, _, _, hl2, hlo⟩
                  · cases e
                  · cases e
                  · cases e
                  · cases e
                  · cases e
                  · cases e
                  · refine ⟨al, rfl, ?_, hlo, okFL_mono _ _ _ (by omega) b1.2.2, b2.2.2, b3.2, by omega, by omega⟩
                    intro e; rw [e] at hl2; simp at hl2
                · rw [if_neg h7]
                  refine ⟨[z], rfl, by simp, ?_, ?_, ?_, ?_, ?_, ?_⟩
                  · unfold lastOk; simp [h7]
                  · rw [okFL, okFL]; exact ⟨b1, trivial⟩
                  · rw [bndL, bndL]; exact ⟨b2, trivial⟩
                  · rw [narrowL, narrowL]; exact ⟨b3, trivial⟩
                  · rw [sizeTL, sizeTL]; omega
                  · rw [encTL, encTL, List.append_nil]; exact b6
              obtain ⟨d, hd, hne, hlo, c1, c2, c3, c4, c5⟩ := hz
              unfold joinS
              rw [hd, okF, bndT, narrowT, sizeT, encT, List.length_append, encTL_app, sizeTL_app, List.length_append]
              have hdl : 1 ≤ d.length := List.length_pos_iff.2 hne
              refine ⟨⟨(partS_iff _ _ _ _ _ _).2 (.inr (.inr (.inr (.inr (.inr (.inr ⟨rfl, rfl, rfl, rfl, rfl, by rw [List.length_append]; omega, by rw [lastOk_app hne]; exact hlo⟩)))))), by omega, (okFL_app _ _ _).2 ⟨a1, c1⟩⟩, ⟨by omega, fun x hx => (by cases hx), (bnd_append _ _).2 ⟨a2, c2⟩⟩, ⟨wide_other (by decide), (narrow_append _ _).2 ⟨a3, c3⟩⟩, by omega, b5, ?_⟩
              have : ∀ n, (headB 7 0 ⟨#[]⟩ 0 [] n).length = 5 := fun _ => rfl
              rw [this, List.length_append]; omega
            · exact sound_far hp h
theorem sound_term {l : List UInt8} : ∀ f, Sound f 0 (termS l f)
  | 0, st, t, st2, hp, h => by rw [termS] at h; split at h <;> cases h
  | f + 1, st, t, st2, hp, h => by
    rw [termS] at h
    split at h
    · cases h
    · split at h
      · cases h
      · split at h
        · cases h
        · obtain ⟨x, s1, h1, h⟩ := bind_ok h
          have e1 := needS_ok h1
          subst e1
          have := sound_body (sound_term f) (by dsimp only; omega) h
          dsimp only at this
          obtain ⟨a1, a2, a3, a4, a5, a6⟩ := this
          exact ⟨a1, a2, a3, by omega, a5, by omega⟩
/-! ### what a reading looks at -/
/-- a reading goes on, within the bytes; p more are there; nothing behind is looked at -/
def Onw (p : Nat) {α : Type} (rd : List UInt8 → Rd → Res α) : Prop := ∀ l st x st2, st.at_ ≤ l.length → st.at_ ≤ 65536 → rd l st = .ok x st2 →
  st.at_ ≤ st2.at_ ∧ st2.at_ + p ≤ l.length ∧ st2.at_ + p ≤ 65536 ∧ ∀ l' : List UInt8, l'.take (st2.at_ + p) = l.take (st2.at_ + p) → st2.at_ + p ≤ l'.length → rd l' st = .ok x st2
theorem take_le {l l' : List UInt8} {m n : Nat} (h : l'.take n = l.take n) (hmn : m ≤ n) : l'.take m = l.take m := by
  have := congrArg (List.take m) h
  rwa [List.take_take, List.take_take, Nat.min_eq_left hmn] at this
theorem take_get {l l' : List UInt8} {n i : Nat} (h : l'.take n = l.take n) (hi : i < n) : l'.getD i 0 = l.getD i 0 := by
  have := congrArg (fun x => x[i]?) h
  simp only [List.getElem?_take, if_pos hi] at this
  rw [List.getD_eq_getElem?_getD, List.getD_eq_getElem?_getD, this]
theorem take_cut {l l' : List UInt8} {n i m : Nat} (h : l'.take n = l.take n) (hi : i + m ≤ n) : cutB l' i m = cutB l i m := by
  have e : ∀ l : List UInt8, cutB l i m = (l.take (i + m)).drop i := fun l => by unfold cutB; rw [List.drop_take, Nat.add_sub_cancel_left]
  rw [e, e, take_le h hi]
theorem Onw.ok {α : Type} (x : α) : Onw 0 (fun _ st => .ok x st) := fun l st y st2 h1 h2 h => by
  cases h
  exact ⟨Nat.le_refl _, h1, h2, fun _ _ _ => rfl⟩
theorem Onw.bad {α : Type} (k : List UInt8 → Rd → List Lk) : Onw 0 (fun l st => (.bad (k l st) : Res α)) := fun l st y st2 h1 h2 h => by cases h
theorem Onw.bind {α β : Type} {f : List UInt8 → Rd → Res α} {g : α → List UInt8 → Rd → Res β} (hf : Onw 0 f) (hg : ∀ x, Onw 0 (g x)) : Onw 0 fun l st => (f l st).bind fun x s => g x l s := by
  intro l st y st2 h1 h2 h
  obtain ⟨x, s1, e1, e2⟩ := bind_ok h
  obtain ⟨a1, a2, a3, a4⟩ := hf l st x s1 h1 h2 e1
  obtain ⟨b1, b2, b3, b4⟩ := hg x l s1 y st2 a2 a3 e2
  refine ⟨by omega, b2, b3, fun l' ht hl => ?_⟩
  show (f l' st).bind _ = _
  rw [a4 l' (take_le ht (by omega)) (by omega)]
  exact b4 l' ht hl
theorem good_need (tag n : Nat) : Onw 0 (fun l st => needS l tag n st) := fun l st x st2 h1 h2 h => by
  rcases needS_cases l tag n st with ⟨k, e⟩ | ⟨e, h3, h4⟩
  · dsimp only at h; rw [e] at h; cases h
  · dsimp only at h; rw [e] at h; cases h
    refine ⟨Nat.le_add_right _ _, h3, h4, fun l' ht hl => ?_⟩
    dsimp only at hl ⊢
    unfold needS
    rw [if_neg (by omega), if_neg (by omega)]
theorem good_four (tag : Nat) : Onw 0 (fun l st => fourS l tag st) := fun l st x st2 h1 h2 h => by
  dsimp only at h
  unfold fourS at h
  obtain ⟨y, s1, e1, e2⟩ := bind_ok h
  obtain ⟨a1, a2, a3, a4⟩ := good_need tag 4 l st y s1 h1 h2 e1
  cases e2
  refine ⟨a1, a2, a3, fun l' ht hl => ?_⟩
  have h3 := needS_ok e1
  dsimp only
  unfold fourS
  rw [show needS l' tag 4 st = .ok y st2 from a4 l' ht hl]
  simp only [Res.bind]
  rw [take_cut ht (by rw [h3]; dsimp only; omega)]
theorem good_txt (tag : Nat) (wide : Bool) (p : Nat) : Onw p (fun l st => txtS l tag wide p st) := fun l st x st2 h1 h2 h => by
  dsimp only at h
  unfold txtS at h
  obtain ⟨y, s1, e1, h⟩ := bind_ok h
  obtain ⟨z, s2, e2, h⟩ := bind_ok h
  have k1 := needS_ok e1
  have k2 := needS_ok e2
  obtain ⟨a1, a2, a3, a4⟩ := good_need _ _ l st y s1 h1 h2 e1
  obtain ⟨b1, b2, b3, b4⟩ := good_need _ _ l s1 z s2 a2 a3 e2
  cases h
  dsimp only at *
  have k3 : s2.at_ - p + p = s2.at_ := by rw [k2]; dsimp only; omega
  have k4 : s1.at_ + numS (cutB l st.at_ (if wide = true then 2 else 1)) + p = s2.at_ := by rw [k2]; dsimp only; omega
  have k5 : s1.at_ = st.at_ + if wide = true then 2 else 1 := by rw [k1]
  rw [k3]
  refine ⟨by omega, b2, b3, fun l' ht hl => ?_⟩
  unfold txtS
  rw [a4 l' (take_le ht (by omega)) (by omega)]
  simp only [Res.bind]
  rw [take_cut ht (by rw [← k5]; omega), b4 l' ht hl]
  dsimp only
  rw [take_cut ht (by omega)]
theorem good_nam (tag p : Nat) : Onw p (fun l st => namS l tag p st) := fun l st x st2 h1 h2 h => by
  dsimp only at h
  unfold namS at h
  obtain ⟨y, s1, e1, h⟩ := bind_ok h
  obtain ⟨a1, a2, a3, a4⟩ := good_need _ _ l st y s1 h1 h2 e1
  split at h
  · cases h
  · rename_i hk
    obtain ⟨z, s2, e2, h⟩ := bind_ok h
    obtain ⟨b1, b2, b3, b4⟩ := good_txt _ _ p l s1 z s2 a2 a3 e2
    split at h
    · cases h
    · rename_i hn
      cases h
      dsimp only at *
      refine ⟨by omega, b2, b3, fun l' ht hl => ?_⟩
      have k1 := needS_ok e1
      have k5 : s1.at_ = st.at_ + 1 := by rw [k1]
      unfold namS
      rw [a4 l' (take_le ht (by omega)) (by omega)]
      simp only [Res.bind]
      rw [take_get ht (by omega), if_neg hk, b4 l' ht hl]
      dsimp only
      rw [if_neg hn]
theorem good_nums (tag : Nat) : ∀ n, Onw 0 (fun l st => numsS l tag n st)
  | 0 => Onw.ok []
  | n + 1 => Onw.bind (good_four tag) fun x => Onw.bind (good_nums tag n) fun r => Onw.ok _
theorem good_pid (tag : Nat) : Onw 0 (fun l st => pidS l tag st) := fun l st x st2 h1 h2 h => by
  dsimp only at h
  unfold pidS at h
  obtain ⟨s, s1, e1, h⟩ := bind_ok h
  obtain ⟨a1, a2, a3, a4⟩ := good_nam _ _ l st s s1 h1 h2 e1
  dsimp only at a4
  have hg : Onw 0 (fun l st1 => (fourS l tag st1).bind fun a st2 => (fourS l tag st2).bind fun b st3 => (fourS l tag st3).bind fun c st4 => .ok (Tm.mk 4 0 s c [(a : Int), (b : Int)] []) st4) :=
    Onw.bind (good_four tag) fun a => Onw.bind (good_four tag) fun b => Onw.bind (good_four tag) fun c => Onw.ok _
  obtain ⟨b1, b2, b3, b4⟩ := hg l s1 x st2 (by omega) (by omega) h
  have hat : st2.at_ = s1.at_ + 12 := by
    obtain ⟨a, s2, e2, h⟩ := bind_ok h
    obtain ⟨b, s3, e3, h⟩ := bind_ok h
    obtain ⟨c, s4, e4, h⟩ := bind_ok h
    cases h
    rw [(fourS_full e4).1, (fourS_full e3).1, (fourS_full e2).1]
  refine ⟨by omega, b2, b3, fun l' ht hl => ?_⟩
  dsimp only
  unfold pidS
  rw [a4 l' (take_le ht (by omega)) (by omega)]
  exact b4 l' ht hl
theorem good_ref (tag : Nat) : Onw 0 (fun l st => refS l tag st) := fun l st x st2 h1 h2 h => by
  dsimp only at h
  unfold refS at h
  obtain ⟨y, s0, e0, h⟩ := bind_ok h
  obtain ⟨z1, z2, z3, z4⟩ := good_need _ _ l st y s0 h1 h2 e0
  dsimp only at z4
  have k0 := needS_ok e0
  split at h
  · cases h
  · rename_i hk
    obtain ⟨s, s1, e1, h⟩ := bind_ok h
    obtain ⟨a1, a2, a3, a4⟩ := good_nam _ _ l s0 s s1 z2 z3 e1
    dsimp only at a4
    have hg : Onw 0 (fun l st1 => (fourS l tag st1).bind fun c st2 => (numsS l tag 3 st2).bind fun ns st3 => .ok (Tm.mk 3 0 s c ns []) st3) :=
      Onw.bind (good_four tag) fun a => Onw.bind (good_nums tag 3) fun b => Onw.ok _
    obtain ⟨b1, b2, b3, b4⟩ := hg l s1 x st2 (by omega) (by omega) h
    have hat : st2.at_ = s1.at_ + 16 := by
      obtain ⟨a, s2, e2, h⟩ := bind_ok h
      obtain ⟨b, s3, e3, h⟩ := bind_ok h
      cases h
      rw [(numsS_full e3).1, (fourS_full e2).1]
    have k5 : s0.at_ = st.at_ + 2 := by rw [k0]
    refine ⟨by omega, b2, b3, fun l' ht hl => ?_⟩
    dsimp only
    unfold refS
    rw [z4 l' (take_le ht (by omega)) (by omega)]
    simp only [Res.bind]
    rw [take_get ht (by omega), take_get ht (by omega), if_neg hk, a4 l' (take_le ht (by omega)) (by omega)]
    exact b4 l' ht hl
theorem good_count (tag : Nat) (k : UInt8) : Onw 0 (fun l st => countS l tag k st) := fun l st x st2 h1 h2 h => by
  dsimp only at h
  unfold countS at h
  split at h
  · rename_i hk
    obtain ⟨y, s1, e1, h⟩ := bind_ok h
    obtain ⟨a1, a2, a3, a4⟩ := good_need _ _ l st y s1 h1 h2 e1
    dsimp only at a4
    have k1 := needS_ok e1
    cases h
    have k5 : st2.at_ = st.at_ + 1 := by rw [k1]
    refine ⟨a1, a2, a3, fun l' ht hl => ?_⟩
    dsimp only
    unfold countS
    rw [if_pos hk, a4 l' ht hl]
    simp only [Res.bind]
    rw [take_get ht (by omega)]
  · rename_i hk
    have hg : Onw 0 (fun l st => (fourS l tag st).bind fun n st2 => if k = 108 ∧ n = 0 then .bad [⟨etfL, tag, 84⟩] else .ok n st2) :=
      Onw.bind (g := fun n l st2 => if k = 108 ∧ n = 0 then .bad [⟨etfL, tag, 84⟩] else .ok n st2) (good_four tag) fun n => by
        by_cases e : k = 108 ∧ n = 0
        · simp only [if_pos e]; exact Onw.bad fun _ _ => _
        · simp only [if_neg e]; exact Onw.ok n
    obtain ⟨a1, a2, a3, a4⟩ := hg l st x st2 h1 h2 h
    refine ⟨a1, a2, a3, fun l' ht hl => ?_⟩
    dsimp only
    unfold countS
    rw [if_neg hk]
    exact a4 l' ht hl
theorem good_row {rd : List UInt8 → Rd → Res Tm} (h : Onw 0 rd) : ∀ n, Onw 0 (fun l st => rowS (rd l) n st)
  | 0 => Onw.ok []
  | n + 1 => Onw.bind (f := rd) (g := fun t l st2 => (rowS (rd l) n st2).bind fun r st3 => .ok (t :: r) st3) h fun x => Onw.bind (good_row h n) fun r => Onw.ok _
theorem good_far (tag : Nat) (k : UInt8) : Onw 0 (fun l st => farS l tag k st) := by
  unfold farS
  by_cases h : k = 88
  · simp only [if_pos h]; exact good_pid tag
  · simp only [if_neg h]; exact good_ref tag
theorem good_body {rd : List UInt8 → Rd → Res Tm} (h : Onw 0 rd) (tag : Nat) (k : UInt8) : Onw 0 (fun l st => bodyS l (rd l) tag k st) := by
  unfold bodyS
  by_cases h1 : k = 97
  · simp only [if_pos h1]
    intro l st x st2 h1 h2 h
    dsimp only at h
    obtain ⟨y, s1, e1, h⟩ := bind_ok h
    obtain ⟨a1, a2, a3, a4⟩ := good_need _ _ l st y s1 h1 h2 e1
    dsimp only at a4
    have k1 := needS_ok e1
    cases h
    have k5 : st2.at_ = st.at_ + 1 := by rw [k1]
    refine ⟨a1, a2, a3, fun l' ht hl => ?_⟩
    dsimp only
    rw [a4 l' ht hl]
    simp only [Res.bind]
    rw [take_get ht (by omega)]
  · by_cases h2 : k = 98
    · simp only [if_neg h1, if_pos h2]
      exact Onw.bind (good_four tag) fun n => Onw.ok _
    · by_cases h3 : k = 118 ∨ k = 119
      · simp only [if_neg h1, if_neg h2, if_pos h3]
        refine Onw.bind (g := fun s l st2 => if (quoteS s).2 ≠ [] then .bad (ofS tag (quoteS s).2) else .ok (Tm.mk 2 0 s 0 [] []) ⟨st2.at_, st2.part, st2.atoms ++ [s]⟩) (good_txt tag _ 0) fun s => ?_
        by_cases e : (quoteS s).2 ≠ []
        · simp only [if_pos e]; exact Onw.bad fun _ _ => _
        · simp only [if_neg e]
          intro l st y st2 h1 h2 h
          cases h
          exact ⟨Nat.le_refl _, h1, h2, fun _ _ _ => rfl⟩
      · by_cases h4 : k = 104 ∨ k = 105
        · simp only [if_neg h1, if_neg h2, if_neg h3, if_pos h4]
          exact Onw.bind (good_count tag k) fun n => Onw.bind (good_row h n) fun r => Onw.ok _
        · by_cases h5 : k = 106
          · simp only [if_neg h1, if_neg h2, if_neg h3, if_neg h4, if_pos h5]
            exact Onw.ok _
          · by_cases h6 : k = 108
            · simp only [if_neg h1, if_neg h2, if_neg h3, if_neg h4, if_neg h5, if_pos h6]
              exact Onw.bind (good_count tag k) fun n => Onw.bind (g := fun r l st3 => (rd l st3).bind fun t st4 => .ok (joinS r t) st4) (good_row h n) fun r => Onw.bind (f := rd) h fun t => Onw.ok _
            · simp only [if_neg h1, if_neg h2, if_neg h3, if_neg h4, if_neg h5, if_neg h6]
              exact good_far tag k
theorem good_term : ∀ f, Onw 0 (fun l st => termS l f st)
  | 0 => fun l st t st2 h1 h2 h => by dsimp only at h; rw [termS] at h; split at h <;> cases h
  | f + 1 => fun l st t st2 h1 h2 h => by
    dsimp only at h
    rw [termS] at h
    split at h
    · cases h
    · split at h
      · cases h
      · split at h
        · cases h
        · rename_i g1 g2 g3
          obtain ⟨x, s1, e1, h⟩ := bind_ok h
          obtain ⟨a1, a2, a3, a4⟩ := good_need st.at_ 1 l ⟨st.at_, st.part + 1, st.atoms⟩ x s1 h1 h2 e1
          dsimp only at a4
          have k1 := needS_ok e1
          obtain ⟨b1, b2, b3, b4⟩ := good_body (good_term f) st.at_ (l.getD st.at_ 0) l s1 t st2 a2 a3 h
          have k5 : s1.at_ = st.at_ + 1 := by rw [k1]
          refine ⟨by omega, b2, b3, fun l' ht hl => ?_⟩
          dsimp only
          rw [termS, if_neg g1, if_neg (by omega), take_get ht (by omega), if_neg g3, a4 l' (take_le ht (by omega)) (by omega)]
          exact b4 l' ht hl
theorem readS_goes {l : List UInt8} {t : Tm} {st : Rd} (h : readS l = .ok t st) : 2 ≤ st.at_ ∧ st.at_ ≤ l.length ∧ st.at_ ≤ 65536 ∧ ∀ l' : List UInt8, l'.take st.at_ = l.take st.at_ → st.at_ ≤ l'.length → readS l' = .ok t st := by
  unfold readS at h ⊢
  split at h
  · rename_i hk
    have hl : 1 ≤ l.length := List.length_pos_iff.2 hk.2
    obtain ⟨b1, b2, b3, b4⟩ := good_term 256 l ⟨1, 0, []⟩ t st hl (by dsimp only; omega) h
    have h2 : 2 ≤ st.at_ := by
      have := (sound_term 256 _ _ _ (by dsimp only; omega) h).2.2.2.2.2
      dsimp only at this
      have hz : 1 ≤ (encT t).length := by
        obtain ⟨a1, _⟩ := sound_term 256 _ _ _ (by dsimp only; omega) h
        cases t with
        | mk k i s c ns al =>
          have h3 := (sound_term 256 _ _ _ (by dsimp only; omega) h).2.2.1
          rw [okF] at a1
          rw [narrowT] at h3
          rw [encT, List.length_append]
          have : 1 ≤ (headB k i s c ns al.length).length := by
            rcases (partS_iff _ _ _ _ _ _).1 a1.1 with ⟨rfl, _⟩ | ⟨rfl, _⟩ | ⟨rfl, _⟩ | ⟨rfl, _⟩ | ⟨rfl, _⟩ | ⟨rfl, _⟩ | ⟨rfl, _⟩
            · unfold headB
              rw [if_pos rfl, h3.1, if_neg (by decide)]
              split <;> simp
            · show 1 ≤ (atomB s).length
              unfold atomB; simp
            · show 1 ≤ ([90, 0, 3] ++ atomB s ++ fourB c ++ ns.flatMap fourB).length
              simp
            · show 1 ≤ (88 :: (atomB s ++ fourB (ns.getD 0 0) ++ fourB (ns.getD 1 0) ++ fourB c)).length
              rw [List.length_cons]; omega
            · show 1 ≤ (if al.length < 256 then [104, UInt8.ofNat al.length] else 105 :: fourB al.length).length
              split <;> simp
            · exact Nat.le_refl _
            · show 1 ≤ (108 :: fourB ((al.length : Int) - 1)).length
              rw [List.length_cons]; omega
          omega
      omega
    refine ⟨h2, b2, b3, fun l' ht hl' => ?_⟩
    have e0 : l'.getD 0 0 = l.getD 0 0 := take_get ht (by omega)
    rw [e0, if_pos ⟨hk.1, fun e => by rw [e] at hl'; simp at hl'; omega⟩]
    exact b4 l' ht hl'
  · cases h
/-- P4.4 -/
theorem shortest_law {l : List UInt8} {t : Tm} {st : Rd} (h : readS l = .ok t st) : (encS t).2 = [] ∧ (encS t).1.length ≤ st.at_ ∧ ∃ st2, wholeS (encS t).1 = .ok t st2 := by
  have hg := (readS_goes h).2.2.1
  unfold readS at h
  split at h
  · obtain ⟨a1, a2, a3, a4, a5, a6⟩ := sound_term 256 _ _ _ (by dsimp only; omega) h
    dsimp only at a4 a6
    have hc := (checkS_iff t).2 ⟨a1, by omega⟩
    rcases encS_cases t with ⟨e, _⟩ | ⟨_, e, _⟩ | ⟨_, _, e, _⟩ | ⟨_, _, hl, e⟩
    · exact absurd hc e
    · exact absurd a3 e
    · omega
    · have h2 : (encS t).2 = [] := by rw [e]
      exact ⟨h2, by rw [e]; simp; omega, whole_of_enc a2 h2⟩
  · cases h
/-- P4.5 -/
theorem further_law {l : List UInt8} {t : Tm} {st : Rd} (h : readS l = .ok t st) : 2 ≤ st.at_ ∧ st.at_ ≤ l.length ∧ (∀ more, readS (l.take st.at_ ++ more) = .ok t st) ∧ ∀ k, k < st.at_ → ∃ bad, readS (l.take k) = .bad bad := by
  obtain ⟨h1, h2, h3, h4⟩ := readS_goes h
  refine ⟨h1, h2, fun more => h4 _ ?_ ?_, fun k hk => ?_⟩
  · rw [List.take_append_of_le_length (by rw [List.length_take]; omega), List.take_take, Nat.min_self]
  · rw [List.length_append, List.length_take]; omega
  · cases hr : readS (l.take k) with
    | bad b => exact ⟨b, rfl⟩
    | ok u s =>
      obtain ⟨g1, g2, g3, g4⟩ := readS_goes hr
      rw [List.length_take] at g2
      have := g4 l (by rw [List.take_take, Nat.min_eq_left (by omega)]) (by omega)
      rw [h] at this
      cases this
      omega
end Go.Proofs.YtlahagabcnmdiaaDoor
end
section
/- heddlelaw04: known, awake. Printed by wip/edr.py. -/
open Go Go.RowKit
namespace Go.Proofs.YtlahagabcnmdiaaDoor
set_option linter.unusedVariables false
set_option linter.unusedSimpArgs false

set_option maxRecDepth 100000 in
theorem known_any (w : World) : Calls Tryd.prog 49 #[] w fun e w' => ∃ a c, e = .returned (.slice a 20 c) ∧ BufIs w.heap.size (.slice a 20 c) knownL w' ∧ Below w.heap.size w w' := by
  have HB := Lib.hid ((Below.refl w.heap.size w).alloc (Nat.le_refl _) (.cells #[.int .u8 131, .int .u8 104, .int .u8 2, .int .u8 119, .int .u8 2, .int .u8 111, .int .u8 107, .int .u8 108, .int .u8 0, .int .u8 0, .int .u8 0, .int .u8 2, .int .u8 97, .int .u8 1, .int .u8 98, .int .u8 255, .int .u8 255, .int .u8 255, .int .u8 255, .int .u8 106] 5 (0, 0)))
  have HL := Lib.hid (show BufIs w.heap.size (.slice (some ⟨w.heap.size, 0, none⟩) 20 20) knownL (w.alloc (.cells #[.int .u8 131, .int .u8 104, .int .u8 2, .int .u8 119, .int .u8 2, .int .u8 111, .int .u8 107, .int .u8 108, .int .u8 0, .int .u8 0, .int .u8 0, .int .u8 2, .int .u8 97, .int .u8 1, .int .u8 98, .int .u8 255, .int .u8 255, .int .u8 255, .int .u8 255, .int .u8 106] 5 (0, 0))) from BufIs.lit (base := w.heap.size) (w := w) knownL (Nat.le_refl _) (by decide))
  go_enter Tryd.func49, Tryd.ntmps49
  go_wp2
  go_ret
  exact ⟨_, _, rfl, HL.out, HB.out⟩
/-- the bytes and a seven behind them -/
theorem known_seven {w w1 : World} {a : Option Addr} {c : Nat} (h : BufIs w.heap.size (.slice a 20 c) knownL w1) (hb : w.heap.size ≤ w1.heap.size) :
    ∃ a' n' c' w', (Builtin.append_ #[64, 64] 64 #[.slice a 20 c, .slice (some ⟨w1.heap.size, 0, none⟩) 1 1]).run Tryd.prog (w1.alloc (.cells #[.int .u8 7] 5 (0, 0))) = .ok (.slice a' n' c') w' ∧ RSl (.slice a' n' c') (knownL ++ [7]) w' ∧ (Below w.heap.size w w1 → Below w.heap.size w w') := by
  have hb1 : Below w1.heap.size w1 (w1.alloc (.cells #[.int .u8 7] 5 (0, 0))) := (Below.refl _ _).alloc (Nat.le_refl _) _
  obtain ⟨v', w', hr, h2, hg, _⟩ := (h.below hb1 (Nat.le_refl _)).app2 (RSl.lit w1 [7] (by decide)) (by decide) (Nat.le_trans hb hb1.size)
  obtain ⟨a', n', c', rfl⟩ : ∃ a n c, v' = .slice a n c := by
    rcases h2.shape with ⟨rfl, _⟩ | ⟨_, _, rfl, _⟩ <;> exact ⟨_, _, _, rfl⟩
  refine ⟨a', n', c', w', hr, h2.rsl, fun hB => (hB.trans (hb1.mono hB.size)).grown hg (Nat.le_trans hB.size hb1.size) (fun q hq => (h.block hq).1)⟩
/-- string(b) of bytes that are read -/
theorem run_rsl_string {v : Value} {l : List UInt8} {w : World} (h : RSl v l w) (hl : l ≠ []) : (convert 64 9 v).run Tryd.prog w = .ok (.string ⟨l.toArray⟩) w := by
  obtain ⟨a, c, rfl, h1, h2, hc⟩ := h
  obtain ⟨g, o, rfl, _⟩ := hc 0 (List.length_pos_iff.2 hl)
  rw [← strOfNums_bytes]
  refine run_convert_bytes_arg w 64 5 Tryd.underlying64 Tryd.underlying5 g o l.length c _ (by simp) ?_ 9 Tryd.underlying9
  intro i hi
  obtain ⟨g', o', e, hx⟩ := hc i hi
  cases e
  rw [hx]
  simp [byteV, List.getD, hi]
set_option maxHeartbeats 16000000 in
set_option maxRecDepth 100000 in
theorem awake_any (w : World) (hG : Gt w) : Calls Tryd.prog 27 #[] w fun e w' => e = .returned (.bool true) ∧ Below w.heap.size w w' := by
  have HG := Lib.hid hG
  have HK := Lib.hid (fun W => known_any W)
  clear hG
  go_enter Tryd.func27, Tryd.ntmps27
  go_wp2_with fail
  refine (HK.out _).mono ?_
  rintro e w1 ⟨a1, c1, rfl, hb1, hB1⟩
  obtain ⟨a2, n2, c2, w2, hr2, hs2, hB2⟩ := known_seven hb1 hB1.size
  have HR2 := Lib.hid hr2
  have HB2 := Lib.hid (hB2 hB1)
  have HD := Lib.hid (decode_nil _ _ _ hs2 (HG.out.below (hB2 hB1)))
  rw [known_read] at HD
  clear hr2 hs2 hB2 hb1 hB1
  go_wp2_with (at_builtin; refine stop ?_)
  refine Stopped.of ?_
  refine wp_app_eq rfl (.tmp 12) (.tmp 13) _ _ rfl _ _ (.slice a2 n2 c2) w2 rfl rfl HR2.out ?_
  go_wp2_with fail
  refine HD.out.mono ?_
  intro e w3 hr
  obtain ⟨vs3, rfl, ht3, hb3⟩ := hr
  have HT3 := Lib.hid ht3
  have HB3 := Lib.hid (HB2.out.trans (hb3.mono HB2.out.size))
  obtain ⟨_, nv3, a3, cap3, hvs, hnn3, _⟩ := ht3.parts
  obtain ⟨na3, nc3, rfl, _, _⟩ := hnn3.slice
  replace hvs : vs3 = [.int .i64 5, .int .i64 0, .string ⟨#[]⟩, .int .u32 0, .slice na3 0 nc3, .slice a3 2 cap3] := hvs
  subst hvs
  have T4 := Lib.hid (Cells.new w3 30 [.int .i64 5, .int .i64 0, .string ⟨#[]⟩, .int .u32 0, .slice na3 0 nc3, .slice a3 2 cap3])
  have BT := Lib.hid ((Below.refl _ w3).alloc (Nat.le_refl _) (.cells #[.int .i64 5, .int .i64 0, .string ⟨#[]⟩, .int .u32 0, .slice na3 0 nc3, .slice a3 2 cap3] 30 (0, 0)))
  have HB4 := Lib.hid (HB3.out.trans (BT.out.mono HB3.out.size))
  have HE := Lib.hid (encode_any (fun q => q < w3.heap.size) knownT _ _ ((ht3.mono fun q hq _ => hq).below BT.out) (fun b hb => Nat.lt_of_lt_of_le hb BT.out.size) (HG.out.below HB4.out))
  rw [known_enc] at HE
  have m0 := T4.out.cell 0
  have m1 := T4.out.cell 1
  have m2 := T4.out.cell 2
  have m3 := T4.out.cell 3
  have m4 := T4.out.cell 4
  have m5 := T4.out.cell 5
  simp only [List.getElem?_cons_zero, List.getElem?_cons_succ] at m0 m1 m2 m3 m4 m5
  clear ht3 hnn3 hb3 HD
  go_wp2_with fail
  generalize w3.alloc (.cells #[.int .i64 5, .int .i64 0, .string ⟨#[]⟩, .int .u32 0, .slice na3 0 nc3, .slice a3 2 cap3] 30) = w4 at *
  refine HE.out.mono ?_
  intro e w5 hr
  obtain ⟨bv, ev, rfl, hbv, hev, hb5⟩ := hr
  obtain rfl : ev = .nilIface := hev
  obtain ⟨ba, bc, rfl⟩ : ∃ a c, bv = .slice a knownL.length c := by
    rcases hbv.shape with ⟨_, hn⟩ | ⟨g, c, rfl, _⟩
    · exact absurd hn (by decide)
    · exact ⟨_, c, rfl⟩
  have HBV := Lib.hid hbv.rsl
  have HB5 := Lib.hid (HB4.out.trans (hb5.mono HB4.out.size))
  have T5 := Lib.hid (T4.out.below hb5)
  have BQ := Lib.hid ((Below.refl _ w5).alloc (Nat.le_refl _) (.cells #[.int .u8 131, .int .u8 104, .int .u8 1] 5 (0, 0)))
  have HB6 := Lib.hid (HB5.out.trans (BQ.out.mono HB5.out.size))
  have T6 := Lib.hid (T5.out.below BQ.out)
  have HBV6 := Lib.hid (HBV.out.below BQ.out)
  have HD := Lib.hid (decode_nil [131, 104, 1] (.slice (some ⟨w5.heap.size, 0, none⟩) 3 3) _ (RSl.lit w5 [131, 104, 1] (by decide)) (HG.out.below HB6.out))
  rw [known_cut] at HD
  have HD2 : Hid (Calls Tryd.prog 30 #[.slice (some ⟨w5.heap.size, 0, none⟩) 3 3, .pointer none] (w5.alloc (.cells #[.int .u8 131, .int .u8 104, .int .u8 1] 5 (0, 0))) (DecR (w5.alloc (.cells #[.int .u8 131, .int .u8 104, .int .u8 1] 5 (0, 0))) (.bad [⟨etfL, 3, 82⟩]))) := HD
  clear hbv hb5 m0 m1 m2 m3 m4 m5 HE HD T4 BT
  go_wp2_with fail
  generalize w5.alloc (.cells #[.int .u8 131, .int .u8 104, .int .u8 1] 5) = w6 at *
  refine HD2.out.mono ?_
  intro e w7 hr
  obtain ⟨b7, rfl, he7, _, hb7⟩ := hr
  have HE7 := Lib.hid he7
  have HB7 := Lib.hid (HB6.out.trans (hb7.mono HB6.out.size))
  have T7 := Lib.hid (T6.out.below hb7)
  have HBV7 := Lib.hid (HBV6.out.below hb7)
  have BZ := Lib.hid ((Below.refl _ w7).alloc (Nat.le_refl _) (.cells #[.int .i64 0, .int .i64 0, .string ⟨#[]⟩, .int .u32 0, .slice none 0 0, .slice none 0 0] 30 (0, 0)))
  have HB8 := Lib.hid (HB7.out.trans (BZ.out.mono HB7.out.size))
  have T8 := Lib.hid (T7.out.below BZ.out)
  have HBV8 := Lib.hid (HBV7.out.below BZ.out)
  have HE8 := Lib.hid (HE7.out.below BZ.out)
  clear he7 hb7 HD2 T5 T6 T7 HBV HBV6 HBV7 HE7 BQ
  unfold termZ
  go_wp2_with fail
  generalize w7.alloc (.cells #[.int .i64 0, .int .i64 0, .string ⟨#[]⟩, .int .u32 0, .slice none 0 0, .slice none 0 0] 30) = w8 at *
  refine (HK.out _).mono ?_
  rintro e w9 ⟨a9, c9, rfl, hb9, hB9⟩
  obtain ⟨aA, nA, cA, wA, hrA, hsA, hBA⟩ := known_seven hb9 hB9.size
  have HRA := Lib.hid hrA
  have HB8A := Lib.hid (hBA hB9)
  have HBA := Lib.hid (HB8.out.trans ((hBA hB9).mono HB8.out.size))
  have TA := Lib.hid (T8.out.below (hBA hB9))
  have HBVA := Lib.hid (HBV8.out.below (hBA hB9))
  have HEA := Lib.hid (HE8.out.below (hBA hB9))
  have HW := Lib.hid (whole_nil _ _ _ hsA (HG.out.below HBA.out) (fun t st h => by rw [known_read] at h; cases h; decide))
  rw [known_whole] at HW
  clear hrA hsA hBA hb9 hB9 T8 HBV8 HE8
  go_wp2_with (at_builtin; refine stop ?_)
  refine Stopped.of ?_
  refine wp_app_eq rfl (.tmp 31) (.tmp 32) _ _ rfl _ _ (.slice aA nA cA) wA rfl rfl HRA.out ?_
  go_wp2_with fail
  refine HW.out.mono ?_
  intro e wB hr
  obtain ⟨bB, rfl, heB, _, hbB⟩ := hr
  have HBB := Lib.hid (HBA.out.trans (hbB.mono HBA.out.size))
  have BY := Lib.hid ((Below.refl _ wB).alloc (Nat.le_refl _) (.cells #[.int .i64 0, .int .i64 0, .string ⟨#[]⟩, .int .u32 0, .slice none 0 0, .slice none 0 0] 30 (0, 0)))
  have HBC := Lib.hid (HBB.out.trans (BY.out.mono HBB.out.size))
  have TC := Lib.hid ((TA.out.below hbB).below BY.out)
  have HBVC := Lib.hid ((HBVA.out.below hbB).below BY.out)
  have HEC := Lib.hid ((HEA.out.below hbB).below BY.out)
  have HFC := Lib.hid (ErrIs.below BY.out heB)
  clear heB hbB HW TA HBVA HEA
  unfold termZ
  go_wp2_with fail
  generalize wB.alloc (.cells #[.int .i64 0, .int .i64 0, .string ⟨#[]⟩, .int .u32 0, .slice none 0 0, .slice none 0 0] 30) = wC at *
  go_wp2
  refine wp_region_L (S := fun X => Below wC.heap.size wC X) (F := []) (by kernel_rfl) (Below.drew (Below.refl _ _)) (fun hHeld => ?_)
  refine wpAnyL_easy (i := 0) (v := .nilIface) (by simp only [List.getElem?_toArray, List.getElem?_cons_succ, List.getElem?_cons_zero]; rfl) (by kernel_rfl) (by kernel_rfl) (by kernel_rfl) (by exact fun _ _ _ h => h) (Or.inl ⟨by rfl, fun _ _ => rfl⟩) ?_
  try simp only [Act.put, List.setIfInBounds_toArray, List.set_cons_zero, List.set_cons_succ]
  refine wpAnyL_easy (i := 1) (v := (.bool true)) (by simp only [List.getElem?_toArray, List.getElem?_cons_succ, List.getElem?_cons_zero]; rfl) (by kernel_rfl) (by kernel_rfl) (by kernel_rfl) (by exact fun _ _ _ h => h) (Or.inl ⟨by rfl, by intro W _; go_simp; all_goals first | rfl | exact ⟨rfl, rfl, rfl, rfl, rfl, rfl⟩⟩) ?_
  try simp only [Act.put, List.setIfInBounds_toArray, List.set_cons_zero, List.set_cons_succ]
  refine wpAnyL_easy (i := 2) (v := (.bool true)) (by simp only [List.getElem?_toArray, List.getElem?_cons_succ, List.getElem?_cons_zero]; rfl) (by kernel_rfl) (by kernel_rfl) (by kernel_rfl) (by exact fun _ _ _ h => h) (Or.inl ⟨by rfl, by intro W _; go_simp; all_goals first | rfl | exact ⟨rfl, rfl, rfl, rfl, rfl, rfl⟩⟩) ?_
  try simp only [Act.put, List.setIfInBounds_toArray, List.set_cons_zero, List.set_cons_succ]
  refine wpAnyL_easy (i := 3) (v := .nilIface) (by simp only [List.getElem?_toArray, List.getElem?_cons_succ, List.getElem?_cons_zero]; rfl) (by kernel_rfl) (by kernel_rfl) (by kernel_rfl) (by exact fun _ _ _ h => h) (Or.inl ⟨by rfl, fun _ _ => rfl⟩) ?_
  try simp only [Act.put, List.setIfInBounds_toArray, List.set_cons_zero, List.set_cons_succ]
  refine wpAnyL_easy (i := 4) (v := (.bool true)) (by simp only [List.getElem?_toArray, List.getElem?_cons_succ, List.getElem?_cons_zero]; rfl) (by kernel_rfl) (by kernel_rfl) (by kernel_rfl) (by exact fun _ _ _ h => h) (Or.inl ⟨by rfl, by intro W _; go_simp; all_goals first | rfl | exact ⟨rfl, rfl, rfl, rfl, rfl, rfl⟩⟩) ?_
  try simp only [Act.put, List.setIfInBounds_toArray, List.set_cons_zero, List.set_cons_succ]
  refine wpAnyL_easy (i := 5) (v := (.bool true)) (by simp only [List.getElem?_toArray, List.getElem?_cons_succ, List.getElem?_cons_zero]; rfl) (by kernel_rfl) (by kernel_rfl) (by kernel_rfl) (by exact fun _ _ _ h => h) (Or.inl ⟨by rfl, by intro W _; go_simp; all_goals first | rfl | exact ⟨rfl, rfl, rfl, rfl, rfl, rfl⟩⟩) ?_
  try simp only [Act.put, List.setIfInBounds_toArray, List.set_cons_zero, List.set_cons_succ]
  refine wpAnyL_easy (i := 6) (v := (.bool true)) (by simp only [List.getElem?_toArray, List.getElem?_cons_succ, List.getElem?_cons_zero]; rfl) (by kernel_rfl) (by kernel_rfl) (by kernel_rfl) (by exact fun _ _ _ h => h) (Or.inl ⟨by rfl, by intro W _; go_simp; all_goals first | rfl | exact ⟨rfl, rfl, rfl, rfl, rfl, rfl⟩⟩) ?_
  try simp only [Act.put, List.setIfInBounds_toArray, List.set_cons_zero, List.set_cons_succ]
  refine wpAnyL_easy (i := 7) (v := (.int .i64 20)) (by simp only [List.getElem?_toArray, List.getElem?_cons_succ, List.getElem?_cons_zero]; rfl) (by kernel_rfl) (by kernel_rfl) (by kernel_rfl) (by exact fun _ _ _ h => h) (Or.inl ⟨by rfl, fun _ _ => rfl⟩) ?_
  try simp only [Act.put, List.setIfInBounds_toArray, List.set_cons_zero, List.set_cons_succ]
  refine wpAnyL_easy (i := 8) (v := (.bool true)) (by simp only [List.getElem?_toArray, List.getElem?_cons_succ, List.getElem?_cons_zero]; rfl) (by kernel_rfl) (by kernel_rfl) (by kernel_rfl) (by exact fun _ _ _ h => h) (Or.inl ⟨by rfl, by intro W _; go_simp; all_goals first | rfl | exact ⟨rfl, rfl, rfl, rfl, rfl, rfl⟩⟩) ?_
  try simp only [Act.put, List.setIfInBounds_toArray, List.set_cons_zero, List.set_cons_succ]
  refine wpAnyL_easy (i := 9) (v := (.bool true)) (by simp only [List.getElem?_toArray, List.getElem?_cons_succ, List.getElem?_cons_zero]; rfl) (by kernel_rfl) (by kernel_rfl) (by kernel_rfl) (by exact fun _ _ _ h => h) (Or.inl ⟨by rfl, by intro W _; go_simp; all_goals first | rfl | exact ⟨rfl, rfl, rfl, rfl, rfl, rfl⟩⟩) ?_
  try simp only [Act.put, List.setIfInBounds_toArray, List.set_cons_zero, List.set_cons_succ]
  refine wpAnyL_easy (i := 10) (v := (.bool true)) (by simp only [List.getElem?_toArray, List.getElem?_cons_succ, List.getElem?_cons_zero]; rfl) (by kernel_rfl) (by kernel_rfl) (by kernel_rfl) (by exact fun _ _ _ h => h) (Or.inl ⟨by rfl, by intro W _; go_simp; all_goals first | rfl | exact ⟨rfl, rfl, rfl, rfl, rfl, rfl⟩⟩) ?_
  try simp only [Act.put, List.setIfInBounds_toArray, List.set_cons_zero, List.set_cons_succ]
  refine wpAnyL_easy (i := 11) (v := (.slice ba knownL.length bc)) (by simp only [List.getElem?_toArray, List.getElem?_cons_succ, List.getElem?_cons_zero]; rfl) (by kernel_rfl) (by kernel_rfl) (by kernel_rfl) (by exact fun _ _ _ h => h) (Or.inl ⟨by rfl, fun _ _ => rfl⟩) ?_
  try simp only [Act.put, List.setIfInBounds_toArray, List.set_cons_zero, List.set_cons_succ]
  refine wpAnyL_take (i := 12) (v := (.string ⟨knownL.toArray⟩)) (by simp only [List.getElem?_toArray, List.getElem?_cons_succ, List.getElem?_cons_zero]; rfl) (by kernel_rfl) (by kernel_rfl) (by kernel_rfl) (by kernel_rfl) (by exact fun _ _ _ h => h) (Or.inl ⟨by rfl, by intro W hSw; have x0 := run_rsl_string (HBVC.out.below hSw) (by decide); go_simp; all_goals first | rfl | exact ⟨rfl, rfl, rfl, rfl, rfl, rfl⟩⟩) (by assumption) ?_
  try simp only [Act.put, List.setIfInBounds_toArray, List.set_cons_zero, List.set_cons_succ]
  refine wpAnyL_ready (rs := [13]) (by kernel_rfl) (by simp) ?_
  refine AllReadyL.cons (by simp only [List.getElem?_toArray, List.getElem?_cons_succ, List.getElem?_cons_zero]; rfl) (fun K hK => ?_) AllReadyL.nil
  go_simp
  refine (HK.out _).mono ?_
  rintro e wD ⟨aD, cD, rfl, hbD, hBD⟩
  have HSD := Lib.hid (run_buf_string hbD)
  have HDW := Lib.hid (hHeld.trans (hBD.mono hHeld.size))
  clear hBD hbD hHeld
  refine hK.out _ _ (HDW.out) (fun hHeld => ?_)
  try simp only [Act.put, List.setIfInBounds_toArray, List.set_cons_zero, List.set_cons_succ]
  clear hHeld
  refine wpAnyL_ready (rs := [14]) (by kernel_rfl) (by simp) ?_
  refine AllReadyL.cons (by simp only [List.getElem?_toArray, List.getElem?_cons_succ, List.getElem?_cons_zero]; rfl) (fun K hK => ?_) AllReadyL.nil
  have hsd := HSD.out
  go_simp
  clear hsd
  refine hK.out _ _ (HDW.out) (fun hHeld => ?_)
  try simp only [Act.put, List.setIfInBounds_toArray, List.set_cons_zero, List.set_cons_succ]
  clear hHeld
  refine wpAnyL_easy (i := 15) (v := (.bool true)) (by simp only [List.getElem?_toArray, List.getElem?_cons_succ, List.getElem?_cons_zero]; rfl) (by kernel_rfl) (by kernel_rfl) (by kernel_rfl) (by exact fun _ _ _ h => h) (Or.inl ⟨by rfl, by intro W _; go_simp; all_goals first | rfl | exact ⟨rfl, rfl, rfl, rfl, rfl, rfl⟩⟩) ?_
  try simp only [Act.put, List.setIfInBounds_toArray, List.set_cons_zero, List.set_cons_succ]
  refine wpAnyL_easy (i := 16) (v := (.bool true)) (by simp only [List.getElem?_toArray, List.getElem?_cons_succ, List.getElem?_cons_zero]; rfl) (by kernel_rfl) (by kernel_rfl) (by kernel_rfl) (by exact fun _ _ _ h => h) (Or.inl ⟨by rfl, by intro W _; go_simp; all_goals first | rfl | exact ⟨rfl, rfl, rfl, rfl, rfl, rfl⟩⟩) ?_
  try simp only [Act.put, List.setIfInBounds_toArray, List.set_cons_zero, List.set_cons_succ]
  refine wpAnyL_easy (i := 17) (v := (.bool true)) (by simp only [List.getElem?_toArray, List.getElem?_cons_succ, List.getElem?_cons_zero]; rfl) (by kernel_rfl) (by kernel_rfl) (by kernel_rfl) (by exact fun _ _ _ h => h) (Or.inl ⟨by rfl, by intro W _; go_simp; all_goals first | rfl | exact ⟨rfl, rfl, rfl, rfl, rfl, rfl⟩⟩) ?_
  try simp only [Act.put, List.setIfInBounds_toArray, List.set_cons_zero, List.set_cons_succ]
  refine wpAnyL_easy (i := 18) (v := (.pointer (some ⟨w3.heap.size, 0, none⟩))) (by simp only [List.getElem?_toArray, List.getElem?_cons_succ, List.getElem?_cons_zero]; rfl) (by kernel_rfl) (by kernel_rfl) (by kernel_rfl) (by exact fun _ _ _ h => h) (Or.inl ⟨by rfl, by intro W _; go_simp; all_goals first | rfl | exact ⟨rfl, rfl, rfl, rfl, rfl, rfl⟩⟩) ?_
  try simp only [Act.put, List.setIfInBounds_toArray, List.set_cons_zero, List.set_cons_succ]
  refine wpAnyL_take (i := 19) (v := (.int .i64 5)) (by simp only [List.getElem?_toArray, List.getElem?_cons_succ, List.getElem?_cons_zero]; rfl) (by kernel_rfl) (by kernel_rfl) (by kernel_rfl) (by kernel_rfl) (by exact fun _ _ _ h => h) (Or.inl ⟨by rfl, by intro W hSw; have x0 := show W.cell? ⟨w3.heap.size, 0, none⟩ = some (.int .i64 5) from (TC.out.below hSw).cell 0; go_simp; all_goals first | rfl | exact ⟨rfl, rfl, rfl, rfl, rfl, rfl⟩⟩) HDW.out ?_
  try simp only [Act.put, List.setIfInBounds_toArray, List.set_cons_zero, List.set_cons_succ]
  refine wpAnyL_easy (i := 20) (v := (.bool true)) (by simp only [List.getElem?_toArray, List.getElem?_cons_succ, List.getElem?_cons_zero]; rfl) (by kernel_rfl) (by kernel_rfl) (by kernel_rfl) (by exact fun _ _ _ h => h) (Or.inl ⟨by rfl, by intro W _; go_simp; all_goals first | rfl | exact ⟨rfl, rfl, rfl, rfl, rfl, rfl⟩⟩) ?_
  try simp only [Act.put, List.setIfInBounds_toArray, List.set_cons_zero, List.set_cons_succ]
  refine wpAnyL_easy (i := 21) (v := (.bool true)) (by simp only [List.getElem?_toArray, List.getElem?_cons_succ, List.getElem?_cons_zero]; rfl) (by kernel_rfl) (by kernel_rfl) (by kernel_rfl) (by exact fun _ _ _ h => h) (Or.inl ⟨by rfl, by intro W _; go_simp; all_goals first | rfl | exact ⟨rfl, rfl, rfl, rfl, rfl, rfl⟩⟩) ?_
  try simp only [Act.put, List.setIfInBounds_toArray, List.set_cons_zero, List.set_cons_succ]
  refine wpAnyL_easy (i := 22) (v := (.bool true)) (by simp only [List.getElem?_toArray, List.getElem?_cons_succ, List.getElem?_cons_zero]; rfl) (by kernel_rfl) (by kernel_rfl) (by kernel_rfl) (by exact fun _ _ _ h => h) (Or.inl ⟨by rfl, by intro W _; go_simp; all_goals first | rfl | exact ⟨rfl, rfl, rfl, rfl, rfl, rfl⟩⟩) ?_
  try simp only [Act.put, List.setIfInBounds_toArray, List.set_cons_zero, List.set_cons_succ]
  refine wpAnyL_easy (i := 23) (v := (.pointer (some ⟨w3.heap.size, 5, none⟩))) (by simp only [List.getElem?_toArray, List.getElem?_cons_succ, List.getElem?_cons_zero]; rfl) (by kernel_rfl) (by kernel_rfl) (by kernel_rfl) (by exact fun _ _ _ h => h) (Or.inl ⟨by rfl, by intro W _; go_simp; all_goals first | rfl | exact ⟨rfl, rfl, rfl, rfl, rfl, rfl⟩⟩) ?_
  try simp only [Act.put, List.setIfInBounds_toArray, List.set_cons_zero, List.set_cons_succ]
  refine wpAnyL_take (i := 24) (v := (.slice a3 2 cap3)) (by simp only [List.getElem?_toArray, List.getElem?_cons_succ, List.getElem?_cons_zero]; rfl) (by kernel_rfl) (by kernel_rfl) (by kernel_rfl) (by kernel_rfl) (by exact fun _ _ _ h => h) (Or.inl ⟨by rfl, by intro W hSw; have x0 := show W.cell? ⟨w3.heap.size, 5, none⟩ = some (.slice a3 2 cap3) from (TC.out.below hSw).cell 5; go_simp; all_goals first | rfl | exact ⟨rfl, rfl, rfl, rfl, rfl, rfl⟩⟩) HDW.out ?_
  try simp only [Act.put, List.setIfInBounds_toArray, List.set_cons_zero, List.set_cons_succ]
  refine wpAnyL_easy (i := 25) (v := (.int .i64 2)) (by simp only [List.getElem?_toArray, List.getElem?_cons_succ, List.getElem?_cons_zero]; rfl) (by kernel_rfl) (by kernel_rfl) (by kernel_rfl) (by exact fun _ _ _ h => h) (Or.inl ⟨by rfl, by intro W _; go_simp; all_goals first | rfl | exact ⟨rfl, rfl, rfl, rfl, rfl, rfl⟩⟩) ?_
  try simp only [Act.put, List.setIfInBounds_toArray, List.set_cons_zero, List.set_cons_succ]
  refine wpAnyL_easy (i := 26) (v := (.bool true)) (by simp only [List.getElem?_toArray, List.getElem?_cons_succ, List.getElem?_cons_zero]; rfl) (by kernel_rfl) (by kernel_rfl) (by kernel_rfl) (by exact fun _ _ _ h => h) (Or.inl ⟨by rfl, by intro W _; go_simp; all_goals first | rfl | exact ⟨rfl, rfl, rfl, rfl, rfl, rfl⟩⟩) ?_
  try simp only [Act.put, List.setIfInBounds_toArray, List.set_cons_zero, List.set_cons_succ]
  refine wpAnyL_easy (i := 27) (v := (.bool true)) (by simp only [List.getElem?_toArray, List.getElem?_cons_succ, List.getElem?_cons_zero]; rfl) (by kernel_rfl) (by kernel_rfl) (by kernel_rfl) (by exact fun _ _ _ h => h) (Or.inl ⟨by rfl, by intro W _; go_simp; all_goals first | rfl | exact ⟨rfl, rfl, rfl, rfl, rfl, rfl⟩⟩) ?_
  try simp only [Act.put, List.setIfInBounds_toArray, List.set_cons_zero, List.set_cons_succ]
  refine wpAnyL_easy (i := 28) (v := (.bool true)) (by simp only [List.getElem?_toArray, List.getElem?_cons_succ, List.getElem?_cons_zero]; rfl) (by kernel_rfl) (by kernel_rfl) (by kernel_rfl) (by exact fun _ _ _ h => h) (Or.inl ⟨by rfl, by intro W _; go_simp; all_goals first | rfl | exact ⟨rfl, rfl, rfl, rfl, rfl, rfl⟩⟩) ?_
  try simp only [Act.put, List.setIfInBounds_toArray, List.set_cons_zero, List.set_cons_succ]
  refine wpAnyL_easy (i := 29) (v := (.iface 92 (.pointer (some ⟨b7, 0, none⟩)))) (by simp only [List.getElem?_toArray, List.getElem?_cons_succ, List.getElem?_cons_zero]; rfl) (by kernel_rfl) (by kernel_rfl) (by kernel_rfl) (by exact fun _ _ _ h => h) (Or.inl ⟨by rfl, fun _ _ => rfl⟩) ?_
  try simp only [Act.put, List.setIfInBounds_toArray, List.set_cons_zero, List.set_cons_succ]
  refine wpAnyL_ready (rs := [30]) (by kernel_rfl) (by simp) ?_
  refine AllReadyL.cons (by simp only [List.getElem?_toArray, List.getElem?_cons_succ, List.getElem?_cons_zero]; rfl) (fun K hK => ?_) AllReadyL.nil
  go_simp
  refine (one_any _ _ _ _).mono ?_
  rintro e _ ⟨rfl, rfl⟩
  have LK := Lib.hid (LinksIs.lit (base := wD.heap.size) (w := wD) ⟨etfL, 3, 82⟩ (Nat.le_refl _))
  have BA := Lib.hid ((Below.refl wD.heap.size wD).alloc (Nat.le_refl _) (.cells #[.string etfL, .int .i64 3, .int .i64 82] 87 (0, 0)))
  have HEWA := Lib.hid (HDW.out.trans (BA.out.mono HDW.out.size))
  refine hK.out _ _ (HEWA.out) (fun hHeld => ?_)
  try simp only [Act.put, List.setIfInBounds_toArray, List.set_cons_zero, List.set_cons_succ]
  clear hHeld
  refine wpAnyL_ready (rs := [31]) (by kernel_rfl) (by simp) ?_
  refine AllReadyL.cons (by simp only [List.getElem?_toArray, List.getElem?_cons_succ, List.getElem?_cons_zero]; rfl) (fun K hK => ?_) AllReadyL.nil
  go_simp
  refine (refused_links _ [⟨etfL, 3, 82⟩] [⟨etfL, 3, 82⟩] _ _ _ (HEC.out.below HEWA.out) (by decide) (by decide) LK.out (HG.out.below (HBC.out.trans (HEWA.out.mono HBC.out.size))).1).mono ?_
  rintro e wE ⟨rfl, hbz⟩
  rw [decide_eq_true rfl]
  have HEW := Lib.hid (HEWA.out.trans (hbz.mono HEWA.out.size))
  clear hbz
  refine hK.out _ _ (HEW.out) (fun hHeld => ?_)
  try simp only [Act.put, List.setIfInBounds_toArray, List.set_cons_zero, List.set_cons_succ]
  clear LK BA hHeld
  refine wpAnyL_easy (i := 32) (v := (.bool true)) (by simp only [List.getElem?_toArray, List.getElem?_cons_succ, List.getElem?_cons_zero]; rfl) (by kernel_rfl) (by kernel_rfl) (by kernel_rfl) (by exact fun _ _ _ h => h) (Or.inl ⟨by rfl, by intro W _; go_simp; all_goals first | rfl | exact ⟨rfl, rfl, rfl, rfl, rfl, rfl⟩⟩) ?_
  try simp only [Act.put, List.setIfInBounds_toArray, List.set_cons_zero, List.set_cons_succ]
  refine wpAnyL_easy (i := 33) (v := (.bool true)) (by simp only [List.getElem?_toArray, List.getElem?_cons_succ, List.getElem?_cons_zero]; rfl) (by kernel_rfl) (by kernel_rfl) (by kernel_rfl) (by exact fun _ _ _ h => h) (Or.inl ⟨by rfl, by intro W _; go_simp; all_goals first | rfl | exact ⟨rfl, rfl, rfl, rfl, rfl, rfl⟩⟩) ?_
  try simp only [Act.put, List.setIfInBounds_toArray, List.set_cons_zero, List.set_cons_succ]
  refine wpAnyL_easy (i := 34) (v := (.iface 92 (.pointer (some ⟨bB, 0, none⟩)))) (by simp only [List.getElem?_toArray, List.getElem?_cons_succ, List.getElem?_cons_zero]; rfl) (by kernel_rfl) (by kernel_rfl) (by kernel_rfl) (by exact fun _ _ _ h => h) (Or.inl ⟨by rfl, fun _ _ => rfl⟩) ?_
  try simp only [Act.put, List.setIfInBounds_toArray, List.set_cons_zero, List.set_cons_succ]
  refine wpAnyL_ready (rs := [35]) (by kernel_rfl) (by simp) ?_
  refine AllReadyL.cons (by simp only [List.getElem?_toArray, List.getElem?_cons_succ, List.getElem?_cons_zero]; rfl) (fun K hK => ?_) AllReadyL.nil
  go_simp
  refine (one_any _ _ _ _).mono ?_
  rintro e _ ⟨rfl, rfl⟩
  have LK := Lib.hid (LinksIs.lit (base := wE.heap.size) (w := wE) ⟨etfL, 20, 86⟩ (Nat.le_refl _))
  have BA := Lib.hid ((Below.refl wE.heap.size wE).alloc (Nat.le_refl _) (.cells #[.string etfL, .int .i64 20, .int .i64 86] 87 (0, 0)))
  have HFWA := Lib.hid (HEW.out.trans (BA.out.mono HEW.out.size))
  refine hK.out _ _ (HFWA.out) (fun hHeld => ?_)
  try simp only [Act.put, List.setIfInBounds_toArray, List.set_cons_zero, List.set_cons_succ]
  clear hHeld
  refine wpAnyL_ready (rs := [36]) (by kernel_rfl) (by simp) ?_
  refine AllReadyL.cons (by simp only [List.getElem?_toArray, List.getElem?_cons_succ, List.getElem?_cons_zero]; rfl) (fun K hK => ?_) AllReadyL.nil
  go_simp
  refine (refused_links _ [⟨etfL, 20, 86⟩] [⟨etfL, 20, 86⟩] _ _ _ (HFC.out.below HFWA.out) (by decide) (by decide) LK.out (HG.out.below (HBC.out.trans (HFWA.out.mono HBC.out.size))).1).mono ?_
  rintro e wF ⟨rfl, hbz⟩
  rw [decide_eq_true rfl]
  have HFW := Lib.hid (HFWA.out.trans (hbz.mono HFWA.out.size))
  clear hbz
  refine hK.out _ _ (HFW.out) (fun hHeld => ?_)
  try simp only [Act.put, List.setIfInBounds_toArray, List.set_cons_zero, List.set_cons_succ]
  clear LK BA hHeld
  refine wpAnyL_easy (i := 37) (v := (.bool true)) (by simp only [List.getElem?_toArray, List.getElem?_cons_succ, List.getElem?_cons_zero]; rfl) (by kernel_rfl) (by kernel_rfl) (by kernel_rfl) (by exact fun _ _ _ h => h) (Or.inl ⟨by rfl, by intro W _; go_simp; all_goals first | rfl | exact ⟨rfl, rfl, rfl, rfl, rfl, rfl⟩⟩) ?_
  try simp only [Act.put, List.setIfInBounds_toArray, List.set_cons_zero, List.set_cons_succ]
  refine wpAnyL_easy (i := 38) (v := (.bool true)) (by simp only [List.getElem?_toArray, List.getElem?_cons_succ, List.getElem?_cons_zero]; rfl) (by kernel_rfl) (by kernel_rfl) (by kernel_rfl) (by exact fun _ _ _ h => h) (Or.inl ⟨by rfl, by intro W _; go_simp; all_goals first | rfl | exact ⟨rfl, rfl, rfl, rfl, rfl, rfl⟩⟩) ?_
  try simp only [Act.put, List.setIfInBounds_toArray, List.set_cons_zero, List.set_cons_succ]
  refine wpAnyL_done (by kernel_rfl) ?_ _
  go_wp2
  go_ret
  exact ⟨rfl, HBC.out.trans (HFW.out.mono HBC.out.size)⟩
end Go.Proofs.YtlahagabcnmdiaaDoor
end
