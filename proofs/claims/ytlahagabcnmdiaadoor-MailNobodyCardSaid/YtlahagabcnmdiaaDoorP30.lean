/- Texts laid together: MaO, MaP. -/
import Derived.Test.YtlahagabcnmdiaaDoorP20
import Derived.Test.YtlahagabcnmdiaaDoorP19
import Derived.Test.YtlahagabcnmdiaaDoorP10
section
/- Package mail: a box that nobody made. -/
open Go Go.RowKit
namespace Go.Proofs.YtlahagabcnmdiaaDoor
set_option linter.unusedVariables false
set_option linter.unusedSimpArgs false

/-- a box that nobody made: nil, or one that does not say that it was -/
def DeadBx (v : Value) (w : World) : Prop := v = .pointer none ∨ ∃ g cs, v = .pointer (some ⟨g, 0, none⟩) ∧ Cells w g 59 (.bool false :: cs)
theorem DeadBx.below {v : Value} {w w' : World} (h : DeadBx v w) (hb : Below w.heap.size w w') : DeadBx v w' := by
  rcases h with rfl | ⟨g, cs, rfl, hC⟩
  · exact .inl rfl
  · exact .inr ⟨g, cs, rfl, hC.below hb⟩
theorem mOk_dead (v : Value) (w : World) (h : DeadBx v w) : Calls Tryd.prog 31 #[v] w fun e w' => e = .returned (.bool false) ∧ w = w' := by
  rcases h with rfl | ⟨g, cs, rfl, hC⟩
  · go_enter Tryd.func31, Tryd.ntmps31
    go_wp2
    go_ret
    exact ⟨rfl, rfl⟩
  · have c0 := hC.cell 0
    simp only [List.getElem?_cons_zero] at c0
    clear hC
    go_enter Tryd.func31, Tryd.ntmps31
    go_wp2
    go_ret
    exact ⟨rfl, rfl⟩
theorem mOk_dead' (v : Value) (w : World) (h : DeadBx v w) : Calls Tryd.prog 31 #[v] w fun e w' => e = .returned (.bool false) ∧ w' = w := (mOk_dead v w h).mono fun _ _ h => ⟨h.1, h.2.symm⟩
theorem DeadBx.drewN {v : Value} {w : World} (h : DeadBx v w) (n : Nat) : DeadBx v (w.drewN n) := by
  rcases h with rfl | ⟨g, cs, rfl, hC⟩
  · exact .inl rfl
  · exact .inr ⟨g, cs, rfl, hC.drewN n⟩
theorem mThere_dead (v : Value) (w : World) (h : DeadBx v w) : Calls Tryd.prog 36 #[v] w fun e w' => e = .returned (.bool false) ∧ Below w.heap.size w w' := by
  have HO := Lib.hid (fun n => mOk_dead' v (w.drewN n) (h.drewN n))
  clear h
  go_enter Tryd.func36, Tryd.ntmps36
  go_wp2_with fail
  go_quiet ((go_at_call 31; exact Calls.quiet_of_same (HO.out _)))
  go_wp2
  go_ret
  exact ⟨rfl, below_drewN (Below.refl _ _) _⟩
theorem mNext_dead (v : Value) (w : World) (h : DeadBx v w) : Calls Tryd.prog 12 #[v] w (RetEr w (errM 3)) := by
  have HO := Lib.hid (mOk_dead v w h)
  have HR := Lib.hid (mRefused_any 3 w)
  clear h
  go_enter Tryd.func12, Tryd.ntmps12
  go_wp2_with fail
  refine HO.out.mono ?_
  rintro e w2 ⟨rfl, rfl⟩
  go_wp2_with fail
  refine HR.out.mono ?_
  rintro e w4 ⟨ev, rfl, her, hb4⟩
  have HER := Lib.hid her
  have HB4 := Lib.hid hb4
  clear her hb4
  go_wp2
  go_ret
  exact ⟨_, rfl, HER.out, HB4.out⟩
theorem mLen_dead (v : Value) (w : World) (h : DeadBx v w) : Calls Tryd.prog 17 #[v] w fun e w' => e = .returned (.int .i64 0) ∧ w = w' := by
  have HO := Lib.hid (mOk_dead v w h)
  clear h
  go_enter Tryd.func17, Tryd.ntmps17
  go_wp2_with fail
  refine HO.out.mono ?_
  rintro e w2 ⟨rfl, rfl⟩
  go_wp2
  go_ret
  exact ⟨rfl, rfl⟩
theorem mCursor_dead (v : Value) (w : World) (h : DeadBx v w) : Calls Tryd.prog 25 #[v] w fun e w' => e = .returned (.int .i64 0) ∧ w = w' := by
  have HO := Lib.hid (mOk_dead v w h)
  clear h
  go_enter Tryd.func25, Tryd.ntmps25
  go_wp2_with fail
  refine HO.out.mono ?_
  rintro e w2 ⟨rfl, rfl⟩
  go_wp2
  go_ret
  exact ⟨rfl, rfl⟩
theorem mAll_dead (v : Value) (w : World) (h : DeadBx v w) : Calls Tryd.prog 14 #[v] w fun e w' => e = .returned (.slice none 0 0) ∧ w = w' := by
  have HO := Lib.hid (mOk_dead v w h)
  clear h
  go_enter Tryd.func14, Tryd.ntmps14
  go_wp2_with fail
  refine HO.out.mono ?_
  rintro e w2 ⟨rfl, rfl⟩
  go_wp2
  go_ret
  exact ⟨rfl, rfl⟩
theorem mDeadline_dead (v : Value) (w : World) (h : DeadBx v w) : Calls Tryd.prog 22 #[v] w fun e w' => e = .returned (.tuple #[.int .i64 0, .bool false]) ∧ w = w' := by
  have HO := Lib.hid (mOk_dead v w h)
  clear h
  go_enter Tryd.func22, Tryd.ntmps22
  go_wp2_with fail
  refine HO.out.mono ?_
  rintro e w2 ⟨rfl, rfl⟩
  go_wp2
  go_ret2
  exact ⟨rfl, rfl⟩
/-- a bool that says no, and an error -/
def RetNo (w : World) (l : List Lk) (e : Ending) (w' : World) : Prop := ∃ ev, e = .returned (.tuple #[.bool false, ev]) ∧ ErrIs w' ev l ∧ Below w.heap.size w w'
theorem mExpire_dead (v : Value) (now : Int) (w : World) (h : DeadBx v w) : Calls Tryd.prog 23 #[v, .int .i64 now] w (RetNo w (errM 3)) := by
  have HO := Lib.hid (mOk_dead v w h)
  have HR := Lib.hid (mRefused_any 3 w)
  clear h
  go_enter Tryd.func23, Tryd.ntmps23
  go_wp2_with fail
  refine HO.out.mono ?_
  rintro e w2 ⟨rfl, rfl⟩
  go_wp2_with fail
  refine HR.out.mono ?_
  rintro e w4 ⟨ev, rfl, her, hb4⟩
  have HER := Lib.hid her
  have HB4 := Lib.hid hb4
  clear her hb4
  go_wp2
  go_ret2
  exact ⟨_, rfl, HER.out, HB4.out⟩
theorem mWait_dead (v : Value) (now : Int) (S : Nat → Prop) (t : Tm) (vs : List Value) (w : World) (h : DeadBx v w) (ht : TmAt S t vs w) : Calls Tryd.prog 21 #[v, .int .i64 now, .agg vs.toArray] w (RetNo w (errM 3)) := by
  obtain ⟨hp, nv, a, cap, rfl, hnn, -⟩ := ht.parts
  obtain ⟨na, nc, rfl, _, _⟩ := hnn.slice
  have HB := Lib.hid ((Below.refl _ w).alloc (Nat.le_refl _) (.cells #[.int .i64 t.kind, .int .i64 t.int, .string t.text, .int .u32 t.cr, .slice na t.nums.length nc, .slice a t.args.length cap] 30 (0, 0)))
  have HO := Lib.hid (mOk_dead v _ (h.below HB.out))
  have HR := Lib.hid (fun W => mRefused_any 3 W)
  clear h ht hp hnn
  go_enter Tryd.func21, Tryd.ntmps21
  go_wp2_with fail
  refine HO.out.mono ?_
  rintro e w2 ⟨rfl, rfl⟩
  go_wp2_with fail
  refine (HR.out _).mono ?_
  rintro e w4 ⟨ev, rfl, her, hb4⟩
  have HER := Lib.hid her
  have HB4 := Lib.hid (HB.out.trans (hb4.mono HB.out.size))
  clear her hb4
  go_wp2
  go_ret2
  exact ⟨_, rfl, HER.out, HB4.out⟩
theorem mPut_dead (v : Value) (S : Nat → Prop) (t : Tm) (vs : List Value) (w : World) (h : DeadBx v w) (ht : TmAt S t vs w) : Calls Tryd.prog 11 #[v, .agg vs.toArray] w (RetEr w (errM 3)) := by
  obtain ⟨hp, nv, a, cap, rfl, hnn, -⟩ := ht.parts
  obtain ⟨na, nc, rfl, _, _⟩ := hnn.slice
  have HB := Lib.hid ((Below.refl _ w).alloc (Nat.le_refl _) (.cells #[.int .i64 t.kind, .int .i64 t.int, .string t.text, .int .u32 t.cr, .slice na t.nums.length nc, .slice a t.args.length cap] 30 (0, 0)))
  have HO := Lib.hid (mOk_dead v _ (h.below HB.out))
  have HR := Lib.hid (fun W => mRefused_any 3 W)
  clear h ht hp hnn
  go_enter Tryd.func11, Tryd.ntmps11
  go_wp2_with fail
  refine HO.out.mono ?_
  rintro e w2 ⟨rfl, rfl⟩
  go_wp2_with fail
  refine (HR.out _).mono ?_
  rintro e w4 ⟨ev, rfl, her, hb4⟩
  have HER := Lib.hid her
  have HB4 := Lib.hid (HB.out.trans (hb4.mono HB.out.size))
  clear her hb4
  go_wp2
  go_ret
  exact ⟨_, rfl, HER.out, HB4.out⟩
/-- no term and what else there is -/
def RetZ (w : World) (l : List Lk) (e : Ending) (w' : World) : Prop := ∃ ev, e = .returned (.tuple #[.agg termZ.toArray, ev]) ∧ ErrIs w' ev l ∧ Below w.heap.size w w'
theorem mTake_dead (v : Value) (w : World) (h : DeadBx v w) : Calls Tryd.prog 13 #[v] w (RetZ w (errM 3)) := by
  have HB0 := Lib.hid ((Below.refl w.heap.size w).alloc (Nat.le_refl _) (.cells termZ.toArray 30 (0, 0)))
  have R0 := Lib.hid (Cells.new w 30 termZ)
  have HO := Lib.hid (mOk_dead v _ (h.below HB0.out))
  have HRF := Lib.hid (fun W => mRefused_any 3 W)
  clear h
  unfold termZ at *
  go_enter Tryd.func13, Tryd.ntmps13
  go_wp2_with fail
  refine HO.out.mono ?_
  rintro e w1 ⟨rfl, rfl⟩
  go_wp2_with fail
  refine (HRF.out _).mono ?_
  rintro e w3 ⟨ev, rfl, her, hb3⟩
  have HER := Lib.hid her
  have HB3 := Lib.hid (HB0.out.trans (hb3.mono HB0.out.size))
  have R3 := Lib.hid (R0.out.below hb3)
  clear her hb3
  go_wp2_with (refine wpList_store_blk rfl _ (.tmp 2) (.tmp 9) rfl w.heap.size 0 [.int .i64 0, .int .i64 0, .string ⟨#[]⟩, .int .u32 0, .slice none 0 0, .slice none 0 0] (by rfl) (by rfl) (by kernel_rfl) (by simp [Value.oneCell']) 30 _ R3.out (by show 0 + 6 ≤ 6; decide) ?_; intro w8 hC8 hg8)
  have hC8' : Cells w8 w.heap.size 30 [.int .i64 0, .int .i64 0, .string ⟨#[]⟩, .int .u32 0, .slice none 0 0, .slice none 0 0] := hC8
  have HB8 := Lib.hid (HB3.out.grown hg8 HB3.out.size (fun q hq => by cases hq; exact Nat.le_refl _))
  have HER8 := Lib.hid (show ErrIs w8 ev (errM 3) from HER.out.keep (S := Blk1 w.heap.size) ((Keep.refl _ w3).grown hg8 (fun q hq _ => by cases hq; rfl)) (fun q (hq : q = w.heap.size) => by rw [hq]; exact NF.cells R3.out (by decide)))
  have q0 := hC8'.cell 0
  have q1 := hC8'.cell 1
  have q2 := hC8'.cell 2
  have q3 := hC8'.cell 3
  have q4 := hC8'.cell 4
  have q5 := hC8'.cell 5
  simp only [List.getElem?_cons_zero, List.getElem?_cons_succ] at q0 q1 q2 q3 q4 q5
  clear hC8 hC8' hg8
  go_wp2
  refine bodyPost_ret (v := .tuple #[.agg #[.int .i64 0, .int .i64 0, .string ⟨#[]⟩, .int .u32 0, .slice none 0 0, .slice none 0 0], ev]) (by simp [results, Tryd.results13, go_sem, q0, q1, q2, q3, q4, q5]) rfl ?_
  exact ⟨_, rfl, HER8.out, HB8.out⟩
theorem mPeek_dead (v : Value) (w : World) (h : DeadBx v w) : Calls Tryd.prog 24 #[v] w fun e w' => e = .returned (.tuple #[.agg termZ.toArray, .bool false]) ∧ Below w.heap.size w w' := by
  have HB0 := Lib.hid ((Below.refl w.heap.size w).alloc (Nat.le_refl _) (.cells termZ.toArray 30 (0, 0)))
  have R0 := Lib.hid (Cells.new w 30 termZ)
  have HTH := Lib.hid (mThere_dead v _ (h.below HB0.out))
  clear h
  unfold termZ at *
  go_enter Tryd.func24, Tryd.ntmps24
  go_wp2_with fail
  refine HTH.out.mono ?_
  rintro e w2 ⟨rfl, hb2⟩
  have HB2 := Lib.hid (HB0.out.trans (hb2.mono HB0.out.size))
  have R2 := Lib.hid (R0.out.below hb2)
  clear hb2
  go_wp2_with (refine wpList_store_blk rfl _ (.tmp 2) (.tmp 7) rfl w.heap.size 0 [.int .i64 0, .int .i64 0, .string ⟨#[]⟩, .int .u32 0, .slice none 0 0, .slice none 0 0] (by rfl) (by rfl) (by kernel_rfl) (by simp [Value.oneCell']) 30 _ R2.out (by show 0 + 6 ≤ 6; decide) ?_; intro w4 hC4 hg4)
  have hC4' : Cells w4 w.heap.size 30 [.int .i64 0, .int .i64 0, .string ⟨#[]⟩, .int .u32 0, .slice none 0 0, .slice none 0 0] := hC4
  have HB4 := Lib.hid (HB2.out.grown hg4 HB2.out.size (fun q hq => by cases hq; exact Nat.le_refl _))
  have q0 := hC4'.cell 0
  have q1 := hC4'.cell 1
  have q2 := hC4'.cell 2
  have q3 := hC4'.cell 3
  have q4 := hC4'.cell 4
  have q5 := hC4'.cell 5
  simp only [List.getElem?_cons_zero, List.getElem?_cons_succ] at q0 q1 q2 q3 q4 q5
  clear hC4 hC4' hg4
  go_wp2
  refine bodyPost_ret (v := .tuple #[.agg #[.int .i64 0, .int .i64 0, .string ⟨#[]⟩, .int .u32 0, .slice none 0 0, .slice none 0 0], .bool false]) (by simp [results, Tryd.results24, go_sem, q0, q1, q2, q3, q4, q5]) rfl ?_
  exact ⟨rfl, HB4.out⟩
end Go.Proofs.YtlahagabcnmdiaaDoor
end
section
/- heddlelaw17: MailNobody. -/
open Go Go.RowKit
namespace Go.Proofs.YtlahagabcnmdiaaDoor
set_option linter.unusedVariables false
set_option linter.unusedSimpArgs false

theorem Cells.two {w : World} {g : Nat} {t : TypeId} {a b : Value} (h : Cells w g t [a, b]) {k : Nat} (hk : k < 2) : w.cell? ⟨g, k, none⟩ = some (if k = 0 then a else b) := by
  rw [h.cell]
  match k, hk with
  | 0, _ => rfl
  | 1, _ => rfl
def boxZ : List Value := [.bool false, .slice none 0 0, .int .i64 0, .bool false, .int .i64 0]
set_option maxHeartbeats 16000000 in
set_option maxRecDepth 100000 in
theorem mailNobody_any (St : Nat → Prop) (t : Tm) (vs : List Value) (now : Int) (w : World) (ht : TmAt St t vs w) (hG : Gt w) :
    Calls Tryd.prog 6 #[.agg vs.toArray, .int .i64 now] w fun e w' => e = .returned (.bool true) ∧ Below w.heap.size w w' := by
  obtain ⟨_, nv, a2, cap2, rfl, hnn, _⟩ := ht.parts
  obtain ⟨na2, nc2, rfl, _, _⟩ := hnn.slice
  have HB0 := Lib.hid ((Below.refl w.heap.size w).alloc (Nat.le_refl _) (.cells #[.int .i64 t.kind, .int .i64 t.int, .string t.text, .int .u32 t.cr, .slice na2 t.nums.length nc2, .slice a2 t.args.length cap2] 30 (0, 0)))
  have R0 := Lib.hid (show Cells (w.alloc (.cells #[.int .i64 t.kind, .int .i64 t.int, .string t.text, .int .u32 t.cr, .slice na2 t.nums.length nc2, .slice a2 t.args.length cap2] 30 (0, 0))) w.heap.size 30 [.int .i64 t.kind, .int .i64 t.int, .string t.text, .int .u32 t.cr, .slice na2 t.nums.length nc2, .slice a2 t.args.length cap2] from Cells.new w 30 [.int .i64 t.kind, .int .i64 t.int, .string t.text, .int .u32 t.cr, .slice na2 t.nums.length nc2, .slice a2 t.args.length cap2])
  have HT := Lib.hid (ht.below HB0.out)
  have HG0 := Lib.hid (hG.below HB0.out)
  clear ht hnn hG
  go_enter Tryd.func6, Tryd.ntmps6
  go_upto_region 1 with (fail)
  generalize w.alloc (.cells #[.int .i64 t.kind, .int .i64 t.int, .string t.text, .int .u32 t.cr, .slice na2 t.nums.length nc2, .slice a2 t.args.length cap2] 30 (0, 0)) = w0 at *
  go_wp2_with fail
  refine (one_any _ _ _ _).mono ?_
  rintro e w1 ⟨rfl, rfl⟩
  have LK := Lib.hid (LinksIs.lit (base := w0.heap.size) (w := w0) ⟨mailL, 0, 3⟩ (Nat.le_refl _))
  have HB1 := Lib.hid ((Below.refl w0.heap.size w0).alloc (Nat.le_refl _) (.cells #[.string mailL, .int .i64 0, .int .i64 3] 87 (0, 0)))
  have hlb : w0.heap.size < (w0.alloc (.cells #[.string mailL, .int .i64 0, .int .i64 3] 87 (0, 0))).heap.size := by simp
  unfold mailL at LK HB1 hlb
  go_upto_region 3 with (fail)
  generalize Value.slice (some ⟨w0.heap.size, 0, none⟩) 1 1 = lv at *
  generalize w0.alloc (.cells #[.string ⟨#[109, 97, 105, 108]⟩, .int .i64 0, .int .i64 3] 87 (0, 0)) = w1 at *
  have C2 := Lib.hid (Cells.new w1 59 boxZ)
  have B2 := Lib.hid ((Below.refl w1.heap.size w1).alloc (Nat.le_refl _) (.cells boxZ.toArray 59 (0, 0)))
  have C3 := Lib.hid (Cells.new (w1.alloc (.cells boxZ.toArray 59 (0, 0))) 23 [.pointer none, .pointer (some ⟨w1.heap.size, 0, none⟩)])
  have B3 := Lib.hid (B2.out.alloc (by simp) (.cells #[.pointer none, .pointer (some ⟨w1.heap.size, 0, none⟩)] 23 (0, 0)))
  have C23 := Lib.hid (C2.out.alloc (.cells #[.pointer none, .pointer (some ⟨w1.heap.size, 0, none⟩)] 23 (0, 0)))
  unfold boxZ at *
  go_wp2_with fail
  have BX := Lib.hid (show ∀ kk : Nat, kk < 2 → ∃ v, ((w1.alloc (.cells #[.bool false, .slice none 0 0, .int .i64 0, .bool false, .int .i64 0] 59 (0, 0))).alloc (.cells #[.pointer none, .pointer (some ⟨w1.heap.size, 0, none⟩)] 23 (0, 0))).cell? ⟨w1.heap.size + 1, kk, none⟩ = some v ∧ DeadBx v ((w1.alloc (.cells #[.bool false, .slice none 0 0, .int .i64 0, .bool false, .int .i64 0] 59 (0, 0))).alloc (.cells #[.pointer none, .pointer (some ⟨w1.heap.size, 0, none⟩)] 23 (0, 0))) from fun kk hk => ⟨_, by have := C3.out.two hk; simpa using this, by
    by_cases h0 : kk = 0
    · rw [if_pos h0]; exact .inl rfl
    · rw [if_neg h0]; exact .inr ⟨_, _, rfl, C23.out⟩⟩)
  have HB3 := Lib.hid (HB1.out.trans (B3.out.mono HB1.out.size))
  have LK3 := Lib.hid (LK.out.below B3.out (Nat.le_refl _))
  clear C2 B2 C3 B3 C23
  generalize (w1.alloc (.cells #[.bool false, .slice none 0 0, .int .i64 0, .bool false, .int .i64 0] 59 (0, 0))).alloc (.cells #[.pointer none, .pointer (some ⟨w1.heap.size, 0, none⟩)] 23 (0, 0)) = w3 at *
  go_loopw [25] (fun i wr => ∃ kk : Nat, kk ≤ 2 ∧ i = .int .i64 kk ∧ Below w3.heap.size w3 wr) (fun i _ => 2 - (intOf i).toNat)
  case atStart => exact ⟨0, Nat.zero_le _, rfl, Below.refl _ _⟩
  case round =>
    obtain ⟨kk, hkk, rfl, hbr⟩ := hrel
    have HBR := Lib.hid hbr
    clear hbr
    by_cases hk : kk < 2
    · have hki : (kk : Int) < 2 := by omega
      have hk0 : (0 : Int) ≤ (kk : Int) := by omega
      obtain ⟨v, hv3, hdead⟩ := BX.out kk hk
      have hv := (HBR.out.cell (p := ⟨w1.heap.size + 1, kk, none⟩) (World.block_lt_of_cell? _ _ hv3)).trans hv3
      have HD := Lib.hid (fun W (h : Below w3.heap.size w3 W) => hdead.below h)
      have HF := Lib.hid (fun W (h : Below w3.heap.size w3 W) => HB3.out.trans (h.mono HB3.out.size))
      clear hv3 hdead hk hkk
      go_wp2_with fail
      refine (mTake_dead v wr (HD.out _ HBR.out)).mono ?_
      rintro e w4 ⟨ev4, rfl, her, hb⟩
      have HE4 := Lib.hid her
      have HB4 := Lib.hid (HBR.out.trans (hb.mono HBR.out.size))
      clear her hb hv
      unfold termZ
      go_upto_region 7 with (fail)
      have HA := Lib.hid ((Below.refl w4.heap.size w4).alloc (Nat.le_refl _) (.cells #[.int .i64 0, .int .i64 0, .string ⟨#[]⟩, .int .u32 0, .slice none 0 0, .slice none 0 0] 30 (0, 0)))
      have HB5 := Lib.hid (HB4.out.trans (HA.out.mono HB4.out.size))
      have HE5 := Lib.hid (HE4.out.below HA.out)
      clear HA HE4 HB4
      generalize w4.alloc (.cells #[.int .i64 0, .int .i64 0, .string ⟨#[]⟩, .int .u32 0, .slice none 0 0, .slice none 0 0] 30 (0, 0)) = w5 at *
      have R5 := R0.out.below (HF.out _ HB5.out)
      have q0 := R5.cell 0
      have q1 := R5.cell 1
      have q2 := R5.cell 2
      have q3 := R5.cell 3
      have q4 := R5.cell 4
      have q5 := R5.cell 5
      simp only [List.getElem?_cons_zero, List.getElem?_cons_succ] at q0 q1 q2 q3 q4 q5
      clear R5
      go_wp2_with fail
      refine (mWait_dead v now St t [.int .i64 t.kind, .int .i64 t.int, .string t.text, .int .u32 t.cr, .slice na2 t.nums.length nc2, .slice a2 t.args.length cap2] _ (HD.out _ HB5.out) (HT.out.below (HF.out _ HB5.out))).mono ?_
      rintro e w6 ⟨ev6, rfl, her, hb⟩
      have HE6 := Lib.hid her
      have HE56 := Lib.hid (HE5.out.below hb)
      have HB6 := Lib.hid (HB5.out.trans (hb.mono HB5.out.size))
      clear her hb q0 q1 q2 q3 q4 q5 HE5
      go_wp2_with fail
      refine (mExpire_dead v now _ (HD.out _ HB6.out)).mono ?_
      rintro e w7 ⟨ev7, rfl, her, hb⟩
      have HE7 := Lib.hid her
      have HE57 := Lib.hid (HE56.out.below hb)
      have HE67 := Lib.hid (HE6.out.below hb)
      have HB7 := Lib.hid (HB6.out.trans (hb.mono HB6.out.size))
      clear her hb HE56 HE6
      go_wp2_with fail
      refine (mPeek_dead v _ (HD.out _ HB7.out)).mono ?_
      rintro e w8 ⟨rfl, hb⟩
      have HE78 := Lib.hid (HE7.out.below hb)
      have HE58 := Lib.hid (HE57.out.below hb)
      have HE68 := Lib.hid (HE67.out.below hb)
      have HB8 := Lib.hid (HB7.out.trans (hb.mono HB7.out.size))
      clear hb HE7 HE57 HE67
      unfold termZ
      go_upto_region 10 with (fail)
      have HA := Lib.hid ((Below.refl w8.heap.size w8).alloc (Nat.le_refl _) (.cells #[.int .i64 0, .int .i64 0, .string ⟨#[]⟩, .int .u32 0, .slice none 0 0, .slice none 0 0] 30 (0, 0)))
      have HB9 := Lib.hid (HB8.out.trans (HA.out.mono HB8.out.size))
      have HE79 := Lib.hid (HE78.out.below HA.out)
      have HE59 := Lib.hid (HE58.out.below HA.out)
      have HE69 := Lib.hid (HE68.out.below HA.out)
      clear HA HB8 HE78 HE58 HE68
      generalize w8.alloc (.cells #[.int .i64 0, .int .i64 0, .string ⟨#[]⟩, .int .u32 0, .slice none 0 0, .slice none 0 0] 30 (0, 0)) = w9 at *
      go_wp2_with fail
      refine (mDeadline_dead v _ (HD.out _ HB9.out)).mono ?_
      rintro e w10 ⟨rfl, rfl⟩
      have R9 := R0.out.below (HF.out _ HB9.out)
      have q0 := R9.cell 0
      have q1 := R9.cell 1
      have q2 := R9.cell 2
      have q3 := R9.cell 3
      have q4 := R9.cell 4
      have q5 := R9.cell 5
      simp only [List.getElem?_cons_zero, List.getElem?_cons_succ] at q0 q1 q2 q3 q4 q5
      clear R9
      go_wp2_with fail
      refine (mPut_dead v St t [.int .i64 t.kind, .int .i64 t.int, .string t.text, .int .u32 t.cr, .slice na2 t.nums.length nc2, .slice a2 t.args.length cap2] _ (HD.out _ HB9.out) (HT.out.below (HF.out _ HB9.out))).mono ?_
      rintro e w11 ⟨ev11, rfl, her, hb⟩
      have HE11 := Lib.hid her
      have HE7B := Lib.hid (HE79.out.below hb)
      have HE5B := Lib.hid (HE59.out.below hb)
      have HE6B := Lib.hid (HE69.out.below hb)
      have HB11 := Lib.hid (HB9.out.trans (hb.mono HB9.out.size))
      clear her hb q0 q1 q2 q3 q4 q5 HE79 HE59 HE69
      have HLK := Lib.hid (fun W (h : Below w3.heap.size w3 W) => LK3.out.below h (Nat.le_refl _))
      have HER := Lib.hid (fun W (h : Below w3.heap.size w3 W) => (HG0.out.below (HF.out _ h)).1)
      go_wp2_with fail
      refine (refused_links ev11 [⟨mailL, 0, 3⟩] [⟨mailL, 0, 3⟩] _ _ _ HE11.out (by decide) (by decide) (HLK.out _ HB11.out) (HER.out _ HB11.out)).mono ?_
      rintro e w12 ⟨rfl, hb⟩
      rw [decide_eq_true rfl]
      have HE7C := Lib.hid (HE7B.out.below hb)
      have HE5C := Lib.hid (HE5B.out.below hb)
      have HE6C := Lib.hid (HE6B.out.below hb)
      have HB12 := Lib.hid (HB11.out.trans (hb.mono HB11.out.size))
      clear hb HE7B HE5B HE6B HE11
      go_wp2_with fail
      refine (mNext_dead v _ (HD.out _ HB12.out)).mono ?_
      rintro e w13 ⟨ev13, rfl, her, hb⟩
      have HE13 := Lib.hid her
      have HE7D := Lib.hid (HE7C.out.below hb)
      have HE5D := Lib.hid (HE5C.out.below hb)
      have HE6D := Lib.hid (HE6C.out.below hb)
      have HB13 := Lib.hid (HB12.out.trans (hb.mono HB12.out.size))
      clear her hb HE7C HE5C HE6C
      go_wp2_with fail
      refine (refused_links ev13 [⟨mailL, 0, 3⟩] [⟨mailL, 0, 3⟩] _ _ _ HE13.out (by decide) (by decide) (HLK.out _ HB13.out) (HER.out _ HB13.out)).mono ?_
      rintro e w14 ⟨rfl, hb⟩
      rw [decide_eq_true rfl]
      have HE7E := Lib.hid (HE7D.out.below hb)
      have HE5E := Lib.hid (HE5D.out.below hb)
      have HE6E := Lib.hid (HE6D.out.below hb)
      have HB14 := Lib.hid (HB13.out.trans (hb.mono HB13.out.size))
      clear hb HE7D HE5D HE6D HE13
      go_wp2_with fail
      refine (refused_links ev4 [⟨mailL, 0, 3⟩] [⟨mailL, 0, 3⟩] _ _ _ HE5E.out (by decide) (by decide) (HLK.out _ HB14.out) (HER.out _ HB14.out)).mono ?_
      rintro e w15 ⟨rfl, hb⟩
      rw [decide_eq_true rfl]
      have HE7F := Lib.hid (HE7E.out.below hb)
      have HE6F := Lib.hid (HE6E.out.below hb)
      have HB15 := Lib.hid (HB14.out.trans (hb.mono HB14.out.size))
      clear hb HE7E HE5E HE6E
      go_wp2_with fail
      refine (refused_links ev6 [⟨mailL, 0, 3⟩] [⟨mailL, 0, 3⟩] _ _ _ HE6F.out (by decide) (by decide) (HLK.out _ HB15.out) (HER.out _ HB15.out)).mono ?_
      rintro e w16 ⟨rfl, hb⟩
      rw [decide_eq_true rfl]
      have HE7G := Lib.hid (HE7F.out.below hb)
      have HB16 := Lib.hid (HB15.out.trans (hb.mono HB15.out.size))
      clear hb HE7F HE6F
      go_wp2_with fail
      refine (refused_links ev7 [⟨mailL, 0, 3⟩] [⟨mailL, 0, 3⟩] _ _ _ HE7G.out (by decide) (by decide) (HLK.out _ HB16.out) (HER.out _ HB16.out)).mono ?_
      rintro e w17 ⟨rfl, hb⟩
      rw [decide_eq_true rfl]
      have HB17 := Lib.hid (HB16.out.trans (hb.mono HB16.out.size))
      clear hb HE7G
      go_wp2_with fail
      refine (mLen_dead v _ (HD.out _ HB17.out)).mono ?_
      rintro e w18 ⟨rfl, rfl⟩
      go_wp2_with fail
      refine (mCursor_dead v _ (HD.out _ HB17.out)).mono ?_
      rintro e w18 ⟨rfl, rfl⟩
      go_wp2_with fail
      refine (mAll_dead v _ (HD.out _ HB17.out)).mono ?_
      rintro e w18 ⟨rfl, rfl⟩
      go_wp2
      go_roundw
      case rel => exact ⟨kk + 1, by omega, by go_num, HB17.out⟩
      case measure => simp [intOf]; omega
    · have hki : ¬ (kk : Int) < 2 := by omega
      clear hk hkk
      have HF := Lib.hid (HB3.out.trans (HBR.out.mono HB3.out.size))
      go_wp2_with fail
      refine (alive_any _ (HG0.out.below HF.out)).mono ?_
      rintro e w7 ⟨rfl, hb7⟩
      have HB7 := Lib.hid (HB0.out.trans ((HF.out.trans (hb7.mono HF.out.size)).mono HB0.out.size))
      clear hb7
      go_wp2
      go_ret
      exact ⟨rfl, HB7.out⟩
end Go.Proofs.YtlahagabcnmdiaaDoor
end
