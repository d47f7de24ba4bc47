/- Texts laid together: EwB, EwC. -/
import Derived.Test.YtlahagabcnmdiaaDoorQ25
section
/- heddlelaw04: EtfBack. -/
open Go Go.RowKit
namespace Go.Proofs.YtlahagabcnmdiaaDoor
set_option linter.unusedVariables false
set_option linter.unusedSimpArgs false

mutual
theorem TmAt.bnd {S : Nat → Prop} {w : World} : ∀ {t : Tm} {vs : List Value}, TmAt S t vs w → bndT t
  | .mk k i s c ns al, vs, h => by
    rw [TmAt] at h
    obtain ⟨hp, nv, a, cap, h1, ⟨_, _, _, _, _, h2⟩, h3, h4, h5⟩ := h
    rw [bndT]
    refine ⟨⟨hp.c0, hp.c1⟩, fun x hx => ?_, ArgsAt.bnd h5⟩
    obtain ⟨i, hi, rfl⟩ := List.mem_iff_getElem.1 hx
    exact ⟨(h2 i hi).1, (h2 i hi).2.1⟩
theorem ArgsAt.bnd {S : Nat → Prop} {w : World} : ∀ {l : List Tm} {a : Option Addr}, ArgsAt S l a w → bndL l
  | [], _, _ => by rw [bndL]; trivial
  | t :: r, a, h => by
    rw [ArgsAt] at h
    obtain ⟨g, o, vs, h1, h2, h3, h4, h5⟩ := h
    rw [bndL]
    exact ⟨TmAt.bnd h4, ArgsAt.bnd h5⟩
end
theorem err_form {w : World} {v : Value} {l : List Lk} (h : ErrIs w v l) : (l = [] ∧ v = .nilIface) ∨ (l ≠ [] ∧ ∃ b, v = .iface 92 (.pointer (some ⟨b, 0, none⟩))) := by
  cases l with
  | nil => exact .inl ⟨rfl, h⟩
  | cons k r => obtain ⟨b, u, e, _⟩ := h; exact .inr ⟨by simp, b, e⟩
set_option maxHeartbeats 16000000 in
set_option maxRecDepth 100000 in
theorem etfBack_any (S : Nat → Prop) (t : Tm) (vs : List Value) (w : World) (ht : TmAt S t vs w) (hS : ∀ q, S q → q < w.heap.size) (hG : Gt w) :
    Calls Tryd.prog 7 #[.agg vs.toArray] w fun e w' => e = .returned (.bool true) ∧ Below w.heap.size w w' := by
  have HBN := Lib.hid ht.bnd
  have HS := Lib.hid hS
  have HG := Lib.hid hG
  have HT := Lib.hid ht
  obtain ⟨hp, nv, a, cap, rfl, hnn, -⟩ := ht.parts
  obtain ⟨na, nc, rfl, _, _⟩ := hnn.slice
  have HB1 := Lib.hid ((Below.refl w.heap.size w).alloc (Nat.le_refl _) (.cells #[.int .i64 t.kind, .int .i64 t.int, .string t.text, .int .u32 t.cr, .slice na t.nums.length nc, .slice a t.args.length cap] 30 (0, 0)))
  have M1 := Lib.hid (Cells.new w 30 [.int .i64 t.kind, .int .i64 t.int, .string t.text, .int .u32 t.cr, .slice na t.nums.length nc, .slice a t.args.length cap])
  have HT1 := Lib.hid (HT.out.below HB1.out)
  have HE1 := Lib.hid (encode_any S t _ _ HT1.out (fun q hq => Nat.lt_of_lt_of_le (HS.out q hq) HB1.out.size) (HG.out.below HB1.out))
  have HAW := Lib.hid (fun W h => awake_any W h)
  have m0 := M1.out.cell 0
  have m1 := M1.out.cell 1
  have m2 := M1.out.cell 2
  have m3 := M1.out.cell 3
  have m4 := M1.out.cell 4
  have m5 := M1.out.cell 5
  simp only [List.getElem?_cons_zero, List.getElem?_cons_succ] at m0 m1 m2 m3 m4 m5
  clear ht hS hG hp hnn
  go_enter Tryd.func7, Tryd.ntmps7
  go_wp2_with fail
  generalize w.alloc (.cells #[.int .i64 t.kind, .int .i64 t.int, .string t.text, .int .u32 t.cr, .slice na t.nums.length nc, .slice a t.args.length cap] 30) = w1 at *
  refine HE1.out.mono ?_
  rintro e w2 ⟨bv1, ev1, rfl, hbuf1, her1, hb2⟩
  have HB2 := Lib.hid (HB1.out.trans (hb2.mono HB1.out.size))
  have M2 := Lib.hid (M1.out.below hb2)
  have HT2 := Lib.hid (HT1.out.below hb2)
  have hef1 := Lib.hid (err_form her1)
  have HBF := Lib.hid hbuf1.rsl
  obtain ⟨ba, bc, rfl⟩ : ∃ a c, bv1 = .slice a (encS t).1.length c := by
    rcases hbuf1.shape with ⟨rfl, hn⟩ | ⟨g, c, rfl, _⟩
    · exact ⟨none, 0, by rw [hn]; rfl⟩
    · exact ⟨_, c, rfl⟩
  clear m0 m1 m2 m3 m4 m5 hbuf1 her1 hb2 M1 HE1 HT1
  go_wp2_with fail
  refine (HAW.out _ (HG.out.below HB2.out)).mono ?_
  rintro e w3 ⟨rfl, hb3⟩
  have HB3 := Lib.hid (HB2.out.trans (hb3.mono HB2.out.size))
  have M3 := Lib.hid (M2.out.below hb3)
  have HT3 := Lib.hid (HT2.out.below hb3)
  have HBF3 := Lib.hid (HBF.out.below hb3)
  clear hb3 M2 HT2 HBF
  have HEC := Lib.hid (encS_cases t)
  rcases hef1.out with ⟨k1, rfl⟩ | ⟨k1, q, rfl⟩
  · have HWE := Lib.hid (whole_of_enc HBN.out k1)
    have HWH := Lib.hid (whole_nil _ _ _ HBF3.out (HG.out.below HB3.out) (fun t st h => (readS_goes h).2.2.1))
    clear hef1 k1
    go_wp2_with fail
    refine HWH.out.mono ?_
    intro e w4 hr
    obtain ⟨st, he⟩ := HWE.out
    rw [he] at hr
    obtain ⟨vs4, rfl, ht4, hb4⟩ := hr
    have HT4 := Lib.hid ht4
    obtain ⟨_, nv4, a4, cap4, rfl, hnn4, -⟩ := ht4.parts
    obtain ⟨na4, nc4, rfl, _, _⟩ := hnn4.slice
    have HB4 := Lib.hid (HB3.out.trans (hb4.mono HB3.out.size))
    have M4 := Lib.hid (M3.out.below hb4)
    have HTO4 := Lib.hid (HT3.out.below hb4)
    have BX := Lib.hid ((Below.refl w4.heap.size w4).alloc (Nat.le_refl _) (.cells #[.int .i64 t.kind, .int .i64 t.int, .string t.text, .int .u32 t.cr, .slice na4 t.nums.length nc4, .slice a4 t.args.length cap4] 30 (0, 0)))
    have X5 := Lib.hid (Cells.new w4 30 [.int .i64 t.kind, .int .i64 t.int, .string t.text, .int .u32 t.cr, .slice na4 t.nums.length nc4, .slice a4 t.args.length cap4])
    clear ht4 hb4 hnn4 he HWH M3 HT3 HBF3
    go_upto_region 5 with (fail)
    generalize w4.alloc (.cells #[.int .i64 t.kind, .int .i64 t.int, .string t.text, .int .u32 t.cr, .slice na4 t.nums.length nc4, .slice a4 t.args.length cap4] 30) = w5 at *
    have HB5 := Lib.hid (HB4.out.trans (BX.out.mono HB4.out.size))
    have M5 := Lib.hid (M4.out.below BX.out)
    have HSM := Lib.hid (sameTm_any _ _ t _ _ _ (HTO4.out.below BX.out) (HT4.out.below BX.out))
    have m0 := M5.out.cell 0
    have m1 := M5.out.cell 1
    have m2 := M5.out.cell 2
    have m3 := M5.out.cell 3
    have m4 := M5.out.cell 4
    have m5 := M5.out.cell 5
    have x0 := X5.out.cell 0
    have x1 := X5.out.cell 1
    have x2 := X5.out.cell 2
    have x3 := X5.out.cell 3
    have x4 := X5.out.cell 4
    have x5 := X5.out.cell 5
    simp only [List.getElem?_cons_zero, List.getElem?_cons_succ] at m0 m1 m2 m3 m4 m5 x0 x1 x2 x3 x4 x5
    clear HTO4 HT4 M4
    go_wp2_with fail
    refine HSM.out.mono ?_
    rintro e w6 ⟨rfl, hb6⟩
    have HB6 := Lib.hid (HB5.out.trans (hb6.mono HB5.out.size))
    clear hb6 m0 m1 m2 m3 m4 m5 x0 x1 x2 x3 x4 x5
    go_wp2
    go_ret
    exact ⟨rfl, HB6.out⟩
  · have hz : (encS t).1 = [] := by
      rcases HEC.out with ⟨_, h, _⟩ | ⟨_, _, h, _⟩ | ⟨_, _, _, h⟩ | ⟨_, _, _, h⟩
      · exact h
      · exact h
      · rw [h]
      · rw [h] at k1; exact absurd rfl k1
    have hz2 : ((encS t).1.length : Int) = 0 := by rw [hz]; rfl
    clear hef1 k1 hz
    go_wp2
    go_ret
    exact ⟨rfl, HB3.out⟩
end Go.Proofs.YtlahagabcnmdiaaDoor
end
section
/- heddlelaw04: EtfShortest. -/
open Go Go.RowKit
namespace Go.Proofs.YtlahagabcnmdiaaDoor
set_option linter.unusedVariables false
set_option linter.unusedSimpArgs false

theorem length_small {v : Value} {l : List UInt8} {w : World} (h : RSl v l w) : ∃ a c, v = .slice a l.length c := by
  obtain ⟨a, c, e, _⟩ := h
  exact ⟨a, c, e⟩
set_option maxHeartbeats 16000000 in
set_option maxRecDepth 100000 in
theorem etfShortest_any (l : List UInt8) (v : Value) (w : World) (hv : RSl v l w) (hz : l.length ≤ 140737488351232) (hG : Gt w) :
    Calls Tryd.prog 8 #[v] w fun e w' => e = .returned (.bool true) ∧ Below w.heap.size w w' := by
  have HV := Lib.hid hv
  have HG := Lib.hid hG
  have HZ := Lib.hid hz
  have HD := Lib.hid (decode_nil l v w hv hG)
  have HAW := Lib.hid (fun W h => awake_any W h)
  obtain ⟨va, vc, rfl⟩ := length_small hv
  clear hv hG
  go_enter Tryd.func8, Tryd.ntmps8
  go_wp2_with fail
  refine HD.out.mono ?_
  intro e w1 hr
  cases hk : readS l with
  | bad k =>
    rw [hk] at hr
    obtain ⟨b, rfl, he, hne, hb⟩ := hr
    have BZ := Lib.hid ((Below.refl w1.heap.size w1).alloc (Nat.le_refl _) (.cells termZ.toArray 30 (0, 0)))
    have HB2 := Lib.hid (hb.trans (BZ.out.mono hb.size))
    unfold termZ at *
    clear he hne hb hk HD
    go_wp2_with fail
    generalize w1.alloc (.cells #[.int .i64 0, .int .i64 0, .string ⟨#[]⟩, .int .u32 0, .slice none 0 0, .slice none 0 0] 30) = w2 at *
    refine (HAW.out _ (HG.out.below HB2.out)).mono ?_
    rintro e w3 ⟨rfl, hb3⟩
    have HB3 := Lib.hid (HB2.out.trans (hb3.mono HB2.out.size))
    clear hb3
    go_wp2
    go_ret
    exact ⟨rfl, HB3.out⟩
  | ok t st =>
    rw [hk] at hr
    have HSH := Lib.hid (shortest_law hk)
    have HGO := Lib.hid (readS_goes hk)
    obtain ⟨vs, rfl, ht, hb⟩ := hr
    have HT := Lib.hid ht
    obtain ⟨_, nv, a, cap, rfl, hnn, -⟩ := ht.parts
    obtain ⟨na, nc, rfl, _, _⟩ := hnn.slice
    have BZ := Lib.hid ((Below.refl w1.heap.size w1).alloc (Nat.le_refl _) (.cells #[.int .i64 t.kind, .int .i64 t.int, .string t.text, .int .u32 t.cr, .slice na t.nums.length nc, .slice a t.args.length cap] 30 (0, 0)))
    have M2 := Lib.hid (Cells.new w1 30 [.int .i64 t.kind, .int .i64 t.int, .string t.text, .int .u32 t.cr, .slice na t.nums.length nc, .slice a t.args.length cap])
    have HB2 := Lib.hid (hb.trans (BZ.out.mono hb.size))
    have HT2 := Lib.hid ((HT.out.mono (S' := fun q => q < w1.heap.size) (fun q hq _ => hq)).below BZ.out)
    clear ht hnn hb hk HD HT
    go_wp2_with fail
    generalize w1.alloc (.cells #[.int .i64 t.kind, .int .i64 t.int, .string t.text, .int .u32 t.cr, .slice na t.nums.length nc, .slice a t.args.length cap] 30) = w2 at *
    refine (HAW.out _ (HG.out.below HB2.out)).mono ?_
    rintro e w3 ⟨rfl, hb3⟩
    have HB3 := Lib.hid (HB2.out.trans (hb3.mono HB2.out.size))
    have M3 := Lib.hid (M2.out.below hb3)
    have HT3 := Lib.hid (HT2.out.below hb3)
    have HSZ3 := Lib.hid (Nat.le_trans BZ.out.size hb3.size)
    have HE := Lib.hid (encode_any (fun q => q < w1.heap.size) t _ _ HT3.out (fun q hq => Nat.lt_of_lt_of_le hq HSZ3.out) (HG.out.below HB3.out))
    have m0 := M3.out.cell 0
    have m1 := M3.out.cell 1
    have m2 := M3.out.cell 2
    have m3 := M3.out.cell 3
    have m4 := M3.out.cell 4
    have m5 := M3.out.cell 5
    simp only [List.getElem?_cons_zero, List.getElem?_cons_succ] at m0 m1 m2 m3 m4 m5
    clear hb3 M2 HT2 BZ
    go_wp2_with fail
    refine HE.out.mono ?_
    rintro e w4 ⟨bv1, ev1, rfl, hbuf1, her1, hb4⟩
    have HB4 := Lib.hid (HB3.out.trans (hb4.mono HB3.out.size))
    have M4 := Lib.hid (M3.out.below hb4)
    have HT4 := Lib.hid (HT3.out.below hb4)
    have k1 := HSH.out.1
    rw [k1] at her1
    obtain rfl : ev1 = .nilIface := her1
    have HBF := Lib.hid hbuf1.rsl
    obtain ⟨ba, bc, rfl⟩ : ∃ a c, bv1 = .slice a (encS t).1.length c := by
      rcases hbuf1.shape with ⟨rfl, hn⟩ | ⟨g, c, rfl, _⟩
      · exact ⟨none, 0, by rw [hn]; rfl⟩
      · exact ⟨_, c, rfl⟩
    have HWH := Lib.hid (whole_nil _ _ _ HBF.out (HG.out.below HB4.out) (fun t st h => (readS_goes h).2.2.1))
    clear m0 m1 m2 m3 m4 m5 hbuf1 hb4 M3 HE HT3 k1
    go_wp2_with fail
    refine HWH.out.mono ?_
    intro e w5 hr
    obtain ⟨st2, he⟩ := HSH.out.2.2
    rw [he] at hr
    obtain ⟨vs5, rfl, ht5, hb5⟩ := hr
    have HT5 := Lib.hid ht5
    obtain ⟨_, nv5, a5, cap5, rfl, hnn5, -⟩ := ht5.parts
    obtain ⟨na5, nc5, rfl, _, _⟩ := hnn5.slice
    have HB5 := Lib.hid (HB4.out.trans (hb5.mono HB4.out.size))
    have M5 := Lib.hid (M4.out.below hb5)
    have HTO5 := Lib.hid (HT4.out.below hb5)
    have BX := Lib.hid ((Below.refl w5.heap.size w5).alloc (Nat.le_refl _) (.cells #[.int .i64 t.kind, .int .i64 t.int, .string t.text, .int .u32 t.cr, .slice na5 t.nums.length nc5, .slice a5 t.args.length cap5] 30 (0, 0)))
    have X6 := Lib.hid (Cells.new w5 30 [.int .i64 t.kind, .int .i64 t.int, .string t.text, .int .u32 t.cr, .slice na5 t.nums.length nc5, .slice a5 t.args.length cap5])
    clear ht5 hb5 hnn5 he HWH M4 HT4 HBF
    go_upto_region 6 with (fail)
    generalize w5.alloc (.cells #[.int .i64 t.kind, .int .i64 t.int, .string t.text, .int .u32 t.cr, .slice na5 t.nums.length nc5, .slice a5 t.args.length cap5] 30) = w6 at *
    have HB6 := Lib.hid (HB5.out.trans (BX.out.mono HB5.out.size))
    have M6 := Lib.hid (M5.out.below BX.out)
    have HSM := Lib.hid (sameTm_any _ _ t _ _ _ (HTO5.out.below BX.out) (HT5.out.below BX.out))
    have m0 := M6.out.cell 0
    have m1 := M6.out.cell 1
    have m2 := M6.out.cell 2
    have m3 := M6.out.cell 3
    have m4 := M6.out.cell 4
    have m5 := M6.out.cell 5
    have x0 := X6.out.cell 0
    have x1 := X6.out.cell 1
    have x2 := X6.out.cell 2
    have x3 := X6.out.cell 3
    have x4 := X6.out.cell 4
    have x5 := X6.out.cell 5
    simp only [List.getElem?_cons_zero, List.getElem?_cons_succ] at m0 m1 m2 m3 m4 m5 x0 x1 x2 x3 x4 x5
    have c1 : ((encS t).1.length : Int) ≤ (st.at_ : Int) := by have := HSH.out.2.1; omega
    have c2 : (st.at_ : Int) ≤ (l.length : Int) := by have := HGO.out.2.1; omega
    generalize (encS t).1.length = el at *
    clear HTO5 HT5 M5
    go_wp2_with fail
    refine HSM.out.mono ?_
    rintro e w7 ⟨rfl, hb7⟩
    have HB7 := Lib.hid (HB6.out.trans (hb7.mono HB6.out.size))
    clear hb7 m0 m1 m2 m3 m4 m5 x0 x1 x2 x3 x4 x5
    go_wp2
    go_ret
    exact ⟨rfl, HB7.out⟩
end Go.Proofs.YtlahagabcnmdiaaDoor
end
