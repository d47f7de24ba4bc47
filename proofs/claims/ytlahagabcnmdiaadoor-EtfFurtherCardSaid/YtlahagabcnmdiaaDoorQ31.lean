/- Texts laid together: EwD. -/
import Derived.Test.YtlahagabcnmdiaaDoorQ30
import Derived.Deep.DeepAppendWide
section
/- heddlelaw04: EtfFurther. -/
open Go Go.RowKit
namespace Go.Proofs.YtlahagabcnmdiaaDoor
set_option linter.unusedVariables false
set_option linter.unusedSimpArgs false

/-- append where little is owned and much may come -/
theorem BufIs.appW {base : Nat} {v sv : Value} {l d : List UInt8} {w : World} (h : BufIs base v l w) (hs : RSl sv d w) (hl : l.length ≤ 100000) (hd : d.length ≤ 140737488351232) (hB : base ≤ w.heap.size) :
    ∃ v' w', (Builtin.append_ #[64, 64] 64 #[v, sv]).run Tryd.prog w = .ok v' w' ∧ BufIs base v' (l ++ d) w' ∧ w.grownBy w' v.ownBlock := by
  by_cases hsm : l.length + d.length ≤ 140737488355328
  · obtain ⟨v', w', h1, h2, h3, _⟩ := h.app2 hs hsm hB
    exact ⟨v', w', h1, h2, h3⟩
  · obtain ⟨i0, hi, hz0, hz1, hz2⟩ := info_parts Tryd.infoByte
    obtain ⟨a, c, rfl, hc1, hc2, hc⟩ := hs
    obtain ⟨g, o, rfl, _⟩ := hc 0 (by omega)
    obtain ⟨v', w', hr, h2, h3, _⟩ := run_append_own_wide (P := Tryd.prog) w base 64 64 5 i0 (.int .u8 0) 1 1 Tryd.underlying64 hi hz0 hz1 hz2 rfl (by decide) v l.length (bytesV l) h ⟨g, o, none⟩ d.length c (bytesV d) (by rw [bytesV_length]; omega) (fun j u hj => by
        have hlt : j < d.length := by
          rcases Nat.lt_or_ge j d.length with h | h
          · exact h
          · simp [bytesV, List.getElem?_eq_none h] at hj
        rw [bytesV_get d j hlt] at hj
        cases hj
        obtain ⟨g', o', he, hx⟩ := hc j hlt
        cases he
        rw [Lib.add_plain]
        exact hx) (bytesV_one _) (by unfold maxLen; omega) (by omega) hB
    refine ⟨v', w', hr, ?_, h3⟩
    unfold BufIs
    rw [bytesV_append, List.length_append]
    exact h2
theorem RSl.take {a : Option Addr} {c : Nat} {l : List UInt8} {w : World} (h : RSl (.slice a l.length c) l w) (n : Nat) (hn : n ≤ l.length) : RSl (.slice a n c) (l.take n) w := by
  obtain ⟨a', c', e, h1, h2, hc⟩ := h
  cases e
  have hlen : (l.take n).length = n := by rw [List.length_take]; omega
  refine ⟨a, c, by rw [hlen], by omega, h2, fun j hj => ?_⟩
  obtain ⟨g, o, ha, hx⟩ := hc j (by omega)
  exact ⟨g, o, ha, by rw [hx, List.getElem_take]⟩
set_option maxHeartbeats 16000000 in
set_option maxRecDepth 100000 in
theorem etfFurther_any (l : List UInt8) (v : Value) (m : List UInt8) (mv : Value) (at_ : Int) (w : World) (hv : RSl v l w) (hm : RSl mv m w) (hz : l.length ≤ 140737488351232) (hzm : m.length ≤ 140737488351232) (ha0 : -9223372036854775808 ≤ at_) (ha1 : at_ ≤ 9223372036854775807) (hG : Gt w) :
    Calls Tryd.prog 9 #[v, mv, .int .i64 at_] w fun e w' => e = .returned (.bool true) ∧ Below w.heap.size w w' := by
  have HV := Lib.hid hv
  have HM := Lib.hid hm
  have HG := Lib.hid hG
  have HZ := Lib.hid hz
  have HZM := Lib.hid hzm
  have HD := Lib.hid (decode_nil l v w hv hG)
  have HAW := Lib.hid (fun W h => awake_any W h)
  obtain ⟨va, vc, rfl⟩ := length_small hv
  obtain ⟨ma, mc, rfl⟩ := length_small hm
  have HVM := Lib.hid (show l.length ≤ vc ∧ vc ≤ maxLen from by obtain ⟨_, _, e, h1, h2, _⟩ := hv; cases e; exact ⟨h1, h2⟩)
  clear hv hm hG
  go_enter Tryd.func9, Tryd.ntmps9
  go_wp2_with fail
  refine HD.out.mono ?_
  intro e w1 hr
  cases hk : readS l with
  | bad k =>
    rw [hk] at hr
    obtain ⟨b, rfl, he, hne, hb⟩ := hr
    have BZ := Lib.hid ((Below.refl w1.heap.size w1).alloc (Nat.le_refl _) (.cells termZ.toArray 30 (0, 0)))
    have HB2 := Lib.hid (hb.trans (BZ.out.mono hb.size))
    unfold termZ at *
    clear he hne hb hk HD
    go_wp2_with fail
    generalize w1.alloc (.cells #[.int .i64 0, .int .i64 0, .string ⟨#[]⟩, .int .u32 0, .slice none 0 0, .slice none 0 0] 30) = w2 at *
    refine (HAW.out _ (HG.out.below HB2.out)).mono ?_
    rintro e w3 ⟨rfl, hb3⟩
    have HB3 := Lib.hid (HB2.out.trans (hb3.mono HB2.out.size))
    clear hb3
    go_wp2
    go_ret
    exact ⟨rfl, HB3.out⟩
  | ok t st =>
    rw [hk] at hr
    have HF := Lib.hid (further_law hk)
    have HGO := Lib.hid (readS_goes hk)
    obtain ⟨vs, rfl, ht, hb⟩ := hr
    have HT := Lib.hid ht
    obtain ⟨_, nv, a, cap, rfl, hnn, -⟩ := ht.parts
    obtain ⟨na, nc, rfl, _, _⟩ := hnn.slice
    have BZ := Lib.hid ((Below.refl w1.heap.size w1).alloc (Nat.le_refl _) (.cells #[.int .i64 t.kind, .int .i64 t.int, .string t.text, .int .u32 t.cr, .slice na t.nums.length nc, .slice a t.args.length cap] 30 (0, 0)))
    have M2 := Lib.hid (Cells.new w1 30 [.int .i64 t.kind, .int .i64 t.int, .string t.text, .int .u32 t.cr, .slice na t.nums.length nc, .slice a t.args.length cap])
    have HB2 := Lib.hid (hb.trans (BZ.out.mono hb.size))
    have HT2 := Lib.hid ((HT.out.mono (S' := fun q => q < w1.heap.size) (fun q hq _ => hq)).below BZ.out)
    clear ht hnn hb hk HD HT
    go_wp2_with fail
    generalize w1.alloc (.cells #[.int .i64 t.kind, .int .i64 t.int, .string t.text, .int .u32 t.cr, .slice na t.nums.length nc, .slice a t.args.length cap] 30) = w2 at *
    refine (HAW.out _ (HG.out.below HB2.out)).mono ?_
    rintro e w3 ⟨rfl, hb3⟩
    have HB3 := Lib.hid (HB2.out.trans (hb3.mono HB2.out.size))
    have M3 := Lib.hid (M2.out.below hb3)
    have HT3 := Lib.hid (HT2.out.below hb3)
    clear hb3 M2 HT2 BZ
    have hn2 : (2 : Int) ≤ (st.at_ : Int) := by have := HF.out.1; omega
    have hnl : (st.at_ : Int) ≤ (l.length : Int) := by have := HF.out.2.1; omega
    have hn6 : (st.at_ : Int) ≤ 65536 := by have := HGO.out.2.2.1; omega
    have hvc : (st.at_ : Int) ≤ (vc : Int) := by have := HVM.out.1; omega
    have hvm : (vc : Int) ≤ 9223372036854775807 := by have := HVM.out.2; unfold maxLen at this; omega
    -- the bytes, with others behind them
    have BL := Lib.hid ((Below.refl w3.heap.size w3).alloc (Nat.le_refl _) (.cells #[] 5 (0, 0)))
    have HL0 := Lib.hid (show BufIs w3.heap.size (.slice (some ⟨w3.heap.size, 0, none⟩) 0 0) [] (w3.alloc (.cells #[] 5 (0, 0))) from BufIs.lit (base := w3.heap.size) (w := w3) [] (Nat.le_refl _) (by simp))
    have HBL := Lib.hid (HB3.out.trans (BL.out.mono HB3.out.size))
    have HT0 := Lib.hid ((HV.out.below HBL.out).take st.at_ HF.out.2.1)
    obtain ⟨v4, w4, hr4, hbuf4, hg4⟩ := HL0.out.appW HT0.out (by simp) (by rw [List.length_take]; have := HZ.out; omega) BL.out.size
    obtain ⟨a4, n4, c4, rfl⟩ : ∃ a n c, v4 = .slice a n c := by
      rcases hbuf4.shape with ⟨rfl, _⟩ | ⟨_, _, rfl, _⟩ <;> exact ⟨_, _, _, rfl⟩
    have B34 := Lib.hid (show Below w3.heap.size w3 w4 from BL.out.grown hg4 BL.out.size (fun q hq => (HL0.out.block hq).1))
    have HB4 := Lib.hid (HB3.out.trans (B34.out.mono HB3.out.size))
    rw [List.nil_append] at hbuf4
    obtain ⟨v5, w5, hr5, hbuf5, hg5⟩ := hbuf4.appW (HM.out.below HB4.out) (by rw [List.length_take]; have := HGO.out.2.2.1; omega) HZM.out B34.out.size
    obtain ⟨a5, n5, c5, rfl⟩ : ∃ a n c, v5 = .slice a n c := by
      rcases hbuf5.shape with ⟨rfl, _⟩ | ⟨_, _, rfl, _⟩ <;> exact ⟨_, _, _, rfl⟩
    have B35 := Lib.hid (show Below w3.heap.size w3 w5 from B34.out.grown hg5 B34.out.size (fun q hq => (hbuf4.block hq).1))
    have HB5 := Lib.hid (HB3.out.trans (B35.out.mono HB3.out.size))
    have HR4 := Lib.hid hr4
    have HR5 := Lib.hid hr5
    have HD2 := Lib.hid (decode_nil _ _ _ hbuf5.rsl (HG.out.below HB5.out))
    have M5 := Lib.hid (M3.out.below B35.out)
    have HT5 := Lib.hid (HT3.out.below B35.out)
    rw [HF.out.2.2.1 m] at HD2
    clear hr4 hbuf4 hg4 hr5 hbuf5 hg5 M3 HT3
    have hnn2 : ¬ (st.at_ : Int) < 2 := by omega
    have hnnl : ¬ l.length < st.at_ := by omega
    go_wp2_with (at_builtin; refine stop ?_)
    refine Stopped.of ?_
    refine wp_app_eq rfl (.tmp 43) (.tmp 46) _ _ rfl _ _ (.slice a4 n4 c4) w4 rfl rfl HR4.out ?_
    go_wp2_with (at_builtin; refine stop ?_)
    refine Stopped.of ?_
    refine wp_app_eq rfl (.tmp 47) (.tmp 48) _ _ rfl _ _ (.slice a5 n5 c5) w5 rfl rfl HR5.out ?_
    clear HR4 HR5 HL0 HBL HT0 B34 HB4 BL
    go_wp2_with fail
    refine HD2.out.mono ?_
    intro e w6 hr
    obtain ⟨vs6, rfl, ht6, hb6⟩ := hr
    have HT6 := Lib.hid ht6
    obtain ⟨_, nv6, a6, cap6, rfl, hnn6, -⟩ := ht6.parts
    obtain ⟨na6, nc6, rfl, _, _⟩ := hnn6.slice
    have HB6 := Lib.hid (HB5.out.trans (hb6.mono HB5.out.size))
    have M6 := Lib.hid (M5.out.below hb6)
    have HTO6 := Lib.hid (HT5.out.below hb6)
    have BX := Lib.hid ((Below.refl w6.heap.size w6).alloc (Nat.le_refl _) (.cells #[.int .i64 t.kind, .int .i64 t.int, .string t.text, .int .u32 t.cr, .slice na6 t.nums.length nc6, .slice a6 t.args.length cap6] 30 (0, 0)))
    have X7 := Lib.hid (Cells.new w6 30 [.int .i64 t.kind, .int .i64 t.int, .string t.text, .int .u32 t.cr, .slice na6 t.nums.length nc6, .slice a6 t.args.length cap6])
    have HB7 := Lib.hid (HB6.out.trans (BX.out.mono HB6.out.size))
    have M7 := Lib.hid (M6.out.below BX.out)
    have HTO7 := Lib.hid (HTO6.out.below BX.out)
    have HT7 := Lib.hid ((HT6.out.mono (S' := fun q => q < w6.heap.size) (fun q hq _ => hq)).below BX.out)
    clear ht6 hb6 hnn6 M5 HT5 HD2 M6 HTO6 HT6
    go_upto_region 7 with (fail)
    generalize w6.alloc (.cells #[.int .i64 t.kind, .int .i64 t.int, .string t.text, .int .u32 t.cr, .slice na6 t.nums.length nc6, .slice a6 t.args.length cap6] 30) = w7 at *
    obtain ⟨kk, hkk, hk1⟩ : ∃ kk : Nat, (IntKind.u64.wrap at_).tmod (st.at_ : Int) = (kk : Int) ∧ (kk : Int) < (st.at_ : Int) := by
      have h0 : 0 ≤ IntKind.u64.wrap at_ := by simp [IntKind.wrap, IntKind.bits, IntKind.signed]; omega
      generalize IntKind.u64.wrap at_ = x at *
      rw [Int.tmod_eq_emod_of_nonneg h0]
      have h1 := Int.emod_nonneg x (b := (st.at_ : Int)) (by omega)
      have h2 := Int.emod_lt_of_pos x (b := (st.at_ : Int)) (by omega)
      exact ⟨(x % (st.at_ : Int)).toNat, by omega, by omega⟩
    have hk0 : (0 : Int) ≤ (kk : Int) := by omega
    have hkv : (kk : Int) ≤ (vc : Int) := by omega
    have HDK := Lib.hid (decode_nil _ _ _ ((HV.out.below HB7.out).take kk (by have := HF.out.2.1; omega)) (HG.out.below HB7.out))
    obtain ⟨bk, hbk⟩ := HF.out.2.2.2 kk (by omega)
    rw [hbk] at HDK
    clear hbk
    go_wp2_with fail
    refine HDK.out.mono ?_
    intro e w8 hr
    obtain ⟨b8, rfl, -, -, hb8⟩ := hr
    have BZ := Lib.hid ((Below.refl w8.heap.size w8).alloc (Nat.le_refl _) (.cells #[.int .i64 0, .int .i64 0, .string ⟨#[]⟩, .int .u32 0, .slice none 0 0, .slice none 0 0] 30 (0, 0)))
    have B79 := Lib.hid (hb8.trans (BZ.out.mono hb8.size))
    have HB9 := Lib.hid (HB7.out.trans (B79.out.mono HB7.out.size))
    have M9 := Lib.hid (M7.out.below B79.out)
    have X9 := Lib.hid (X7.out.below B79.out)
    have HSM := Lib.hid (sameTm_any _ _ t _ _ _ (HTO7.out.below B79.out) (HT7.out.below B79.out))
    clear hb8 HDK M7 X7 HTO7 HT7 hkk
    unfold termZ
    go_upto_region 8 with (fail)
    generalize w8.alloc (.cells #[.int .i64 0, .int .i64 0, .string ⟨#[]⟩, .int .u32 0, .slice none 0 0, .slice none 0 0] 30) = w9 at *
    have m0 := M9.out.cell 0
    have m1 := M9.out.cell 1
    have m2 := M9.out.cell 2
    have m3 := M9.out.cell 3
    have m4 := M9.out.cell 4
    have m5 := M9.out.cell 5
    have x0 := X9.out.cell 0
    have x1 := X9.out.cell 1
    have x2 := X9.out.cell 2
    have x3 := X9.out.cell 3
    have x4 := X9.out.cell 4
    have x5 := X9.out.cell 5
    simp only [List.getElem?_cons_zero, List.getElem?_cons_succ] at m0 m1 m2 m3 m4 m5 x0 x1 x2 x3 x4 x5
    go_wp2_with fail
    refine HSM.out.mono ?_
    rintro e w10 ⟨rfl, hb10⟩
    have HB10 := Lib.hid (HB9.out.trans (hb10.mono HB9.out.size))
    clear hb10 m0 m1 m2 m3 m4 m5 x0 x1 x2 x3 x4 x5
    go_wp2
    go_ret
    exact ⟨rfl, HB10.out⟩
end Go.Proofs.YtlahagabcnmdiaaDoor
end
