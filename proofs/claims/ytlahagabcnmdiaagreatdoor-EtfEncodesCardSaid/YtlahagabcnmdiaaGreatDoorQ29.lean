/- Texts laid together: EwA. -/
import Derived.Test.YtlahagabcnmdiaaGreatDoorQ25
import Derived.Test.YtlahagabcnmdiaaGreatDoorQ28
section
/- heddlelaw04: EtfWide. -/
open Go Go.RowKit
namespace Go.Proofs.YtlahagabcnmdiaaGreatDoor
set_option linter.unusedVariables false
set_option linter.unusedSimpArgs false

theorem withInt_at {S : Nat → Prop} {t : Tm} {vs : List Value} {n : Int} {w : World} {G : Nat} (hC : Cells w G 35 (vs ++ [.int .i64 1, .int .i64 n, .string ⟨#[]⟩, .int .u32 0, .slice none 0 0, .slice none 0 0])) (ht : TmAt S t vs w) (h0 : -9223372036854775808 ≤ n) (h1 : n ≤ 9223372036854775807) :
    TmAt (fun q => S q ∨ q = G) (withInt t n) [.int .i64 5, .int .i64 0, .string ⟨#[]⟩, .int .u32 0, .slice none 0 0, .slice (some ⟨G, 0, none⟩) 2 2] w := by
  have h6 := ht.six
  have hc : ∀ j, w.cell? ⟨G, 0 + j, none⟩ = (vs ++ [.int .i64 1, .int .i64 n, .string ⟨#[]⟩, .int .u32 0, .slice none 0 0, .slice none 0 0])[j]? := fun j => by rw [Nat.zero_add]; exact hC.cell j
  have hnil : ∀ W, NumsAt (fun q => S q ∨ q = G) (.slice none 0 0) [] W := fun W => ⟨none, 0, rfl, ⟨Nat.le_refl _, by simp⟩, by simp [maxLen], fun i hi => absurd hi (Nat.not_lt_zero _)⟩
  unfold withInt
  rw [TmAt]
  refine ⟨⟨by decide, by decide, by decide, by decide, Nat.zero_le _, by decide, by decide⟩, .slice none 0 0, some ⟨G, 0, none⟩, 2, rfl, hnil _, by simp [maxLen], by simp, ?_⟩
  rw [ArgsAt]
  refine ⟨G, 0, vs, rfl, .inr rfl, fun j hj => by rw [hc, List.getElem?_append_left (by omega)], ht.mono (fun _ _ h => .inl h), ?_⟩
  rw [ArgsAt]
  refine ⟨G, 0 + 6, [.int .i64 1, .int .i64 n, .string ⟨#[]⟩, .int .u32 0, .slice none 0 0, .slice none 0 0], rfl, .inr rfl, fun j hj => ?_, ?_, ?_⟩
  · have := hc (6 + j)
    rw [List.getElem?_append_right (by omega)] at this
    rw [show 0 + 6 + j = 0 + (6 + j) by omega, this, h6, Nat.add_sub_cancel_left]
  · rw [TmAt]
    exact ⟨⟨by decide, by decide, h0, h1, Nat.zero_le _, by decide, by decide⟩, .slice none 0 0, none, 0, rfl, hnil _, by simp [maxLen], by simp, by rw [ArgsAt]; trivial⟩
  · rw [ArgsAt]; trivial
theorem err_form {w : World} {v : Value} {l : List Lk} (h : ErrIs w v l) : (l = [] ∧ v = .nilIface) ∨ (l ≠ [] ∧ ∃ b, v = .iface 96 (.pointer (some ⟨b, 0, none⟩))) := by
  cases l with
  | nil => exact .inl ⟨rfl, h⟩
  | cons k r => obtain ⟨b, u, e, _⟩ := h; exact .inr ⟨by simp, b, e⟩
set_option maxHeartbeats 16000000 in
set_option maxRecDepth 100000 in
theorem etfWide_any (S : Nat → Prop) (t : Tm) (vs : List Value) (n : Int) (w : World) (ht : TmAt S t vs w) (hS : ∀ q, S q → q < w.heap.size) (h0 : -9223372036854775808 ≤ n) (h1 : n ≤ 9223372036854775807) (hG : Gt w) :
    Calls Tryz.prog 4 #[.agg vs.toArray, .int .i64 n] w fun e w' => e = .returned (.bool true) ∧ Below w.heap.size w w' := by
  have HL := Lib.hid (wide_law t n)
  have HS := Lib.hid hS
  have HG := Lib.hid hG
  have HT := Lib.hid ht
  obtain ⟨hp, nv, a, cap, rfl, hnn, -⟩ := ht.parts
  obtain ⟨na, nc, rfl, _, _⟩ := hnn.slice
  have HB1 := Lib.hid ((Below.refl w.heap.size w).alloc (Nat.le_refl _) (.cells #[.int .i64 t.kind, .int .i64 t.int, .string t.text, .int .u32 t.cr, .slice na t.nums.length nc, .slice a t.args.length cap] 35 (0, 0)))
  have M1 := Lib.hid (Cells.new w 35 [.int .i64 t.kind, .int .i64 t.int, .string t.text, .int .u32 t.cr, .slice na t.nums.length nc, .slice a t.args.length cap])
  have HAW := Lib.hid (fun W h => awake_any W h)
  clear ht hS hG hp hnn
  go_enter Tryz.func4, Tryz.ntmps4
  go_wp2_with fail
  generalize w.alloc (.cells #[.int .i64 t.kind, .int .i64 t.int, .string t.text, .int .u32 t.cr, .slice na t.nums.length nc, .slice a t.args.length cap] 35) = w1 at *
  refine (HAW.out _ (HG.out.below HB1.out)).mono ?_
  rintro e w2 ⟨rfl, hb2⟩
  have HB2 := Lib.hid (HB1.out.trans (hb2.mono HB1.out.size))
  have M2 := Lib.hid (M1.out.below hb2)
  clear hb2 M1
  have m0 := M2.out.cell 0
  have m1 := M2.out.cell 1
  have m2 := M2.out.cell 2
  have m3 := M2.out.cell 3
  have m4 := M2.out.cell 4
  have m5 := M2.out.cell 5
  simp only [List.getElem?_cons_zero, List.getElem?_cons_succ] at m0 m1 m2 m3 m4 m5
  go_upto_region 4 with (fail)
  have BX := Lib.hid (show Below w2.heap.size w2 ((w2.alloc (.cells #[.int .i64 t.kind, .int .i64 t.int, .string t.text, .int .u32 t.cr, .slice na t.nums.length nc, .slice a t.args.length cap, .int .i64 1, .int .i64 n, .string ⟨#[]⟩, .int .u32 0, .slice none 0 0, .slice none 0 0] 35 (0, 0))).alloc (.cells #[.int .i64 5, .int .i64 0, .string ⟨#[]⟩, .int .u32 0, .slice none 0 0, .slice (some ⟨w2.heap.size, 0, none⟩) 2 2] 35 (0, 0))) from ((Below.refl _ _).alloc (Nat.le_refl _) _).alloc (by simp) _)
  have C12 := Lib.hid (show Cells ((w2.alloc (.cells #[.int .i64 t.kind, .int .i64 t.int, .string t.text, .int .u32 t.cr, .slice na t.nums.length nc, .slice a t.args.length cap, .int .i64 1, .int .i64 n, .string ⟨#[]⟩, .int .u32 0, .slice none 0 0, .slice none 0 0] 35 (0, 0))).alloc (.cells #[.int .i64 5, .int .i64 0, .string ⟨#[]⟩, .int .u32 0, .slice none 0 0, .slice (some ⟨w2.heap.size, 0, none⟩) 2 2] 35 (0, 0))) w2.heap.size 35 ([.int .i64 t.kind, .int .i64 t.int, .string t.text, .int .u32 t.cr, .slice na t.nums.length nc, .slice a t.args.length cap] ++ [.int .i64 1, .int .i64 n, .string ⟨#[]⟩, .int .u32 0, .slice none 0 0, .slice none 0 0]) from (Cells.new w2 35 ([.int .i64 t.kind, .int .i64 t.int, .string t.text, .int .u32 t.cr, .slice na t.nums.length nc, .slice a t.args.length cap] ++ [.int .i64 1, .int .i64 n, .string ⟨#[]⟩, .int .u32 0, .slice none 0 0, .slice none 0 0])).alloc _)
  have X3 := Lib.hid (show Cells ((w2.alloc (.cells #[.int .i64 t.kind, .int .i64 t.int, .string t.text, .int .u32 t.cr, .slice na t.nums.length nc, .slice a t.args.length cap, .int .i64 1, .int .i64 n, .string ⟨#[]⟩, .int .u32 0, .slice none 0 0, .slice none 0 0] 35 (0, 0))).alloc (.cells #[.int .i64 5, .int .i64 0, .string ⟨#[]⟩, .int .u32 0, .slice none 0 0, .slice (some ⟨w2.heap.size, 0, none⟩) 2 2] 35 (0, 0))) (w2.heap.size + 1) 35 [.int .i64 5, .int .i64 0, .string ⟨#[]⟩, .int .u32 0, .slice none 0 0, .slice (some ⟨w2.heap.size, 0, none⟩) 2 2] from by
    have := Cells.new (w2.alloc (.cells #[.int .i64 t.kind, .int .i64 t.int, .string t.text, .int .u32 t.cr, .slice na t.nums.length nc, .slice a t.args.length cap, .int .i64 1, .int .i64 n, .string ⟨#[]⟩, .int .u32 0, .slice none 0 0, .slice none 0 0] 35 (0, 0))) 35 [.int .i64 5, .int .i64 0, .string ⟨#[]⟩, .int .u32 0, .slice none 0 0, .slice (some ⟨w2.heap.size, 0, none⟩) 2 2]
    rwa [World.size_alloc] at this)
  generalize (w2.alloc (.cells #[.int .i64 t.kind, .int .i64 t.int, .string t.text, .int .u32 t.cr, .slice na t.nums.length nc, .slice a t.args.length cap, .int .i64 1, .int .i64 n, .string ⟨#[]⟩, .int .u32 0, .slice none 0 0, .slice none 0 0] 35)).alloc (.cells #[.int .i64 5, .int .i64 0, .string ⟨#[]⟩, .int .u32 0, .slice none 0 0, .slice (some ⟨w2.heap.size, 0, none⟩) 2 2] 35) = w3 at *
  have HB3 := Lib.hid (HB2.out.trans (BX.out.mono HB2.out.size))
  have M3 := Lib.hid (M2.out.below BX.out)
  have HT3 := Lib.hid (HT.out.below HB3.out)
  have HX3 := Lib.hid (withInt_at C12.out HT3.out h0 h1)
  have HLT := Lib.hid (show w2.heap.size < w3.heap.size from C12.out.lt)
  have HE1 := Lib.hid (encode_any S t _ _ HT3.out (fun q hq => Nat.lt_of_lt_of_le (HS.out q hq) HB3.out.size) (HG.out.below HB3.out))
  clear m0 m1 m2 m3 m4 m5 M2 C12 BX
  have m0 := M3.out.cell 0
  have m1 := M3.out.cell 1
  have m2 := M3.out.cell 2
  have m3 := M3.out.cell 3
  have m4 := M3.out.cell 4
  have m5 := M3.out.cell 5
  simp only [List.getElem?_cons_zero, List.getElem?_cons_succ] at m0 m1 m2 m3 m4 m5
  go_wp2_with fail
  refine HE1.out.mono ?_
  rintro e w4 ⟨bv1, ev1, rfl, hbuf1, her1, hb4⟩
  have HB4 := Lib.hid (HB3.out.trans (hb4.mono HB3.out.size))
  have X4 := Lib.hid (X3.out.below hb4)
  have HX4 := Lib.hid (HX3.out.below hb4)
  have hef1 := Lib.hid (err_form her1)
  have HE2 := Lib.hid (encode_any _ (withInt t n) _ _ HX4.out (fun q hq => by rcases hq with hq | hq; exact Nat.lt_of_lt_of_le (HS.out q hq) HB4.out.size; rw [hq]; exact Nat.lt_of_lt_of_le HLT.out hb4.size) (HG.out.below HB4.out))
  clear m0 m1 m2 m3 m4 m5 M3 hbuf1 her1 X3 HX3 HE1 HT3
  have m0 := X4.out.cell 0
  have m1 := X4.out.cell 1
  have m2 := X4.out.cell 2
  have m3 := X4.out.cell 3
  have m4 := X4.out.cell 4
  have m5 := X4.out.cell 5
  simp only [List.getElem?_cons_zero, List.getElem?_cons_succ] at m0 m1 m2 m3 m4 m5
  have HLT4 := Lib.hid (Nat.lt_of_lt_of_le HLT.out hb4.size)
  clear hb4
  go_wp2_with fail
  refine HE2.out.mono ?_
  rintro e w5 ⟨bv2, ev2, rfl, hbuf2, her2, hb5⟩
  have HB5 := Lib.hid (HB4.out.trans (hb5.mono HB4.out.size))
  have X5 := Lib.hid (X4.out.below hb5)
  have HX5 := Lib.hid (HX4.out.below hb5)
  have hef2 := Lib.hid (err_form her2)
  have HER2 := Lib.hid her2
  obtain ⟨ba, bc, rfl⟩ : ∃ a c, bv2 = .slice a (encS (withInt t n)).1.length c := by
    rcases hbuf2.shape with ⟨rfl, hn⟩ | ⟨g, c, rfl, _⟩
    · exact ⟨none, 0, by rw [hn]; rfl⟩
    · exact ⟨_, c, rfl⟩
  have HC := Lib.hid (checkR_any _ (withInt t n) _ _ HX5.out (fun q hq => by rcases hq with hq | hq; exact Nat.lt_of_lt_of_le (HS.out q hq) HB5.out.size; rw [hq]; exact Nat.lt_of_lt_of_le HLT4.out hb5.size))
  clear m0 m1 m2 m3 m4 m5 hbuf2 her2 hb5 X4 HX4 HE2
  have m0 := X5.out.cell 0
  have m1 := X5.out.cell 1
  have m2 := X5.out.cell 2
  have m3 := X5.out.cell 3
  have m4 := X5.out.cell 4
  have m5 := X5.out.cell 5
  simp only [List.getElem?_cons_zero, List.getElem?_cons_succ] at m0 m1 m2 m3 m4 m5
  go_wp2_with fail
  refine HC.out.mono ?_
  rintro e w6 ⟨lv, rfl, hlk, hnil, hb6⟩
  have HB6 := Lib.hid (HB5.out.trans (hb6.mono HB5.out.size))
  have HE6 := Lib.hid (ErrIs.below hb6 HER2.out)
  clear m0 m1 m2 m3 m4 m5 X5 HX5 HC hb6
  have hne : ∀ (a : Option Addr) (n c : Nat) (w : World), (binOp .neq 45 (.slice a n c) (.slice none 0 0)).run Tryz.prog w = .ok (.bool (!a.isNone)) w := fun a n c w => run_neq_slice_nil_any (P := Tryz.prog) w 45 112 a n c 0 0 Tryz.underlying45
  have hl4 := HL.out
  generalize hres : encS (withInt t n) = res at *
  obtain ⟨rb, rl⟩ := res
  dsimp only at *
  by_cases hck : checkS (withInt t n) = []
  · obtain rfl := hnil hck
    clear hlk
    by_cases hw : n < -2147483648 ∨ 2147483647 < n
    · obtain ⟨k1, k2⟩ := hl4.2.1 hw
      obtain ⟨q, rfl⟩ : ∃ b, ev2 = .iface 96 (.pointer (some ⟨b, 0, none⟩)) := by
        rcases hef2.out with ⟨e, _⟩ | ⟨_, e⟩
        · exact absurd e k1
        · exact e
      subst k2
      clear hef1 hef2 hl4 HL k1 hck hres
      rcases hw with hw | hw
      · go_wp2
        go_ret
        exact ⟨rfl, HB6.out⟩
      · have hw2 : ¬ n < -2147483648 := by omega
        go_wp2
        go_ret
        exact ⟨rfl, HB6.out⟩
    · have hw1 : ¬ n < -2147483648 := fun h => hw (.inl h)
      have hw2 : ¬ 2147483647 < n := fun h => hw (.inr h)
      rcases hef1.out with ⟨k1, rfl⟩ | ⟨k1, q, rfl⟩
      · rcases hl4.2.2.2 hck hw k1 with k2 | k2
        · obtain rfl : ev2 = .nilIface := by
            rcases hef2.out with ⟨_, e⟩ | ⟨e, _⟩
            · exact e
            · exact absurd k2 e
          clear hef1 hef2 hl4 HL k1 k2 hck hres hw
          go_wp2
          go_ret
          exact ⟨rfl, HB6.out⟩
        · subst k2
          obtain ⟨q, rfl⟩ : ∃ b, ev2 = .iface 96 (.pointer (some ⟨b, 0, none⟩)) := by
            rcases hef2.out with ⟨e, _⟩ | ⟨_, e⟩
            · cases e
            · exact e
          clear hef1 hef2 hl4 HL k1 hck hres hw
          go_wp2_with fail
          refine (one_any _ _ _ _).mono ?_
          rintro e _ ⟨rfl, rfl⟩
          have LK := Lib.hid (LinksIs.lit (base := w6.heap.size) (w := w6) ⟨etfL, 0, 4⟩ (Nat.le_refl _))
          have BA := Lib.hid ((Below.refl w6.heap.size w6).alloc (Nat.le_refl _) (.cells #[.string etfL, .int .i64 0, .int .i64 4] 112 (0, 0)))
          have HB7 := Lib.hid (HB6.out.trans (BA.out.mono HB6.out.size))
          go_wp2_with fail
          refine (refused_links _ [⟨etfL, 0, 4⟩] [⟨etfL, 0, 4⟩] _ _ _ (ErrIs.below BA.out HE6.out) (by decide) (by decide) LK.out (HG.out.below HB7.out).1).mono ?_
          rintro e w8 ⟨rfl, hb8⟩
          rw [decide_eq_true rfl]
          have HB8 := Lib.hid (HB7.out.trans (hb8.mono HB7.out.size))
          clear hb8 LK BA
          go_wp2
          go_ret
          exact ⟨rfl, HB8.out⟩
      · have k2 := hl4.2.2.1 hck hw k1
        obtain ⟨q2, rfl⟩ : ∃ b, ev2 = .iface 96 (.pointer (some ⟨b, 0, none⟩)) := by
          rcases hef2.out with ⟨e, _⟩ | ⟨_, e⟩
          · exact absurd e k2
          · exact e
        clear hef1 hef2 hl4 HL k1 k2 hck hres hw
        go_wp2
        go_ret
        exact ⟨rfl, HB6.out⟩
  · obtain ⟨k1, k2⟩ := hl4.1 hck
    obtain ⟨q, rfl⟩ : ∃ b, ev2 = .iface 96 (.pointer (some ⟨b, 0, none⟩)) := by
      rcases hef2.out with ⟨e, _⟩ | ⟨_, e⟩
      · exact absurd e k1
      · exact e
    subst k2
    obtain ⟨sg, sn, sc, rfl⟩ : ∃ g n c, lv = .slice (some ⟨g, 0, none⟩) n c := by
      cases hcs : checkS (withInt t n) with
      | nil => exact absurd hcs hck
      | cons k r => rw [hcs] at hlk; exact someL hlk
    clear hef1 hef2 hl4 HL k1 hck hres hlk hnil
    go_wp2
    go_ret
    exact ⟨rfl, HB6.out⟩
end Go.Proofs.YtlahagabcnmdiaaGreatDoor
end
