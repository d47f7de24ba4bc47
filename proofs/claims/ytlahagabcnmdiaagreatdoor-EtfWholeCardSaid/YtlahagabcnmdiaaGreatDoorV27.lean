/- Texts laid together: RfH, EdI, EdJ, EdK. -/
import Derived.Test.YtlahagabcnmdiaaGreatDoorV26
import Derived.Test.YtlahagabcnmdiaaGreatDoorV23
import Derived.BigQuiet
import Derived.Recover
import Derived.Defers
section
/- The reference of layer 4: its reader: part. Printed by wip/rfh.py. -/
open Go Go.RowKit
namespace Go.Proofs.YtlahagabcnmdiaaGreatDoor
set_option linter.unusedVariables false
set_option linter.unusedSimpArgs false

theorem termS_zero (l : List UInt8) (st : Rd) : termS l 0 st = if st.part = 4096 then .bad [⟨etfL, st.at_, 5⟩] else .bad [⟨etfL, st.at_, 9⟩] := by rw [termS]
theorem termS_more (l : List UInt8) (f : Nat) (st : Rd) : termS l (f + 1) st = if st.part = 4096 then .bad [⟨etfL, st.at_, 5⟩] else if st.at_ = l.length then .bad [⟨etfL, st.at_, 82⟩] else if tagB (l.getD st.at_ 0) = false then .bad [⟨etfL, st.at_, 83⟩] else bodyN l (termS l f) st.at_ (l.getD st.at_ 0) (st.part + 1) st.atoms := by
  rw [termS]; rfl
theorem tagB_cases {k : UInt8} (h : tagB k = true) : k = 97 ∨ k = 98 ∨ k = 118 ∨ k = 119 ∨ k = 106 ∨ k = 104 ∨ k = 105 ∨ k = 108 ∨ k = 88 ∨ k = 90 := by
  unfold tagB at h
  simp only [Bool.or_eq_true, beq_iff_eq] at h
  rcases h with ((((((((h | h) | h) | h) | h) | h) | h) | h) | h) | h
  all_goals simp [h]
theorem u8_of (k b : UInt8) (h : k ≠ b) : (((k.toNat : Nat) : Int) == (b.toNat : Int)) = false := beq_eq_false_iff_ne.2 fun e => h (UInt8.toNat_inj.1 (by omega))
set_option maxHeartbeats 16000000 in
set_option maxRecDepth 100000 in
theorem rfPart_zero : PartC 0 := by
  intro base g l bv av lv st w h hpt
  rw [show (257 : Int) - ((0 : Nat) : Int) = 257 from rfl]
  have HG := Lib.hid h.cells.lt
  have HV := Lib.hid (fun q (hq : av.ownBlock = some q) => (h.atoms.lt hq).1)
  have HBS := Lib.hid (Nat.le_trans h.hg (Nat.le_of_lt h.cells.lt))
  have HPT := Lib.hid hpt
  have HOK := Lib.hid h.ok
  have HLL := Lib.hid h.buf.len_le
  have BX := Lib.hid ((Below.refl w.heap.size w).alloc (Nat.le_refl _) (.cells #[.int .i64 0, .int .i64 0, .string ⟨#[]⟩, .int .u32 0, .slice none 0 0, .slice none 0 0] 35 (0, 0)))
  have R1 := Lib.hid (show Cells (w.alloc (.cells #[.int .i64 0, .int .i64 0, .string ⟨#[]⟩, .int .u32 0, .slice none 0 0, .slice none 0 0] 35 (0, 0))) w.heap.size 35 termZ from Cells.new w 35 termZ)
  have RA := Lib.hid (RfRes.below h BX.out)
  have HG1 := Lib.hid (Nat.lt_of_lt_of_le HG.out BX.out.size)
  have HV1 := Lib.hid (fun q (hq : av.ownBlock = some q) => Nat.lt_of_lt_of_le (HV.out q hq) BX.out.size)
  have HNR := Lib.hid (show ¬ LsK g av w.heap.size from fun e => by
    rcases e with e | e
    · have := HG.out; omega
    · have := HV.out _ e; omega)
  obtain ⟨tag, part, atoms⟩ := st
  dsimp only at hpt HOK HPT RA
  obtain rfl := h.nil rfl
  obtain ⟨ba, bc, rfl⟩ := h.form
  have htag : tag ≤ 65536 := HOK.out.le
  have hpp : part ≤ 4096 := HPT.out
  have ht0 : (0 : Int) ≤ (tag : Int) := by omega
  have ht1 : (tag : Int) ≤ 65536 := by omega
  have hp0 : (0 : Int) ≤ (part : Int) := by omega
  have hp1 : (part : Int) ≤ 4096 := by omega
  have hll : (l.length : Int) ≤ 9223372036854775807 := HLL.out
  have hok2 : RfOk l ⟨tag, part + 1, atoms⟩ := ⟨HOK.out.le, HOK.out.in_, by show part + 1 ≤ 4097; omega, by have := HOK.out.atoms; show atoms.length ≤ part + 1; dsimp only at this; omega⟩
  have HAT := Lib.hid (show atoms.length + 1 ≤ part + 1 from by have := HOK.out.atoms; dsimp only at this; omega)
  clear h hpt
  go_enter Tryz.func99, Tryz.ntmps99
  go_upto_region 1 with (fail)
  generalize w.alloc (.cells #[.int .i64 0, .int .i64 0, .string ⟨#[]⟩, .int .u32 0, .slice none 0 0, .slice none 0 0] 35 (0, 0)) = w1 at *
  unfold termZ at *
  have c1 := RA.out.is_.cells.cell 1
  have c2 := RA.out.is_.cells.cell 2
  have f2 := RA.out.is_.cells.frozen 2
  simp only [List.getElem?_cons_zero, List.getElem?_cons_succ] at c1 c2
  have R2 := Lib.hid (show RfRes base g l (.slice ba l.length bc) av w1 ⟨tag, part + 1, atoms⟩ av (.slice none 0 0) [] (w1.setCell ⟨g, 2, none⟩ (.int .i64 ((part : Int) + 1))) from RfRes.parted RA.out.is_ (part + 1) hok2)
  go_upto_region 4 with (fail)
  generalize w1.setCell ⟨g, 2, none⟩ (.int .i64 ((part : Int) + 1)) = w2 at *
  clear c1 c2 f2 hok2
  have c0 := R2.out.is_.cells.cell 0
  simp only [List.getElem?_cons_zero, List.getElem?_cons_succ] at c0
  by_cases h4 : part = 4096
  · have h4i : (4096 : Int) ≤ (part : Int) := by omega
    have HT := Lib.hid (show termS l 0 ⟨tag, part, atoms⟩ = .bad [⟨etfL, tag, 5⟩] by rw [termS_zero]; exact if_pos h4)
    clear h4
    have HFA := Lib.hid (show Calls Tryz.prog 125 #[.pointer (some ⟨g, 0, none⟩), .int .i64 tag, .int .i64 5] w2 _ from rfFail_any (tag : Int) 5 R2.out.is_)
    go_wp2_with fail
    refine HFA.out.mono ?_
    rintro e w4 ⟨rfl, lv4, hr⟩
    have R4 := Lib.hid (RfRes.trans HG1.out HV1.out R2.out hr)
    unfold termZ at *
    have RZ := Lib.hid (R1.out.keep R4.out.keep HNR.out)
    clear hr HFA c0
    go_wp2_with (refine wpList_store_blk rfl _ (.tmp 4) (.tmp 27) rfl w.heap.size 0 [.int .i64 0, .int .i64 0, .string ⟨#[]⟩, .int .u32 0, .slice none 0 0, .slice none 0 0] (by rfl) (by rfl) (by kernel_rfl) (by simp [Value.oneCell']) 35 _ RZ.out (by show 0 + 6 ≤ 6; decide) ?_; intro wz hCz hgz; refine stop ?_)
    refine Stopped.of ?_
    have C0 : Cells wz w.heap.size 35 [.int .i64 0, .int .i64 0, .string ⟨#[]⟩, .int .u32 0, .slice none 0 0, .slice none 0 0] := hCz
    have z0 := C0.cell 0
    have z1 := C0.cell 1
    have z2 := C0.cell 2
    have z3 := C0.cell 3
    have z4 := C0.cell 4
    have z5 := C0.cell 5
    simp only [List.getElem?_cons_zero, List.getElem?_cons_succ] at z0 z1 z2 z3 z4 z5
    have KZ := Lib.hid (show Keep (fun q => q = w.heap.size) w4 wz from (Keep.refl _ _).grown hgz (fun k hk _ => by cases hk; rfl))
    clear C0 hCz hgz
    go_wp2
    refine bodyPost_ret (v := .agg #[.int .i64 0, .int .i64 0, .string ⟨#[]⟩, .int .u32 0, .slice none 0 0, .slice none 0 0]) (by simp [results, Tryz.results99, go_sem, z0, z1, z2, z3, z4, z5]) rfl ?_
    rw [HT.out]
    exact ⟨zeroT, _, _, _, _, termZ, rfl, zeroT_at _ _, (RfRes.trans HG.out HV.out RA.out R4.out).res KZ.out HBS.out (Nat.le_refl _) RZ.out, Nat.le_refl _, (fun e => by cases e), rfl, by simp⟩
  · have h4i : ¬ (4096 : Int) ≤ (part : Int) := by omega
    have HT := Lib.hid (show termS l 0 ⟨tag, part, atoms⟩ = .bad [⟨etfL, tag, 9⟩] by rw [termS_zero]; exact if_neg h4)
    clear h4
    have HFA := Lib.hid (show Calls Tryz.prog 125 #[.pointer (some ⟨g, 0, none⟩), .int .i64 tag, .int .i64 9] w2 _ from rfFail_any (tag : Int) 9 R2.out.is_)
    go_wp2_with fail
    refine HFA.out.mono ?_
    rintro e w4 ⟨rfl, lv4, hr⟩
    have R4 := Lib.hid (RfRes.trans HG1.out HV1.out R2.out hr)
    unfold termZ at *
    have RZ := Lib.hid (R1.out.keep R4.out.keep HNR.out)
    clear hr HFA c0
    go_wp2_with (refine wpList_store_blk rfl _ (.tmp 4) (.tmp 33) rfl w.heap.size 0 [.int .i64 0, .int .i64 0, .string ⟨#[]⟩, .int .u32 0, .slice none 0 0, .slice none 0 0] (by rfl) (by rfl) (by kernel_rfl) (by simp [Value.oneCell']) 35 _ RZ.out (by show 0 + 6 ≤ 6; decide) ?_; intro wz hCz hgz; refine stop ?_)
    refine Stopped.of ?_
    have C0 : Cells wz w.heap.size 35 [.int .i64 0, .int .i64 0, .string ⟨#[]⟩, .int .u32 0, .slice none 0 0, .slice none 0 0] := hCz
    have z0 := C0.cell 0
    have z1 := C0.cell 1
    have z2 := C0.cell 2
    have z3 := C0.cell 3
    have z4 := C0.cell 4
    have z5 := C0.cell 5
    simp only [List.getElem?_cons_zero, List.getElem?_cons_succ] at z0 z1 z2 z3 z4 z5
    have KZ := Lib.hid (show Keep (fun q => q = w.heap.size) w4 wz from (Keep.refl _ _).grown hgz (fun k hk _ => by cases hk; rfl))
    clear C0 hCz hgz
    go_wp2
    refine bodyPost_ret (v := .agg #[.int .i64 0, .int .i64 0, .string ⟨#[]⟩, .int .u32 0, .slice none 0 0, .slice none 0 0]) (by simp [results, Tryz.results99, go_sem, z0, z1, z2, z3, z4, z5]) rfl ?_
    rw [HT.out]
    exact ⟨zeroT, _, _, _, _, termZ, rfl, zeroT_at _ _, (RfRes.trans HG.out HV.out RA.out R4.out).res KZ.out HBS.out (Nat.le_refl _) RZ.out, Nat.le_refl _, (fun e => by cases e), rfl, by simp⟩
set_option maxHeartbeats 64000000 in
set_option maxRecDepth 100000 in
theorem rfPart_more (f : Nat) (hf : f + 1 ≤ 256) (ih : PartC f) : PartC (f + 1) := by
  intro base g l bv av lv st w h hpt
  rw [show (257 : Int) - ((f + 1 : Nat) : Int) = 256 - (f : Int) by omega]
  have HG := Lib.hid h.cells.lt
  have HV := Lib.hid (fun q (hq : av.ownBlock = some q) => (h.atoms.lt hq).1)
  have HBS := Lib.hid (Nat.le_trans h.hg (Nat.le_of_lt h.cells.lt))
  have HPT := Lib.hid hpt
  have HOK := Lib.hid h.ok
  have HLL := Lib.hid h.buf.len_le
  have BX := Lib.hid ((Below.refl w.heap.size w).alloc (Nat.le_refl _) (.cells #[.int .i64 0, .int .i64 0, .string ⟨#[]⟩, .int .u32 0, .slice none 0 0, .slice none 0 0] 35 (0, 0)))
  have R1 := Lib.hid (show Cells (w.alloc (.cells #[.int .i64 0, .int .i64 0, .string ⟨#[]⟩, .int .u32 0, .slice none 0 0, .slice none 0 0] 35 (0, 0))) w.heap.size 35 termZ from Cells.new w 35 termZ)
  have RA := Lib.hid (RfRes.below h BX.out)
  have HG1 := Lib.hid (Nat.lt_of_lt_of_le HG.out BX.out.size)
  have HV1 := Lib.hid (fun q (hq : av.ownBlock = some q) => Nat.lt_of_lt_of_le (HV.out q hq) BX.out.size)
  have HNR := Lib.hid (show ¬ LsK g av w.heap.size from fun e => by
    rcases e with e | e
    · have := HG.out; omega
    · have := HV.out _ e; omega)
  obtain ⟨tag, part, atoms⟩ := st
  dsimp only at hpt HOK HPT RA
  obtain rfl := h.nil rfl
  obtain ⟨ba, bc, rfl⟩ := h.form
  have htag : tag ≤ 65536 := HOK.out.le
  have hpp : part ≤ 4096 := HPT.out
  have ht0 : (0 : Int) ≤ (tag : Int) := by omega
  have ht1 : (tag : Int) ≤ 65536 := by omega
  have hp0 : (0 : Int) ≤ (part : Int) := by omega
  have hp1 : (part : Int) ≤ 4096 := by omega
  have hll : (l.length : Int) ≤ 9223372036854775807 := HLL.out
  have hok2 : RfOk l ⟨tag, part + 1, atoms⟩ := ⟨HOK.out.le, HOK.out.in_, by show part + 1 ≤ 4097; omega, by have := HOK.out.atoms; show atoms.length ≤ part + 1; dsimp only at this; omega⟩
  have HAT := Lib.hid (show atoms.length + 1 ≤ part + 1 from by have := HOK.out.atoms; dsimp only at this; omega)
  clear h hpt
  have hd0 : (0 : Int) ≤ 256 - (f : Int) := by omega
  have hd1 : 256 - (f : Int) ≤ 256 := by omega
  have hd3 : ¬ 256 < 256 - (f : Int) := by omega
  go_enter Tryz.func99, Tryz.ntmps99
  go_upto_region 1 with (fail)
  generalize w.alloc (.cells #[.int .i64 0, .int .i64 0, .string ⟨#[]⟩, .int .u32 0, .slice none 0 0, .slice none 0 0] 35 (0, 0)) = w1 at *
  unfold termZ at *
  have c1 := RA.out.is_.cells.cell 1
  have c2 := RA.out.is_.cells.cell 2
  have f2 := RA.out.is_.cells.frozen 2
  simp only [List.getElem?_cons_zero, List.getElem?_cons_succ] at c1 c2
  have R2 := Lib.hid (show RfRes base g l (.slice ba l.length bc) av w1 ⟨tag, part + 1, atoms⟩ av (.slice none 0 0) [] (w1.setCell ⟨g, 2, none⟩ (.int .i64 ((part : Int) + 1))) from RfRes.parted RA.out.is_ (part + 1) hok2)
  go_upto_region 4 with (fail)
  generalize w1.setCell ⟨g, 2, none⟩ (.int .i64 ((part : Int) + 1)) = w2 at *
  clear c1 c2 f2 hok2
  have c0 := R2.out.is_.cells.cell 0
  simp only [List.getElem?_cons_zero, List.getElem?_cons_succ] at c0
  by_cases h4 : part = 4096
  · have h4i : (4096 : Int) ≤ (part : Int) := by omega
    have HT := Lib.hid (show termS l (f + 1) ⟨tag, part, atoms⟩ = .bad [⟨etfL, tag, 5⟩] by rw [termS_more]; exact if_pos h4)
    clear h4
    have HFA := Lib.hid (show Calls Tryz.prog 125 #[.pointer (some ⟨g, 0, none⟩), .int .i64 tag, .int .i64 5] w2 _ from rfFail_any (tag : Int) 5 R2.out.is_)
    go_wp2_with fail
    refine HFA.out.mono ?_
    rintro e w4 ⟨rfl, lv4, hr⟩
    have R4 := Lib.hid (RfRes.trans HG1.out HV1.out R2.out hr)
    unfold termZ at *
    have RZ := Lib.hid (R1.out.keep R4.out.keep HNR.out)
    clear hr HFA c0
    go_wp2_with (refine wpList_store_blk rfl _ (.tmp 4) (.tmp 27) rfl w.heap.size 0 [.int .i64 0, .int .i64 0, .string ⟨#[]⟩, .int .u32 0, .slice none 0 0, .slice none 0 0] (by rfl) (by rfl) (by kernel_rfl) (by simp [Value.oneCell']) 35 _ RZ.out (by show 0 + 6 ≤ 6; decide) ?_; intro wz hCz hgz; refine stop ?_)
    refine Stopped.of ?_
    have C0 : Cells wz w.heap.size 35 [.int .i64 0, .int .i64 0, .string ⟨#[]⟩, .int .u32 0, .slice none 0 0, .slice none 0 0] := hCz
    have z0 := C0.cell 0
    have z1 := C0.cell 1
    have z2 := C0.cell 2
    have z3 := C0.cell 3
    have z4 := C0.cell 4
    have z5 := C0.cell 5
    simp only [List.getElem?_cons_zero, List.getElem?_cons_succ] at z0 z1 z2 z3 z4 z5
    have KZ := Lib.hid (show Keep (fun q => q = w.heap.size) w4 wz from (Keep.refl _ _).grown hgz (fun k hk _ => by cases hk; rfl))
    clear C0 hCz hgz
    go_wp2
    refine bodyPost_ret (v := .agg #[.int .i64 0, .int .i64 0, .string ⟨#[]⟩, .int .u32 0, .slice none 0 0, .slice none 0 0]) (by simp [results, Tryz.results99, go_sem, z0, z1, z2, z3, z4, z5]) rfl ?_
    rw [HT.out]
    exact ⟨zeroT, _, _, _, _, termZ, rfl, zeroT_at _ _, (RfRes.trans HG.out HV.out RA.out R4.out).res KZ.out HBS.out (Nat.le_refl _) RZ.out, Nat.le_refl _, (fun e => by cases e), rfl, by simp⟩
  have h4i : ¬ (4096 : Int) ≤ (part : Int) := by omega
  have HP95 := Lib.hid (show part + 1 ≤ 4096 by omega)
  by_cases hin : tag < l.length
  · have hti : ¬ (l.length : Int) ≤ (tag : Int) := by omega
    have hti2 : (tag : Int) < (l.length : Int) := by omega
    obtain ⟨q, o, rfl, hx⟩ := R2.out.is_.buf.get tag hin
    cases htb : tagB (l.getD tag 0) with
    | true =>
      have HT := Lib.hid (show termS l (f + 1) ⟨tag, part, atoms⟩ = bodyN l (termS l f) tag (l.getD tag 0) (part + 1) atoms by
        rw [termS_more]
        dsimp only
        rw [if_neg h4, if_neg (by omega), htb, if_neg (by decide)])
      clear h4
      rcases tagB_cases htb with hK | hK | hK | hK | hK | hK | hK | hK | hK | hK
      · have HC := Lib.hid (show Calls Tryz.prog 126 #[.pointer (some ⟨g, 0, none⟩), .int .i64 tag] w2 _ from rfPlain_97 (st := ⟨tag, part + 1, atoms⟩) (termS l f) R2.out.is_ hin hK HAT.out HP95.out)
        rw [hK] at hx HT
        replace hx : w2.cell? ⟨q, o + tag, none⟩ = some (.int .u8 97) := hx
        clear htb hin hK
        generalize 256 - (f : Int) = dv at *
        go_wp2_with fail
        refine HC.out.mono ?_
        rintro e w3 ⟨t, st3, av3, lv3, k3, vs, rfl, ht, hr3, hp3, hk7, hm⟩
        have HK7 := Lib.hid hk7
        have HM := Lib.hid hm
        have HT0 := Lib.hid ht
        have HP3 := Lib.hid hp3
        obtain ⟨_, nv5, a5, cap5, rfl, hnn5, -⟩ := ht.parts
        obtain ⟨na5, nc5, rfl, -, -⟩ := hnn5.slice
        have R3 := Lib.hid (RfRes.trans HG1.out HV1.out R2.out hr3)
        have RZ := Lib.hid (R1.out.keep R3.out.keep HNR.out)
        have HSZ := Lib.hid (show w.heap.size < w2.heap.size from Nat.lt_of_lt_of_le R1.out.lt R2.out.keep.size)
        clear ht hnn5 hr3 hp3 hk7 hm c0
        go_wp2_with (refine wpList_store_blk rfl _ (.tmp 4) (.tmp 60) rfl w.heap.size 0 [.int .i64 t.kind, .int .i64 t.int, .string t.text, .int .u32 t.cr, .slice na5 t.nums.length nc5, .slice a5 t.args.length cap5] (by rfl) (by rfl) (by kernel_rfl) (by simp [Value.oneCell']) 35 _ RZ.out (by show 0 + 6 ≤ 6; decide) ?_; intro wz hCz hgz; refine stop ?_)
        refine Stopped.of ?_
        have C0 : Cells wz w.heap.size 35 [.int .i64 t.kind, .int .i64 t.int, .string t.text, .int .u32 t.cr, .slice na5 t.nums.length nc5, .slice a5 t.args.length cap5] := hCz
        have z0 := C0.cell 0
        have z1 := C0.cell 1
        have z2 := C0.cell 2
        have z3 := C0.cell 3
        have z4 := C0.cell 4
        have z5 := C0.cell 5
        simp only [List.getElem?_cons_zero, List.getElem?_cons_succ] at z0 z1 z2 z3 z4 z5
        have KZ := Lib.hid (show Keep (fun q => q = w.heap.size) w3 wz from (Keep.refl _ _).grown hgz (fun k hk _ => by cases hk; rfl))
        clear C0 hCz hgz
        go_wp2
        refine bodyPost_ret (v := .agg #[.int .i64 t.kind, .int .i64 t.int, .string t.text, .int .u32 t.cr, .slice na5 t.nums.length nc5, .slice a5 t.args.length cap5]) (by simp [results, Tryz.results99, go_sem, z0, z1, z2, z3, z4, z5]) rfl ?_
        rw [HT.out]
        exact ⟨t, st3, av3, lv3, k3, [.int .i64 t.kind, .int .i64 t.int, .string t.text, .int .u32 t.cr, .slice na5 t.nums.length nc5, .slice a5 t.args.length cap5], rfl, (HT0.out.keep KZ.out (fun q _ hq (e : q = w.heap.size) => by have := hq.1; have := HSZ.out; omega)).mono (fun q _ hq => ⟨by have := hq.1; have := HSZ.out; omega, hq.2⟩), (RfRes.trans HG.out HV.out RA.out R3.out).res KZ.out HBS.out (Nat.le_refl _) RZ.out, HP3.out, HK7.out, HM.out⟩
      · have HC := Lib.hid (show Calls Tryz.prog 126 #[.pointer (some ⟨g, 0, none⟩), .int .i64 tag] w2 _ from rfPlain_98 (st := ⟨tag, part + 1, atoms⟩) (termS l f) R2.out.is_ hin hK HAT.out HP95.out)
        rw [hK] at hx HT
        replace hx : w2.cell? ⟨q, o + tag, none⟩ = some (.int .u8 98) := hx
        clear htb hin hK
        generalize 256 - (f : Int) = dv at *
        go_wp2_with fail
        refine HC.out.mono ?_
        rintro e w3 ⟨t, st3, av3, lv3, k3, vs, rfl, ht, hr3, hp3, hk7, hm⟩
        have HK7 := Lib.hid hk7
        have HM := Lib.hid hm
        have HT0 := Lib.hid ht
        have HP3 := Lib.hid hp3
        obtain ⟨_, nv5, a5, cap5, rfl, hnn5, -⟩ := ht.parts
        obtain ⟨na5, nc5, rfl, -, -⟩ := hnn5.slice
        have R3 := Lib.hid (RfRes.trans HG1.out HV1.out R2.out hr3)
        have RZ := Lib.hid (R1.out.keep R3.out.keep HNR.out)
        have HSZ := Lib.hid (show w.heap.size < w2.heap.size from Nat.lt_of_lt_of_le R1.out.lt R2.out.keep.size)
        clear ht hnn5 hr3 hp3 hk7 hm c0
        go_wp2_with (refine wpList_store_blk rfl _ (.tmp 4) (.tmp 60) rfl w.heap.size 0 [.int .i64 t.kind, .int .i64 t.int, .string t.text, .int .u32 t.cr, .slice na5 t.nums.length nc5, .slice a5 t.args.length cap5] (by rfl) (by rfl) (by kernel_rfl) (by simp [Value.oneCell']) 35 _ RZ.out (by show 0 + 6 ≤ 6; decide) ?_; intro wz hCz hgz; refine stop ?_)
        refine Stopped.of ?_
        have C0 : Cells wz w.heap.size 35 [.int .i64 t.kind, .int .i64 t.int, .string t.text, .int .u32 t.cr, .slice na5 t.nums.length nc5, .slice a5 t.args.length cap5] := hCz
        have z0 := C0.cell 0
        have z1 := C0.cell 1
        have z2 := C0.cell 2
        have z3 := C0.cell 3
        have z4 := C0.cell 4
        have z5 := C0.cell 5
        simp only [List.getElem?_cons_zero, List.getElem?_cons_succ] at z0 z1 z2 z3 z4 z5
        have KZ := Lib.hid (show Keep (fun q => q = w.heap.size) w3 wz from (Keep.refl _ _).grown hgz (fun k hk _ => by cases hk; rfl))
        clear C0 hCz hgz
        go_wp2
        refine bodyPost_ret (v := .agg #[.int .i64 t.kind, .int .i64 t.int, .string t.text, .int .u32 t.cr, .slice na5 t.nums.length nc5, .slice a5 t.args.length cap5]) (by simp [results, Tryz.results99, go_sem, z0, z1, z2, z3, z4, z5]) rfl ?_
        rw [HT.out]
        exact ⟨t, st3, av3, lv3, k3, [.int .i64 t.kind, .int .i64 t.int, .string t.text, .int .u32 t.cr, .slice na5 t.nums.length nc5, .slice a5 t.args.length cap5], rfl, (HT0.out.keep KZ.out (fun q _ hq (e : q = w.heap.size) => by have := hq.1; have := HSZ.out; omega)).mono (fun q _ hq => ⟨by have := hq.1; have := HSZ.out; omega, hq.2⟩), (RfRes.trans HG.out HV.out RA.out R3.out).res KZ.out HBS.out (Nat.le_refl _) RZ.out, HP3.out, HK7.out, HM.out⟩
      · have HC := Lib.hid (show Calls Tryz.prog 126 #[.pointer (some ⟨g, 0, none⟩), .int .i64 tag] w2 _ from rfPlain_118 (st := ⟨tag, part + 1, atoms⟩) (termS l f) R2.out.is_ hin hK HAT.out HP95.out)
        rw [hK] at hx HT
        replace hx : w2.cell? ⟨q, o + tag, none⟩ = some (.int .u8 118) := hx
        clear htb hin hK
        generalize 256 - (f : Int) = dv at *
        go_wp2_with fail
        refine HC.out.mono ?_
        rintro e w3 ⟨t, st3, av3, lv3, k3, vs, rfl, ht, hr3, hp3, hk7, hm⟩
        have HK7 := Lib.hid hk7
        have HM := Lib.hid hm
        have HT0 := Lib.hid ht
        have HP3 := Lib.hid hp3
        obtain ⟨_, nv5, a5, cap5, rfl, hnn5, -⟩ := ht.parts
        obtain ⟨na5, nc5, rfl, -, -⟩ := hnn5.slice
        have R3 := Lib.hid (RfRes.trans HG1.out HV1.out R2.out hr3)
        have RZ := Lib.hid (R1.out.keep R3.out.keep HNR.out)
        have HSZ := Lib.hid (show w.heap.size < w2.heap.size from Nat.lt_of_lt_of_le R1.out.lt R2.out.keep.size)
        clear ht hnn5 hr3 hp3 hk7 hm c0
        go_wp2_with (refine wpList_store_blk rfl _ (.tmp 4) (.tmp 60) rfl w.heap.size 0 [.int .i64 t.kind, .int .i64 t.int, .string t.text, .int .u32 t.cr, .slice na5 t.nums.length nc5, .slice a5 t.args.length cap5] (by rfl) (by rfl) (by kernel_rfl) (by simp [Value.oneCell']) 35 _ RZ.out (by show 0 + 6 ≤ 6; decide) ?_; intro wz hCz hgz; refine stop ?_)
        refine Stopped.of ?_
        have C0 : Cells wz w.heap.size 35 [.int .i64 t.kind, .int .i64 t.int, .string t.text, .int .u32 t.cr, .slice na5 t.nums.length nc5, .slice a5 t.args.length cap5] := hCz
        have z0 := C0.cell 0
        have z1 := C0.cell 1
        have z2 := C0.cell 2
        have z3 := C0.cell 3
        have z4 := C0.cell 4
        have z5 := C0.cell 5
        simp only [List.getElem?_cons_zero, List.getElem?_cons_succ] at z0 z1 z2 z3 z4 z5
        have KZ := Lib.hid (show Keep (fun q => q = w.heap.size) w3 wz from (Keep.refl _ _).grown hgz (fun k hk _ => by cases hk; rfl))
        clear C0 hCz hgz
        go_wp2
        refine bodyPost_ret (v := .agg #[.int .i64 t.kind, .int .i64 t.int, .string t.text, .int .u32 t.cr, .slice na5 t.nums.length nc5, .slice a5 t.args.length cap5]) (by simp [results, Tryz.results99, go_sem, z0, z1, z2, z3, z4, z5]) rfl ?_
        rw [HT.out]
        exact ⟨t, st3, av3, lv3, k3, [.int .i64 t.kind, .int .i64 t.int, .string t.text, .int .u32 t.cr, .slice na5 t.nums.length nc5, .slice a5 t.args.length cap5], rfl, (HT0.out.keep KZ.out (fun q _ hq (e : q = w.heap.size) => by have := hq.1; have := HSZ.out; omega)).mono (fun q _ hq => ⟨by have := hq.1; have := HSZ.out; omega, hq.2⟩), (RfRes.trans HG.out HV.out RA.out R3.out).res KZ.out HBS.out (Nat.le_refl _) RZ.out, HP3.out, HK7.out, HM.out⟩
      · have HC := Lib.hid (show Calls Tryz.prog 126 #[.pointer (some ⟨g, 0, none⟩), .int .i64 tag] w2 _ from rfPlain_119 (st := ⟨tag, part + 1, atoms⟩) (termS l f) R2.out.is_ hin hK HAT.out HP95.out)
        rw [hK] at hx HT
        replace hx : w2.cell? ⟨q, o + tag, none⟩ = some (.int .u8 119) := hx
        clear htb hin hK
        generalize 256 - (f : Int) = dv at *
        go_wp2_with fail
        refine HC.out.mono ?_
        rintro e w3 ⟨t, st3, av3, lv3, k3, vs, rfl, ht, hr3, hp3, hk7, hm⟩
        have HK7 := Lib.hid hk7
        have HM := Lib.hid hm
        have HT0 := Lib.hid ht
        have HP3 := Lib.hid hp3
        obtain ⟨_, nv5, a5, cap5, rfl, hnn5, -⟩ := ht.parts
        obtain ⟨na5, nc5, rfl, -, -⟩ := hnn5.slice
        have R3 := Lib.hid (RfRes.trans HG1.out HV1.out R2.out hr3)
        have RZ := Lib.hid (R1.out.keep R3.out.keep HNR.out)
        have HSZ := Lib.hid (show w.heap.size < w2.heap.size from Nat.lt_of_lt_of_le R1.out.lt R2.out.keep.size)
        clear ht hnn5 hr3 hp3 hk7 hm c0
        go_wp2_with (refine wpList_store_blk rfl _ (.tmp 4) (.tmp 60) rfl w.heap.size 0 [.int .i64 t.kind, .int .i64 t.int, .string t.text, .int .u32 t.cr, .slice na5 t.nums.length nc5, .slice a5 t.args.length cap5] (by rfl) (by rfl) (by kernel_rfl) (by simp [Value.oneCell']) 35 _ RZ.out (by show 0 + 6 ≤ 6; decide) ?_; intro wz hCz hgz; refine stop ?_)
        refine Stopped.of ?_
        have C0 : Cells wz w.heap.size 35 [.int .i64 t.kind, .int .i64 t.int, .string t.text, .int .u32 t.cr, .slice na5 t.nums.length nc5, .slice a5 t.args.length cap5] := hCz
        have z0 := C0.cell 0
        have z1 := C0.cell 1
        have z2 := C0.cell 2
        have z3 := C0.cell 3
        have z4 := C0.cell 4
        have z5 := C0.cell 5
        simp only [List.getElem?_cons_zero, List.getElem?_cons_succ] at z0 z1 z2 z3 z4 z5
        have KZ := Lib.hid (show Keep (fun q => q = w.heap.size) w3 wz from (Keep.refl _ _).grown hgz (fun k hk _ => by cases hk; rfl))
        clear C0 hCz hgz
        go_wp2
        refine bodyPost_ret (v := .agg #[.int .i64 t.kind, .int .i64 t.int, .string t.text, .int .u32 t.cr, .slice na5 t.nums.length nc5, .slice a5 t.args.length cap5]) (by simp [results, Tryz.results99, go_sem, z0, z1, z2, z3, z4, z5]) rfl ?_
        rw [HT.out]
        exact ⟨t, st3, av3, lv3, k3, [.int .i64 t.kind, .int .i64 t.int, .string t.text, .int .u32 t.cr, .slice na5 t.nums.length nc5, .slice a5 t.args.length cap5], rfl, (HT0.out.keep KZ.out (fun q _ hq (e : q = w.heap.size) => by have := hq.1; have := HSZ.out; omega)).mono (fun q _ hq => ⟨by have := hq.1; have := HSZ.out; omega, hq.2⟩), (RfRes.trans HG.out HV.out RA.out R3.out).res KZ.out HBS.out (Nat.le_refl _) RZ.out, HP3.out, HK7.out, HM.out⟩
      · have HC := Lib.hid (show Calls Tryz.prog 126 #[.pointer (some ⟨g, 0, none⟩), .int .i64 tag] w2 _ from rfPlain_106 (st := ⟨tag, part + 1, atoms⟩) (termS l f) R2.out.is_ hin hK HAT.out HP95.out)
        rw [hK] at hx HT
        replace hx : w2.cell? ⟨q, o + tag, none⟩ = some (.int .u8 106) := hx
        clear htb hin hK
        generalize 256 - (f : Int) = dv at *
        go_wp2_with fail
        refine HC.out.mono ?_
        rintro e w3 ⟨t, st3, av3, lv3, k3, vs, rfl, ht, hr3, hp3, hk7, hm⟩
        have HK7 := Lib.hid hk7
        have HM := Lib.hid hm
        have HT0 := Lib.hid ht
        have HP3 := Lib.hid hp3
        obtain ⟨_, nv5, a5, cap5, rfl, hnn5, -⟩ := ht.parts
        obtain ⟨na5, nc5, rfl, -, -⟩ := hnn5.slice
        have R3 := Lib.hid (RfRes.trans HG1.out HV1.out R2.out hr3)
        have RZ := Lib.hid (R1.out.keep R3.out.keep HNR.out)
        have HSZ := Lib.hid (show w.heap.size < w2.heap.size from Nat.lt_of_lt_of_le R1.out.lt R2.out.keep.size)
        clear ht hnn5 hr3 hp3 hk7 hm c0
        go_wp2_with (refine wpList_store_blk rfl _ (.tmp 4) (.tmp 60) rfl w.heap.size 0 [.int .i64 t.kind, .int .i64 t.int, .string t.text, .int .u32 t.cr, .slice na5 t.nums.length nc5, .slice a5 t.args.length cap5] (by rfl) (by rfl) (by kernel_rfl) (by simp [Value.oneCell']) 35 _ RZ.out (by show 0 + 6 ≤ 6; decide) ?_; intro wz hCz hgz; refine stop ?_)
        refine Stopped.of ?_
        have C0 : Cells wz w.heap.size 35 [.int .i64 t.kind, .int .i64 t.int, .string t.text, .int .u32 t.cr, .slice na5 t.nums.length nc5, .slice a5 t.args.length cap5] := hCz
        have z0 := C0.cell 0
        have z1 := C0.cell 1
        have z2 := C0.cell 2
        have z3 := C0.cell 3
        have z4 := C0.cell 4
        have z5 := C0.cell 5
        simp only [List.getElem?_cons_zero, List.getElem?_cons_succ] at z0 z1 z2 z3 z4 z5
        have KZ := Lib.hid (show Keep (fun q => q = w.heap.size) w3 wz from (Keep.refl _ _).grown hgz (fun k hk _ => by cases hk; rfl))
        clear C0 hCz hgz
        go_wp2
        refine bodyPost_ret (v := .agg #[.int .i64 t.kind, .int .i64 t.int, .string t.text, .int .u32 t.cr, .slice na5 t.nums.length nc5, .slice a5 t.args.length cap5]) (by simp [results, Tryz.results99, go_sem, z0, z1, z2, z3, z4, z5]) rfl ?_
        rw [HT.out]
        exact ⟨t, st3, av3, lv3, k3, [.int .i64 t.kind, .int .i64 t.int, .string t.text, .int .u32 t.cr, .slice na5 t.nums.length nc5, .slice a5 t.args.length cap5], rfl, (HT0.out.keep KZ.out (fun q _ hq (e : q = w.heap.size) => by have := hq.1; have := HSZ.out; omega)).mono (fun q _ hq => ⟨by have := hq.1; have := HSZ.out; omega, hq.2⟩), (RfRes.trans HG.out HV.out RA.out R3.out).res KZ.out HBS.out (Nat.le_refl _) RZ.out, HP3.out, HK7.out, HM.out⟩
      · have HC := Lib.hid (show Calls Tryz.prog 127 #[.pointer (some ⟨g, 0, none⟩), .int .i64 tag, .int .i64 (256 - (f : Int))] w2 _ from rfRow_tup f (by omega) ih (st := ⟨tag, part + 1, atoms⟩) R2.out.is_ hin hK HP95.out)
        rw [hK] at hx HT
        replace hx : w2.cell? ⟨q, o + tag, none⟩ = some (.int .u8 104) := hx
        clear htb hin hK
        generalize 256 - (f : Int) = dv at *
        go_wp2_with fail
        refine HC.out.mono ?_
        rintro e w3 ⟨t, st3, av3, lv3, k3, vs, rfl, ht, hr3, hp3, hk7, hm⟩
        have HK7 := Lib.hid hk7
        have HM := Lib.hid hm
        have HT0 := Lib.hid ht
        have HP3 := Lib.hid hp3
        obtain ⟨_, nv5, a5, cap5, rfl, hnn5, -⟩ := ht.parts
        obtain ⟨na5, nc5, rfl, -, -⟩ := hnn5.slice
        have R3 := Lib.hid (RfRes.trans HG1.out HV1.out R2.out hr3)
        have RZ := Lib.hid (R1.out.keep R3.out.keep HNR.out)
        have HSZ := Lib.hid (show w.heap.size < w2.heap.size from Nat.lt_of_lt_of_le R1.out.lt R2.out.keep.size)
        clear ht hnn5 hr3 hp3 hk7 hm c0
        go_wp2_with (refine wpList_store_blk rfl _ (.tmp 4) (.tmp 68) rfl w.heap.size 0 [.int .i64 t.kind, .int .i64 t.int, .string t.text, .int .u32 t.cr, .slice na5 t.nums.length nc5, .slice a5 t.args.length cap5] (by rfl) (by rfl) (by kernel_rfl) (by simp [Value.oneCell']) 35 _ RZ.out (by show 0 + 6 ≤ 6; decide) ?_; intro wz hCz hgz; refine stop ?_)
        refine Stopped.of ?_
        have C0 : Cells wz w.heap.size 35 [.int .i64 t.kind, .int .i64 t.int, .string t.text, .int .u32 t.cr, .slice na5 t.nums.length nc5, .slice a5 t.args.length cap5] := hCz
        have z0 := C0.cell 0
        have z1 := C0.cell 1
        have z2 := C0.cell 2
        have z3 := C0.cell 3
        have z4 := C0.cell 4
        have z5 := C0.cell 5
        simp only [List.getElem?_cons_zero, List.getElem?_cons_succ] at z0 z1 z2 z3 z4 z5
        have KZ := Lib.hid (show Keep (fun q => q = w.heap.size) w3 wz from (Keep.refl _ _).grown hgz (fun k hk _ => by cases hk; rfl))
        clear C0 hCz hgz
        go_wp2
        refine bodyPost_ret (v := .agg #[.int .i64 t.kind, .int .i64 t.int, .string t.text, .int .u32 t.cr, .slice na5 t.nums.length nc5, .slice a5 t.args.length cap5]) (by simp [results, Tryz.results99, go_sem, z0, z1, z2, z3, z4, z5]) rfl ?_
        rw [HT.out]
        exact ⟨t, st3, av3, lv3, k3, [.int .i64 t.kind, .int .i64 t.int, .string t.text, .int .u32 t.cr, .slice na5 t.nums.length nc5, .slice a5 t.args.length cap5], rfl, (HT0.out.keep KZ.out (fun q _ hq (e : q = w.heap.size) => by have := hq.1; have := HSZ.out; omega)).mono (fun q _ hq => ⟨by have := hq.1; have := HSZ.out; omega, hq.2⟩), (RfRes.trans HG.out HV.out RA.out R3.out).res KZ.out HBS.out (Nat.le_refl _) RZ.out, HP3.out, HK7.out, HM.out⟩
      · have HC := Lib.hid (show Calls Tryz.prog 127 #[.pointer (some ⟨g, 0, none⟩), .int .i64 tag, .int .i64 (256 - (f : Int))] w2 _ from rfRow_big f (by omega) ih (st := ⟨tag, part + 1, atoms⟩) R2.out.is_ hin hK HP95.out)
        rw [hK] at hx HT
        replace hx : w2.cell? ⟨q, o + tag, none⟩ = some (.int .u8 105) := hx
        clear htb hin hK
        generalize 256 - (f : Int) = dv at *
        go_wp2_with fail
        refine HC.out.mono ?_
        rintro e w3 ⟨t, st3, av3, lv3, k3, vs, rfl, ht, hr3, hp3, hk7, hm⟩
        have HK7 := Lib.hid hk7
        have HM := Lib.hid hm
        have HT0 := Lib.hid ht
        have HP3 := Lib.hid hp3
        obtain ⟨_, nv5, a5, cap5, rfl, hnn5, -⟩ := ht.parts
        obtain ⟨na5, nc5, rfl, -, -⟩ := hnn5.slice
        have R3 := Lib.hid (RfRes.trans HG1.out HV1.out R2.out hr3)
        have RZ := Lib.hid (R1.out.keep R3.out.keep HNR.out)
        have HSZ := Lib.hid (show w.heap.size < w2.heap.size from Nat.lt_of_lt_of_le R1.out.lt R2.out.keep.size)
        clear ht hnn5 hr3 hp3 hk7 hm c0
        go_wp2_with (refine wpList_store_blk rfl _ (.tmp 4) (.tmp 68) rfl w.heap.size 0 [.int .i64 t.kind, .int .i64 t.int, .string t.text, .int .u32 t.cr, .slice na5 t.nums.length nc5, .slice a5 t.args.length cap5] (by rfl) (by rfl) (by kernel_rfl) (by simp [Value.oneCell']) 35 _ RZ.out (by show 0 + 6 ≤ 6; decide) ?_; intro wz hCz hgz; refine stop ?_)
        refine Stopped.of ?_
        have C0 : Cells wz w.heap.size 35 [.int .i64 t.kind, .int .i64 t.int, .string t.text, .int .u32 t.cr, .slice na5 t.nums.length nc5, .slice a5 t.args.length cap5] := hCz
        have z0 := C0.cell 0
        have z1 := C0.cell 1
        have z2 := C0.cell 2
        have z3 := C0.cell 3
        have z4 := C0.cell 4
        have z5 := C0.cell 5
        simp only [List.getElem?_cons_zero, List.getElem?_cons_succ] at z0 z1 z2 z3 z4 z5
        have KZ := Lib.hid (show Keep (fun q => q = w.heap.size) w3 wz from (Keep.refl _ _).grown hgz (fun k hk _ => by cases hk; rfl))
        clear C0 hCz hgz
        go_wp2
        refine bodyPost_ret (v := .agg #[.int .i64 t.kind, .int .i64 t.int, .string t.text, .int .u32 t.cr, .slice na5 t.nums.length nc5, .slice a5 t.args.length cap5]) (by simp [results, Tryz.results99, go_sem, z0, z1, z2, z3, z4, z5]) rfl ?_
        rw [HT.out]
        exact ⟨t, st3, av3, lv3, k3, [.int .i64 t.kind, .int .i64 t.int, .string t.text, .int .u32 t.cr, .slice na5 t.nums.length nc5, .slice a5 t.args.length cap5], rfl, (HT0.out.keep KZ.out (fun q _ hq (e : q = w.heap.size) => by have := hq.1; have := HSZ.out; omega)).mono (fun q _ hq => ⟨by have := hq.1; have := HSZ.out; omega, hq.2⟩), (RfRes.trans HG.out HV.out RA.out R3.out).res KZ.out HBS.out (Nat.le_refl _) RZ.out, HP3.out, HK7.out, HM.out⟩
      · have HC := Lib.hid (show Calls Tryz.prog 127 #[.pointer (some ⟨g, 0, none⟩), .int .i64 tag, .int .i64 (256 - (f : Int))] w2 _ from rfRow_lst f (by omega) ih (st := ⟨tag, part + 1, atoms⟩) R2.out.is_ hin hK HP95.out)
        rw [hK] at hx HT
        replace hx : w2.cell? ⟨q, o + tag, none⟩ = some (.int .u8 108) := hx
        clear htb hin hK
        generalize 256 - (f : Int) = dv at *
        go_wp2_with fail
        refine HC.out.mono ?_
        rintro e w3 ⟨t, st3, av3, lv3, k3, vs, rfl, ht, hr3, hp3, hk7, hm⟩
        have HK7 := Lib.hid hk7
        have HM := Lib.hid hm
        have HT0 := Lib.hid ht
        have HP3 := Lib.hid hp3
        obtain ⟨_, nv5, a5, cap5, rfl, hnn5, -⟩ := ht.parts
        obtain ⟨na5, nc5, rfl, -, -⟩ := hnn5.slice
        have R3 := Lib.hid (RfRes.trans HG1.out HV1.out R2.out hr3)
        have RZ := Lib.hid (R1.out.keep R3.out.keep HNR.out)
        have HSZ := Lib.hid (show w.heap.size < w2.heap.size from Nat.lt_of_lt_of_le R1.out.lt R2.out.keep.size)
        clear ht hnn5 hr3 hp3 hk7 hm c0
        go_wp2_with (refine wpList_store_blk rfl _ (.tmp 4) (.tmp 68) rfl w.heap.size 0 [.int .i64 t.kind, .int .i64 t.int, .string t.text, .int .u32 t.cr, .slice na5 t.nums.length nc5, .slice a5 t.args.length cap5] (by rfl) (by rfl) (by kernel_rfl) (by simp [Value.oneCell']) 35 _ RZ.out (by show 0 + 6 ≤ 6; decide) ?_; intro wz hCz hgz; refine stop ?_)
        refine Stopped.of ?_
        have C0 : Cells wz w.heap.size 35 [.int .i64 t.kind, .int .i64 t.int, .string t.text, .int .u32 t.cr, .slice na5 t.nums.length nc5, .slice a5 t.args.length cap5] := hCz
        have z0 := C0.cell 0
        have z1 := C0.cell 1
        have z2 := C0.cell 2
        have z3 := C0.cell 3
        have z4 := C0.cell 4
        have z5 := C0.cell 5
        simp only [List.getElem?_cons_zero, List.getElem?_cons_succ] at z0 z1 z2 z3 z4 z5
        have KZ := Lib.hid (show Keep (fun q => q = w.heap.size) w3 wz from (Keep.refl _ _).grown hgz (fun k hk _ => by cases hk; rfl))
        clear C0 hCz hgz
        go_wp2
        refine bodyPost_ret (v := .agg #[.int .i64 t.kind, .int .i64 t.int, .string t.text, .int .u32 t.cr, .slice na5 t.nums.length nc5, .slice a5 t.args.length cap5]) (by simp [results, Tryz.results99, go_sem, z0, z1, z2, z3, z4, z5]) rfl ?_
        rw [HT.out]
        exact ⟨t, st3, av3, lv3, k3, [.int .i64 t.kind, .int .i64 t.int, .string t.text, .int .u32 t.cr, .slice na5 t.nums.length nc5, .slice a5 t.args.length cap5], rfl, (HT0.out.keep KZ.out (fun q _ hq (e : q = w.heap.size) => by have := hq.1; have := HSZ.out; omega)).mono (fun q _ hq => ⟨by have := hq.1; have := HSZ.out; omega, hq.2⟩), (RfRes.trans HG.out HV.out RA.out R3.out).res KZ.out HBS.out (Nat.le_refl _) RZ.out, HP3.out, HK7.out, HM.out⟩
      · have HC := Lib.hid (show Calls Tryz.prog 128 #[.pointer (some ⟨g, 0, none⟩), .int .i64 tag] w2 _ from rfOwn_pid (st := ⟨tag, part + 1, atoms⟩) (termS l f) R2.out.is_ hin hK HAT.out HP95.out)
        rw [hK] at hx HT
        replace hx : w2.cell? ⟨q, o + tag, none⟩ = some (.int .u8 88) := hx
        clear htb hin hK
        generalize 256 - (f : Int) = dv at *
        go_wp2_with fail
        refine HC.out.mono ?_
        rintro e w3 ⟨t, st3, av3, lv3, k3, vs, rfl, ht, hr3, hp3, hk7, hm⟩
        have HK7 := Lib.hid hk7
        have HM := Lib.hid hm
        have HT0 := Lib.hid ht
        have HP3 := Lib.hid hp3
        obtain ⟨_, nv5, a5, cap5, rfl, hnn5, -⟩ := ht.parts
        obtain ⟨na5, nc5, rfl, -, -⟩ := hnn5.slice
        have R3 := Lib.hid (RfRes.trans HG1.out HV1.out R2.out hr3)
        have RZ := Lib.hid (R1.out.keep R3.out.keep HNR.out)
        have HSZ := Lib.hid (show w.heap.size < w2.heap.size from Nat.lt_of_lt_of_le R1.out.lt R2.out.keep.size)
        clear ht hnn5 hr3 hp3 hk7 hm c0
        go_wp2_with (refine wpList_store_blk rfl _ (.tmp 4) (.tmp 74) rfl w.heap.size 0 [.int .i64 t.kind, .int .i64 t.int, .string t.text, .int .u32 t.cr, .slice na5 t.nums.length nc5, .slice a5 t.args.length cap5] (by rfl) (by rfl) (by kernel_rfl) (by simp [Value.oneCell']) 35 _ RZ.out (by show 0 + 6 ≤ 6; decide) ?_; intro wz hCz hgz; refine stop ?_)
        refine Stopped.of ?_
        have C0 : Cells wz w.heap.size 35 [.int .i64 t.kind, .int .i64 t.int, .string t.text, .int .u32 t.cr, .slice na5 t.nums.length nc5, .slice a5 t.args.length cap5] := hCz
        have z0 := C0.cell 0
        have z1 := C0.cell 1
        have z2 := C0.cell 2
        have z3 := C0.cell 3
        have z4 := C0.cell 4
        have z5 := C0.cell 5
        simp only [List.getElem?_cons_zero, List.getElem?_cons_succ] at z0 z1 z2 z3 z4 z5
        have KZ := Lib.hid (show Keep (fun q => q = w.heap.size) w3 wz from (Keep.refl _ _).grown hgz (fun k hk _ => by cases hk; rfl))
        clear C0 hCz hgz
        go_wp2
        refine bodyPost_ret (v := .agg #[.int .i64 t.kind, .int .i64 t.int, .string t.text, .int .u32 t.cr, .slice na5 t.nums.length nc5, .slice a5 t.args.length cap5]) (by simp [results, Tryz.results99, go_sem, z0, z1, z2, z3, z4, z5]) rfl ?_
        rw [HT.out]
        exact ⟨t, st3, av3, lv3, k3, [.int .i64 t.kind, .int .i64 t.int, .string t.text, .int .u32 t.cr, .slice na5 t.nums.length nc5, .slice a5 t.args.length cap5], rfl, (HT0.out.keep KZ.out (fun q _ hq (e : q = w.heap.size) => by have := hq.1; have := HSZ.out; omega)).mono (fun q _ hq => ⟨by have := hq.1; have := HSZ.out; omega, hq.2⟩), (RfRes.trans HG.out HV.out RA.out R3.out).res KZ.out HBS.out (Nat.le_refl _) RZ.out, HP3.out, HK7.out, HM.out⟩
      · have HC := Lib.hid (show Calls Tryz.prog 128 #[.pointer (some ⟨g, 0, none⟩), .int .i64 tag] w2 _ from rfOwn_ref (st := ⟨tag, part + 1, atoms⟩) (termS l f) R2.out.is_ hin hK HAT.out HP95.out)
        rw [hK] at hx HT
        replace hx : w2.cell? ⟨q, o + tag, none⟩ = some (.int .u8 90) := hx
        clear htb hin hK
        generalize 256 - (f : Int) = dv at *
        go_wp2_with fail
        refine HC.out.mono ?_
        rintro e w3 ⟨t, st3, av3, lv3, k3, vs, rfl, ht, hr3, hp3, hk7, hm⟩
        have HK7 := Lib.hid hk7
        have HM := Lib.hid hm
        have HT0 := Lib.hid ht
        have HP3 := Lib.hid hp3
        obtain ⟨_, nv5, a5, cap5, rfl, hnn5, -⟩ := ht.parts
        obtain ⟨na5, nc5, rfl, -, -⟩ := hnn5.slice
        have R3 := Lib.hid (RfRes.trans HG1.out HV1.out R2.out hr3)
        have RZ := Lib.hid (R1.out.keep R3.out.keep HNR.out)
        have HSZ := Lib.hid (show w.heap.size < w2.heap.size from Nat.lt_of_lt_of_le R1.out.lt R2.out.keep.size)
        clear ht hnn5 hr3 hp3 hk7 hm c0
        go_wp2_with (refine wpList_store_blk rfl _ (.tmp 4) (.tmp 74) rfl w.heap.size 0 [.int .i64 t.kind, .int .i64 t.int, .string t.text, .int .u32 t.cr, .slice na5 t.nums.length nc5, .slice a5 t.args.length cap5] (by rfl) (by rfl) (by kernel_rfl) (by simp [Value.oneCell']) 35 _ RZ.out (by show 0 + 6 ≤ 6; decide) ?_; intro wz hCz hgz; refine stop ?_)
        refine Stopped.of ?_
        have C0 : Cells wz w.heap.size 35 [.int .i64 t.kind, .int .i64 t.int, .string t.text, .int .u32 t.cr, .slice na5 t.nums.length nc5, .slice a5 t.args.length cap5] := hCz
        have z0 := C0.cell 0
        have z1 := C0.cell 1
        have z2 := C0.cell 2
        have z3 := C0.cell 3
        have z4 := C0.cell 4
        have z5 := C0.cell 5
        simp only [List.getElem?_cons_zero, List.getElem?_cons_succ] at z0 z1 z2 z3 z4 z5
        have KZ := Lib.hid (show Keep (fun q => q = w.heap.size) w3 wz from (Keep.refl _ _).grown hgz (fun k hk _ => by cases hk; rfl))
        clear C0 hCz hgz
        go_wp2
        refine bodyPost_ret (v := .agg #[.int .i64 t.kind, .int .i64 t.int, .string t.text, .int .u32 t.cr, .slice na5 t.nums.length nc5, .slice a5 t.args.length cap5]) (by simp [results, Tryz.results99, go_sem, z0, z1, z2, z3, z4, z5]) rfl ?_
        rw [HT.out]
        exact ⟨t, st3, av3, lv3, k3, [.int .i64 t.kind, .int .i64 t.int, .string t.text, .int .u32 t.cr, .slice na5 t.nums.length nc5, .slice a5 t.args.length cap5], rfl, (HT0.out.keep KZ.out (fun q _ hq (e : q = w.heap.size) => by have := hq.1; have := HSZ.out; omega)).mono (fun q _ hq => ⟨by have := hq.1; have := HSZ.out; omega, hq.2⟩), (RfRes.trans HG.out HV.out RA.out R3.out).res KZ.out HBS.out (Nat.le_refl _) RZ.out, HP3.out, HK7.out, HM.out⟩
    | false =>
      have HT := Lib.hid (show termS l (f + 1) ⟨tag, part, atoms⟩ = .bad [⟨etfL, tag, 83⟩] by
        rw [termS_more]
        dsimp only
        rw [if_neg h4, if_neg (by omega), htb, if_pos rfl])
      have hb : ((((l.getD tag 0).toNat : Nat) : Int) == 97) = false ∧ ((((l.getD tag 0).toNat : Nat) : Int) == 98) = false ∧ ((((l.getD tag 0).toNat : Nat) : Int) == 118) = false ∧ ((((l.getD tag 0).toNat : Nat) : Int) == 119) = false ∧ ((((l.getD tag 0).toNat : Nat) : Int) == 104) = false ∧ ((((l.getD tag 0).toNat : Nat) : Int) == 105) = false ∧ ((((l.getD tag 0).toNat : Nat) : Int) == 106) = false ∧ ((((l.getD tag 0).toNat : Nat) : Int) == 108) = false ∧ ((((l.getD tag 0).toNat : Nat) : Int) == 88) = false ∧ ((((l.getD tag 0).toNat : Nat) : Int) == 90) = false := by
        unfold tagB at htb
        simp only [Bool.or_eq_false_iff, beq_eq_false_iff_ne] at htb
        obtain ⟨⟨⟨⟨⟨⟨⟨⟨⟨h1, h2⟩, h3⟩, h4⟩, h5⟩, h6⟩, h7⟩, h8⟩, h9⟩, h10⟩ := htb
        exact ⟨u8_of _ 97 h1, u8_of _ 98 h2, u8_of _ 118 h3, u8_of _ 119 h4, u8_of _ 104 h5, u8_of _ 105 h6, u8_of _ 106 h7, u8_of _ 108 h8, u8_of _ 88 h9, u8_of _ 90 h10⟩
      obtain ⟨b1, b2, b3, b4, b5, b6, b7, b8, b9, b10⟩ := hb
      clear h4 htb
      generalize (l.getD tag 0).toNat = cv at *
      have HFA := Lib.hid (show Calls Tryz.prog 125 #[.pointer (some ⟨g, 0, none⟩), .int .i64 tag, .int .i64 83] w2 _ from rfFail_any (tag : Int) 83 R2.out.is_)
      go_wp2_with fail
      refine HFA.out.mono ?_
      rintro e w4 ⟨rfl, lv4, hr⟩
      have R4 := Lib.hid (RfRes.trans HG1.out HV1.out R2.out hr)
      unfold termZ at *
      have RZ := Lib.hid (R1.out.keep R4.out.keep HNR.out)
      clear hr HFA c0
      go_wp2_with (refine wpList_store_blk rfl _ (.tmp 4) (.tmp 77) rfl w.heap.size 0 [.int .i64 0, .int .i64 0, .string ⟨#[]⟩, .int .u32 0, .slice none 0 0, .slice none 0 0] (by rfl) (by rfl) (by kernel_rfl) (by simp [Value.oneCell']) 35 _ RZ.out (by show 0 + 6 ≤ 6; decide) ?_; intro wz hCz hgz; refine stop ?_)
      refine Stopped.of ?_
      have C0 : Cells wz w.heap.size 35 [.int .i64 0, .int .i64 0, .string ⟨#[]⟩, .int .u32 0, .slice none 0 0, .slice none 0 0] := hCz
      have z0 := C0.cell 0
      have z1 := C0.cell 1
      have z2 := C0.cell 2
      have z3 := C0.cell 3
      have z4 := C0.cell 4
      have z5 := C0.cell 5
      simp only [List.getElem?_cons_zero, List.getElem?_cons_succ] at z0 z1 z2 z3 z4 z5
      have KZ := Lib.hid (show Keep (fun q => q = w.heap.size) w4 wz from (Keep.refl _ _).grown hgz (fun k hk _ => by cases hk; rfl))
      clear C0 hCz hgz
      go_wp2
      refine bodyPost_ret (v := .agg #[.int .i64 0, .int .i64 0, .string ⟨#[]⟩, .int .u32 0, .slice none 0 0, .slice none 0 0]) (by simp [results, Tryz.results99, go_sem, z0, z1, z2, z3, z4, z5]) rfl ?_
      rw [HT.out]
      exact ⟨zeroT, _, _, _, _, termZ, rfl, zeroT_at _ _, (RfRes.trans HG.out HV.out RA.out R4.out).res KZ.out HBS.out (Nat.le_refl _) RZ.out, Nat.le_refl _, (fun e => by cases e), rfl, by simp⟩
  · have hti : (l.length : Int) ≤ (tag : Int) := by omega
    have HT := Lib.hid (show termS l (f + 1) ⟨tag, part, atoms⟩ = .bad [⟨etfL, tag, 82⟩] by
      rw [termS_more]
      dsimp only
      rw [if_neg h4, if_pos (by have := HOK.out.in_; dsimp only at this; omega)])
    clear h4 hin
    have HFA := Lib.hid (show Calls Tryz.prog 125 #[.pointer (some ⟨g, 0, none⟩), .int .i64 tag, .int .i64 82] w2 _ from rfFail_any (tag : Int) 82 R2.out.is_)
    go_wp2_with fail
    refine HFA.out.mono ?_
    rintro e w4 ⟨rfl, lv4, hr⟩
    have R4 := Lib.hid (RfRes.trans HG1.out HV1.out R2.out hr)
    unfold termZ at *
    have RZ := Lib.hid (R1.out.keep R4.out.keep HNR.out)
    clear hr HFA c0
    go_wp2_with (refine wpList_store_blk rfl _ (.tmp 4) (.tmp 44) rfl w.heap.size 0 [.int .i64 0, .int .i64 0, .string ⟨#[]⟩, .int .u32 0, .slice none 0 0, .slice none 0 0] (by rfl) (by rfl) (by kernel_rfl) (by simp [Value.oneCell']) 35 _ RZ.out (by show 0 + 6 ≤ 6; decide) ?_; intro wz hCz hgz; refine stop ?_)
    refine Stopped.of ?_
    have C0 : Cells wz w.heap.size 35 [.int .i64 0, .int .i64 0, .string ⟨#[]⟩, .int .u32 0, .slice none 0 0, .slice none 0 0] := hCz
    have z0 := C0.cell 0
    have z1 := C0.cell 1
    have z2 := C0.cell 2
    have z3 := C0.cell 3
    have z4 := C0.cell 4
    have z5 := C0.cell 5
    simp only [List.getElem?_cons_zero, List.getElem?_cons_succ] at z0 z1 z2 z3 z4 z5
    have KZ := Lib.hid (show Keep (fun q => q = w.heap.size) w4 wz from (Keep.refl _ _).grown hgz (fun k hk _ => by cases hk; rfl))
    clear C0 hCz hgz
    go_wp2
    refine bodyPost_ret (v := .agg #[.int .i64 0, .int .i64 0, .string ⟨#[]⟩, .int .u32 0, .slice none 0 0, .slice none 0 0]) (by simp [results, Tryz.results99, go_sem, z0, z1, z2, z3, z4, z5]) rfl ?_
    rw [HT.out]
    exact ⟨zeroT, _, _, _, _, termZ, rfl, zeroT_at _ _, (RfRes.trans HG.out HV.out RA.out R4.out).res KZ.out HBS.out (Nat.le_refl _) RZ.out, Nat.le_refl _, (fun e => by cases e), rfl, by simp⟩
theorem rfPart_any : ∀ f, f ≤ 256 → PartC f
  | 0, _ => rfPart_zero
  | f + 1, h => rfPart_more f h (rfPart_any f (by omega))
end Go.Proofs.YtlahagabcnmdiaaGreatDoor
end
section
/- Package etf: the reader: a term, by its tag. Printed by wip/edi.py. -/
open Go Go.RowKit
namespace Go.Proofs.YtlahagabcnmdiaaGreatDoor
set_option linter.unusedVariables false
set_option linter.unusedSimpArgs false

set_option maxHeartbeats 32000000 in
set_option maxRecDepth 100000 in
theorem term_k88 {base g : Nat} {l : List UInt8} {bv av : Value} {st : Rd} {w : World} (f : Nat) (dv : Int) (hih : TermC l f) (hdv : dv + 1 = 257 - (f : Int)) (hd0 : 0 ≤ dv) (hd1 : dv ≤ 256) (h : RdIs base g l bv st av w) (hG : GtB base w) (hpart : st.part ≠ 4096) (hl : st.at_ < l.length) (hk : l.getD st.at_ 0 = 88) (spc : Res Tm) (hspc : spc = ((needS l st.at_ 1 ⟨st.at_, st.part + 1, st.atoms⟩).bind fun _ st2 => bodyS l (termS l f) st.at_ 88 st2)) :
    Calls Tryz.prog 98 #[.pointer (some ⟨g, 0, none⟩), .int .i64 dv] w (RetR base g l bv av w spc (TmR w)) := by
  have HS := Lib.hid hspc
  have HIH := Lib.hid hih
  have HDV := Lib.hid hdv
  have HGL := Lib.hid h.cells.lt
  have HVL := Lib.hid (fun q (hq : av.ownBlock = some q) => (h.atoms.lt hq).1)
  have HOK := Lib.hid h.ok
  obtain ⟨ba, bc, rfl⟩ := h.form
  have BX := Lib.hid ((Below.refl w.heap.size w).alloc (Nat.le_refl _) (.cells #[.int .i64 0, .int .i64 0, .string ⟨#[]⟩, .int .u32 0, .slice none 0 0, .slice none 0 0] 35 (0, 0)))
  have R1 := Lib.hid (show Cells (w.alloc (.cells #[.int .i64 0, .int .i64 0, .string ⟨#[]⟩, .int .u32 0, .slice none 0 0, .slice none 0 0] 35 (0, 0))) w.heap.size 35 termZ from Cells.new w 35 termZ)
  have HR1 := Lib.hid (RdRes.below h BX.out)
  have HG1 := Lib.hid (hG.below BX.out)
  have HNR := Lib.hid (show av.ownBlock ≠ some w.heap.size from fun e => Nat.lt_irrefl _ (HVL.out _ e))
  have HRG := Lib.hid (show w.heap.size ≠ g from fun e => by have := HGL.out; omega)
  have c1 := HR1.out.1.cells.cell 1
  have c2 := HR1.out.1.cells.cell 2
  have f2 := HR1.out.1.cells.frozen 2
  simp only [List.getElem?_cons_zero, List.getElem?_cons_succ] at c1 c2
  have hp0 : (0 : Int) ≤ (st.part : Int) := by omega
  have hp1 : (st.part : Int) ≤ 4096 := by have := HOK.out.part; omega
  have hp2 : ((st.part : Int) == 4096) = false := beq_eq_false_iff_ne.2 (by omega)
  have hp3 : ¬ (256 : Int) < dv := by omega
  have hcw : IntKind.i64.wrap (dv + 1) = dv + 1 := IntWalk.i64_in _ (by omega)
  have ep : ((st.part + 1 : Nat) : Int) = (st.part : Int) + 1 := by omega
  have P2 := RdRes.parted HR1.out.1 (st.part + 1) ⟨HOK.out.le, HOK.out.in_, by have := HOK.out.part; show st.part + 1 ≤ 4096; omega, HOK.out.atoms⟩
  rw [ep] at P2
  have HR2 := Lib.hid (RdRes.trans HGL.out HVL.out HR1.out P2)
  have R2 := Lib.hid (R1.out.far (p := ⟨g, 2, none⟩) HRG.out (.int .i64 ((st.part : Int) + 1)))
  have HG2 := Lib.hid (HG1.out.far (w' := (w.alloc (.cells #[.int .i64 0, .int .i64 0, .string ⟨#[]⟩, .int .u32 0, .slice none 0 0, .slice none 0 0] 35 (0, 0))).setCell ⟨g, 2, none⟩ (.int .i64 ((st.part : Int) + 1))) (fun q hq => Below.heap_setCell _ _ _ _ (by have := HR1.out.1.hg; show q ≠ g; omega)))
  have HL := Lib.hid hl
  clear P2 ep h hG hpart hih hdv hspc
  go_enter Tryz.func98, Tryz.ntmps98
  go_upto_region 7 with (fail)
  generalize w.alloc (.cells #[.int .i64 0, .int .i64 0, .string ⟨#[]⟩, .int .u32 0, .slice none 0 0, .slice none 0 0] 35) = w1 at *
  generalize w1.setCell ⟨g, 2, none⟩ (.int .i64 ((st.part : Int) + 1)) = w2 at *
  clear c1 c2 f2 hp0 hp1 hp2 hp3
  have c0 := HR2.out.1.cells.cell 0
  have c1 := HR2.out.1.cells.cell 1
  simp only [List.getElem?_cons_zero, List.getElem?_cons_succ] at c0 c1
  obtain ⟨q, o, rfl, hx⟩ := HR2.out.1.buf.get st.at_ hl
  rw [hk] at hx
  have hx : w2.cell? ⟨q, o + st.at_, none⟩ = some (.int .u8 88) := hx
  clear hk
  have hi0 : ((st.at_ : Int) == (l.length : Int)) = false := beq_eq_false_iff_ne.2 (by omega)
  have hi1 : (0 : Int) ≤ (st.at_ : Int) := by omega
  have hi2 : (st.at_ : Int) < (l.length : Int) := by omega
  have HD := Lib.hid (fun m => And.intro (HR2.out.ext (below_drewN (Below.refl w2.heap.size w2) m)) (And.intro (R2.out.drewN m) (HG2.out.below (below_drewN (Below.refl w2.heap.size w2) m))))
  clear hl HR2 R2 HG2
  go_wp2_with fail
  go_quiet (fail)
  go_wp2_with fail
  go_quiet (fail)
  go_wp2_with fail
  generalize hW3 : w2.drewN _ = w3
  obtain ⟨hr3, hR3, hg3⟩ : RdRes base g l (.slice (some ⟨q, o, none⟩) l.length bc) av w ⟨st.at_, st.part + 1, st.atoms⟩ av w3 ∧ Cells w3 w.heap.size 35 termZ ∧ GtB base w3 := by
    rw [← hW3]; exact HD.out _
  have HR3 := Lib.hid hr3
  have R3 := Lib.hid hR3
  have HG3 := Lib.hid hg3
  clear hr3 hR3 hg3 hW3 HD c0 c1 hx hi0 hi1 hi2
  have HN := Lib.hid (need_any st.at_ 1 HR3.out.1 (by omega))
  refine HN.out.mono ?_
  intro e w4 hr
  rcases needS_cases l st.at_ 1 ⟨st.at_, st.part + 1, st.atoms⟩ with ⟨k, hk⟩ | ⟨hk, hle, hle6⟩
  · rw [hk] at hr HS
    obtain ⟨b, rfl, he, hne, hkk⟩ := hr
    have HP := Lib.hid (RdRes.pan (e := .panicked _) HGL.out HVL.out HR3.out ⟨b, rfl, he, hne, hkk⟩)
    clear he hne hkk hk HN 
    go_wp2
    rw [HS.out]
    exact ⟨rfl, HP.out⟩
  rw [hk] at hr HS
  simp only [Res.bind] at HS
  obtain ⟨sv4, av4, rfl, hsv, hrr⟩ := hr
  have R4 := Lib.hid (R3.out.res hrr HRG.out HNR.out)
  have NR4 := Lib.hid (hrr.apart R3.out.lt HNR.out)
  have HR4 := Lib.hid (RdRes.trans HGL.out HVL.out HR3.out hrr)
  have HG4 := Lib.hid (HG3.out.res HR3.out.1 hrr.2.1)
  obtain ⟨s4a, s4c, rfl⟩ : ∃ a c, sv4 = .slice a (cutB l st.at_ 1).length c := by obtain ⟨a, c, e, _⟩ := hsv; exact ⟨a, c, e⟩
  clear hk hrr HN hsv HR3 R3 HG3 hle hle6
  have HS2 := Lib.hid (show spc = farS l st.at_ 88 ⟨st.at_ + 1, st.part + 1, st.atoms⟩ from by rw [HS.out]; unfold bodyS; rw [if_neg (by decide), if_neg (by decide), if_neg (by decide), if_neg (by decide), if_neg (by decide), if_neg (by decide)])
  clear HS
  have HS := HS2
  clear HS2
  have HF := Lib.hid (far_any st.at_ 88 HR4.out.1 HG4.out)
  go_wp2_with fail
  refine HF.out.mono ?_
  intro e w5 hr
  cases hk : farS l st.at_ 88 ⟨st.at_ + 1, st.part + 1, st.atoms⟩ with
  | bad k2 =>
    rw [hk] at hr HS
    obtain ⟨b, rfl, he, hne, hkk⟩ := hr
    have HP := Lib.hid (RdRes.pan (e := .panicked _) HGL.out HVL.out HR4.out ⟨b, rfl, he, hne, hkk⟩)
    clear he hne hkk hk HF
    go_wp2
    rw [HS.out]
    exact ⟨rfl, HP.out⟩
  | ok x st5 =>
    rw [hk] at hr HS
    obtain ⟨_, av5, rfl, htm, hrr⟩ := hr
    obtain ⟨na7, nc7, a7, cap7, rfl, ht7⟩ := htm.six
    have R5 := Lib.hid (R4.out.res hrr HRG.out NR4.out)
    have NR5 := Lib.hid (hrr.apart R4.out.lt NR4.out)
    have HR5 := Lib.hid (RdRes.trans HGL.out HVL.out HR4.out hrr)
    have HT5 := Lib.hid ht7
    have HWL := Lib.hid R4.out.lt
    clear hk hrr htm ht7 HF HR4 R4
    have RF := R5
    unfold termZ at RF
    go_wp2_with (refine wpList_store_blk rfl _ (.tmp 4) (.tmp 161) rfl w.heap.size 0 [.int .i64 x.kind, .int .i64 x.int, .string x.text, .int .u32 x.cr, .slice na7 x.nums.length nc7, .slice a7 x.args.length cap7] (by rfl) (by rfl) (by kernel_rfl) (by simp [Value.oneCell']) 35 _ RF.out (by show 0 + 6 ≤ 6; decide) ?_; intro wz hCz hgz)
    have hCz' : Cells wz w.heap.size 35 [.int .i64 x.kind, .int .i64 x.int, .string x.text, .int .u32 x.cr, .slice na7 x.nums.length nc7, .slice a7 x.args.length cap7] := hCz
    have z0 := hCz'.cell 0
    have z1 := hCz'.cell 1
    have z2 := hCz'.cell 2
    have z3 := hCz'.cell 3
    have z4 := hCz'.cell 4
    have z5 := hCz'.cell 5
    simp only [List.getElem?_cons_zero, List.getElem?_cons_succ] at z0 z1 z2 z3 z4 z5
    have KZ := Lib.hid (show Keep (fun q => q = w.heap.size) w5 wz from (Keep.refl _ _).grown hgz (fun k hk _ => by cases hk; rfl))
    clear hCz hCz' hgz
    go_wp2
    refine bodyPost_ret (v := .agg ([.int .i64 x.kind, .int .i64 x.int, .string x.text, .int .u32 x.cr, .slice na7 x.nums.length nc7, .slice a7 x.args.length cap7]).toArray) (by simp [results, Tryz.results98, go_sem, z0, z1, z2, z3, z4, z5]) rfl ?_
    rw [HS.out]
    refine ⟨_, _, rfl, ⟨_, rfl, ?_⟩, RdRes.late HR5.out HGL.out KZ.out (fun q (hq : q = w.heap.size) => by rw [hq]; exact ⟨Nat.le_refl _, NR5.out⟩)⟩
    exact (HT5.out.keep KZ.out (fun q _ hq (e : q = w.heap.size) => by have := hq.1; have := HWL.out; omega)).mono (fun q _ hq => ⟨by have := hq.1; have := HWL.out; omega, hq.2⟩)

set_option maxHeartbeats 32000000 in
set_option maxRecDepth 100000 in
theorem term_k90 {base g : Nat} {l : List UInt8} {bv av : Value} {st : Rd} {w : World} (f : Nat) (dv : Int) (hih : TermC l f) (hdv : dv + 1 = 257 - (f : Int)) (hd0 : 0 ≤ dv) (hd1 : dv ≤ 256) (h : RdIs base g l bv st av w) (hG : GtB base w) (hpart : st.part ≠ 4096) (hl : st.at_ < l.length) (hk : l.getD st.at_ 0 = 90) (spc : Res Tm) (hspc : spc = ((needS l st.at_ 1 ⟨st.at_, st.part + 1, st.atoms⟩).bind fun _ st2 => bodyS l (termS l f) st.at_ 90 st2)) :
    Calls Tryz.prog 98 #[.pointer (some ⟨g, 0, none⟩), .int .i64 dv] w (RetR base g l bv av w spc (TmR w)) := by
  have HS := Lib.hid hspc
  have HIH := Lib.hid hih
  have HDV := Lib.hid hdv
  have HGL := Lib.hid h.cells.lt
  have HVL := Lib.hid (fun q (hq : av.ownBlock = some q) => (h.atoms.lt hq).1)
  have HOK := Lib.hid h.ok
  obtain ⟨ba, bc, rfl⟩ := h.form
  have BX := Lib.hid ((Below.refl w.heap.size w).alloc (Nat.le_refl _) (.cells #[.int .i64 0, .int .i64 0, .string ⟨#[]⟩, .int .u32 0, .slice none 0 0, .slice none 0 0] 35 (0, 0)))
  have R1 := Lib.hid (show Cells (w.alloc (.cells #[.int .i64 0, .int .i64 0, .string ⟨#[]⟩, .int .u32 0, .slice none 0 0, .slice none 0 0] 35 (0, 0))) w.heap.size 35 termZ from Cells.new w 35 termZ)
  have HR1 := Lib.hid (RdRes.below h BX.out)
  have HG1 := Lib.hid (hG.below BX.out)
  have HNR := Lib.hid (show av.ownBlock ≠ some w.heap.size from fun e => Nat.lt_irrefl _ (HVL.out _ e))
  have HRG := Lib.hid (show w.heap.size ≠ g from fun e => by have := HGL.out; omega)
  have c1 := HR1.out.1.cells.cell 1
  have c2 := HR1.out.1.cells.cell 2
  have f2 := HR1.out.1.cells.frozen 2
  simp only [List.getElem?_cons_zero, List.getElem?_cons_succ] at c1 c2
  have hp0 : (0 : Int) ≤ (st.part : Int) := by omega
  have hp1 : (st.part : Int) ≤ 4096 := by have := HOK.out.part; omega
  have hp2 : ((st.part : Int) == 4096) = false := beq_eq_false_iff_ne.2 (by omega)
  have hp3 : ¬ (256 : Int) < dv := by omega
  have hcw : IntKind.i64.wrap (dv + 1) = dv + 1 := IntWalk.i64_in _ (by omega)
  have ep : ((st.part + 1 : Nat) : Int) = (st.part : Int) + 1 := by omega
  have P2 := RdRes.parted HR1.out.1 (st.part + 1) ⟨HOK.out.le, HOK.out.in_, by have := HOK.out.part; show st.part + 1 ≤ 4096; omega, HOK.out.atoms⟩
  rw [ep] at P2
  have HR2 := Lib.hid (RdRes.trans HGL.out HVL.out HR1.out P2)
  have R2 := Lib.hid (R1.out.far (p := ⟨g, 2, none⟩) HRG.out (.int .i64 ((st.part : Int) + 1)))
  have HG2 := Lib.hid (HG1.out.far (w' := (w.alloc (.cells #[.int .i64 0, .int .i64 0, .string ⟨#[]⟩, .int .u32 0, .slice none 0 0, .slice none 0 0] 35 (0, 0))).setCell ⟨g, 2, none⟩ (.int .i64 ((st.part : Int) + 1))) (fun q hq => Below.heap_setCell _ _ _ _ (by have := HR1.out.1.hg; show q ≠ g; omega)))
  have HL := Lib.hid hl
  clear P2 ep h hG hpart hih hdv hspc
  go_enter Tryz.func98, Tryz.ntmps98
  go_upto_region 7 with (fail)
  generalize w.alloc (.cells #[.int .i64 0, .int .i64 0, .string ⟨#[]⟩, .int .u32 0, .slice none 0 0, .slice none 0 0] 35) = w1 at *
  generalize w1.setCell ⟨g, 2, none⟩ (.int .i64 ((st.part : Int) + 1)) = w2 at *
  clear c1 c2 f2 hp0 hp1 hp2 hp3
  have c0 := HR2.out.1.cells.cell 0
  have c1 := HR2.out.1.cells.cell 1
  simp only [List.getElem?_cons_zero, List.getElem?_cons_succ] at c0 c1
  obtain ⟨q, o, rfl, hx⟩ := HR2.out.1.buf.get st.at_ hl
  rw [hk] at hx
  have hx : w2.cell? ⟨q, o + st.at_, none⟩ = some (.int .u8 90) := hx
  clear hk
  have hi0 : ((st.at_ : Int) == (l.length : Int)) = false := beq_eq_false_iff_ne.2 (by omega)
  have hi1 : (0 : Int) ≤ (st.at_ : Int) := by omega
  have hi2 : (st.at_ : Int) < (l.length : Int) := by omega
  have HD := Lib.hid (fun m => And.intro (HR2.out.ext (below_drewN (Below.refl w2.heap.size w2) m)) (And.intro (R2.out.drewN m) (HG2.out.below (below_drewN (Below.refl w2.heap.size w2) m))))
  clear hl HR2 R2 HG2
  go_wp2_with fail
  go_quiet (fail)
  go_wp2_with fail
  go_quiet (fail)
  go_wp2_with fail
  generalize hW3 : w2.drewN _ = w3
  obtain ⟨hr3, hR3, hg3⟩ : RdRes base g l (.slice (some ⟨q, o, none⟩) l.length bc) av w ⟨st.at_, st.part + 1, st.atoms⟩ av w3 ∧ Cells w3 w.heap.size 35 termZ ∧ GtB base w3 := by
    rw [← hW3]; exact HD.out _
  have HR3 := Lib.hid hr3
  have R3 := Lib.hid hR3
  have HG3 := Lib.hid hg3
  clear hr3 hR3 hg3 hW3 HD c0 c1 hx hi0 hi1 hi2
  have HN := Lib.hid (need_any st.at_ 1 HR3.out.1 (by omega))
  refine HN.out.mono ?_
  intro e w4 hr
  rcases needS_cases l st.at_ 1 ⟨st.at_, st.part + 1, st.atoms⟩ with ⟨k, hk⟩ | ⟨hk, hle, hle6⟩
  · rw [hk] at hr HS
    obtain ⟨b, rfl, he, hne, hkk⟩ := hr
    have HP := Lib.hid (RdRes.pan (e := .panicked _) HGL.out HVL.out HR3.out ⟨b, rfl, he, hne, hkk⟩)
    clear he hne hkk hk HN 
    go_wp2
    rw [HS.out]
    exact ⟨rfl, HP.out⟩
  rw [hk] at hr HS
  simp only [Res.bind] at HS
  obtain ⟨sv4, av4, rfl, hsv, hrr⟩ := hr
  have R4 := Lib.hid (R3.out.res hrr HRG.out HNR.out)
  have NR4 := Lib.hid (hrr.apart R3.out.lt HNR.out)
  have HR4 := Lib.hid (RdRes.trans HGL.out HVL.out HR3.out hrr)
  have HG4 := Lib.hid (HG3.out.res HR3.out.1 hrr.2.1)
  obtain ⟨s4a, s4c, rfl⟩ : ∃ a c, sv4 = .slice a (cutB l st.at_ 1).length c := by obtain ⟨a, c, e, _⟩ := hsv; exact ⟨a, c, e⟩
  clear hk hrr HN hsv HR3 R3 HG3 hle hle6
  have HS2 := Lib.hid (show spc = farS l st.at_ 90 ⟨st.at_ + 1, st.part + 1, st.atoms⟩ from by rw [HS.out]; unfold bodyS; rw [if_neg (by decide), if_neg (by decide), if_neg (by decide), if_neg (by decide), if_neg (by decide), if_neg (by decide)])
  clear HS
  have HS := HS2
  clear HS2
  have HF := Lib.hid (far_any st.at_ 90 HR4.out.1 HG4.out)
  go_wp2_with fail
  refine HF.out.mono ?_
  intro e w5 hr
  cases hk : farS l st.at_ 90 ⟨st.at_ + 1, st.part + 1, st.atoms⟩ with
  | bad k2 =>
    rw [hk] at hr HS
    obtain ⟨b, rfl, he, hne, hkk⟩ := hr
    have HP := Lib.hid (RdRes.pan (e := .panicked _) HGL.out HVL.out HR4.out ⟨b, rfl, he, hne, hkk⟩)
    clear he hne hkk hk HF
    go_wp2
    rw [HS.out]
    exact ⟨rfl, HP.out⟩
  | ok x st5 =>
    rw [hk] at hr HS
    obtain ⟨_, av5, rfl, htm, hrr⟩ := hr
    obtain ⟨na7, nc7, a7, cap7, rfl, ht7⟩ := htm.six
    have R5 := Lib.hid (R4.out.res hrr HRG.out NR4.out)
    have NR5 := Lib.hid (hrr.apart R4.out.lt NR4.out)
    have HR5 := Lib.hid (RdRes.trans HGL.out HVL.out HR4.out hrr)
    have HT5 := Lib.hid ht7
    have HWL := Lib.hid R4.out.lt
    clear hk hrr htm ht7 HF HR4 R4
    have RF := R5
    unfold termZ at RF
    go_wp2_with (refine wpList_store_blk rfl _ (.tmp 4) (.tmp 161) rfl w.heap.size 0 [.int .i64 x.kind, .int .i64 x.int, .string x.text, .int .u32 x.cr, .slice na7 x.nums.length nc7, .slice a7 x.args.length cap7] (by rfl) (by rfl) (by kernel_rfl) (by simp [Value.oneCell']) 35 _ RF.out (by show 0 + 6 ≤ 6; decide) ?_; intro wz hCz hgz)
    have hCz' : Cells wz w.heap.size 35 [.int .i64 x.kind, .int .i64 x.int, .string x.text, .int .u32 x.cr, .slice na7 x.nums.length nc7, .slice a7 x.args.length cap7] := hCz
    have z0 := hCz'.cell 0
    have z1 := hCz'.cell 1
    have z2 := hCz'.cell 2
    have z3 := hCz'.cell 3
    have z4 := hCz'.cell 4
    have z5 := hCz'.cell 5
    simp only [List.getElem?_cons_zero, List.getElem?_cons_succ] at z0 z1 z2 z3 z4 z5
    have KZ := Lib.hid (show Keep (fun q => q = w.heap.size) w5 wz from (Keep.refl _ _).grown hgz (fun k hk _ => by cases hk; rfl))
    clear hCz hCz' hgz
    go_wp2
    refine bodyPost_ret (v := .agg ([.int .i64 x.kind, .int .i64 x.int, .string x.text, .int .u32 x.cr, .slice na7 x.nums.length nc7, .slice a7 x.args.length cap7]).toArray) (by simp [results, Tryz.results98, go_sem, z0, z1, z2, z3, z4, z5]) rfl ?_
    rw [HS.out]
    refine ⟨_, _, rfl, ⟨_, rfl, ?_⟩, RdRes.late HR5.out HGL.out KZ.out (fun q (hq : q = w.heap.size) => by rw [hq]; exact ⟨Nat.le_refl _, NR5.out⟩)⟩
    exact (HT5.out.keep KZ.out (fun q _ hq (e : q = w.heap.size) => by have := hq.1; have := HWL.out; omega)).mono (fun q _ hq => ⟨by have := hq.1; have := HWL.out; omega, hq.2⟩)

set_option maxHeartbeats 32000000 in
set_option maxRecDepth 100000 in
theorem term_k97 {base g : Nat} {l : List UInt8} {bv av : Value} {st : Rd} {w : World} (f : Nat) (dv : Int) (hih : TermC l f) (hdv : dv + 1 = 257 - (f : Int)) (hd0 : 0 ≤ dv) (hd1 : dv ≤ 256) (h : RdIs base g l bv st av w) (hG : GtB base w) (hpart : st.part ≠ 4096) (hl : st.at_ < l.length) (hk : l.getD st.at_ 0 = 97) (spc : Res Tm) (hspc : spc = ((needS l st.at_ 1 ⟨st.at_, st.part + 1, st.atoms⟩).bind fun _ st2 => bodyS l (termS l f) st.at_ 97 st2)) :
    Calls Tryz.prog 98 #[.pointer (some ⟨g, 0, none⟩), .int .i64 dv] w (RetR base g l bv av w spc (TmR w)) := by
  have HS := Lib.hid hspc
  have HIH := Lib.hid hih
  have HDV := Lib.hid hdv
  have HGL := Lib.hid h.cells.lt
  have HVL := Lib.hid (fun q (hq : av.ownBlock = some q) => (h.atoms.lt hq).1)
  have HOK := Lib.hid h.ok
  obtain ⟨ba, bc, rfl⟩ := h.form
  have BX := Lib.hid ((Below.refl w.heap.size w).alloc (Nat.le_refl _) (.cells #[.int .i64 0, .int .i64 0, .string ⟨#[]⟩, .int .u32 0, .slice none 0 0, .slice none 0 0] 35 (0, 0)))
  have R1 := Lib.hid (show Cells (w.alloc (.cells #[.int .i64 0, .int .i64 0, .string ⟨#[]⟩, .int .u32 0, .slice none 0 0, .slice none 0 0] 35 (0, 0))) w.heap.size 35 termZ from Cells.new w 35 termZ)
  have HR1 := Lib.hid (RdRes.below h BX.out)
  have HG1 := Lib.hid (hG.below BX.out)
  have HNR := Lib.hid (show av.ownBlock ≠ some w.heap.size from fun e => Nat.lt_irrefl _ (HVL.out _ e))
  have HRG := Lib.hid (show w.heap.size ≠ g from fun e => by have := HGL.out; omega)
  have c1 := HR1.out.1.cells.cell 1
  have c2 := HR1.out.1.cells.cell 2
  have f2 := HR1.out.1.cells.frozen 2
  simp only [List.getElem?_cons_zero, List.getElem?_cons_succ] at c1 c2
  have hp0 : (0 : Int) ≤ (st.part : Int) := by omega
  have hp1 : (st.part : Int) ≤ 4096 := by have := HOK.out.part; omega
  have hp2 : ((st.part : Int) == 4096) = false := beq_eq_false_iff_ne.2 (by omega)
  have hp3 : ¬ (256 : Int) < dv := by omega
  have hcw : IntKind.i64.wrap (dv + 1) = dv + 1 := IntWalk.i64_in _ (by omega)
  have ep : ((st.part + 1 : Nat) : Int) = (st.part : Int) + 1 := by omega
  have P2 := RdRes.parted HR1.out.1 (st.part + 1) ⟨HOK.out.le, HOK.out.in_, by have := HOK.out.part; show st.part + 1 ≤ 4096; omega, HOK.out.atoms⟩
  rw [ep] at P2
  have HR2 := Lib.hid (RdRes.trans HGL.out HVL.out HR1.out P2)
  have R2 := Lib.hid (R1.out.far (p := ⟨g, 2, none⟩) HRG.out (.int .i64 ((st.part : Int) + 1)))
  have HG2 := Lib.hid (HG1.out.far (w' := (w.alloc (.cells #[.int .i64 0, .int .i64 0, .string ⟨#[]⟩, .int .u32 0, .slice none 0 0, .slice none 0 0] 35 (0, 0))).setCell ⟨g, 2, none⟩ (.int .i64 ((st.part : Int) + 1))) (fun q hq => Below.heap_setCell _ _ _ _ (by have := HR1.out.1.hg; show q ≠ g; omega)))
  have HL := Lib.hid hl
  clear P2 ep h hG hpart hih hdv hspc
  go_enter Tryz.func98, Tryz.ntmps98
  go_upto_region 7 with (fail)
  generalize w.alloc (.cells #[.int .i64 0, .int .i64 0, .string ⟨#[]⟩, .int .u32 0, .slice none 0 0, .slice none 0 0] 35) = w1 at *
  generalize w1.setCell ⟨g, 2, none⟩ (.int .i64 ((st.part : Int) + 1)) = w2 at *
  clear c1 c2 f2 hp0 hp1 hp2 hp3
  have c0 := HR2.out.1.cells.cell 0
  have c1 := HR2.out.1.cells.cell 1
  simp only [List.getElem?_cons_zero, List.getElem?_cons_succ] at c0 c1
  obtain ⟨q, o, rfl, hx⟩ := HR2.out.1.buf.get st.at_ hl
  rw [hk] at hx
  have hx : w2.cell? ⟨q, o + st.at_, none⟩ = some (.int .u8 97) := hx
  clear hk
  have hi0 : ((st.at_ : Int) == (l.length : Int)) = false := beq_eq_false_iff_ne.2 (by omega)
  have hi1 : (0 : Int) ≤ (st.at_ : Int) := by omega
  have hi2 : (st.at_ : Int) < (l.length : Int) := by omega
  have HD := Lib.hid (fun m => And.intro (HR2.out.ext (below_drewN (Below.refl w2.heap.size w2) m)) (And.intro (R2.out.drewN m) (HG2.out.below (below_drewN (Below.refl w2.heap.size w2) m))))
  clear hl HR2 R2 HG2
  go_wp2_with fail
  go_quiet (fail)
  go_wp2_with fail
  go_quiet (fail)
  go_wp2_with fail
  generalize hW3 : w2.drewN _ = w3
  obtain ⟨hr3, hR3, hg3⟩ : RdRes base g l (.slice (some ⟨q, o, none⟩) l.length bc) av w ⟨st.at_, st.part + 1, st.atoms⟩ av w3 ∧ Cells w3 w.heap.size 35 termZ ∧ GtB base w3 := by
    rw [← hW3]; exact HD.out _
  have HR3 := Lib.hid hr3
  have R3 := Lib.hid hR3
  have HG3 := Lib.hid hg3
  clear hr3 hR3 hg3 hW3 HD c0 c1 hx hi0 hi1 hi2
  have HN := Lib.hid (need_any st.at_ 1 HR3.out.1 (by omega))
  refine HN.out.mono ?_
  intro e w4 hr
  rcases needS_cases l st.at_ 1 ⟨st.at_, st.part + 1, st.atoms⟩ with ⟨k, hk⟩ | ⟨hk, hle, hle6⟩
  · rw [hk] at hr HS
    obtain ⟨b, rfl, he, hne, hkk⟩ := hr
    have HP := Lib.hid (RdRes.pan (e := .panicked _) HGL.out HVL.out HR3.out ⟨b, rfl, he, hne, hkk⟩)
    clear he hne hkk hk HN 
    go_wp2
    rw [HS.out]
    exact ⟨rfl, HP.out⟩
  rw [hk] at hr HS
  simp only [Res.bind] at HS
  obtain ⟨sv4, av4, rfl, hsv, hrr⟩ := hr
  have R4 := Lib.hid (R3.out.res hrr HRG.out HNR.out)
  have NR4 := Lib.hid (hrr.apart R3.out.lt HNR.out)
  have HR4 := Lib.hid (RdRes.trans HGL.out HVL.out HR3.out hrr)
  have HG4 := Lib.hid (HG3.out.res HR3.out.1 hrr.2.1)
  obtain ⟨s4a, s4c, rfl⟩ : ∃ a c, sv4 = .slice a (cutB l st.at_ 1).length c := by obtain ⟨a, c, e, _⟩ := hsv; exact ⟨a, c, e⟩
  clear hk hrr HN hsv HR3 R3 HG3 hle hle6
  have HS2 := Lib.hid (show spc = (needS l st.at_ 1 ⟨st.at_ + 1, st.part + 1, st.atoms⟩).bind fun _ st3 => .ok (.mk 1 (l.getD (st.at_ + 1) 0).toNat ⟨#[]⟩ 0 [] []) st3 from by rw [HS.out]; unfold bodyS; rw [if_pos rfl])
  clear HS
  have HS := HS2
  clear HS2
  have HN := Lib.hid (need_any st.at_ 1 HR4.out.1 (by omega))
  go_wp2_with fail
  refine HN.out.mono ?_
  intro e w5 hr
  rcases needS_cases l st.at_ 1 ⟨st.at_ + 1, st.part + 1, st.atoms⟩ with ⟨k, hk⟩ | ⟨hk, hle, hle6⟩
  · rw [hk] at hr HS
    obtain ⟨b, rfl, he, hne, hkk⟩ := hr
    have HP := Lib.hid (RdRes.pan (e := .panicked _) HGL.out HVL.out HR4.out ⟨b, rfl, he, hne, hkk⟩)
    clear he hne hkk hk HN 
    go_wp2
    rw [HS.out]
    exact ⟨rfl, HP.out⟩
  rw [hk] at hr HS
  simp only [Res.bind] at HS
  obtain ⟨sv5, av5, rfl, hsv, hrr⟩ := hr
  have R5 := Lib.hid (R4.out.res hrr HRG.out NR4.out)
  have NR5 := Lib.hid (hrr.apart R4.out.lt NR4.out)
  have HR5 := Lib.hid (RdRes.trans HGL.out HVL.out HR4.out hrr)
  obtain ⟨sa, sc, rfl⟩ : ∃ a c, sv5 = .slice a (cutB l (st.at_ + 1) 1).length c := by obtain ⟨a, c, e, _⟩ := hsv; exact ⟨a, c, e⟩
  obtain ⟨q', o', rfl, hc⟩ := hsv.get 0 (by rw [cutB_len hle]; omega)
  rw [Nat.add_zero, cutB_get 0 (by omega) hle, Nat.add_zero] at hc
  rw [cutB_len hle] at *
  have HKB := Lib.hid (l.getD (st.at_ + 1) 0).toNat_lt
  have hkb : ((l.getD (st.at_ + 1) 0).toNat : Int) < 256 := by have := HKB.out; omega
  have hkb0 : (0 : Int) ≤ ((l.getD (st.at_ + 1) 0).toNat : Int) := by omega
  generalize (l.getD (st.at_ + 1) 0).toNat = kb at *
  clear hk hrr HN hsv hle hle6 HR4 R4
  have RF := R5
  unfold termZ at RF
  go_wp2_with (refine wpList_store_blk rfl _ (.tmp 4) (.tmp 99) rfl w.heap.size 0 [.int .i64 1, .int .i64 kb, .string ⟨#[]⟩, .int .u32 0, .slice none 0 0, .slice none 0 0] (by rfl) (by rfl) (by kernel_rfl) (by simp [Value.oneCell']) 35 _ RF.out (by show 0 + 6 ≤ 6; decide) ?_; intro wz hCz hgz)
  have hCz' : Cells wz w.heap.size 35 [.int .i64 1, .int .i64 kb, .string ⟨#[]⟩, .int .u32 0, .slice none 0 0, .slice none 0 0] := hCz
  have z0 := hCz'.cell 0
  have z1 := hCz'.cell 1
  have z2 := hCz'.cell 2
  have z3 := hCz'.cell 3
  have z4 := hCz'.cell 4
  have z5 := hCz'.cell 5
  simp only [List.getElem?_cons_zero, List.getElem?_cons_succ] at z0 z1 z2 z3 z4 z5
  have KZ := Lib.hid (show Keep (fun q => q = w.heap.size) w5 wz from (Keep.refl _ _).grown hgz (fun k hk _ => by cases hk; rfl))
  clear hCz hCz' hgz
  go_wp2
  refine bodyPost_ret (v := .agg ([.int .i64 1, .int .i64 kb, .string ⟨#[]⟩, .int .u32 0, .slice none 0 0, .slice none 0 0]).toArray) (by simp [results, Tryz.results98, go_sem, z0, z1, z2, z3, z4, z5]) rfl ?_
  rw [HS.out]
  refine ⟨_, _, rfl, ⟨_, rfl, ?_⟩, RdRes.late HR5.out HGL.out KZ.out (fun q (hq : q = w.heap.size) => by rw [hq]; exact ⟨Nat.le_refl _, NR5.out⟩)⟩
  refine TmAt.of ⟨show Part (1 : Int) (kb : Int) ⟨#[]⟩ 0 from ⟨by decide, by decide, by omega, by omega, by decide, by decide, by decide⟩, .slice none 0 0, none, 0, rfl, (show NumsAt _ (.slice none 0 0) [] wz from ⟨none, 0, rfl, ⟨Nat.le_refl _, by decide⟩, Nat.zero_le _, fun i hi => absurd hi (Nat.not_lt_zero _)⟩), ⟨Nat.le_refl _, Nat.zero_le _⟩, (show 0 * 88 ≤ 140737488351232 by decide), ?_⟩
  show ArgsAt _ [] none wz
  rw [ArgsAt]; trivial

set_option maxHeartbeats 32000000 in
set_option maxRecDepth 100000 in
theorem term_k98 {base g : Nat} {l : List UInt8} {bv av : Value} {st : Rd} {w : World} (f : Nat) (dv : Int) (hih : TermC l f) (hdv : dv + 1 = 257 - (f : Int)) (hd0 : 0 ≤ dv) (hd1 : dv ≤ 256) (h : RdIs base g l bv st av w) (hG : GtB base w) (hpart : st.part ≠ 4096) (hl : st.at_ < l.length) (hk : l.getD st.at_ 0 = 98) (spc : Res Tm) (hspc : spc = ((needS l st.at_ 1 ⟨st.at_, st.part + 1, st.atoms⟩).bind fun _ st2 => bodyS l (termS l f) st.at_ 98 st2)) :
    Calls Tryz.prog 98 #[.pointer (some ⟨g, 0, none⟩), .int .i64 dv] w (RetR base g l bv av w spc (TmR w)) := by
  have HS := Lib.hid hspc
  have HIH := Lib.hid hih
  have HDV := Lib.hid hdv
  have HGL := Lib.hid h.cells.lt
  have HVL := Lib.hid (fun q (hq : av.ownBlock = some q) => (h.atoms.lt hq).1)
  have HOK := Lib.hid h.ok
  obtain ⟨ba, bc, rfl⟩ := h.form
  have BX := Lib.hid ((Below.refl w.heap.size w).alloc (Nat.le_refl _) (.cells #[.int .i64 0, .int .i64 0, .string ⟨#[]⟩, .int .u32 0, .slice none 0 0, .slice none 0 0] 35 (0, 0)))
  have R1 := Lib.hid (show Cells (w.alloc (.cells #[.int .i64 0, .int .i64 0, .string ⟨#[]⟩, .int .u32 0, .slice none 0 0, .slice none 0 0] 35 (0, 0))) w.heap.size 35 termZ from Cells.new w 35 termZ)
  have HR1 := Lib.hid (RdRes.below h BX.out)
  have HG1 := Lib.hid (hG.below BX.out)
  have HNR := Lib.hid (show av.ownBlock ≠ some w.heap.size from fun e => Nat.lt_irrefl _ (HVL.out _ e))
  have HRG := Lib.hid (show w.heap.size ≠ g from fun e => by have := HGL.out; omega)
  have c1 := HR1.out.1.cells.cell 1
  have c2 := HR1.out.1.cells.cell 2
  have f2 := HR1.out.1.cells.frozen 2
  simp only [List.getElem?_cons_zero, List.getElem?_cons_succ] at c1 c2
  have hp0 : (0 : Int) ≤ (st.part : Int) := by omega
  have hp1 : (st.part : Int) ≤ 4096 := by have := HOK.out.part; omega
  have hp2 : ((st.part : Int) == 4096) = false := beq_eq_false_iff_ne.2 (by omega)
  have hp3 : ¬ (256 : Int) < dv := by omega
  have hcw : IntKind.i64.wrap (dv + 1) = dv + 1 := IntWalk.i64_in _ (by omega)
  have ep : ((st.part + 1 : Nat) : Int) = (st.part : Int) + 1 := by omega
  have P2 := RdRes.parted HR1.out.1 (st.part + 1) ⟨HOK.out.le, HOK.out.in_, by have := HOK.out.part; show st.part + 1 ≤ 4096; omega, HOK.out.atoms⟩
  rw [ep] at P2
  have HR2 := Lib.hid (RdRes.trans HGL.out HVL.out HR1.out P2)
  have R2 := Lib.hid (R1.out.far (p := ⟨g, 2, none⟩) HRG.out (.int .i64 ((st.part : Int) + 1)))
  have HG2 := Lib.hid (HG1.out.far (w' := (w.alloc (.cells #[.int .i64 0, .int .i64 0, .string ⟨#[]⟩, .int .u32 0, .slice none 0 0, .slice none 0 0] 35 (0, 0))).setCell ⟨g, 2, none⟩ (.int .i64 ((st.part : Int) + 1))) (fun q hq => Below.heap_setCell _ _ _ _ (by have := HR1.out.1.hg; show q ≠ g; omega)))
  have HL := Lib.hid hl
  clear P2 ep h hG hpart hih hdv hspc
  go_enter Tryz.func98, Tryz.ntmps98
  go_upto_region 7 with (fail)
  generalize w.alloc (.cells #[.int .i64 0, .int .i64 0, .string ⟨#[]⟩, .int .u32 0, .slice none 0 0, .slice none 0 0] 35) = w1 at *
  generalize w1.setCell ⟨g, 2, none⟩ (.int .i64 ((st.part : Int) + 1)) = w2 at *
  clear c1 c2 f2 hp0 hp1 hp2 hp3
  have c0 := HR2.out.1.cells.cell 0
  have c1 := HR2.out.1.cells.cell 1
  simp only [List.getElem?_cons_zero, List.getElem?_cons_succ] at c0 c1
  obtain ⟨q, o, rfl, hx⟩ := HR2.out.1.buf.get st.at_ hl
  rw [hk] at hx
  have hx : w2.cell? ⟨q, o + st.at_, none⟩ = some (.int .u8 98) := hx
  clear hk
  have hi0 : ((st.at_ : Int) == (l.length : Int)) = false := beq_eq_false_iff_ne.2 (by omega)
  have hi1 : (0 : Int) ≤ (st.at_ : Int) := by omega
  have hi2 : (st.at_ : Int) < (l.length : Int) := by omega
  have HD := Lib.hid (fun m => And.intro (HR2.out.ext (below_drewN (Below.refl w2.heap.size w2) m)) (And.intro (R2.out.drewN m) (HG2.out.below (below_drewN (Below.refl w2.heap.size w2) m))))
  clear hl HR2 R2 HG2
  go_wp2_with fail
  go_quiet (fail)
  go_wp2_with fail
  go_quiet (fail)
  go_wp2_with fail
  generalize hW3 : w2.drewN _ = w3
  obtain ⟨hr3, hR3, hg3⟩ : RdRes base g l (.slice (some ⟨q, o, none⟩) l.length bc) av w ⟨st.at_, st.part + 1, st.atoms⟩ av w3 ∧ Cells w3 w.heap.size 35 termZ ∧ GtB base w3 := by
    rw [← hW3]; exact HD.out _
  have HR3 := Lib.hid hr3
  have R3 := Lib.hid hR3
  have HG3 := Lib.hid hg3
  clear hr3 hR3 hg3 hW3 HD c0 c1 hx hi0 hi1 hi2
  have HN := Lib.hid (need_any st.at_ 1 HR3.out.1 (by omega))
  refine HN.out.mono ?_
  intro e w4 hr
  rcases needS_cases l st.at_ 1 ⟨st.at_, st.part + 1, st.atoms⟩ with ⟨k, hk⟩ | ⟨hk, hle, hle6⟩
  · rw [hk] at hr HS
    obtain ⟨b, rfl, he, hne, hkk⟩ := hr
    have HP := Lib.hid (RdRes.pan (e := .panicked _) HGL.out HVL.out HR3.out ⟨b, rfl, he, hne, hkk⟩)
    clear he hne hkk hk HN 
    go_wp2
    rw [HS.out]
    exact ⟨rfl, HP.out⟩
  rw [hk] at hr HS
  simp only [Res.bind] at HS
  obtain ⟨sv4, av4, rfl, hsv, hrr⟩ := hr
  have R4 := Lib.hid (R3.out.res hrr HRG.out HNR.out)
  have NR4 := Lib.hid (hrr.apart R3.out.lt HNR.out)
  have HR4 := Lib.hid (RdRes.trans HGL.out HVL.out HR3.out hrr)
  have HG4 := Lib.hid (HG3.out.res HR3.out.1 hrr.2.1)
  obtain ⟨s4a, s4c, rfl⟩ : ∃ a c, sv4 = .slice a (cutB l st.at_ 1).length c := by obtain ⟨a, c, e, _⟩ := hsv; exact ⟨a, c, e⟩
  clear hk hrr HN hsv HR3 R3 HG3 hle hle6
  have HS2 := Lib.hid (show spc = (fourS l st.at_ ⟨st.at_ + 1, st.part + 1, st.atoms⟩).bind fun n st2 => .ok (.mk 1 (sInt n) ⟨#[]⟩ 0 [] []) st2 from by rw [HS.out]; unfold bodyS; rw [if_neg (by decide), if_pos rfl])
  clear HS
  have HS := HS2
  clear HS2
  have HF := Lib.hid (fourE_any st.at_ HR4.out.1)
  go_wp2_with fail
  refine HF.out.mono ?_
  intro e w5 hr
  rcases fourS_cases l st.at_ ⟨st.at_ + 1, st.part + 1, st.atoms⟩ with ⟨k, hk⟩ | ⟨n, hk, _⟩
  · rw [hk] at hr HS
    obtain ⟨b, rfl, he, hne, hkk⟩ := hr
    have HP := Lib.hid (RdRes.pan (e := .panicked _) HGL.out HVL.out HR4.out ⟨b, rfl, he, hne, hkk⟩)
    clear he hne hkk hk HF
    go_wp2
    rw [HS.out]
    exact ⟨rfl, HP.out⟩
  rw [hk] at hr HS
  simp only [Res.bind] at HS
  obtain ⟨_, av5, rfl, ⟨rfl, hn⟩, hrr⟩ := hr
  have R5 := Lib.hid (R4.out.res hrr HRG.out NR4.out)
  have NR5 := Lib.hid (hrr.apart R4.out.lt NR4.out)
  have HR5 := Lib.hid (RdRes.trans HGL.out HVL.out HR4.out hrr)
  have hn0 : (0 : Int) ≤ (n : Int) := by omega
  have hw1 : ((n : Int) + 2147483648) % 4294967296 - 2147483648 = sInt n := by unfold sInt; split <;> omega
  have hw2 : IntKind.i32.wrap (n : Int) = sInt n := by rw [IntKind.wrap_i32]; exact hw1
  have hw3 : wrap32 (n : Int) = sInt n := (IntWalk.i32_left _).symm.trans hw2
  have hs0 : -2147483648 ≤ sInt n := by unfold sInt; split <;> omega
  have hs1 : sInt n ≤ 2147483647 := by unfold sInt; split <;> omega
  generalize sInt n = sn at *
  clear hk hrr HF HR4 R4
  have RF := R5
  unfold termZ at RF
  go_wp2_with (refine wpList_store_blk rfl _ (.tmp 4) (.tmp 105) rfl w.heap.size 0 [.int .i64 1, .int .i64 sn, .string ⟨#[]⟩, .int .u32 0, .slice none 0 0, .slice none 0 0] (by rfl) (by rfl) (by kernel_rfl) (by simp [Value.oneCell']) 35 _ RF.out (by show 0 + 6 ≤ 6; decide) ?_; intro wz hCz hgz)
  have hCz' : Cells wz w.heap.size 35 [.int .i64 1, .int .i64 sn, .string ⟨#[]⟩, .int .u32 0, .slice none 0 0, .slice none 0 0] := hCz
  have z0 := hCz'.cell 0
  have z1 := hCz'.cell 1
  have z2 := hCz'.cell 2
  have z3 := hCz'.cell 3
  have z4 := hCz'.cell 4
  have z5 := hCz'.cell 5
  simp only [List.getElem?_cons_zero, List.getElem?_cons_succ] at z0 z1 z2 z3 z4 z5
  have KZ := Lib.hid (show Keep (fun q => q = w.heap.size) w5 wz from (Keep.refl _ _).grown hgz (fun k hk _ => by cases hk; rfl))
  clear hCz hCz' hgz
  go_wp2
  refine bodyPost_ret (v := .agg ([.int .i64 1, .int .i64 sn, .string ⟨#[]⟩, .int .u32 0, .slice none 0 0, .slice none 0 0]).toArray) (by simp [results, Tryz.results98, go_sem, z0, z1, z2, z3, z4, z5]) rfl ?_
  rw [HS.out]
  refine ⟨_, _, rfl, ⟨_, rfl, ?_⟩, RdRes.late HR5.out HGL.out KZ.out (fun q (hq : q = w.heap.size) => by rw [hq]; exact ⟨Nat.le_refl _, NR5.out⟩)⟩
  refine TmAt.of ⟨show Part (1 : Int) sn ⟨#[]⟩ 0 from ⟨by decide, by decide, by omega, by omega, by decide, by decide, by decide⟩, .slice none 0 0, none, 0, rfl, (show NumsAt _ (.slice none 0 0) [] wz from ⟨none, 0, rfl, ⟨Nat.le_refl _, by decide⟩, Nat.zero_le _, fun i hi => absurd hi (Nat.not_lt_zero _)⟩), ⟨Nat.le_refl _, Nat.zero_le _⟩, (show 0 * 88 ≤ 140737488351232 by decide), ?_⟩
  show ArgsAt _ [] none wz
  rw [ArgsAt]; trivial

set_option maxHeartbeats 32000000 in
set_option maxRecDepth 100000 in
theorem term_k104 {base g : Nat} {l : List UInt8} {bv av : Value} {st : Rd} {w : World} (f : Nat) (dv : Int) (hih : TermC l f) (hdv : dv + 1 = 257 - (f : Int)) (hd0 : 0 ≤ dv) (hd1 : dv ≤ 256) (h : RdIs base g l bv st av w) (hG : GtB base w) (hpart : st.part ≠ 4096) (hl : st.at_ < l.length) (hk : l.getD st.at_ 0 = 104) (spc : Res Tm) (hspc : spc = ((needS l st.at_ 1 ⟨st.at_, st.part + 1, st.atoms⟩).bind fun _ st2 => bodyS l (termS l f) st.at_ 104 st2)) :
    Calls Tryz.prog 98 #[.pointer (some ⟨g, 0, none⟩), .int .i64 dv] w (RetR base g l bv av w spc (TmR w)) := by
  have HS := Lib.hid hspc
  have HIH := Lib.hid hih
  have HDV := Lib.hid hdv
  have HGL := Lib.hid h.cells.lt
  have HVL := Lib.hid (fun q (hq : av.ownBlock = some q) => (h.atoms.lt hq).1)
  have HOK := Lib.hid h.ok
  obtain ⟨ba, bc, rfl⟩ := h.form
  have BX := Lib.hid ((Below.refl w.heap.size w).alloc (Nat.le_refl _) (.cells #[.int .i64 0, .int .i64 0, .string ⟨#[]⟩, .int .u32 0, .slice none 0 0, .slice none 0 0] 35 (0, 0)))
  have R1 := Lib.hid (show Cells (w.alloc (.cells #[.int .i64 0, .int .i64 0, .string ⟨#[]⟩, .int .u32 0, .slice none 0 0, .slice none 0 0] 35 (0, 0))) w.heap.size 35 termZ from Cells.new w 35 termZ)
  have HR1 := Lib.hid (RdRes.below h BX.out)
  have HG1 := Lib.hid (hG.below BX.out)
  have HNR := Lib.hid (show av.ownBlock ≠ some w.heap.size from fun e => Nat.lt_irrefl _ (HVL.out _ e))
  have HRG := Lib.hid (show w.heap.size ≠ g from fun e => by have := HGL.out; omega)
  have c1 := HR1.out.1.cells.cell 1
  have c2 := HR1.out.1.cells.cell 2
  have f2 := HR1.out.1.cells.frozen 2
  simp only [List.getElem?_cons_zero, List.getElem?_cons_succ] at c1 c2
  have hp0 : (0 : Int) ≤ (st.part : Int) := by omega
  have hp1 : (st.part : Int) ≤ 4096 := by have := HOK.out.part; omega
  have hp2 : ((st.part : Int) == 4096) = false := beq_eq_false_iff_ne.2 (by omega)
  have hp3 : ¬ (256 : Int) < dv := by omega
  have hcw : IntKind.i64.wrap (dv + 1) = dv + 1 := IntWalk.i64_in _ (by omega)
  have ep : ((st.part + 1 : Nat) : Int) = (st.part : Int) + 1 := by omega
  have P2 := RdRes.parted HR1.out.1 (st.part + 1) ⟨HOK.out.le, HOK.out.in_, by have := HOK.out.part; show st.part + 1 ≤ 4096; omega, HOK.out.atoms⟩
  rw [ep] at P2
  have HR2 := Lib.hid (RdRes.trans HGL.out HVL.out HR1.out P2)
  have R2 := Lib.hid (R1.out.far (p := ⟨g, 2, none⟩) HRG.out (.int .i64 ((st.part : Int) + 1)))
  have HG2 := Lib.hid (HG1.out.far (w' := (w.alloc (.cells #[.int .i64 0, .int .i64 0, .string ⟨#[]⟩, .int .u32 0, .slice none 0 0, .slice none 0 0] 35 (0, 0))).setCell ⟨g, 2, none⟩ (.int .i64 ((st.part : Int) + 1))) (fun q hq => Below.heap_setCell _ _ _ _ (by have := HR1.out.1.hg; show q ≠ g; omega)))
  have HL := Lib.hid hl
  clear P2 ep h hG hpart hih hdv hspc
  go_enter Tryz.func98, Tryz.ntmps98
  go_upto_region 7 with (fail)
  generalize w.alloc (.cells #[.int .i64 0, .int .i64 0, .string ⟨#[]⟩, .int .u32 0, .slice none 0 0, .slice none 0 0] 35) = w1 at *
  generalize w1.setCell ⟨g, 2, none⟩ (.int .i64 ((st.part : Int) + 1)) = w2 at *
  clear c1 c2 f2 hp0 hp1 hp2 hp3
  have c0 := HR2.out.1.cells.cell 0
  have c1 := HR2.out.1.cells.cell 1
  simp only [List.getElem?_cons_zero, List.getElem?_cons_succ] at c0 c1
  obtain ⟨q, o, rfl, hx⟩ := HR2.out.1.buf.get st.at_ hl
  rw [hk] at hx
  have hx : w2.cell? ⟨q, o + st.at_, none⟩ = some (.int .u8 104) := hx
  clear hk
  have hi0 : ((st.at_ : Int) == (l.length : Int)) = false := beq_eq_false_iff_ne.2 (by omega)
  have hi1 : (0 : Int) ≤ (st.at_ : Int) := by omega
  have hi2 : (st.at_ : Int) < (l.length : Int) := by omega
  have HD := Lib.hid (fun m => And.intro (HR2.out.ext (below_drewN (Below.refl w2.heap.size w2) m)) (And.intro (R2.out.drewN m) (HG2.out.below (below_drewN (Below.refl w2.heap.size w2) m))))
  clear hl HR2 R2 HG2
  go_wp2_with fail
  go_quiet (fail)
  go_wp2_with fail
  go_quiet (fail)
  go_wp2_with fail
  generalize hW3 : w2.drewN _ = w3
  obtain ⟨hr3, hR3, hg3⟩ : RdRes base g l (.slice (some ⟨q, o, none⟩) l.length bc) av w ⟨st.at_, st.part + 1, st.atoms⟩ av w3 ∧ Cells w3 w.heap.size 35 termZ ∧ GtB base w3 := by
    rw [← hW3]; exact HD.out _
  have HR3 := Lib.hid hr3
  have R3 := Lib.hid hR3
  have HG3 := Lib.hid hg3
  clear hr3 hR3 hg3 hW3 HD c0 c1 hx hi0 hi1 hi2
  have HN := Lib.hid (need_any st.at_ 1 HR3.out.1 (by omega))
  refine HN.out.mono ?_
  intro e w4 hr
  rcases needS_cases l st.at_ 1 ⟨st.at_, st.part + 1, st.atoms⟩ with ⟨k, hk⟩ | ⟨hk, hle, hle6⟩
  · rw [hk] at hr HS
    obtain ⟨b, rfl, he, hne, hkk⟩ := hr
    have HP := Lib.hid (RdRes.pan (e := .panicked _) HGL.out HVL.out HR3.out ⟨b, rfl, he, hne, hkk⟩)
    clear he hne hkk hk HN 
    go_wp2
    rw [HS.out]
    exact ⟨rfl, HP.out⟩
  rw [hk] at hr HS
  simp only [Res.bind] at HS
  obtain ⟨sv4, av4, rfl, hsv, hrr⟩ := hr
  have R4 := Lib.hid (R3.out.res hrr HRG.out HNR.out)
  have NR4 := Lib.hid (hrr.apart R3.out.lt HNR.out)
  have HR4 := Lib.hid (RdRes.trans HGL.out HVL.out HR3.out hrr)
  have HG4 := Lib.hid (HG3.out.res HR3.out.1 hrr.2.1)
  obtain ⟨s4a, s4c, rfl⟩ : ∃ a c, sv4 = .slice a (cutB l st.at_ 1).length c := by obtain ⟨a, c, e, _⟩ := hsv; exact ⟨a, c, e⟩
  clear hk hrr HN hsv HR3 R3 HG3 hle hle6
  have HS2 := Lib.hid (show spc = (countS l st.at_ 104 ⟨st.at_ + 1, st.part + 1, st.atoms⟩).bind fun n st2 => (rowS (termS l f) n st2).bind fun r st3 => .ok (.mk 5 0 ⟨#[]⟩ 0 [] r) st3 from by rw [HS.out]; unfold bodyS; rw [if_neg (by decide), if_neg (by decide), if_neg (by decide), if_pos (by decide)])
  clear HS
  have HS := HS2
  clear HS2
  have BT := Lib.hid ((Below.refl w4.heap.size w4).alloc (Nat.le_refl _) (.cells #[.int .i64 5, .int .i64 0, .string ⟨#[]⟩, .int .u32 0, .slice none 0 0, .slice none 0 0] 35 (0, 0)))
  have T5 := Lib.hid (Cells.new w4 35 [.int .i64 5, .int .i64 0, .string ⟨#[]⟩, .int .u32 0, .slice none 0 0, .slice none 0 0])
  have HR5 := Lib.hid (HR4.out.ext BT.out)
  have HG5 := Lib.hid (HG4.out.below BT.out)
  have R5 := Lib.hid (R4.out.below BT.out)
  have NT4 := Lib.hid (show av4.ownBlock ≠ some w4.heap.size from fun e => Nat.lt_irrefl _ (HR4.out.1.atoms.lt e).1)
  have HTG := Lib.hid (show w4.heap.size ≠ g from fun e => by have := HR4.out.1.cells.lt; omega)
  have HGT := Lib.hid (show g < w4.heap.size + 1 from by have := HR4.out.1.cells.lt; omega)
  have HWT := Lib.hid (show w.heap.size ≤ w4.heap.size from by have := R4.out.lt; omega)
  have HTR := Lib.hid (show w4.heap.size ≠ w.heap.size from by have := R4.out.lt; omega)
  have HC := Lib.hid (count_any st.at_ 104 HR5.out.1)
  clear HR4 HG4 R4
  go_wp2_with fail
  generalize w4.alloc (.cells #[.int .i64 5, .int .i64 0, .string ⟨#[]⟩, .int .u32 0, .slice none 0 0, .slice none 0 0] 35) = w5 at *
  refine HC.out.mono ?_
  intro e w6 hr
  cases hk : countS l st.at_ 104 ⟨st.at_ + 1, st.part + 1, st.atoms⟩ with
  | bad k2 =>
    rw [hk] at hr HS
    obtain ⟨b, rfl, he, hne, hkk⟩ := hr
    have HP := Lib.hid (RdRes.pan (e := .panicked _) HGL.out HVL.out HR5.out ⟨b, rfl, he, hne, hkk⟩)
    clear he hne hkk hk HC
    go_wp2
    rw [HS.out]
    exact ⟨rfl, HP.out⟩
  | ok n st6 =>
    rw [hk] at hr HS
    simp only [Res.bind] at HS
    obtain ⟨_, av6, rfl, ⟨rfl, hn⟩, hrr⟩ := hr
    have HNN := Lib.hid hn
    have HG0 := Lib.hid (HG5.out.res HR5.out.1 hrr.2.1)
    have R0 := Lib.hid (R5.out.res hrr HRG.out NR4.out)
    have T0 := Lib.hid (T5.out.res hrr HTG.out NT4.out)
    have NR0 := Lib.hid (hrr.apart R5.out.lt NR4.out)
    have NT0 := Lib.hid (hrr.apart T5.out.lt NT4.out)
    have HR0 := Lib.hid (RdRes.trans HGL.out HVL.out HR5.out hrr)
    clear hk hrr HC hn HR5 HG5 R5 T5 NR4 NT4
    go_wp2_with fail
    go_loopw [11] (fun i wr => ∃ (k : Nat) (rows : List Tm) (stk : Rd) (avk lv : Value), k ≤ n ∧ i = .int .i64 ((n - k : Nat) : Int) ∧ RdRes base g l (.slice (some ⟨q, o, none⟩) l.length bc) av w stk avk wr ∧ GtB base wr ∧ Cells wr w.heap.size 35 termZ ∧ Cells wr (w4.heap.size) 35 [.int .i64 5, .int .i64 0, .string ⟨#[]⟩, .int .u32 0, .slice none 0 0, lv] ∧ avk.ownBlock ≠ some w.heap.size ∧ avk.ownBlock ≠ some (w4.heap.size) ∧ RowR (w4.heap.size + 1) avk lv rows wr ∧ rows.length ≤ stk.part ∧ spc = (rowS (termS l f) (n - k) stk).bind fun r st3 => .ok (.mk 5 0 ⟨#[]⟩ 0 [] (rows ++ r)) st3) (fun i _ => (intOf i).toNat)
    case atStart => exact ⟨0, [], _, _, .slice none 0 0, Nat.zero_le _, rfl, HR0.out, HG0.out, R0.out, T0.out, NR0.out, NT0.out, RowR.nil _ _ _, Nat.zero_le _, HS.out⟩
    case round =>
      obtain ⟨k, rows, stk, avk, lv, hk, rfl, hres, hg, hRr, hTr, hnr, hnt, hrow, hlen, hsp⟩ := hrel
      have HRk := Lib.hid hres
      have HGk := Lib.hid hg
      have RR := Lib.hid hRr
      have TT := Lib.hid hTr
      have NR := Lib.hid hnr
      have NT := Lib.hid hnt
      have ROW := Lib.hid hrow
      have HLEN := Lib.hid hlen
      have SP := Lib.hid hsp
      clear HS HR0 HG0 R0 T0 NR0 NT0
      obtain ⟨la, lc, e⟩ := hrow.shape
      subst e
      clear hres hg hRr hTr hnr hnt hrow hlen hsp
      by_cases hlt : k < n
      · have hki : (0 : Int) < ((n - k : Nat) : Int) := by omega
        have hkx : ((n - k : Nat) : Int) ≤ 4294967296 := by have := HNN.out; omega
        have HKK := Lib.hid hlt
        have SP2 := Lib.hid (show spc = (termS l f stk).bind fun x st2 => (rowS (termS l f) (n - (k + 1)) st2).bind fun r st3 => .ok (.mk 5 0 ⟨#[]⟩ 0 [] (rows ++ (x :: r))) st3 from by
          rw [SP.out, show n - k = (n - (k + 1)) + 1 by omega, rowS, bind_assoc]
          congr 1; funext x st2; rw [bind_assoc]; rfl)
        clear hlt SP
        go_wp2_with fail
        refine wp_region_L (S := fun X => Cells X (w4.heap.size) 35 [.int .i64 5, .int .i64 0, .string ⟨#[]⟩, .int .u32 0, .slice none 0 0, .slice la rows.length lc]) (F := [9]) (by kernel_rfl) (TT.out.below (Below.drew (Below.refl _ _))) (fun hHeld => ?_)
        refine wpAnyL_easy (i := 0) (v := (.pointer (some ⟨w4.heap.size, 5, none⟩))) (by simp only [List.getElem?_toArray, List.getElem?_cons_succ, List.getElem?_cons_zero]; rfl) (by kernel_rfl) (by kernel_rfl) (by kernel_rfl) (by exact fun _ _ _ h => h) (Or.inl ⟨by rfl, fun _ _ => rfl⟩) ?_
        try simp only [Act.put, List.setIfInBounds_toArray, List.set_cons_zero, List.set_cons_succ]
        refine wpAnyL_take (i := 1) (v := (.slice la rows.length lc)) (by simp only [List.getElem?_toArray, List.getElem?_cons_succ, List.getElem?_cons_zero]; rfl) (by kernel_rfl) (by kernel_rfl) (by kernel_rfl) (by kernel_rfl) (by exact fun _ _ _ h => h) (Or.inl ⟨by rfl, by intro W hSw; have x0 := show W.cell? ⟨w4.heap.size, 5, none⟩ = some (.slice la rows.length lc) from hSw.cell 5; go_simp; all_goals first | rfl | exact ⟨rfl, rfl, rfl, rfl, rfl, rfl⟩⟩) (by assumption) ?_
        try simp only [Act.put, List.setIfInBounds_toArray, List.set_cons_zero, List.set_cons_succ]
        refine wpAnyL_easy (i := 2) (v := (.pointer (some ⟨g, 0, none⟩))) (by simp only [List.getElem?_toArray, List.getElem?_cons_succ, List.getElem?_cons_zero]; rfl) (by kernel_rfl) (by kernel_rfl) (by kernel_rfl) (by exact fun _ _ _ h => h) (Or.inl ⟨by rfl, fun _ _ => rfl⟩) ?_
        try simp only [Act.put, List.setIfInBounds_toArray, List.set_cons_zero, List.set_cons_succ]
        refine wpAnyL_easy (i := 3) (v := (.int .i64 dv)) (by simp only [List.getElem?_toArray, List.getElem?_cons_succ, List.getElem?_cons_zero]; rfl) (by kernel_rfl) (by kernel_rfl) (by kernel_rfl) (by exact fun _ _ _ h => h) (Or.inl ⟨by rfl, fun _ _ => rfl⟩) ?_
        try simp only [Act.put, List.setIfInBounds_toArray, List.set_cons_zero, List.set_cons_succ]
        refine wpAnyL_easy (i := 4) (v := (.int .i64 (dv + 1))) (by simp only [List.getElem?_toArray, List.getElem?_cons_succ, List.getElem?_cons_zero]; rfl) (by kernel_rfl) (by kernel_rfl) (by kernel_rfl) (by exact fun _ _ _ h => h) (Or.inl ⟨by rfl, by intro W _; go_simp; all_goals first | rfl | exact ⟨rfl, rfl, rfl, rfl, rfl, rfl⟩⟩) ?_
        try simp only [Act.put, List.setIfInBounds_toArray, List.set_cons_zero, List.set_cons_succ]
        have BD := Lib.hid (show Below wr.heap.size wr wr.drew from Below.drew (Below.refl _ _))
        have HRd := Lib.hid (HRk.out.ext BD.out)
        have HGd := Lib.hid (HGk.out.below BD.out)
        have RRd := Lib.hid (RR.out.below BD.out)
        have TTd := Lib.hid (TT.out.below BD.out)
        have ROWd := Lib.hid (ROW.out.below BD.out)
        clear HRk HGk RR TT ROW hHeld
        generalize wr.drew = wd at *
        have HF := Lib.hid (HIH.out base g _ avk stk wd HRd.out.1 HGd.out)
        rw [← HDV.out] at HF
        refine wpAnyL_ready (rs := [5]) (by kernel_rfl) (by simp) ?_
        refine AllReadyL.cons (by simp only [List.getElem?_toArray, List.getElem?_cons_succ, List.getElem?_cons_zero]; rfl) (fun K hK => ?_) AllReadyL.nil
        go_simp
        refine HF.out.mono ?_
        intro e w7 hr
        have HS := SP2
        cases hk : termS l f stk with
        | bad k2 =>
          rw [hk] at hr HS
          obtain ⟨b, rfl, he, hne, hkk⟩ := hr
          have HP := Lib.hid (RdRes.pan (e := .panicked _) HGL.out HVL.out HRd.out ⟨b, rfl, he, hne, hkk⟩)
          clear he hne hkk hk HF
          try go_wp2
          rw [HS.out]
          exact ⟨rfl, HP.out⟩
        | ok x st7 =>
          rw [hk] at hr HS
          simp only [Res.bind] at HS
          obtain ⟨_, av7, rfl, htm, hrr⟩ := hr
          obtain ⟨na7, nc7, a7, cap7, rfl, ht7⟩ := htm.six
          have HOKX := Lib.hid (termS_ok f _ _ _ hk).1
          have R7 := Lib.hid (RRd.out.res hrr HRG.out NR.out)
          have T7 := Lib.hid (TTd.out.res hrr HTG.out NT.out)
          have NR7 := Lib.hid (hrr.apart RRd.out.lt NR.out)
          have NT7 := Lib.hid (hrr.apart TTd.out.lt NT.out)
          have ROW7 := Lib.hid (ROWd.out.res hrr (by have := HGT.out; omega))
          have HR7 := Lib.hid (RdRes.trans HGL.out HVL.out HRd.out hrr)
          have HG7 := Lib.hid (HGd.out.res HRd.out.1 hrr.2.1)
          have HT7 := Lib.hid ht7
          have HLV := Lib.hid (show ∀ q, (Value.slice la rows.length lc).ownBlock = some q → q < wd.heap.size from fun q hq => (ROWd.out.ts.block hq).2.1)
          have HTW := Lib.hid TTd.out.lt
          clear hk hrr htm ht7 HF HRd RRd TTd ROWd HGd
          refine hK.out _ _ (T7.out) (fun hHeld => ?_)
          try simp only [Act.put, List.setIfInBounds_toArray, List.set_cons_zero, List.set_cons_succ]
          clear hHeld
          refine wpAnyL_ready (rs := [6]) (by kernel_rfl) (by simp) ?_
          refine AllReadyL.cons (by simp only [List.getElem?_toArray, List.getElem?_cons_succ, List.getElem?_cons_zero]; rfl) (fun K hK => ?_) AllReadyL.nil
          go_simp
          have BN := Lib.hid ((Below.refl w7.heap.size w7).alloc (Nat.le_refl _) (.cells #[.int .i64 x.kind, .int .i64 x.int, .string x.text, .int .u32 x.cr, .slice na7 x.nums.length nc7, .slice a7 x.args.length cap7] 35 (0, 0)))
          obtain ⟨a8, n8, c8, w8, hrun, hrow8, hk8⟩ := ROW7.out.app HT7.out (fun q hq hs => ⟨by have := HTW.out; have := hs.1; omega, hs.2, fun e => by have := HLV.out q e; have := hs.1; omega⟩) (by have := HLEN.out; have := HOKX.out; have := HR7.out.1.ok.part; omega) (by have := T7.out.lt; omega) (fun q hq => (HR7.out.1.atoms.lt hq).1)
          have HRUN := Lib.hid hrun
          have ROW8 := Lib.hid hrow8
          have K8 := Lib.hid hk8
          have T8 := Lib.hid (T7.out.keep K8.out (fun hq => by have := (ROW7.out.ts.block hq).1; omega))
          have R8 := Lib.hid (R7.out.keep K8.out (fun hq => by have := (ROW7.out.ts.block hq).1; have := HWT.out; omega))
          have HR8 := Lib.hid (RdRes.late HR7.out HGL.out K8.out (fun q hq => ⟨by have := (ROW7.out.ts.block hq).1; have := HWT.out; omega, ROW7.out.ne q hq⟩))
          have HG8 := Lib.hid (HG7.out.far (fun q hq => K8.out.block q (by have := HR7.out.1.base_le; omega) (fun e => by have := (ROW7.out.ts.block e).1; have := HWT.out; have := HGL.out; have := HR7.out.1.hg; omega)))
          clear hrun hrow8 hk8
          refine hK.out _ _ (T7.out.below BN.out) (fun hHeld => ?_)
          try simp only [Act.put, List.setIfInBounds_toArray, List.set_cons_zero, List.set_cons_succ]
          refine wpAnyL_ready (rs := [7]) (by kernel_rfl) (by simp) ?_
          refine AllReadyL.cons (by simp only [List.getElem?_toArray, List.getElem?_cons_succ, List.getElem?_cons_zero]; rfl) (fun K hK => ?_) AllReadyL.nil
          refine step_app_eq (by rfl) _ _ _ _ (by rfl) _ _ (.slice a8 n8 c8) w8 (by rfl) (by rfl) HRUN.out ?_
          refine hK.out _ _ (T8.out) (fun hHeld => ?_)
          try simp only [Act.put, List.setIfInBounds_toArray, List.set_cons_zero, List.set_cons_succ]
          clear hHeld
          have d5 := T8.out.cell 5
          have f5 := T8.out.frozen 5
          simp only [List.getElem?_cons_zero, List.getElem?_cons_succ] at d5
          refine wpAnyL_easy (i := 8) (v := (.pointer (some ⟨w4.heap.size, 5, none⟩))) (by simp only [List.getElem?_toArray, List.getElem?_cons_succ, List.getElem?_cons_zero]; rfl) (by kernel_rfl) (by kernel_rfl) (by kernel_rfl) (by exact fun _ _ _ h => h) (Or.inl ⟨by rfl, fun _ _ => rfl⟩) ?_
          try simp only [Act.put, List.setIfInBounds_toArray, List.set_cons_zero, List.set_cons_succ]
          refine wpAnyL_ready (rs := [9]) (by kernel_rfl) (by simp) ?_
          refine AllReadyL.last (by simp only [List.getElem?_toArray, List.getElem?_cons_succ, List.getElem?_cons_zero]; rfl) (by kernel_rfl) (fun K hK => ?_) AllReadyL.nil
          go_simp
          refine hK.out _ _ ?_
          try simp only [Act.put, List.setIfInBounds_toArray, List.set_cons_zero, List.set_cons_succ]
          refine wpAnyL_done (by kernel_rfl) ?_ _
          have T9 := Lib.hid (show Cells _ (w4.heap.size) 35 [.int .i64 5, .int .i64 0, .string ⟨#[]⟩, .int .u32 0, .slice none 0 0, .slice a8 n8 c8] from T8.out.set_ 5 (.slice a8 n8 c8))
          have R9 := Lib.hid (R8.out.far (p := ⟨w4.heap.size, 5, none⟩) (fun e => HTR.out e.symm) (.slice a8 n8 c8))
          have K9 := Lib.hid (show Keep (fun q => q = w4.heap.size) w8 (w8.setCell ⟨w4.heap.size, 5, none⟩ (.slice a8 n8 c8)) from (Keep.refl (fun q => q = w4.heap.size) w8).setCell (p := ⟨w4.heap.size, 5, none⟩) (fun _ => rfl) (.slice a8 n8 c8))
          have HR9 := Lib.hid (RdRes.late HR8.out HGL.out K9.out (fun q (hq : q = w4.heap.size) => by rw [hq]; exact ⟨HWT.out, NT7.out⟩))
          have HG9 := Lib.hid (HG8.out.far (fun q hq => K9.out.block q (by have := HR8.out.1.base_le; omega) (fun (e : q = w4.heap.size) => by have := HWT.out; have := HGL.out; have := HR8.out.1.hg; omega)))
          have ROW9 := Lib.hid (ROW8.out.keep K9.out (fun q (hq : q = w4.heap.size) => .inl (by omega)))
          have LEN9 := Lib.hid (show (rows ++ [x]).length ≤ st7.part from by have := HLEN.out; have := HOKX.out; rw [List.length_append, List.length_singleton]; omega)
          have SP9 := Lib.hid (show spc = (rowS (termS l f) (n - (k + 1)) st7).bind fun r st3 => .ok (.mk 5 0 ⟨#[]⟩ 0 [] ((rows ++ [x]) ++ r)) st3 from by
            rw [HS.out]; simp only [List.append_assoc, List.singleton_append]; rfl)
          have e9 : ((n - k : Nat) : Int) - 1 = ((n - (k + 1) : Nat) : Int) := by have := HKK.out; omega
          clear d5 f5 T8 R8 HR8 K8 HG8
          go_wp2
          go_roundw
          case rel => exact ⟨k + 1, rows ++ [x], _, av7, _, by have := HKK.out; omega, by go_num, HR9.out, HG9.out, R9.out, T9.out, NR7.out, NT7.out, ROW9.out, LEN9.out, SP9.out⟩
          case measure => simp [intOf]; have := HKK.out; omega
      · have hki : ¬ (0 : Int) < ((n - k : Nat) : Int) := by omega
        have SPE := Lib.hid (show spc = .ok (.mk 5 0 ⟨#[]⟩ 0 [] rows) stk from by
          rw [SP.out, show n - k = 0 by omega, rowS]; simp only [Res.bind]; rw [List.append_nil])
        clear hlt SP
        have LENF := Lib.hid (show rows.length ≤ 100000 from by have := HLEN.out; have := HRk.out.1.ok.part; omega)
        have k0 := TT.out.cell 0
        have k1 := TT.out.cell 1
        have k2 := TT.out.cell 2
        have k3 := TT.out.cell 3
        have k4 := TT.out.cell 4
        have k5 := TT.out.cell 5
        simp only [List.getElem?_cons_zero, List.getElem?_cons_succ] at k0 k1 k2 k3 k4 k5
        have RF := RR
        unfold termZ at RF
        go_wp2_with (refine wpList_store_blk rfl _ (.tmp 4) (.tmp 152) rfl w.heap.size 0 [.int .i64 5, .int .i64 0, .string ⟨#[]⟩, .int .u32 0, .slice none 0 0, .slice la rows.length lc] (by rfl) (by rfl) (by kernel_rfl) (by simp [Value.oneCell']) 35 _ RF.out (by show 0 + 6 ≤ 6; decide) ?_; intro wz hCz hgz)
        have hCz' : Cells wz w.heap.size 35 [.int .i64 5, .int .i64 0, .string ⟨#[]⟩, .int .u32 0, .slice none 0 0, .slice la rows.length lc] := hCz
        have z0 := hCz'.cell 0
        have z1 := hCz'.cell 1
        have z2 := hCz'.cell 2
        have z3 := hCz'.cell 3
        have z4 := hCz'.cell 4
        have z5 := hCz'.cell 5
        simp only [List.getElem?_cons_zero, List.getElem?_cons_succ] at z0 z1 z2 z3 z4 z5
        have KZ := Lib.hid (show Keep (fun q => q = w.heap.size) wr wz from (Keep.refl _ _).grown hgz (fun k hk _ => by cases hk; rfl))
        clear hCz hCz' hgz k0 k1 k2 k3 k4 k5
        go_wp2
        refine bodyPost_ret (v := .agg ([.int .i64 5, .int .i64 0, .string ⟨#[]⟩, .int .u32 0, .slice none 0 0, .slice la rows.length lc]).toArray) (by simp [results, Tryz.results98, go_sem, z0, z1, z2, z3, z4, z5]) rfl ?_
        rw [SPE.out]
        refine ⟨_, _, rfl, ⟨_, rfl, ?_⟩, RdRes.late HRk.out HGL.out KZ.out (fun q (hq : q = w.heap.size) => by rw [hq]; exact ⟨Nat.le_refl _, NR.out⟩)⟩
        obtain ⟨ra, rc, re, rcap, rargs⟩ := (ROW.out.keep KZ.out (fun q (hq : q = w.heap.size) => .inl (by have := HWT.out; omega))).args
        refine TmAt.of ⟨show Part (5 : Int) 0 ⟨#[]⟩ 0 from ⟨by decide, by decide, by decide, by decide, by decide, by decide, by decide⟩, _, ra, rc, by rw [re]; rfl, (show NumsAt _ (.slice none 0 0) [] wz from ⟨none, 0, rfl, ⟨Nat.le_refl _, by decide⟩, Nat.zero_le _, fun i hi => absurd hi (Nat.not_lt_zero _)⟩), rcap, by show rows.length * 88 ≤ 140737488351232; have := LENF.out; omega, ?_⟩
        exact rargs.mono (fun q _ hq => ⟨by have := HWT.out; have := hq.1; omega, hq.2⟩)

set_option maxHeartbeats 32000000 in
set_option maxRecDepth 100000 in
theorem term_k105 {base g : Nat} {l : List UInt8} {bv av : Value} {st : Rd} {w : World} (f : Nat) (dv : Int) (hih : TermC l f) (hdv : dv + 1 = 257 - (f : Int)) (hd0 : 0 ≤ dv) (hd1 : dv ≤ 256) (h : RdIs base g l bv st av w) (hG : GtB base w) (hpart : st.part ≠ 4096) (hl : st.at_ < l.length) (hk : l.getD st.at_ 0 = 105) (spc : Res Tm) (hspc : spc = ((needS l st.at_ 1 ⟨st.at_, st.part + 1, st.atoms⟩).bind fun _ st2 => bodyS l (termS l f) st.at_ 105 st2)) :
    Calls Tryz.prog 98 #[.pointer (some ⟨g, 0, none⟩), .int .i64 dv] w (RetR base g l bv av w spc (TmR w)) := by
  have HS := Lib.hid hspc
  have HIH := Lib.hid hih
  have HDV := Lib.hid hdv
  have HGL := Lib.hid h.cells.lt
  have HVL := Lib.hid (fun q (hq : av.ownBlock = some q) => (h.atoms.lt hq).1)
  have HOK := Lib.hid h.ok
  obtain ⟨ba, bc, rfl⟩ := h.form
  have BX := Lib.hid ((Below.refl w.heap.size w).alloc (Nat.le_refl _) (.cells #[.int .i64 0, .int .i64 0, .string ⟨#[]⟩, .int .u32 0, .slice none 0 0, .slice none 0 0] 35 (0, 0)))
  have R1 := Lib.hid (show Cells (w.alloc (.cells #[.int .i64 0, .int .i64 0, .string ⟨#[]⟩, .int .u32 0, .slice none 0 0, .slice none 0 0] 35 (0, 0))) w.heap.size 35 termZ from Cells.new w 35 termZ)
  have HR1 := Lib.hid (RdRes.below h BX.out)
  have HG1 := Lib.hid (hG.below BX.out)
  have HNR := Lib.hid (show av.ownBlock ≠ some w.heap.size from fun e => Nat.lt_irrefl _ (HVL.out _ e))
  have HRG := Lib.hid (show w.heap.size ≠ g from fun e => by have := HGL.out; omega)
  have c1 := HR1.out.1.cells.cell 1
  have c2 := HR1.out.1.cells.cell 2
  have f2 := HR1.out.1.cells.frozen 2
  simp only [List.getElem?_cons_zero, List.getElem?_cons_succ] at c1 c2
  have hp0 : (0 : Int) ≤ (st.part : Int) := by omega
  have hp1 : (st.part : Int) ≤ 4096 := by have := HOK.out.part; omega
  have hp2 : ((st.part : Int) == 4096) = false := beq_eq_false_iff_ne.2 (by omega)
  have hp3 : ¬ (256 : Int) < dv := by omega
  have hcw : IntKind.i64.wrap (dv + 1) = dv + 1 := IntWalk.i64_in _ (by omega)
  have ep : ((st.part + 1 : Nat) : Int) = (st.part : Int) + 1 := by omega
  have P2 := RdRes.parted HR1.out.1 (st.part + 1) ⟨HOK.out.le, HOK.out.in_, by have := HOK.out.part; show st.part + 1 ≤ 4096; omega, HOK.out.atoms⟩
  rw [ep] at P2
  have HR2 := Lib.hid (RdRes.trans HGL.out HVL.out HR1.out P2)
  have R2 := Lib.hid (R1.out.far (p := ⟨g, 2, none⟩) HRG.out (.int .i64 ((st.part : Int) + 1)))
  have HG2 := Lib.hid (HG1.out.far (w' := (w.alloc (.cells #[.int .i64 0, .int .i64 0, .string ⟨#[]⟩, .int .u32 0, .slice none 0 0, .slice none 0 0] 35 (0, 0))).setCell ⟨g, 2, none⟩ (.int .i64 ((st.part : Int) + 1))) (fun q hq => Below.heap_setCell _ _ _ _ (by have := HR1.out.1.hg; show q ≠ g; omega)))
  have HL := Lib.hid hl
  clear P2 ep h hG hpart hih hdv hspc
  go_enter Tryz.func98, Tryz.ntmps98
  go_upto_region 7 with (fail)
  generalize w.alloc (.cells #[.int .i64 0, .int .i64 0, .string ⟨#[]⟩, .int .u32 0, .slice none 0 0, .slice none 0 0] 35) = w1 at *
  generalize w1.setCell ⟨g, 2, none⟩ (.int .i64 ((st.part : Int) + 1)) = w2 at *
  clear c1 c2 f2 hp0 hp1 hp2 hp3
  have c0 := HR2.out.1.cells.cell 0
  have c1 := HR2.out.1.cells.cell 1
  simp only [List.getElem?_cons_zero, List.getElem?_cons_succ] at c0 c1
  obtain ⟨q, o, rfl, hx⟩ := HR2.out.1.buf.get st.at_ hl
  rw [hk] at hx
  have hx : w2.cell? ⟨q, o + st.at_, none⟩ = some (.int .u8 105) := hx
  clear hk
  have hi0 : ((st.at_ : Int) == (l.length : Int)) = false := beq_eq_false_iff_ne.2 (by omega)
  have hi1 : (0 : Int) ≤ (st.at_ : Int) := by omega
  have hi2 : (st.at_ : Int) < (l.length : Int) := by omega
  have HD := Lib.hid (fun m => And.intro (HR2.out.ext (below_drewN (Below.refl w2.heap.size w2) m)) (And.intro (R2.out.drewN m) (HG2.out.below (below_drewN (Below.refl w2.heap.size w2) m))))
  clear hl HR2 R2 HG2
  go_wp2_with fail
  go_quiet (fail)
  go_wp2_with fail
  go_quiet (fail)
  go_wp2_with fail
  generalize hW3 : w2.drewN _ = w3
  obtain ⟨hr3, hR3, hg3⟩ : RdRes base g l (.slice (some ⟨q, o, none⟩) l.length bc) av w ⟨st.at_, st.part + 1, st.atoms⟩ av w3 ∧ Cells w3 w.heap.size 35 termZ ∧ GtB base w3 := by
    rw [← hW3]; exact HD.out _
  have HR3 := Lib.hid hr3
  have R3 := Lib.hid hR3
  have HG3 := Lib.hid hg3
  clear hr3 hR3 hg3 hW3 HD c0 c1 hx hi0 hi1 hi2
  have HN := Lib.hid (need_any st.at_ 1 HR3.out.1 (by omega))
  refine HN.out.mono ?_
  intro e w4 hr
  rcases needS_cases l st.at_ 1 ⟨st.at_, st.part + 1, st.atoms⟩ with ⟨k, hk⟩ | ⟨hk, hle, hle6⟩
  · rw [hk] at hr HS
    obtain ⟨b, rfl, he, hne, hkk⟩ := hr
    have HP := Lib.hid (RdRes.pan (e := .panicked _) HGL.out HVL.out HR3.out ⟨b, rfl, he, hne, hkk⟩)
    clear he hne hkk hk HN 
    go_wp2
    rw [HS.out]
    exact ⟨rfl, HP.out⟩
  rw [hk] at hr HS
  simp only [Res.bind] at HS
  obtain ⟨sv4, av4, rfl, hsv, hrr⟩ := hr
  have R4 := Lib.hid (R3.out.res hrr HRG.out HNR.out)
  have NR4 := Lib.hid (hrr.apart R3.out.lt HNR.out)
  have HR4 := Lib.hid (RdRes.trans HGL.out HVL.out HR3.out hrr)
  have HG4 := Lib.hid (HG3.out.res HR3.out.1 hrr.2.1)
  obtain ⟨s4a, s4c, rfl⟩ : ∃ a c, sv4 = .slice a (cutB l st.at_ 1).length c := by obtain ⟨a, c, e, _⟩ := hsv; exact ⟨a, c, e⟩
  clear hk hrr HN hsv HR3 R3 HG3 hle hle6
  have HS2 := Lib.hid (show spc = (countS l st.at_ 105 ⟨st.at_ + 1, st.part + 1, st.atoms⟩).bind fun n st2 => (rowS (termS l f) n st2).bind fun r st3 => .ok (.mk 5 0 ⟨#[]⟩ 0 [] r) st3 from by rw [HS.out]; unfold bodyS; rw [if_neg (by decide), if_neg (by decide), if_neg (by decide), if_pos (by decide)])
  clear HS
  have HS := HS2
  clear HS2
  have BT := Lib.hid ((Below.refl w4.heap.size w4).alloc (Nat.le_refl _) (.cells #[.int .i64 5, .int .i64 0, .string ⟨#[]⟩, .int .u32 0, .slice none 0 0, .slice none 0 0] 35 (0, 0)))
  have T5 := Lib.hid (Cells.new w4 35 [.int .i64 5, .int .i64 0, .string ⟨#[]⟩, .int .u32 0, .slice none 0 0, .slice none 0 0])
  have HR5 := Lib.hid (HR4.out.ext BT.out)
  have HG5 := Lib.hid (HG4.out.below BT.out)
  have R5 := Lib.hid (R4.out.below BT.out)
  have NT4 := Lib.hid (show av4.ownBlock ≠ some w4.heap.size from fun e => Nat.lt_irrefl _ (HR4.out.1.atoms.lt e).1)
  have HTG := Lib.hid (show w4.heap.size ≠ g from fun e => by have := HR4.out.1.cells.lt; omega)
  have HGT := Lib.hid (show g < w4.heap.size + 1 from by have := HR4.out.1.cells.lt; omega)
  have HWT := Lib.hid (show w.heap.size ≤ w4.heap.size from by have := R4.out.lt; omega)
  have HTR := Lib.hid (show w4.heap.size ≠ w.heap.size from by have := R4.out.lt; omega)
  have HC := Lib.hid (count_any st.at_ 105 HR5.out.1)
  clear HR4 HG4 R4
  go_wp2_with fail
  generalize w4.alloc (.cells #[.int .i64 5, .int .i64 0, .string ⟨#[]⟩, .int .u32 0, .slice none 0 0, .slice none 0 0] 35) = w5 at *
  refine HC.out.mono ?_
  intro e w6 hr
  cases hk : countS l st.at_ 105 ⟨st.at_ + 1, st.part + 1, st.atoms⟩ with
  | bad k2 =>
    rw [hk] at hr HS
    obtain ⟨b, rfl, he, hne, hkk⟩ := hr
    have HP := Lib.hid (RdRes.pan (e := .panicked _) HGL.out HVL.out HR5.out ⟨b, rfl, he, hne, hkk⟩)
    clear he hne hkk hk HC
    go_wp2
    rw [HS.out]
    exact ⟨rfl, HP.out⟩
  | ok n st6 =>
    rw [hk] at hr HS
    simp only [Res.bind] at HS
    obtain ⟨_, av6, rfl, ⟨rfl, hn⟩, hrr⟩ := hr
    have HNN := Lib.hid hn
    have HG0 := Lib.hid (HG5.out.res HR5.out.1 hrr.2.1)
    have R0 := Lib.hid (R5.out.res hrr HRG.out NR4.out)
    have T0 := Lib.hid (T5.out.res hrr HTG.out NT4.out)
    have NR0 := Lib.hid (hrr.apart R5.out.lt NR4.out)
    have NT0 := Lib.hid (hrr.apart T5.out.lt NT4.out)
    have HR0 := Lib.hid (RdRes.trans HGL.out HVL.out HR5.out hrr)
    clear hk hrr HC hn HR5 HG5 R5 T5 NR4 NT4
    go_wp2_with fail
    go_loopw [11] (fun i wr => ∃ (k : Nat) (rows : List Tm) (stk : Rd) (avk lv : Value), k ≤ n ∧ i = .int .i64 ((n - k : Nat) : Int) ∧ RdRes base g l (.slice (some ⟨q, o, none⟩) l.length bc) av w stk avk wr ∧ GtB base wr ∧ Cells wr w.heap.size 35 termZ ∧ Cells wr (w4.heap.size) 35 [.int .i64 5, .int .i64 0, .string ⟨#[]⟩, .int .u32 0, .slice none 0 0, lv] ∧ avk.ownBlock ≠ some w.heap.size ∧ avk.ownBlock ≠ some (w4.heap.size) ∧ RowR (w4.heap.size + 1) avk lv rows wr ∧ rows.length ≤ stk.part ∧ spc = (rowS (termS l f) (n - k) stk).bind fun r st3 => .ok (.mk 5 0 ⟨#[]⟩ 0 [] (rows ++ r)) st3) (fun i _ => (intOf i).toNat)
    case atStart => exact ⟨0, [], _, _, .slice none 0 0, Nat.zero_le _, rfl, HR0.out, HG0.out, R0.out, T0.out, NR0.out, NT0.out, RowR.nil _ _ _, Nat.zero_le _, HS.out⟩
    case round =>
      obtain ⟨k, rows, stk, avk, lv, hk, rfl, hres, hg, hRr, hTr, hnr, hnt, hrow, hlen, hsp⟩ := hrel
      have HRk := Lib.hid hres
      have HGk := Lib.hid hg
      have RR := Lib.hid hRr
      have TT := Lib.hid hTr
      have NR := Lib.hid hnr
      have NT := Lib.hid hnt
      have ROW := Lib.hid hrow
      have HLEN := Lib.hid hlen
      have SP := Lib.hid hsp
      clear HS HR0 HG0 R0 T0 NR0 NT0
      obtain ⟨la, lc, e⟩ := hrow.shape
      subst e
      clear hres hg hRr hTr hnr hnt hrow hlen hsp
      by_cases hlt : k < n
      · have hki : (0 : Int) < ((n - k : Nat) : Int) := by omega
        have hkx : ((n - k : Nat) : Int) ≤ 4294967296 := by have := HNN.out; omega
        have HKK := Lib.hid hlt
        have SP2 := Lib.hid (show spc = (termS l f stk).bind fun x st2 => (rowS (termS l f) (n - (k + 1)) st2).bind fun r st3 => .ok (.mk 5 0 ⟨#[]⟩ 0 [] (rows ++ (x :: r))) st3 from by
          rw [SP.out, show n - k = (n - (k + 1)) + 1 by omega, rowS, bind_assoc]
          congr 1; funext x st2; rw [bind_assoc]; rfl)
        clear hlt SP
        go_wp2_with fail
        refine wp_region_L (S := fun X => Cells X (w4.heap.size) 35 [.int .i64 5, .int .i64 0, .string ⟨#[]⟩, .int .u32 0, .slice none 0 0, .slice la rows.length lc]) (F := [9]) (by kernel_rfl) (TT.out.below (Below.drew (Below.refl _ _))) (fun hHeld => ?_)
        refine wpAnyL_easy (i := 0) (v := (.pointer (some ⟨w4.heap.size, 5, none⟩))) (by simp only [List.getElem?_toArray, List.getElem?_cons_succ, List.getElem?_cons_zero]; rfl) (by kernel_rfl) (by kernel_rfl) (by kernel_rfl) (by exact fun _ _ _ h => h) (Or.inl ⟨by rfl, fun _ _ => rfl⟩) ?_
        try simp only [Act.put, List.setIfInBounds_toArray, List.set_cons_zero, List.set_cons_succ]
        refine wpAnyL_take (i := 1) (v := (.slice la rows.length lc)) (by simp only [List.getElem?_toArray, List.getElem?_cons_succ, List.getElem?_cons_zero]; rfl) (by kernel_rfl) (by kernel_rfl) (by kernel_rfl) (by kernel_rfl) (by exact fun _ _ _ h => h) (Or.inl ⟨by rfl, by intro W hSw; have x0 := show W.cell? ⟨w4.heap.size, 5, none⟩ = some (.slice la rows.length lc) from hSw.cell 5; go_simp; all_goals first | rfl | exact ⟨rfl, rfl, rfl, rfl, rfl, rfl⟩⟩) (by assumption) ?_
        try simp only [Act.put, List.setIfInBounds_toArray, List.set_cons_zero, List.set_cons_succ]
        refine wpAnyL_easy (i := 2) (v := (.pointer (some ⟨g, 0, none⟩))) (by simp only [List.getElem?_toArray, List.getElem?_cons_succ, List.getElem?_cons_zero]; rfl) (by kernel_rfl) (by kernel_rfl) (by kernel_rfl) (by exact fun _ _ _ h => h) (Or.inl ⟨by rfl, fun _ _ => rfl⟩) ?_
        try simp only [Act.put, List.setIfInBounds_toArray, List.set_cons_zero, List.set_cons_succ]
        refine wpAnyL_easy (i := 3) (v := (.int .i64 dv)) (by simp only [List.getElem?_toArray, List.getElem?_cons_succ, List.getElem?_cons_zero]; rfl) (by kernel_rfl) (by kernel_rfl) (by kernel_rfl) (by exact fun _ _ _ h => h) (Or.inl ⟨by rfl, fun _ _ => rfl⟩) ?_
        try simp only [Act.put, List.setIfInBounds_toArray, List.set_cons_zero, List.set_cons_succ]
        refine wpAnyL_easy (i := 4) (v := (.int .i64 (dv + 1))) (by simp only [List.getElem?_toArray, List.getElem?_cons_succ, List.getElem?_cons_zero]; rfl) (by kernel_rfl) (by kernel_rfl) (by kernel_rfl) (by exact fun _ _ _ h => h) (Or.inl ⟨by rfl, by intro W _; go_simp; all_goals first | rfl | exact ⟨rfl, rfl, rfl, rfl, rfl, rfl⟩⟩) ?_
        try simp only [Act.put, List.setIfInBounds_toArray, List.set_cons_zero, List.set_cons_succ]
        have BD := Lib.hid (show Below wr.heap.size wr wr.drew from Below.drew (Below.refl _ _))
        have HRd := Lib.hid (HRk.out.ext BD.out)
        have HGd := Lib.hid (HGk.out.below BD.out)
        have RRd := Lib.hid (RR.out.below BD.out)
        have TTd := Lib.hid (TT.out.below BD.out)
        have ROWd := Lib.hid (ROW.out.below BD.out)
        clear HRk HGk RR TT ROW hHeld
        generalize wr.drew = wd at *
        have HF := Lib.hid (HIH.out base g _ avk stk wd HRd.out.1 HGd.out)
        rw [← HDV.out] at HF
        refine wpAnyL_ready (rs := [5]) (by kernel_rfl) (by simp) ?_
        refine AllReadyL.cons (by simp only [List.getElem?_toArray, List.getElem?_cons_succ, List.getElem?_cons_zero]; rfl) (fun K hK => ?_) AllReadyL.nil
        go_simp
        refine HF.out.mono ?_
        intro e w7 hr
        have HS := SP2
        cases hk : termS l f stk with
        | bad k2 =>
          rw [hk] at hr HS
          obtain ⟨b, rfl, he, hne, hkk⟩ := hr
          have HP := Lib.hid (RdRes.pan (e := .panicked _) HGL.out HVL.out HRd.out ⟨b, rfl, he, hne, hkk⟩)
          clear he hne hkk hk HF
          try go_wp2
          rw [HS.out]
          exact ⟨rfl, HP.out⟩
        | ok x st7 =>
          rw [hk] at hr HS
          simp only [Res.bind] at HS
          obtain ⟨_, av7, rfl, htm, hrr⟩ := hr
          obtain ⟨na7, nc7, a7, cap7, rfl, ht7⟩ := htm.six
          have HOKX := Lib.hid (termS_ok f _ _ _ hk).1
          have R7 := Lib.hid (RRd.out.res hrr HRG.out NR.out)
          have T7 := Lib.hid (TTd.out.res hrr HTG.out NT.out)
          have NR7 := Lib.hid (hrr.apart RRd.out.lt NR.out)
          have NT7 := Lib.hid (hrr.apart TTd.out.lt NT.out)
          have ROW7 := Lib.hid (ROWd.out.res hrr (by have := HGT.out; omega))
          have HR7 := Lib.hid (RdRes.trans HGL.out HVL.out HRd.out hrr)
          have HG7 := Lib.hid (HGd.out.res HRd.out.1 hrr.2.1)
          have HT7 := Lib.hid ht7
          have HLV := Lib.hid (show ∀ q, (Value.slice la rows.length lc).ownBlock = some q → q < wd.heap.size from fun q hq => (ROWd.out.ts.block hq).2.1)
          have HTW := Lib.hid TTd.out.lt
          clear hk hrr htm ht7 HF HRd RRd TTd ROWd HGd
          refine hK.out _ _ (T7.out) (fun hHeld => ?_)
          try simp only [Act.put, List.setIfInBounds_toArray, List.set_cons_zero, List.set_cons_succ]
          clear hHeld
          refine wpAnyL_ready (rs := [6]) (by kernel_rfl) (by simp) ?_
          refine AllReadyL.cons (by simp only [List.getElem?_toArray, List.getElem?_cons_succ, List.getElem?_cons_zero]; rfl) (fun K hK => ?_) AllReadyL.nil
          go_simp
          have BN := Lib.hid ((Below.refl w7.heap.size w7).alloc (Nat.le_refl _) (.cells #[.int .i64 x.kind, .int .i64 x.int, .string x.text, .int .u32 x.cr, .slice na7 x.nums.length nc7, .slice a7 x.args.length cap7] 35 (0, 0)))
          obtain ⟨a8, n8, c8, w8, hrun, hrow8, hk8⟩ := ROW7.out.app HT7.out (fun q hq hs => ⟨by have := HTW.out; have := hs.1; omega, hs.2, fun e => by have := HLV.out q e; have := hs.1; omega⟩) (by have := HLEN.out; have := HOKX.out; have := HR7.out.1.ok.part; omega) (by have := T7.out.lt; omega) (fun q hq => (HR7.out.1.atoms.lt hq).1)
          have HRUN := Lib.hid hrun
          have ROW8 := Lib.hid hrow8
          have K8 := Lib.hid hk8
          have T8 := Lib.hid (T7.out.keep K8.out (fun hq => by have := (ROW7.out.ts.block hq).1; omega))
          have R8 := Lib.hid (R7.out.keep K8.out (fun hq => by have := (ROW7.out.ts.block hq).1; have := HWT.out; omega))
          have HR8 := Lib.hid (RdRes.late HR7.out HGL.out K8.out (fun q hq => ⟨by have := (ROW7.out.ts.block hq).1; have := HWT.out; omega, ROW7.out.ne q hq⟩))
          have HG8 := Lib.hid (HG7.out.far (fun q hq => K8.out.block q (by have := HR7.out.1.base_le; omega) (fun e => by have := (ROW7.out.ts.block e).1; have := HWT.out; have := HGL.out; have := HR7.out.1.hg; omega)))
          clear hrun hrow8 hk8
          refine hK.out _ _ (T7.out.below BN.out) (fun hHeld => ?_)
          try simp only [Act.put, List.setIfInBounds_toArray, List.set_cons_zero, List.set_cons_succ]
          refine wpAnyL_ready (rs := [7]) (by kernel_rfl) (by simp) ?_
          refine AllReadyL.cons (by simp only [List.getElem?_toArray, List.getElem?_cons_succ, List.getElem?_cons_zero]; rfl) (fun K hK => ?_) AllReadyL.nil
          refine step_app_eq (by rfl) _ _ _ _ (by rfl) _ _ (.slice a8 n8 c8) w8 (by rfl) (by rfl) HRUN.out ?_
          refine hK.out _ _ (T8.out) (fun hHeld => ?_)
          try simp only [Act.put, List.setIfInBounds_toArray, List.set_cons_zero, List.set_cons_succ]
          clear hHeld
          have d5 := T8.out.cell 5
          have f5 := T8.out.frozen 5
          simp only [List.getElem?_cons_zero, List.getElem?_cons_succ] at d5
          refine wpAnyL_easy (i := 8) (v := (.pointer (some ⟨w4.heap.size, 5, none⟩))) (by simp only [List.getElem?_toArray, List.getElem?_cons_succ, List.getElem?_cons_zero]; rfl) (by kernel_rfl) (by kernel_rfl) (by kernel_rfl) (by exact fun _ _ _ h => h) (Or.inl ⟨by rfl, fun _ _ => rfl⟩) ?_
          try simp only [Act.put, List.setIfInBounds_toArray, List.set_cons_zero, List.set_cons_succ]
          refine wpAnyL_ready (rs := [9]) (by kernel_rfl) (by simp) ?_
          refine AllReadyL.last (by simp only [List.getElem?_toArray, List.getElem?_cons_succ, List.getElem?_cons_zero]; rfl) (by kernel_rfl) (fun K hK => ?_) AllReadyL.nil
          go_simp
          refine hK.out _ _ ?_
          try simp only [Act.put, List.setIfInBounds_toArray, List.set_cons_zero, List.set_cons_succ]
          refine wpAnyL_done (by kernel_rfl) ?_ _
          have T9 := Lib.hid (show Cells _ (w4.heap.size) 35 [.int .i64 5, .int .i64 0, .string ⟨#[]⟩, .int .u32 0, .slice none 0 0, .slice a8 n8 c8] from T8.out.set_ 5 (.slice a8 n8 c8))
          have R9 := Lib.hid (R8.out.far (p := ⟨w4.heap.size, 5, none⟩) (fun e => HTR.out e.symm) (.slice a8 n8 c8))
          have K9 := Lib.hid (show Keep (fun q => q = w4.heap.size) w8 (w8.setCell ⟨w4.heap.size, 5, none⟩ (.slice a8 n8 c8)) from (Keep.refl (fun q => q = w4.heap.size) w8).setCell (p := ⟨w4.heap.size, 5, none⟩) (fun _ => rfl) (.slice a8 n8 c8))
          have HR9 := Lib.hid (RdRes.late HR8.out HGL.out K9.out (fun q (hq : q = w4.heap.size) => by rw [hq]; exact ⟨HWT.out, NT7.out⟩))
          have HG9 := Lib.hid (HG8.out.far (fun q hq => K9.out.block q (by have := HR8.out.1.base_le; omega) (fun (e : q = w4.heap.size) => by have := HWT.out; have := HGL.out; have := HR8.out.1.hg; omega)))
          have ROW9 := Lib.hid (ROW8.out.keep K9.out (fun q (hq : q = w4.heap.size) => .inl (by omega)))
          have LEN9 := Lib.hid (show (rows ++ [x]).length ≤ st7.part from by have := HLEN.out; have := HOKX.out; rw [List.length_append, List.length_singleton]; omega)
          have SP9 := Lib.hid (show spc = (rowS (termS l f) (n - (k + 1)) st7).bind fun r st3 => .ok (.mk 5 0 ⟨#[]⟩ 0 [] ((rows ++ [x]) ++ r)) st3 from by
            rw [HS.out]; simp only [List.append_assoc, List.singleton_append]; rfl)
          have e9 : ((n - k : Nat) : Int) - 1 = ((n - (k + 1) : Nat) : Int) := by have := HKK.out; omega
          clear d5 f5 T8 R8 HR8 K8 HG8
          go_wp2
          go_roundw
          case rel => exact ⟨k + 1, rows ++ [x], _, av7, _, by have := HKK.out; omega, by go_num, HR9.out, HG9.out, R9.out, T9.out, NR7.out, NT7.out, ROW9.out, LEN9.out, SP9.out⟩
          case measure => simp [intOf]; have := HKK.out; omega
      · have hki : ¬ (0 : Int) < ((n - k : Nat) : Int) := by omega
        have SPE := Lib.hid (show spc = .ok (.mk 5 0 ⟨#[]⟩ 0 [] rows) stk from by
          rw [SP.out, show n - k = 0 by omega, rowS]; simp only [Res.bind]; rw [List.append_nil])
        clear hlt SP
        have LENF := Lib.hid (show rows.length ≤ 100000 from by have := HLEN.out; have := HRk.out.1.ok.part; omega)
        have k0 := TT.out.cell 0
        have k1 := TT.out.cell 1
        have k2 := TT.out.cell 2
        have k3 := TT.out.cell 3
        have k4 := TT.out.cell 4
        have k5 := TT.out.cell 5
        simp only [List.getElem?_cons_zero, List.getElem?_cons_succ] at k0 k1 k2 k3 k4 k5
        have RF := RR
        unfold termZ at RF
        go_wp2_with (refine wpList_store_blk rfl _ (.tmp 4) (.tmp 152) rfl w.heap.size 0 [.int .i64 5, .int .i64 0, .string ⟨#[]⟩, .int .u32 0, .slice none 0 0, .slice la rows.length lc] (by rfl) (by rfl) (by kernel_rfl) (by simp [Value.oneCell']) 35 _ RF.out (by show 0 + 6 ≤ 6; decide) ?_; intro wz hCz hgz)
        have hCz' : Cells wz w.heap.size 35 [.int .i64 5, .int .i64 0, .string ⟨#[]⟩, .int .u32 0, .slice none 0 0, .slice la rows.length lc] := hCz
        have z0 := hCz'.cell 0
        have z1 := hCz'.cell 1
        have z2 := hCz'.cell 2
        have z3 := hCz'.cell 3
        have z4 := hCz'.cell 4
        have z5 := hCz'.cell 5
        simp only [List.getElem?_cons_zero, List.getElem?_cons_succ] at z0 z1 z2 z3 z4 z5
        have KZ := Lib.hid (show Keep (fun q => q = w.heap.size) wr wz from (Keep.refl _ _).grown hgz (fun k hk _ => by cases hk; rfl))
        clear hCz hCz' hgz k0 k1 k2 k3 k4 k5
        go_wp2
        refine bodyPost_ret (v := .agg ([.int .i64 5, .int .i64 0, .string ⟨#[]⟩, .int .u32 0, .slice none 0 0, .slice la rows.length lc]).toArray) (by simp [results, Tryz.results98, go_sem, z0, z1, z2, z3, z4, z5]) rfl ?_
        rw [SPE.out]
        refine ⟨_, _, rfl, ⟨_, rfl, ?_⟩, RdRes.late HRk.out HGL.out KZ.out (fun q (hq : q = w.heap.size) => by rw [hq]; exact ⟨Nat.le_refl _, NR.out⟩)⟩
        obtain ⟨ra, rc, re, rcap, rargs⟩ := (ROW.out.keep KZ.out (fun q (hq : q = w.heap.size) => .inl (by have := HWT.out; omega))).args
        refine TmAt.of ⟨show Part (5 : Int) 0 ⟨#[]⟩ 0 from ⟨by decide, by decide, by decide, by decide, by decide, by decide, by decide⟩, _, ra, rc, by rw [re]; rfl, (show NumsAt _ (.slice none 0 0) [] wz from ⟨none, 0, rfl, ⟨Nat.le_refl _, by decide⟩, Nat.zero_le _, fun i hi => absurd hi (Nat.not_lt_zero _)⟩), rcap, by show rows.length * 88 ≤ 140737488351232; have := LENF.out; omega, ?_⟩
        exact rargs.mono (fun q _ hq => ⟨by have := HWT.out; have := hq.1; omega, hq.2⟩)

set_option maxHeartbeats 32000000 in
set_option maxRecDepth 100000 in
theorem term_k106 {base g : Nat} {l : List UInt8} {bv av : Value} {st : Rd} {w : World} (f : Nat) (dv : Int) (hih : TermC l f) (hdv : dv + 1 = 257 - (f : Int)) (hd0 : 0 ≤ dv) (hd1 : dv ≤ 256) (h : RdIs base g l bv st av w) (hG : GtB base w) (hpart : st.part ≠ 4096) (hl : st.at_ < l.length) (hk : l.getD st.at_ 0 = 106) (spc : Res Tm) (hspc : spc = ((needS l st.at_ 1 ⟨st.at_, st.part + 1, st.atoms⟩).bind fun _ st2 => bodyS l (termS l f) st.at_ 106 st2)) :
    Calls Tryz.prog 98 #[.pointer (some ⟨g, 0, none⟩), .int .i64 dv] w (RetR base g l bv av w spc (TmR w)) := by
  have HS := Lib.hid hspc
  have HIH := Lib.hid hih
  have HDV := Lib.hid hdv
  have HGL := Lib.hid h.cells.lt
  have HVL := Lib.hid (fun q (hq : av.ownBlock = some q) => (h.atoms.lt hq).1)
  have HOK := Lib.hid h.ok
  obtain ⟨ba, bc, rfl⟩ := h.form
  have BX := Lib.hid ((Below.refl w.heap.size w).alloc (Nat.le_refl _) (.cells #[.int .i64 0, .int .i64 0, .string ⟨#[]⟩, .int .u32 0, .slice none 0 0, .slice none 0 0] 35 (0, 0)))
  have R1 := Lib.hid (show Cells (w.alloc (.cells #[.int .i64 0, .int .i64 0, .string ⟨#[]⟩, .int .u32 0, .slice none 0 0, .slice none 0 0] 35 (0, 0))) w.heap.size 35 termZ from Cells.new w 35 termZ)
  have HR1 := Lib.hid (RdRes.below h BX.out)
  have HG1 := Lib.hid (hG.below BX.out)
  have HNR := Lib.hid (show av.ownBlock ≠ some w.heap.size from fun e => Nat.lt_irrefl _ (HVL.out _ e))
  have HRG := Lib.hid (show w.heap.size ≠ g from fun e => by have := HGL.out; omega)
  have c1 := HR1.out.1.cells.cell 1
  have c2 := HR1.out.1.cells.cell 2
  have f2 := HR1.out.1.cells.frozen 2
  simp only [List.getElem?_cons_zero, List.getElem?_cons_succ] at c1 c2
  have hp0 : (0 : Int) ≤ (st.part : Int) := by omega
  have hp1 : (st.part : Int) ≤ 4096 := by have := HOK.out.part; omega
  have hp2 : ((st.part : Int) == 4096) = false := beq_eq_false_iff_ne.2 (by omega)
  have hp3 : ¬ (256 : Int) < dv := by omega
  have hcw : IntKind.i64.wrap (dv + 1) = dv + 1 := IntWalk.i64_in _ (by omega)
  have ep : ((st.part + 1 : Nat) : Int) = (st.part : Int) + 1 := by omega
  have P2 := RdRes.parted HR1.out.1 (st.part + 1) ⟨HOK.out.le, HOK.out.in_, by have := HOK.out.part; show st.part + 1 ≤ 4096; omega, HOK.out.atoms⟩
  rw [ep] at P2
  have HR2 := Lib.hid (RdRes.trans HGL.out HVL.out HR1.out P2)
  have R2 := Lib.hid (R1.out.far (p := ⟨g, 2, none⟩) HRG.out (.int .i64 ((st.part : Int) + 1)))
  have HG2 := Lib.hid (HG1.out.far (w' := (w.alloc (.cells #[.int .i64 0, .int .i64 0, .string ⟨#[]⟩, .int .u32 0, .slice none 0 0, .slice none 0 0] 35 (0, 0))).setCell ⟨g, 2, none⟩ (.int .i64 ((st.part : Int) + 1))) (fun q hq => Below.heap_setCell _ _ _ _ (by have := HR1.out.1.hg; show q ≠ g; omega)))
  have HL := Lib.hid hl
  clear P2 ep h hG hpart hih hdv hspc
  go_enter Tryz.func98, Tryz.ntmps98
  go_upto_region 7 with (fail)
  generalize w.alloc (.cells #[.int .i64 0, .int .i64 0, .string ⟨#[]⟩, .int .u32 0, .slice none 0 0, .slice none 0 0] 35) = w1 at *
  generalize w1.setCell ⟨g, 2, none⟩ (.int .i64 ((st.part : Int) + 1)) = w2 at *
  clear c1 c2 f2 hp0 hp1 hp2 hp3
  have c0 := HR2.out.1.cells.cell 0
  have c1 := HR2.out.1.cells.cell 1
  simp only [List.getElem?_cons_zero, List.getElem?_cons_succ] at c0 c1
  obtain ⟨q, o, rfl, hx⟩ := HR2.out.1.buf.get st.at_ hl
  rw [hk] at hx
  have hx : w2.cell? ⟨q, o + st.at_, none⟩ = some (.int .u8 106) := hx
  clear hk
  have hi0 : ((st.at_ : Int) == (l.length : Int)) = false := beq_eq_false_iff_ne.2 (by omega)
  have hi1 : (0 : Int) ≤ (st.at_ : Int) := by omega
  have hi2 : (st.at_ : Int) < (l.length : Int) := by omega
  have HD := Lib.hid (fun m => And.intro (HR2.out.ext (below_drewN (Below.refl w2.heap.size w2) m)) (And.intro (R2.out.drewN m) (HG2.out.below (below_drewN (Below.refl w2.heap.size w2) m))))
  clear hl HR2 R2 HG2
  go_wp2_with fail
  go_quiet (fail)
  go_wp2_with fail
  go_quiet (fail)
  go_wp2_with fail
  generalize hW3 : w2.drewN _ = w3
  obtain ⟨hr3, hR3, hg3⟩ : RdRes base g l (.slice (some ⟨q, o, none⟩) l.length bc) av w ⟨st.at_, st.part + 1, st.atoms⟩ av w3 ∧ Cells w3 w.heap.size 35 termZ ∧ GtB base w3 := by
    rw [← hW3]; exact HD.out _
  have HR3 := Lib.hid hr3
  have R3 := Lib.hid hR3
  have HG3 := Lib.hid hg3
  clear hr3 hR3 hg3 hW3 HD c0 c1 hx hi0 hi1 hi2
  have HN := Lib.hid (need_any st.at_ 1 HR3.out.1 (by omega))
  refine HN.out.mono ?_
  intro e w4 hr
  rcases needS_cases l st.at_ 1 ⟨st.at_, st.part + 1, st.atoms⟩ with ⟨k, hk⟩ | ⟨hk, hle, hle6⟩
  · rw [hk] at hr HS
    obtain ⟨b, rfl, he, hne, hkk⟩ := hr
    have HP := Lib.hid (RdRes.pan (e := .panicked _) HGL.out HVL.out HR3.out ⟨b, rfl, he, hne, hkk⟩)
    clear he hne hkk hk HN 
    go_wp2
    rw [HS.out]
    exact ⟨rfl, HP.out⟩
  rw [hk] at hr HS
  simp only [Res.bind] at HS
  obtain ⟨sv4, av4, rfl, hsv, hrr⟩ := hr
  have R4 := Lib.hid (R3.out.res hrr HRG.out HNR.out)
  have NR4 := Lib.hid (hrr.apart R3.out.lt HNR.out)
  have HR4 := Lib.hid (RdRes.trans HGL.out HVL.out HR3.out hrr)
  have HG4 := Lib.hid (HG3.out.res HR3.out.1 hrr.2.1)
  obtain ⟨s4a, s4c, rfl⟩ : ∃ a c, sv4 = .slice a (cutB l st.at_ 1).length c := by obtain ⟨a, c, e, _⟩ := hsv; exact ⟨a, c, e⟩
  clear hk hrr HN hsv HR3 R3 HG3 hle hle6
  have SPE := Lib.hid (show spc = .ok (.mk 6 0 ⟨#[]⟩ 0 [] []) ⟨st.at_ + 1, st.part + 1, st.atoms⟩ from by rw [HS.out]; unfold bodyS; rw [if_neg (by decide), if_neg (by decide), if_neg (by decide), if_neg (by decide), if_pos rfl])
  have RF := R4
  unfold termZ at RF
  go_wp2_with (refine wpList_store_blk rfl _ (.tmp 4) (.tmp 153) rfl w.heap.size 0 [.int .i64 6, .int .i64 0, .string ⟨#[]⟩, .int .u32 0, .slice none 0 0, .slice none 0 0] (by rfl) (by rfl) (by kernel_rfl) (by simp [Value.oneCell']) 35 _ RF.out (by show 0 + 6 ≤ 6; decide) ?_; intro wz hCz hgz)
  have hCz' : Cells wz w.heap.size 35 [.int .i64 6, .int .i64 0, .string ⟨#[]⟩, .int .u32 0, .slice none 0 0, .slice none 0 0] := hCz
  have z0 := hCz'.cell 0
  have z1 := hCz'.cell 1
  have z2 := hCz'.cell 2
  have z3 := hCz'.cell 3
  have z4 := hCz'.cell 4
  have z5 := hCz'.cell 5
  simp only [List.getElem?_cons_zero, List.getElem?_cons_succ] at z0 z1 z2 z3 z4 z5
  have KZ := Lib.hid (show Keep (fun q => q = w.heap.size) w4 wz from (Keep.refl _ _).grown hgz (fun k hk _ => by cases hk; rfl))
  clear hCz hCz' hgz
  go_wp2
  refine bodyPost_ret (v := .agg ([.int .i64 6, .int .i64 0, .string ⟨#[]⟩, .int .u32 0, .slice none 0 0, .slice none 0 0]).toArray) (by simp [results, Tryz.results98, go_sem, z0, z1, z2, z3, z4, z5]) rfl ?_
  rw [SPE.out]
  refine ⟨_, _, rfl, ⟨_, rfl, ?_⟩, RdRes.late HR4.out HGL.out KZ.out (fun q (hq : q = w.heap.size) => by rw [hq]; exact ⟨Nat.le_refl _, NR4.out⟩)⟩
  refine TmAt.of ⟨show Part (6 : Int) 0 ⟨#[]⟩ 0 from ⟨by decide, by decide, by decide, by decide, by decide, by decide, by decide⟩, .slice none 0 0, none, 0, rfl, (show NumsAt _ (.slice none 0 0) [] wz from ⟨none, 0, rfl, ⟨Nat.le_refl _, by decide⟩, Nat.zero_le _, fun i hi => absurd hi (Nat.not_lt_zero _)⟩), ⟨Nat.le_refl _, Nat.zero_le _⟩, (show 0 * 88 ≤ 140737488351232 by decide), ?_⟩
  show ArgsAt _ [] none wz
  rw [ArgsAt]; trivial

set_option maxHeartbeats 32000000 in
set_option maxRecDepth 100000 in
theorem term_k108 {base g : Nat} {l : List UInt8} {bv av : Value} {st : Rd} {w : World} (f : Nat) (dv : Int) (hih : TermC l f) (hdv : dv + 1 = 257 - (f : Int)) (hd0 : 0 ≤ dv) (hd1 : dv ≤ 256) (h : RdIs base g l bv st av w) (hG : GtB base w) (hpart : st.part ≠ 4096) (hl : st.at_ < l.length) (hk : l.getD st.at_ 0 = 108) (spc : Res Tm) (hspc : spc = ((needS l st.at_ 1 ⟨st.at_, st.part + 1, st.atoms⟩).bind fun _ st2 => bodyS l (termS l f) st.at_ 108 st2)) :
    Calls Tryz.prog 98 #[.pointer (some ⟨g, 0, none⟩), .int .i64 dv] w (RetR base g l bv av w spc (TmR w)) := by
  have HS := Lib.hid hspc
  have HIH := Lib.hid hih
  have HDV := Lib.hid hdv
  have HGL := Lib.hid h.cells.lt
  have HVL := Lib.hid (fun q (hq : av.ownBlock = some q) => (h.atoms.lt hq).1)
  have HOK := Lib.hid h.ok
  obtain ⟨ba, bc, rfl⟩ := h.form
  have BX := Lib.hid ((Below.refl w.heap.size w).alloc (Nat.le_refl _) (.cells #[.int .i64 0, .int .i64 0, .string ⟨#[]⟩, .int .u32 0, .slice none 0 0, .slice none 0 0] 35 (0, 0)))
  have R1 := Lib.hid (show Cells (w.alloc (.cells #[.int .i64 0, .int .i64 0, .string ⟨#[]⟩, .int .u32 0, .slice none 0 0, .slice none 0 0] 35 (0, 0))) w.heap.size 35 termZ from Cells.new w 35 termZ)
  have HR1 := Lib.hid (RdRes.below h BX.out)
  have HG1 := Lib.hid (hG.below BX.out)
  have HNR := Lib.hid (show av.ownBlock ≠ some w.heap.size from fun e => Nat.lt_irrefl _ (HVL.out _ e))
  have HRG := Lib.hid (show w.heap.size ≠ g from fun e => by have := HGL.out; omega)
  have c1 := HR1.out.1.cells.cell 1
  have c2 := HR1.out.1.cells.cell 2
  have f2 := HR1.out.1.cells.frozen 2
  simp only [List.getElem?_cons_zero, List.getElem?_cons_succ] at c1 c2
  have hp0 : (0 : Int) ≤ (st.part : Int) := by omega
  have hp1 : (st.part : Int) ≤ 4096 := by have := HOK.out.part; omega
  have hp2 : ((st.part : Int) == 4096) = false := beq_eq_false_iff_ne.2 (by omega)
  have hp3 : ¬ (256 : Int) < dv := by omega
  have hcw : IntKind.i64.wrap (dv + 1) = dv + 1 := IntWalk.i64_in _ (by omega)
  have ep : ((st.part + 1 : Nat) : Int) = (st.part : Int) + 1 := by omega
  have P2 := RdRes.parted HR1.out.1 (st.part + 1) ⟨HOK.out.le, HOK.out.in_, by have := HOK.out.part; show st.part + 1 ≤ 4096; omega, HOK.out.atoms⟩
  rw [ep] at P2
  have HR2 := Lib.hid (RdRes.trans HGL.out HVL.out HR1.out P2)
  have R2 := Lib.hid (R1.out.far (p := ⟨g, 2, none⟩) HRG.out (.int .i64 ((st.part : Int) + 1)))
  have HG2 := Lib.hid (HG1.out.far (w' := (w.alloc (.cells #[.int .i64 0, .int .i64 0, .string ⟨#[]⟩, .int .u32 0, .slice none 0 0, .slice none 0 0] 35 (0, 0))).setCell ⟨g, 2, none⟩ (.int .i64 ((st.part : Int) + 1))) (fun q hq => Below.heap_setCell _ _ _ _ (by have := HR1.out.1.hg; show q ≠ g; omega)))
  have HL := Lib.hid hl
  clear P2 ep h hG hpart hih hdv hspc
  go_enter Tryz.func98, Tryz.ntmps98
  go_upto_region 7 with (fail)
  generalize w.alloc (.cells #[.int .i64 0, .int .i64 0, .string ⟨#[]⟩, .int .u32 0, .slice none 0 0, .slice none 0 0] 35) = w1 at *
  generalize w1.setCell ⟨g, 2, none⟩ (.int .i64 ((st.part : Int) + 1)) = w2 at *
  clear c1 c2 f2 hp0 hp1 hp2 hp3
  have c0 := HR2.out.1.cells.cell 0
  have c1 := HR2.out.1.cells.cell 1
  simp only [List.getElem?_cons_zero, List.getElem?_cons_succ] at c0 c1
  obtain ⟨q, o, rfl, hx⟩ := HR2.out.1.buf.get st.at_ hl
  rw [hk] at hx
  have hx : w2.cell? ⟨q, o + st.at_, none⟩ = some (.int .u8 108) := hx
  clear hk
  have hi0 : ((st.at_ : Int) == (l.length : Int)) = false := beq_eq_false_iff_ne.2 (by omega)
  have hi1 : (0 : Int) ≤ (st.at_ : Int) := by omega
  have hi2 : (st.at_ : Int) < (l.length : Int) := by omega
  have HD := Lib.hid (fun m => And.intro (HR2.out.ext (below_drewN (Below.refl w2.heap.size w2) m)) (And.intro (R2.out.drewN m) (HG2.out.below (below_drewN (Below.refl w2.heap.size w2) m))))
  clear hl HR2 R2 HG2
  go_wp2_with fail
  go_quiet (fail)
  go_wp2_with fail
  go_quiet (fail)
  go_wp2_with fail
  generalize hW3 : w2.drewN _ = w3
  obtain ⟨hr3, hR3, hg3⟩ : RdRes base g l (.slice (some ⟨q, o, none⟩) l.length bc) av w ⟨st.at_, st.part + 1, st.atoms⟩ av w3 ∧ Cells w3 w.heap.size 35 termZ ∧ GtB base w3 := by
    rw [← hW3]; exact HD.out _
  have HR3 := Lib.hid hr3
  have R3 := Lib.hid hR3
  have HG3 := Lib.hid hg3
  clear hr3 hR3 hg3 hW3 HD c0 c1 hx hi0 hi1 hi2
  have HN := Lib.hid (need_any st.at_ 1 HR3.out.1 (by omega))
  refine HN.out.mono ?_
  intro e w4 hr
  rcases needS_cases l st.at_ 1 ⟨st.at_, st.part + 1, st.atoms⟩ with ⟨k, hk⟩ | ⟨hk, hle, hle6⟩
  · rw [hk] at hr HS
    obtain ⟨b, rfl, he, hne, hkk⟩ := hr
    have HP := Lib.hid (RdRes.pan (e := .panicked _) HGL.out HVL.out HR3.out ⟨b, rfl, he, hne, hkk⟩)
    clear he hne hkk hk HN 
    go_wp2
    rw [HS.out]
    exact ⟨rfl, HP.out⟩
  rw [hk] at hr HS
  simp only [Res.bind] at HS
  obtain ⟨sv4, av4, rfl, hsv, hrr⟩ := hr
  have R4 := Lib.hid (R3.out.res hrr HRG.out HNR.out)
  have NR4 := Lib.hid (hrr.apart R3.out.lt HNR.out)
  have HR4 := Lib.hid (RdRes.trans HGL.out HVL.out HR3.out hrr)
  have HG4 := Lib.hid (HG3.out.res HR3.out.1 hrr.2.1)
  obtain ⟨s4a, s4c, rfl⟩ : ∃ a c, sv4 = .slice a (cutB l st.at_ 1).length c := by obtain ⟨a, c, e, _⟩ := hsv; exact ⟨a, c, e⟩
  clear hk hrr HN hsv HR3 R3 HG3 hle hle6
  have HS2 := Lib.hid (show spc = listS l f st.at_ ⟨st.at_ + 1, st.part + 1, st.atoms⟩ from by rw [HS.out]; unfold bodyS; rw [if_neg (by decide), if_neg (by decide), if_neg (by decide), if_neg (by decide), if_neg (by decide), if_pos rfl]; rfl)
  clear HS
  have HS := HS2
  clear HS2
  have HF := Lib.hid (list_any f st.at_ dv HIH.out HDV.out hd0 hd1 HR4.out.1 HG4.out)
  go_wp2_with fail
  refine HF.out.mono ?_
  intro e w5 hr
  cases hk : listS l f st.at_ ⟨st.at_ + 1, st.part + 1, st.atoms⟩ with
  | bad k2 =>
    rw [hk] at hr HS
    obtain ⟨b, rfl, he, hne, hkk⟩ := hr
    have HP := Lib.hid (RdRes.pan (e := .panicked _) HGL.out HVL.out HR4.out ⟨b, rfl, he, hne, hkk⟩)
    clear he hne hkk hk HF
    go_wp2
    rw [HS.out]
    exact ⟨rfl, HP.out⟩
  | ok x st5 =>
    rw [hk] at hr HS
    obtain ⟨_, av5, rfl, htm, hrr⟩ := hr
    obtain ⟨na7, nc7, a7, cap7, rfl, ht7⟩ := htm.six
    have R5 := Lib.hid (R4.out.res hrr HRG.out NR4.out)
    have NR5 := Lib.hid (hrr.apart R4.out.lt NR4.out)
    have HR5 := Lib.hid (RdRes.trans HGL.out HVL.out HR4.out hrr)
    have HT5 := Lib.hid ht7
    have HWL := Lib.hid R4.out.lt
    clear hk hrr htm ht7 HF HR4 R4
    have RF := R5
    unfold termZ at RF
    go_wp2_with (refine wpList_store_blk rfl _ (.tmp 4) (.tmp 157) rfl w.heap.size 0 [.int .i64 x.kind, .int .i64 x.int, .string x.text, .int .u32 x.cr, .slice na7 x.nums.length nc7, .slice a7 x.args.length cap7] (by rfl) (by rfl) (by kernel_rfl) (by simp [Value.oneCell']) 35 _ RF.out (by show 0 + 6 ≤ 6; decide) ?_; intro wz hCz hgz)
    have hCz' : Cells wz w.heap.size 35 [.int .i64 x.kind, .int .i64 x.int, .string x.text, .int .u32 x.cr, .slice na7 x.nums.length nc7, .slice a7 x.args.length cap7] := hCz
    have z0 := hCz'.cell 0
    have z1 := hCz'.cell 1
    have z2 := hCz'.cell 2
    have z3 := hCz'.cell 3
    have z4 := hCz'.cell 4
    have z5 := hCz'.cell 5
    simp only [List.getElem?_cons_zero, List.getElem?_cons_succ] at z0 z1 z2 z3 z4 z5
    have KZ := Lib.hid (show Keep (fun q => q = w.heap.size) w5 wz from (Keep.refl _ _).grown hgz (fun k hk _ => by cases hk; rfl))
    clear hCz hCz' hgz
    go_wp2
    refine bodyPost_ret (v := .agg ([.int .i64 x.kind, .int .i64 x.int, .string x.text, .int .u32 x.cr, .slice na7 x.nums.length nc7, .slice a7 x.args.length cap7]).toArray) (by simp [results, Tryz.results98, go_sem, z0, z1, z2, z3, z4, z5]) rfl ?_
    rw [HS.out]
    refine ⟨_, _, rfl, ⟨_, rfl, ?_⟩, RdRes.late HR5.out HGL.out KZ.out (fun q (hq : q = w.heap.size) => by rw [hq]; exact ⟨Nat.le_refl _, NR5.out⟩)⟩
    exact (HT5.out.keep KZ.out (fun q _ hq (e : q = w.heap.size) => by have := hq.1; have := HWL.out; omega)).mono (fun q _ hq => ⟨by have := hq.1; have := HWL.out; omega, hq.2⟩)

set_option maxHeartbeats 32000000 in
set_option maxRecDepth 100000 in
theorem term_k118 {base g : Nat} {l : List UInt8} {bv av : Value} {st : Rd} {w : World} (f : Nat) (dv : Int) (hih : TermC l f) (hdv : dv + 1 = 257 - (f : Int)) (hd0 : 0 ≤ dv) (hd1 : dv ≤ 256) (h : RdIs base g l bv st av w) (hG : GtB base w) (hpart : st.part ≠ 4096) (hl : st.at_ < l.length) (hk : l.getD st.at_ 0 = 118) (spc : Res Tm) (hspc : spc = ((needS l st.at_ 1 ⟨st.at_, st.part + 1, st.atoms⟩).bind fun _ st2 => bodyS l (termS l f) st.at_ 118 st2)) :
    Calls Tryz.prog 98 #[.pointer (some ⟨g, 0, none⟩), .int .i64 dv] w (RetR base g l bv av w spc (TmR w)) := by
  have HS := Lib.hid hspc
  have HIH := Lib.hid hih
  have HDV := Lib.hid hdv
  have HGL := Lib.hid h.cells.lt
  have HVL := Lib.hid (fun q (hq : av.ownBlock = some q) => (h.atoms.lt hq).1)
  have HOK := Lib.hid h.ok
  obtain ⟨ba, bc, rfl⟩ := h.form
  have BX := Lib.hid ((Below.refl w.heap.size w).alloc (Nat.le_refl _) (.cells #[.int .i64 0, .int .i64 0, .string ⟨#[]⟩, .int .u32 0, .slice none 0 0, .slice none 0 0] 35 (0, 0)))
  have R1 := Lib.hid (show Cells (w.alloc (.cells #[.int .i64 0, .int .i64 0, .string ⟨#[]⟩, .int .u32 0, .slice none 0 0, .slice none 0 0] 35 (0, 0))) w.heap.size 35 termZ from Cells.new w 35 termZ)
  have HR1 := Lib.hid (RdRes.below h BX.out)
  have HG1 := Lib.hid (hG.below BX.out)
  have HNR := Lib.hid (show av.ownBlock ≠ some w.heap.size from fun e => Nat.lt_irrefl _ (HVL.out _ e))
  have HRG := Lib.hid (show w.heap.size ≠ g from fun e => by have := HGL.out; omega)
  have c1 := HR1.out.1.cells.cell 1
  have c2 := HR1.out.1.cells.cell 2
  have f2 := HR1.out.1.cells.frozen 2
  simp only [List.getElem?_cons_zero, List.getElem?_cons_succ] at c1 c2
  have hp0 : (0 : Int) ≤ (st.part : Int) := by omega
  have hp1 : (st.part : Int) ≤ 4096 := by have := HOK.out.part; omega
  have hp2 : ((st.part : Int) == 4096) = false := beq_eq_false_iff_ne.2 (by omega)
  have hp3 : ¬ (256 : Int) < dv := by omega
  have hcw : IntKind.i64.wrap (dv + 1) = dv + 1 := IntWalk.i64_in _ (by omega)
  have ep : ((st.part + 1 : Nat) : Int) = (st.part : Int) + 1 := by omega
  have P2 := RdRes.parted HR1.out.1 (st.part + 1) ⟨HOK.out.le, HOK.out.in_, by have := HOK.out.part; show st.part + 1 ≤ 4096; omega, HOK.out.atoms⟩
  rw [ep] at P2
  have HR2 := Lib.hid (RdRes.trans HGL.out HVL.out HR1.out P2)
  have R2 := Lib.hid (R1.out.far (p := ⟨g, 2, none⟩) HRG.out (.int .i64 ((st.part : Int) + 1)))
  have HG2 := Lib.hid (HG1.out.far (w' := (w.alloc (.cells #[.int .i64 0, .int .i64 0, .string ⟨#[]⟩, .int .u32 0, .slice none 0 0, .slice none 0 0] 35 (0, 0))).setCell ⟨g, 2, none⟩ (.int .i64 ((st.part : Int) + 1))) (fun q hq => Below.heap_setCell _ _ _ _ (by have := HR1.out.1.hg; show q ≠ g; omega)))
  have HL := Lib.hid hl
  clear P2 ep h hG hpart hih hdv hspc
  go_enter Tryz.func98, Tryz.ntmps98
  go_upto_region 7 with (fail)
  generalize w.alloc (.cells #[.int .i64 0, .int .i64 0, .string ⟨#[]⟩, .int .u32 0, .slice none 0 0, .slice none 0 0] 35) = w1 at *
  generalize w1.setCell ⟨g, 2, none⟩ (.int .i64 ((st.part : Int) + 1)) = w2 at *
  clear c1 c2 f2 hp0 hp1 hp2 hp3
  have c0 := HR2.out.1.cells.cell 0
  have c1 := HR2.out.1.cells.cell 1
  simp only [List.getElem?_cons_zero, List.getElem?_cons_succ] at c0 c1
  obtain ⟨q, o, rfl, hx⟩ := HR2.out.1.buf.get st.at_ hl
  rw [hk] at hx
  have hx : w2.cell? ⟨q, o + st.at_, none⟩ = some (.int .u8 118) := hx
  clear hk
  have hi0 : ((st.at_ : Int) == (l.length : Int)) = false := beq_eq_false_iff_ne.2 (by omega)
  have hi1 : (0 : Int) ≤ (st.at_ : Int) := by omega
  have hi2 : (st.at_ : Int) < (l.length : Int) := by omega
  have HD := Lib.hid (fun m => And.intro (HR2.out.ext (below_drewN (Below.refl w2.heap.size w2) m)) (And.intro (R2.out.drewN m) (HG2.out.below (below_drewN (Below.refl w2.heap.size w2) m))))
  clear hl HR2 R2 HG2
  go_wp2_with fail
  go_quiet (fail)
  go_wp2_with fail
  go_quiet (fail)
  go_wp2_with fail
  generalize hW3 : w2.drewN _ = w3
  obtain ⟨hr3, hR3, hg3⟩ : RdRes base g l (.slice (some ⟨q, o, none⟩) l.length bc) av w ⟨st.at_, st.part + 1, st.atoms⟩ av w3 ∧ Cells w3 w.heap.size 35 termZ ∧ GtB base w3 := by
    rw [← hW3]; exact HD.out _
  have HR3 := Lib.hid hr3
  have R3 := Lib.hid hR3
  have HG3 := Lib.hid hg3
  clear hr3 hR3 hg3 hW3 HD c0 c1 hx hi0 hi1 hi2
  have HN := Lib.hid (need_any st.at_ 1 HR3.out.1 (by omega))
  refine HN.out.mono ?_
  intro e w4 hr
  rcases needS_cases l st.at_ 1 ⟨st.at_, st.part + 1, st.atoms⟩ with ⟨k, hk⟩ | ⟨hk, hle, hle6⟩
  · rw [hk] at hr HS
    obtain ⟨b, rfl, he, hne, hkk⟩ := hr
    have HP := Lib.hid (RdRes.pan (e := .panicked _) HGL.out HVL.out HR3.out ⟨b, rfl, he, hne, hkk⟩)
    clear he hne hkk hk HN 
    go_wp2
    rw [HS.out]
    exact ⟨rfl, HP.out⟩
  rw [hk] at hr HS
  simp only [Res.bind] at HS
  obtain ⟨sv4, av4, rfl, hsv, hrr⟩ := hr
  have R4 := Lib.hid (R3.out.res hrr HRG.out HNR.out)
  have NR4 := Lib.hid (hrr.apart R3.out.lt HNR.out)
  have HR4 := Lib.hid (RdRes.trans HGL.out HVL.out HR3.out hrr)
  have HG4 := Lib.hid (HG3.out.res HR3.out.1 hrr.2.1)
  obtain ⟨s4a, s4c, rfl⟩ : ∃ a c, sv4 = .slice a (cutB l st.at_ 1).length c := by obtain ⟨a, c, e, _⟩ := hsv; exact ⟨a, c, e⟩
  clear hk hrr HN hsv HR3 R3 HG3 hle hle6
  have HS2 := Lib.hid (show spc = (txtS l st.at_ true 0 ⟨st.at_ + 1, st.part + 1, st.atoms⟩).bind fun s st2 => if (quoteS s).2 ≠ [] then .bad (ofS st.at_ (quoteS s).2) else .ok (.mk 2 0 s 0 [] []) ⟨st2.at_, st2.part, st2.atoms ++ [s]⟩ from by rw [HS.out]; unfold bodyS; rw [if_neg (by decide), if_neg (by decide), if_pos (by decide)]; rfl)
  clear HS
  have HS := HS2
  clear HS2
  have HTX := Lib.hid (text_any st.at_ true 0 HR4.out.1 (by omega))
  go_wp2_with fail
  refine HTX.out.mono ?_
  intro e w5 hr
  rcases txtS_cases l st.at_ true 0 ⟨st.at_ + 1, st.part + 1, st.atoms⟩ with ⟨k, hk⟩ | ⟨s, n, hk, hn1, hn2, hn3⟩
  · rw [hk] at hr HS
    obtain ⟨b, rfl, he, hne, hkk⟩ := hr
    have HP := Lib.hid (RdRes.pan (e := .panicked _) HGL.out HVL.out HR4.out ⟨b, rfl, he, hne, hkk⟩)
    clear he hne hkk hk HTX
    go_wp2
    rw [HS.out]
    exact ⟨rfl, HP.out⟩
  rw [hk] at hr HS
  simp only [Res.bind] at HS
  obtain ⟨_, av5, rfl, rfl, hrr⟩ := hr
  have R5 := Lib.hid (R4.out.res hrr HRG.out NR4.out)
  have NR5 := Lib.hid (hrr.apart R4.out.lt NR4.out)
  have HR5 := Lib.hid (RdRes.trans HGL.out HVL.out HR4.out hrr)
  have HG5 := Lib.hid (HG4.out.res HR4.out.1 hrr.2.1)
  have HQ := Lib.hid (quote_any s w5 (by dsimp only at hn1; unfold maxLen; omega) HG5.out.gt.t)
  have HN1 := Lib.hid hn1
  have HSZ := Lib.hid (show s.size ≤ 140737488351232 from by dsimp only at hn1; omega)
  clear hk hrr HTX hn1 HR4 R4 HG4
  go_wp2_with fail
  refine HQ.out.mono ?_
  rintro e w6 ⟨ev, rfl, her, hb6⟩
  have HB6 := Lib.hid hb6
  cases hne : (quoteS s).2 with
  | cons k r =>
    rw [hne] at her
    have HS2 := Lib.hid (show spc = .bad (⟨etfL, st.at_, k.code⟩ :: k :: r) from by rw [HS.out, if_pos (by rw [hne]; simp), hne]; rfl)
    have HOF := Lib.hid (etOf_any st.at_ ev k r w6 her (HG5.out.below hb6).gt.e)
    obtain ⟨eb, eu, rfl, _⟩ := her
    clear hne hb6
    go_wp2_with fail
    refine HOF.out.mono ?_
    rintro e w7 ⟨b, rfl, her7, hb7⟩
    have HP := Lib.hid (RdRes.pan (e := .panicked _) HGL.out HVL.out HR5.out ⟨b, rfl, her7, by simp, keepB (HB6.out.trans (hb7.mono HB6.out.size))⟩)
    clear her7 hb7 HOF
    go_wp2
    rw [HS2.out]
    exact ⟨rfl, HP.out⟩
  | nil =>
    rw [hne] at her
    obtain rfl : ev = .nilIface := her
    have HS2 := Lib.hid (show spc = .ok (.mk 2 0 s 0 [] []) ⟨n, st.part + 1, st.atoms ++ [s]⟩ from by rw [HS.out, if_neg (by rw [hne]; simp)])
    have HR6 := Lib.hid (HR5.out.ext hb6)
    obtain ⟨a', n', c', w', hrun, hC, hres⟩ := HR6.out.1.app s (by have h8 := HOK.out.atoms; have h9 : st.at_ + 1 + 1 + s.size ≤ n := HN1.out; show st.atoms.length + 1 ≤ n; omega)
    have HRUN := Lib.hid hrun
    have HC := Lib.hid hC
    have R6 := Lib.hid (R5.out.below hb6)
    have R7 := Lib.hid (R6.out.res hres HRG.out NR5.out)
    have NR7 := Lib.hid (hres.apart R6.out.lt NR5.out)
    have HR7 := Lib.hid (RdRes.trans HGL.out HVL.out HR6.out hres)
    obtain ⟨a3, c3, rfl⟩ := HR6.out.1.aform
    have b3 := HR6.out.1.cells.cell 3
    simp only [List.getElem?_cons_zero, List.getElem?_cons_succ] at b3
    clear hne hb6 hrun hC hres HQ HR6 R6
    go_wp2_with (at_builtin; refine stop ?_)
    refine Stopped.of ?_
    refine wp_app_eq rfl (.tmp 126) (.tmp 128) _ _ rfl _ _ (.slice a' n' c') w' rfl rfl HRUN.out ?_
    have d3 := HC.out.cell 3
    have f3 := HC.out.frozen 3
    simp only [List.getElem?_cons_zero, List.getElem?_cons_succ] at d3
    go_upto_region 39 with (fail)
    generalize w'.setCell ⟨g, 3, none⟩ (.slice a' n' c') = w8 at *
    clear d3 f3 b3
    have RF := R7
    unfold termZ at RF
    go_wp2_with (refine wpList_store_blk rfl _ (.tmp 4) (.tmp 133) rfl w.heap.size 0 [.int .i64 2, .int .i64 0, .string s, .int .u32 0, .slice none 0 0, .slice none 0 0] (by rfl) (by rfl) (by kernel_rfl) (by simp [Value.oneCell']) 35 _ RF.out (by show 0 + 6 ≤ 6; decide) ?_; intro wz hCz hgz)
    have hCz' : Cells wz w.heap.size 35 [.int .i64 2, .int .i64 0, .string s, .int .u32 0, .slice none 0 0, .slice none 0 0] := hCz
    have z0 := hCz'.cell 0
    have z1 := hCz'.cell 1
    have z2 := hCz'.cell 2
    have z3 := hCz'.cell 3
    have z4 := hCz'.cell 4
    have z5 := hCz'.cell 5
    simp only [List.getElem?_cons_zero, List.getElem?_cons_succ] at z0 z1 z2 z3 z4 z5
    have KZ := Lib.hid (show Keep (fun q => q = w.heap.size) w8 wz from (Keep.refl _ _).grown hgz (fun k hk _ => by cases hk; rfl))
    clear hCz hCz' hgz
    go_wp2
    refine bodyPost_ret (v := .agg ([.int .i64 2, .int .i64 0, .string s, .int .u32 0, .slice none 0 0, .slice none 0 0]).toArray) (by simp [results, Tryz.results98, go_sem, z0, z1, z2, z3, z4, z5]) rfl ?_
    rw [HS2.out]
    refine ⟨_, _, rfl, ⟨_, rfl, ?_⟩, RdRes.late HR7.out HGL.out KZ.out (fun q (hq : q = w.heap.size) => by rw [hq]; exact ⟨Nat.le_refl _, NR7.out⟩)⟩
    refine TmAt.of ⟨show Part (2 : Int) 0 s 0 from ⟨by decide, by decide, by decide, by decide, HSZ.out, by decide, by decide⟩, .slice none 0 0, none, 0, rfl, (show NumsAt _ (.slice none 0 0) [] wz from ⟨none, 0, rfl, ⟨Nat.le_refl _, by decide⟩, Nat.zero_le _, fun i hi => absurd hi (Nat.not_lt_zero _)⟩), ⟨Nat.le_refl _, Nat.zero_le _⟩, (show 0 * 88 ≤ 140737488351232 by decide), ?_⟩
    show ArgsAt _ [] none wz
    rw [ArgsAt]; trivial

set_option maxHeartbeats 32000000 in
set_option maxRecDepth 100000 in
theorem term_k119 {base g : Nat} {l : List UInt8} {bv av : Value} {st : Rd} {w : World} (f : Nat) (dv : Int) (hih : TermC l f) (hdv : dv + 1 = 257 - (f : Int)) (hd0 : 0 ≤ dv) (hd1 : dv ≤ 256) (h : RdIs base g l bv st av w) (hG : GtB base w) (hpart : st.part ≠ 4096) (hl : st.at_ < l.length) (hk : l.getD st.at_ 0 = 119) (spc : Res Tm) (hspc : spc = ((needS l st.at_ 1 ⟨st.at_, st.part + 1, st.atoms⟩).bind fun _ st2 => bodyS l (termS l f) st.at_ 119 st2)) :
    Calls Tryz.prog 98 #[.pointer (some ⟨g, 0, none⟩), .int .i64 dv] w (RetR base g l bv av w spc (TmR w)) := by
  have HS := Lib.hid hspc
  have HIH := Lib.hid hih
  have HDV := Lib.hid hdv
  have HGL := Lib.hid h.cells.lt
  have HVL := Lib.hid (fun q (hq : av.ownBlock = some q) => (h.atoms.lt hq).1)
  have HOK := Lib.hid h.ok
  obtain ⟨ba, bc, rfl⟩ := h.form
  have BX := Lib.hid ((Below.refl w.heap.size w).alloc (Nat.le_refl _) (.cells #[.int .i64 0, .int .i64 0, .string ⟨#[]⟩, .int .u32 0, .slice none 0 0, .slice none 0 0] 35 (0, 0)))
  have R1 := Lib.hid (show Cells (w.alloc (.cells #[.int .i64 0, .int .i64 0, .string ⟨#[]⟩, .int .u32 0, .slice none 0 0, .slice none 0 0] 35 (0, 0))) w.heap.size 35 termZ from Cells.new w 35 termZ)
  have HR1 := Lib.hid (RdRes.below h BX.out)
  have HG1 := Lib.hid (hG.below BX.out)
  have HNR := Lib.hid (show av.ownBlock ≠ some w.heap.size from fun e => Nat.lt_irrefl _ (HVL.out _ e))
  have HRG := Lib.hid (show w.heap.size ≠ g from fun e => by have := HGL.out; omega)
  have c1 := HR1.out.1.cells.cell 1
  have c2 := HR1.out.1.cells.cell 2
  have f2 := HR1.out.1.cells.frozen 2
  simp only [List.getElem?_cons_zero, List.getElem?_cons_succ] at c1 c2
  have hp0 : (0 : Int) ≤ (st.part : Int) := by omega
  have hp1 : (st.part : Int) ≤ 4096 := by have := HOK.out.part; omega
  have hp2 : ((st.part : Int) == 4096) = false := beq_eq_false_iff_ne.2 (by omega)
  have hp3 : ¬ (256 : Int) < dv := by omega
  have hcw : IntKind.i64.wrap (dv + 1) = dv + 1 := IntWalk.i64_in _ (by omega)
  have ep : ((st.part + 1 : Nat) : Int) = (st.part : Int) + 1 := by omega
  have P2 := RdRes.parted HR1.out.1 (st.part + 1) ⟨HOK.out.le, HOK.out.in_, by have := HOK.out.part; show st.part + 1 ≤ 4096; omega, HOK.out.atoms⟩
  rw [ep] at P2
  have HR2 := Lib.hid (RdRes.trans HGL.out HVL.out HR1.out P2)
  have R2 := Lib.hid (R1.out.far (p := ⟨g, 2, none⟩) HRG.out (.int .i64 ((st.part : Int) + 1)))
  have HG2 := Lib.hid (HG1.out.far (w' := (w.alloc (.cells #[.int .i64 0, .int .i64 0, .string ⟨#[]⟩, .int .u32 0, .slice none 0 0, .slice none 0 0] 35 (0, 0))).setCell ⟨g, 2, none⟩ (.int .i64 ((st.part : Int) + 1))) (fun q hq => Below.heap_setCell _ _ _ _ (by have := HR1.out.1.hg; show q ≠ g; omega)))
  have HL := Lib.hid hl
  clear P2 ep h hG hpart hih hdv hspc
  go_enter Tryz.func98, Tryz.ntmps98
  go_upto_region 7 with (fail)
  generalize w.alloc (.cells #[.int .i64 0, .int .i64 0, .string ⟨#[]⟩, .int .u32 0, .slice none 0 0, .slice none 0 0] 35) = w1 at *
  generalize w1.setCell ⟨g, 2, none⟩ (.int .i64 ((st.part : Int) + 1)) = w2 at *
  clear c1 c2 f2 hp0 hp1 hp2 hp3
  have c0 := HR2.out.1.cells.cell 0
  have c1 := HR2.out.1.cells.cell 1
  simp only [List.getElem?_cons_zero, List.getElem?_cons_succ] at c0 c1
  obtain ⟨q, o, rfl, hx⟩ := HR2.out.1.buf.get st.at_ hl
  rw [hk] at hx
  have hx : w2.cell? ⟨q, o + st.at_, none⟩ = some (.int .u8 119) := hx
  clear hk
  have hi0 : ((st.at_ : Int) == (l.length : Int)) = false := beq_eq_false_iff_ne.2 (by omega)
  have hi1 : (0 : Int) ≤ (st.at_ : Int) := by omega
  have hi2 : (st.at_ : Int) < (l.length : Int) := by omega
  have HD := Lib.hid (fun m => And.intro (HR2.out.ext (below_drewN (Below.refl w2.heap.size w2) m)) (And.intro (R2.out.drewN m) (HG2.out.below (below_drewN (Below.refl w2.heap.size w2) m))))
  clear hl HR2 R2 HG2
  go_wp2_with fail
  go_quiet (fail)
  go_wp2_with fail
  go_quiet (fail)
  go_wp2_with fail
  generalize hW3 : w2.drewN _ = w3
  obtain ⟨hr3, hR3, hg3⟩ : RdRes base g l (.slice (some ⟨q, o, none⟩) l.length bc) av w ⟨st.at_, st.part + 1, st.atoms⟩ av w3 ∧ Cells w3 w.heap.size 35 termZ ∧ GtB base w3 := by
    rw [← hW3]; exact HD.out _
  have HR3 := Lib.hid hr3
  have R3 := Lib.hid hR3
  have HG3 := Lib.hid hg3
  clear hr3 hR3 hg3 hW3 HD c0 c1 hx hi0 hi1 hi2
  have HN := Lib.hid (need_any st.at_ 1 HR3.out.1 (by omega))
  refine HN.out.mono ?_
  intro e w4 hr
  rcases needS_cases l st.at_ 1 ⟨st.at_, st.part + 1, st.atoms⟩ with ⟨k, hk⟩ | ⟨hk, hle, hle6⟩
  · rw [hk] at hr HS
    obtain ⟨b, rfl, he, hne, hkk⟩ := hr
    have HP := Lib.hid (RdRes.pan (e := .panicked _) HGL.out HVL.out HR3.out ⟨b, rfl, he, hne, hkk⟩)
    clear he hne hkk hk HN 
    go_wp2
    rw [HS.out]
    exact ⟨rfl, HP.out⟩
  rw [hk] at hr HS
  simp only [Res.bind] at HS
  obtain ⟨sv4, av4, rfl, hsv, hrr⟩ := hr
  have R4 := Lib.hid (R3.out.res hrr HRG.out HNR.out)
  have NR4 := Lib.hid (hrr.apart R3.out.lt HNR.out)
  have HR4 := Lib.hid (RdRes.trans HGL.out HVL.out HR3.out hrr)
  have HG4 := Lib.hid (HG3.out.res HR3.out.1 hrr.2.1)
  obtain ⟨s4a, s4c, rfl⟩ : ∃ a c, sv4 = .slice a (cutB l st.at_ 1).length c := by obtain ⟨a, c, e, _⟩ := hsv; exact ⟨a, c, e⟩
  clear hk hrr HN hsv HR3 R3 HG3 hle hle6
  have HS2 := Lib.hid (show spc = (txtS l st.at_ false 0 ⟨st.at_ + 1, st.part + 1, st.atoms⟩).bind fun s st2 => if (quoteS s).2 ≠ [] then .bad (ofS st.at_ (quoteS s).2) else .ok (.mk 2 0 s 0 [] []) ⟨st2.at_, st2.part, st2.atoms ++ [s]⟩ from by rw [HS.out]; unfold bodyS; rw [if_neg (by decide), if_neg (by decide), if_pos (by decide)]; rfl)
  clear HS
  have HS := HS2
  clear HS2
  have HTX := Lib.hid (text_any st.at_ false 0 HR4.out.1 (by omega))
  go_wp2_with fail
  refine HTX.out.mono ?_
  intro e w5 hr
  rcases txtS_cases l st.at_ false 0 ⟨st.at_ + 1, st.part + 1, st.atoms⟩ with ⟨k, hk⟩ | ⟨s, n, hk, hn1, hn2, hn3⟩
  · rw [hk] at hr HS
    obtain ⟨b, rfl, he, hne, hkk⟩ := hr
    have HP := Lib.hid (RdRes.pan (e := .panicked _) HGL.out HVL.out HR4.out ⟨b, rfl, he, hne, hkk⟩)
    clear he hne hkk hk HTX
    go_wp2
    rw [HS.out]
    exact ⟨rfl, HP.out⟩
  rw [hk] at hr HS
  simp only [Res.bind] at HS
  obtain ⟨_, av5, rfl, rfl, hrr⟩ := hr
  have R5 := Lib.hid (R4.out.res hrr HRG.out NR4.out)
  have NR5 := Lib.hid (hrr.apart R4.out.lt NR4.out)
  have HR5 := Lib.hid (RdRes.trans HGL.out HVL.out HR4.out hrr)
  have HG5 := Lib.hid (HG4.out.res HR4.out.1 hrr.2.1)
  have HQ := Lib.hid (quote_any s w5 (by dsimp only at hn1; unfold maxLen; omega) HG5.out.gt.t)
  have HN1 := Lib.hid hn1
  have HSZ := Lib.hid (show s.size ≤ 140737488351232 from by dsimp only at hn1; omega)
  clear hk hrr HTX hn1 HR4 R4 HG4
  go_wp2_with fail
  refine HQ.out.mono ?_
  rintro e w6 ⟨ev, rfl, her, hb6⟩
  have HB6 := Lib.hid hb6
  cases hne : (quoteS s).2 with
  | cons k r =>
    rw [hne] at her
    have HS2 := Lib.hid (show spc = .bad (⟨etfL, st.at_, k.code⟩ :: k :: r) from by rw [HS.out, if_pos (by rw [hne]; simp), hne]; rfl)
    have HOF := Lib.hid (etOf_any st.at_ ev k r w6 her (HG5.out.below hb6).gt.e)
    obtain ⟨eb, eu, rfl, _⟩ := her
    clear hne hb6
    go_wp2_with fail
    refine HOF.out.mono ?_
    rintro e w7 ⟨b, rfl, her7, hb7⟩
    have HP := Lib.hid (RdRes.pan (e := .panicked _) HGL.out HVL.out HR5.out ⟨b, rfl, her7, by simp, keepB (HB6.out.trans (hb7.mono HB6.out.size))⟩)
    clear her7 hb7 HOF
    go_wp2
    rw [HS2.out]
    exact ⟨rfl, HP.out⟩
  | nil =>
    rw [hne] at her
    obtain rfl : ev = .nilIface := her
    have HS2 := Lib.hid (show spc = .ok (.mk 2 0 s 0 [] []) ⟨n, st.part + 1, st.atoms ++ [s]⟩ from by rw [HS.out, if_neg (by rw [hne]; simp)])
    have HR6 := Lib.hid (HR5.out.ext hb6)
    obtain ⟨a', n', c', w', hrun, hC, hres⟩ := HR6.out.1.app s (by have h8 := HOK.out.atoms; have h9 : st.at_ + 1 + 1 + s.size ≤ n := HN1.out; show st.atoms.length + 1 ≤ n; omega)
    have HRUN := Lib.hid hrun
    have HC := Lib.hid hC
    have R6 := Lib.hid (R5.out.below hb6)
    have R7 := Lib.hid (R6.out.res hres HRG.out NR5.out)
    have NR7 := Lib.hid (hres.apart R6.out.lt NR5.out)
    have HR7 := Lib.hid (RdRes.trans HGL.out HVL.out HR6.out hres)
    obtain ⟨a3, c3, rfl⟩ := HR6.out.1.aform
    have b3 := HR6.out.1.cells.cell 3
    simp only [List.getElem?_cons_zero, List.getElem?_cons_succ] at b3
    clear hne hb6 hrun hC hres HQ HR6 R6
    go_wp2_with (at_builtin; refine stop ?_)
    refine Stopped.of ?_
    refine wp_app_eq rfl (.tmp 126) (.tmp 128) _ _ rfl _ _ (.slice a' n' c') w' rfl rfl HRUN.out ?_
    have d3 := HC.out.cell 3
    have f3 := HC.out.frozen 3
    simp only [List.getElem?_cons_zero, List.getElem?_cons_succ] at d3
    go_upto_region 39 with (fail)
    generalize w'.setCell ⟨g, 3, none⟩ (.slice a' n' c') = w8 at *
    clear d3 f3 b3
    have RF := R7
    unfold termZ at RF
    go_wp2_with (refine wpList_store_blk rfl _ (.tmp 4) (.tmp 133) rfl w.heap.size 0 [.int .i64 2, .int .i64 0, .string s, .int .u32 0, .slice none 0 0, .slice none 0 0] (by rfl) (by rfl) (by kernel_rfl) (by simp [Value.oneCell']) 35 _ RF.out (by show 0 + 6 ≤ 6; decide) ?_; intro wz hCz hgz)
    have hCz' : Cells wz w.heap.size 35 [.int .i64 2, .int .i64 0, .string s, .int .u32 0, .slice none 0 0, .slice none 0 0] := hCz
    have z0 := hCz'.cell 0
    have z1 := hCz'.cell 1
    have z2 := hCz'.cell 2
    have z3 := hCz'.cell 3
    have z4 := hCz'.cell 4
    have z5 := hCz'.cell 5
    simp only [List.getElem?_cons_zero, List.getElem?_cons_succ] at z0 z1 z2 z3 z4 z5
    have KZ := Lib.hid (show Keep (fun q => q = w.heap.size) w8 wz from (Keep.refl _ _).grown hgz (fun k hk _ => by cases hk; rfl))
    clear hCz hCz' hgz
    go_wp2
    refine bodyPost_ret (v := .agg ([.int .i64 2, .int .i64 0, .string s, .int .u32 0, .slice none 0 0, .slice none 0 0]).toArray) (by simp [results, Tryz.results98, go_sem, z0, z1, z2, z3, z4, z5]) rfl ?_
    rw [HS2.out]
    refine ⟨_, _, rfl, ⟨_, rfl, ?_⟩, RdRes.late HR7.out HGL.out KZ.out (fun q (hq : q = w.heap.size) => by rw [hq]; exact ⟨Nat.le_refl _, NR7.out⟩)⟩
    refine TmAt.of ⟨show Part (2 : Int) 0 s 0 from ⟨by decide, by decide, by decide, by decide, HSZ.out, by decide, by decide⟩, .slice none 0 0, none, 0, rfl, (show NumsAt _ (.slice none 0 0) [] wz from ⟨none, 0, rfl, ⟨Nat.le_refl _, by decide⟩, Nat.zero_le _, fun i hi => absurd hi (Nat.not_lt_zero _)⟩), ⟨Nat.le_refl _, Nat.zero_le _⟩, (show 0 * 88 ≤ 140737488351232 by decide), ?_⟩
    show ArgsAt _ [] none wz
    rw [ArgsAt]; trivial
end Go.Proofs.YtlahagabcnmdiaaGreatDoor
end
section
/- Package etf: the reader: a term. Printed by wip/edl.py. -/
open Go Go.RowKit
namespace Go.Proofs.YtlahagabcnmdiaaGreatDoor
set_option linter.unusedVariables false
set_option linter.unusedSimpArgs false

theorem tagB_false {k : UInt8} (h : tagB k = false) : ((k.toNat : Int) == 97) = false ∧ ((k.toNat : Int) == 98) = false ∧ ((k.toNat : Int) == 118) = false ∧ ((k.toNat : Int) == 119) = false ∧ ((k.toNat : Int) == 104) = false ∧ ((k.toNat : Int) == 105) = false ∧ ((k.toNat : Int) == 106) = false ∧ ((k.toNat : Int) == 108) = false ∧ ((k.toNat : Int) == 88) = false ∧ ((k.toNat : Int) == 90) = false := by
  unfold tagB at h
  simp only [Bool.or_eq_false_iff, beq_eq_false_iff_ne] at h
  obtain ⟨⟨⟨⟨⟨⟨⟨⟨⟨h0, h1⟩, h2⟩, h3⟩, h4⟩, h5⟩, h6⟩, h7⟩, h8⟩, h9⟩ := h
  exact ⟨u8_ne (n := 97) h0 (by decide), u8_ne (n := 98) h1 (by decide), u8_ne (n := 118) h2 (by decide), u8_ne (n := 119) h3 (by decide), u8_ne (n := 104) h4 (by decide), u8_ne (n := 105) h5 (by decide), u8_ne (n := 106) h6 (by decide), u8_ne (n := 108) h7 (by decide), u8_ne (n := 88) h8 (by decide), u8_ne (n := 90) h9 (by decide)⟩
theorem tagB_true {k : UInt8} (h : tagB k = true) : k = 97 ∨ k = 98 ∨ k = 118 ∨ k = 119 ∨ k = 104 ∨ k = 105 ∨ k = 106 ∨ k = 108 ∨ k = 88 ∨ k = 90 := by
  unfold tagB at h
  simp only [Bool.or_eq_true, beq_iff_eq] at h
  obtain (((((((((h | h) | h) | h) | h) | h) | h) | h) | h) | h) := h <;> simp [h]
set_option maxHeartbeats 16000000 in
set_option maxRecDepth 100000 in
theorem term_many {base g : Nat} {l : List UInt8} {bv av : Value} {st : Rd} {w : World} (dv : Int) (h : RdIs base g l bv st av w) (hpart : st.part = 4096) :
    Calls Tryz.prog 98 #[.pointer (some ⟨g, 0, none⟩), .int .i64 dv] w (RetR base g l bv av w (.bad [⟨etfL, st.at_, 5⟩]) (TmR w)) := by
  have HGL := Lib.hid h.cells.lt
  have HVL := Lib.hid (fun q (hq : av.ownBlock = some q) => (h.atoms.lt hq).1)
  have HOK := Lib.hid h.ok
  have BX := Lib.hid ((Below.refl w.heap.size w).alloc (Nat.le_refl _) (.cells #[.int .i64 0, .int .i64 0, .string ⟨#[]⟩, .int .u32 0, .slice none 0 0, .slice none 0 0] 35 (0, 0)))
  have HR1 := Lib.hid (RdRes.below h BX.out)
  have c1 := HR1.out.1.cells.cell 1
  have c2 := HR1.out.1.cells.cell 2
  simp only [List.getElem?_cons_zero, List.getElem?_cons_succ] at c1 c2
  rw [hpart] at c2
  have c2 : _ = some (Value.int .i64 4096) := c2
  have HST := Lib.hid (fun W => etStop_any (LsK g av) g st.at_ 5 W)
  clear h
  go_enter Tryz.func98, Tryz.ntmps98
  go_wp2_with fail
  refine (HST.out _).mono ?_
  intro e w4 hp
  have HP := Lib.hid (RdRes.pan HGL.out HVL.out HR1.out hp)
  obtain ⟨b, rfl, _⟩ := hp
  go_wp2
  exact ⟨rfl, HP.out⟩
set_option maxHeartbeats 16000000 in
set_option maxRecDepth 100000 in
theorem term_deep {base g : Nat} {l : List UInt8} {bv av : Value} {st : Rd} {w : World} (dv : Int) (h : RdIs base g l bv st av w) (hpart : st.part ≠ 4096) (hd : 256 < dv) :
    Calls Tryz.prog 98 #[.pointer (some ⟨g, 0, none⟩), .int .i64 dv] w (RetR base g l bv av w (.bad [⟨etfL, st.at_, 9⟩]) (TmR w)) := by
  have HGL := Lib.hid h.cells.lt
  have HVL := Lib.hid (fun q (hq : av.ownBlock = some q) => (h.atoms.lt hq).1)
  have HOK := Lib.hid h.ok
  have BX := Lib.hid ((Below.refl w.heap.size w).alloc (Nat.le_refl _) (.cells #[.int .i64 0, .int .i64 0, .string ⟨#[]⟩, .int .u32 0, .slice none 0 0, .slice none 0 0] 35 (0, 0)))
  have HR1 := Lib.hid (RdRes.below h BX.out)
  have c1 := HR1.out.1.cells.cell 1
  have c2 := HR1.out.1.cells.cell 2
  simp only [List.getElem?_cons_zero, List.getElem?_cons_succ] at c1 c2
  have hp0 : (0 : Int) ≤ (st.part : Int) := by omega
  have hp1 : (st.part : Int) ≤ 4096 := by have := HOK.out.part; omega
  have hp2 : ((st.part : Int) == 4096) = false := beq_eq_false_iff_ne.2 (by omega)
  clear hpart
  have HST := Lib.hid (fun W => etStop_any (LsK g av) g st.at_ 9 W)
  clear h
  go_enter Tryz.func98, Tryz.ntmps98
  go_wp2_with fail
  refine (HST.out _).mono ?_
  intro e w4 hp
  have HP := Lib.hid (RdRes.pan HGL.out HVL.out HR1.out hp)
  obtain ⟨b, rfl, _⟩ := hp
  go_wp2
  exact ⟨rfl, HP.out⟩
set_option maxHeartbeats 32000000 in
set_option maxRecDepth 100000 in
theorem term_cut {base g : Nat} {l : List UInt8} {bv av : Value} {st : Rd} {w : World} (f : Nat) (dv : Int) (hih : TermC l f) (hdv : dv + 1 = 257 - (f : Int)) (hd0 : 0 ≤ dv) (hd1 : dv ≤ 256) (h : RdIs base g l bv st av w) (hG : GtB base w) (hpart : st.part ≠ 4096) (hl : st.at_ = l.length) (spc : Res Tm) (hspc : spc = (.bad [⟨etfL, st.at_, 82⟩])) :
    Calls Tryz.prog 98 #[.pointer (some ⟨g, 0, none⟩), .int .i64 dv] w (RetR base g l bv av w spc (TmR w)) := by
  have HS := Lib.hid hspc
  have HIH := Lib.hid hih
  have HDV := Lib.hid hdv
  have HGL := Lib.hid h.cells.lt
  have HVL := Lib.hid (fun q (hq : av.ownBlock = some q) => (h.atoms.lt hq).1)
  have HOK := Lib.hid h.ok
  obtain ⟨ba, bc, rfl⟩ := h.form
  have BX := Lib.hid ((Below.refl w.heap.size w).alloc (Nat.le_refl _) (.cells #[.int .i64 0, .int .i64 0, .string ⟨#[]⟩, .int .u32 0, .slice none 0 0, .slice none 0 0] 35 (0, 0)))
  have R1 := Lib.hid (show Cells (w.alloc (.cells #[.int .i64 0, .int .i64 0, .string ⟨#[]⟩, .int .u32 0, .slice none 0 0, .slice none 0 0] 35 (0, 0))) w.heap.size 35 termZ from Cells.new w 35 termZ)
  have HR1 := Lib.hid (RdRes.below h BX.out)
  have HG1 := Lib.hid (hG.below BX.out)
  have HNR := Lib.hid (show av.ownBlock ≠ some w.heap.size from fun e => Nat.lt_irrefl _ (HVL.out _ e))
  have HRG := Lib.hid (show w.heap.size ≠ g from fun e => by have := HGL.out; omega)
  have c1 := HR1.out.1.cells.cell 1
  have c2 := HR1.out.1.cells.cell 2
  have f2 := HR1.out.1.cells.frozen 2
  simp only [List.getElem?_cons_zero, List.getElem?_cons_succ] at c1 c2
  have hp0 : (0 : Int) ≤ (st.part : Int) := by omega
  have hp1 : (st.part : Int) ≤ 4096 := by have := HOK.out.part; omega
  have hp2 : ((st.part : Int) == 4096) = false := beq_eq_false_iff_ne.2 (by omega)
  have hp3 : ¬ (256 : Int) < dv := by omega
  have hcw : IntKind.i64.wrap (dv + 1) = dv + 1 := IntWalk.i64_in _ (by omega)
  have ep : ((st.part + 1 : Nat) : Int) = (st.part : Int) + 1 := by omega
  have P2 := RdRes.parted HR1.out.1 (st.part + 1) ⟨HOK.out.le, HOK.out.in_, by have := HOK.out.part; show st.part + 1 ≤ 4096; omega, HOK.out.atoms⟩
  rw [ep] at P2
  have HR2 := Lib.hid (RdRes.trans HGL.out HVL.out HR1.out P2)
  have R2 := Lib.hid (R1.out.far (p := ⟨g, 2, none⟩) HRG.out (.int .i64 ((st.part : Int) + 1)))
  have HG2 := Lib.hid (HG1.out.far (w' := (w.alloc (.cells #[.int .i64 0, .int .i64 0, .string ⟨#[]⟩, .int .u32 0, .slice none 0 0, .slice none 0 0] 35 (0, 0))).setCell ⟨g, 2, none⟩ (.int .i64 ((st.part : Int) + 1))) (fun q hq => Below.heap_setCell _ _ _ _ (by have := HR1.out.1.hg; show q ≠ g; omega)))
  have HL := Lib.hid hl
  clear P2 ep h hG hpart hih hdv hspc hl
  go_enter Tryz.func98, Tryz.ntmps98
  go_upto_region 7 with (fail)
  generalize w.alloc (.cells #[.int .i64 0, .int .i64 0, .string ⟨#[]⟩, .int .u32 0, .slice none 0 0, .slice none 0 0] 35) = w1 at *
  generalize w1.setCell ⟨g, 2, none⟩ (.int .i64 ((st.part : Int) + 1)) = w2 at *
  clear c1 c2 f2 hp0 hp1 hp2 hp3
  have c0 := HR2.out.1.cells.cell 0
  have c1 := HR2.out.1.cells.cell 1
  simp only [List.getElem?_cons_zero, List.getElem?_cons_succ] at c0 c1
  have hi0 : ((st.at_ : Int) == (l.length : Int)) = true := beq_iff_eq.2 (by have := HL.out; omega)
  have hi1 : (0 : Int) ≤ (st.at_ : Int) := by omega
  have HD := Lib.hid (fun m => And.intro (HR2.out.ext (below_drewN (Below.refl w2.heap.size w2) m)) (And.intro (R2.out.drewN m) (HG2.out.below (below_drewN (Below.refl w2.heap.size w2) m))))
  clear HR2 R2 HG2
  have HST := Lib.hid (fun W => etStop_any (LsK g av) g st.at_ 82 W)
  go_wp2_with fail
  go_quiet (fail)
  go_wp2_with fail
  refine (HST.out _).mono ?_
  intro e w4 hp
  have HP := Lib.hid (RdRes.pan HGL.out HVL.out (HD.out _).1 hp)
  obtain ⟨b, rfl, _⟩ := hp
  go_wp2
  rw [HS.out]
  exact ⟨rfl, HP.out⟩
set_option maxHeartbeats 32000000 in
set_option maxRecDepth 100000 in
theorem term_bad {base g : Nat} {l : List UInt8} {bv av : Value} {st : Rd} {w : World} (f : Nat) (dv : Int) (hih : TermC l f) (hdv : dv + 1 = 257 - (f : Int)) (hd0 : 0 ≤ dv) (hd1 : dv ≤ 256) (h : RdIs base g l bv st av w) (hG : GtB base w) (hpart : st.part ≠ 4096) (hl : st.at_ < l.length) (hk : tagB (l.getD st.at_ 0) = false) (spc : Res Tm) (hspc : spc = (.bad [⟨etfL, st.at_, 83⟩])) :
    Calls Tryz.prog 98 #[.pointer (some ⟨g, 0, none⟩), .int .i64 dv] w (RetR base g l bv av w spc (TmR w)) := by
  have HS := Lib.hid hspc
  have HIH := Lib.hid hih
  have HDV := Lib.hid hdv
  have HGL := Lib.hid h.cells.lt
  have HVL := Lib.hid (fun q (hq : av.ownBlock = some q) => (h.atoms.lt hq).1)
  have HOK := Lib.hid h.ok
  obtain ⟨ba, bc, rfl⟩ := h.form
  have BX := Lib.hid ((Below.refl w.heap.size w).alloc (Nat.le_refl _) (.cells #[.int .i64 0, .int .i64 0, .string ⟨#[]⟩, .int .u32 0, .slice none 0 0, .slice none 0 0] 35 (0, 0)))
  have R1 := Lib.hid (show Cells (w.alloc (.cells #[.int .i64 0, .int .i64 0, .string ⟨#[]⟩, .int .u32 0, .slice none 0 0, .slice none 0 0] 35 (0, 0))) w.heap.size 35 termZ from Cells.new w 35 termZ)
  have HR1 := Lib.hid (RdRes.below h BX.out)
  have HG1 := Lib.hid (hG.below BX.out)
  have HNR := Lib.hid (show av.ownBlock ≠ some w.heap.size from fun e => Nat.lt_irrefl _ (HVL.out _ e))
  have HRG := Lib.hid (show w.heap.size ≠ g from fun e => by have := HGL.out; omega)
  have c1 := HR1.out.1.cells.cell 1
  have c2 := HR1.out.1.cells.cell 2
  have f2 := HR1.out.1.cells.frozen 2
  simp only [List.getElem?_cons_zero, List.getElem?_cons_succ] at c1 c2
  have hp0 : (0 : Int) ≤ (st.part : Int) := by omega
  have hp1 : (st.part : Int) ≤ 4096 := by have := HOK.out.part; omega
  have hp2 : ((st.part : Int) == 4096) = false := beq_eq_false_iff_ne.2 (by omega)
  have hp3 : ¬ (256 : Int) < dv := by omega
  have hcw : IntKind.i64.wrap (dv + 1) = dv + 1 := IntWalk.i64_in _ (by omega)
  have ep : ((st.part + 1 : Nat) : Int) = (st.part : Int) + 1 := by omega
  have P2 := RdRes.parted HR1.out.1 (st.part + 1) ⟨HOK.out.le, HOK.out.in_, by have := HOK.out.part; show st.part + 1 ≤ 4096; omega, HOK.out.atoms⟩
  rw [ep] at P2
  have HR2 := Lib.hid (RdRes.trans HGL.out HVL.out HR1.out P2)
  have R2 := Lib.hid (R1.out.far (p := ⟨g, 2, none⟩) HRG.out (.int .i64 ((st.part : Int) + 1)))
  have HG2 := Lib.hid (HG1.out.far (w' := (w.alloc (.cells #[.int .i64 0, .int .i64 0, .string ⟨#[]⟩, .int .u32 0, .slice none 0 0, .slice none 0 0] 35 (0, 0))).setCell ⟨g, 2, none⟩ (.int .i64 ((st.part : Int) + 1))) (fun q hq => Below.heap_setCell _ _ _ _ (by have := HR1.out.1.hg; show q ≠ g; omega)))
  have HL := Lib.hid hl
  clear P2 ep h hG hpart hih hdv hspc
  go_enter Tryz.func98, Tryz.ntmps98
  go_upto_region 7 with (fail)
  generalize w.alloc (.cells #[.int .i64 0, .int .i64 0, .string ⟨#[]⟩, .int .u32 0, .slice none 0 0, .slice none 0 0] 35) = w1 at *
  generalize w1.setCell ⟨g, 2, none⟩ (.int .i64 ((st.part : Int) + 1)) = w2 at *
  clear c1 c2 f2 hp0 hp1 hp2 hp3
  have c0 := HR2.out.1.cells.cell 0
  have c1 := HR2.out.1.cells.cell 1
  simp only [List.getElem?_cons_zero, List.getElem?_cons_succ] at c0 c1
  obtain ⟨q, o, rfl, hx⟩ := HR2.out.1.buf.get st.at_ hl
  obtain ⟨HT0, HT1, HT2, HT3, HT4, HT5, HT6, HT7, HT8, HT9⟩ := tagB_false hk
  clear hk
  generalize (l.getD st.at_ 0).toNat = kb at *
  have hi0 : ((st.at_ : Int) == (l.length : Int)) = false := beq_eq_false_iff_ne.2 (by omega)
  have hi1 : (0 : Int) ≤ (st.at_ : Int) := by omega
  have hi2 : (st.at_ : Int) < (l.length : Int) := by omega
  have HD := Lib.hid (fun m => And.intro (HR2.out.ext (below_drewN (Below.refl w2.heap.size w2) m)) (And.intro (R2.out.drewN m) (HG2.out.below (below_drewN (Below.refl w2.heap.size w2) m))))
  clear hl HR2 R2 HG2
  go_wp2_with fail
  go_quiet (fail)
  go_wp2_with fail
  go_quiet (fail)
  go_wp2_with fail
  generalize hW3 : w2.drewN _ = w3
  obtain ⟨hr3, hR3, hg3⟩ : RdRes base g l (.slice (some ⟨q, o, none⟩) l.length bc) av w ⟨st.at_, st.part + 1, st.atoms⟩ av w3 ∧ Cells w3 w.heap.size 35 termZ ∧ GtB base w3 := by
    rw [← hW3]; exact HD.out _
  have HR3 := Lib.hid hr3
  have R3 := Lib.hid hR3
  have HG3 := Lib.hid hg3
  clear hr3 hR3 hg3 hW3 HD c0 c1 hx hi0 hi1 hi2
  have HST := Lib.hid (etStop_any (LsK g av) g st.at_ 83 w3)
  refine HST.out.mono ?_
  intro e w4 hp
  have HP := Lib.hid (RdRes.pan HGL.out HVL.out HR3.out hp)
  obtain ⟨b, rfl, _⟩ := hp
  go_wp2
  rw [HS.out]
  exact ⟨rfl, HP.out⟩
theorem term_ind (l : List UInt8) : ∀ f, f ≤ 256 → TermC l f := by
  intro f
  induction f with
  | zero =>
    intro _ base g bv av st w h hG
    have e : (257 : Int) - ((0 : Nat) : Int) = 257 := by omega
    rw [e]
    by_cases hp : st.part = 4096
    · have hs : termS l 0 st = .bad [⟨etfL, st.at_, 5⟩] := by rw [termS, if_pos hp]
      rw [hs]; exact term_many 257 h hp
    · have hs : termS l 0 st = .bad [⟨etfL, st.at_, 9⟩] := by rw [termS, if_neg hp]
      rw [hs]; exact term_deep 257 h hp (by decide)
  | succ f ih =>
    intro hf base g bv av st w h hG
    have hih := ih (by omega)
    have hdv : (257 - ((f + 1 : Nat) : Int)) + 1 = 257 - (f : Int) := by omega
    have hd0 : (0 : Int) ≤ 257 - ((f + 1 : Nat) : Int) := by omega
    have hd1 : 257 - ((f + 1 : Nat) : Int) ≤ 256 := by omega
    by_cases hp : st.part = 4096
    · have hs : termS l (f + 1) st = .bad [⟨etfL, st.at_, 5⟩] := by rw [termS, if_pos hp]
      rw [hs]; exact term_many _ h hp
    by_cases hc : st.at_ = l.length
    · have hs : termS l (f + 1) st = .bad [⟨etfL, st.at_, 82⟩] := by rw [termS, if_neg hp, if_pos hc]
      exact term_cut f _ hih hdv hd0 hd1 h hG hp hc _ hs
    have hl : st.at_ < l.length := by have := h.ok.in_; omega
    cases ht : tagB (l.getD st.at_ 0) with
    | false =>
      have hs : termS l (f + 1) st = .bad [⟨etfL, st.at_, 83⟩] := by rw [termS, if_neg hp, if_neg hc, if_pos ht]
      exact term_bad f _ hih hdv hd0 hd1 h hG hp hl ht _ hs
    | true =>
      have hs : termS l (f + 1) st = (needS l st.at_ 1 ⟨st.at_, st.part + 1, st.atoms⟩).bind fun _ st2 => bodyS l (termS l f) st.at_ (l.getD st.at_ 0) st2 := by rw [termS, if_neg hp, if_neg hc, if_neg (by rw [ht]; decide)]
      rcases tagB_true ht with hk | hk | hk | hk | hk | hk | hk | hk | hk | hk
      · rw [hk] at hs; exact term_k97 f _ hih hdv hd0 hd1 h hG hp hl hk _ hs
      · rw [hk] at hs; exact term_k98 f _ hih hdv hd0 hd1 h hG hp hl hk _ hs
      · rw [hk] at hs; exact term_k118 f _ hih hdv hd0 hd1 h hG hp hl hk _ hs
      · rw [hk] at hs; exact term_k119 f _ hih hdv hd0 hd1 h hG hp hl hk _ hs
      · rw [hk] at hs; exact term_k104 f _ hih hdv hd0 hd1 h hG hp hl hk _ hs
      · rw [hk] at hs; exact term_k105 f _ hih hdv hd0 hd1 h hG hp hl hk _ hs
      · rw [hk] at hs; exact term_k106 f _ hih hdv hd0 hd1 h hG hp hl hk _ hs
      · rw [hk] at hs; exact term_k108 f _ hih hdv hd0 hd1 h hG hp hl hk _ hs
      · rw [hk] at hs; exact term_k88 f _ hih hdv hd0 hd1 h hG hp hl hk _ hs
      · rw [hk] at hs; exact term_k90 f _ hih hdv hd0 hd1 h hG hp hl hk _ hs
theorem term_any {base g : Nat} {l : List UInt8} {bv av : Value} {st : Rd} {w : World} (h : RdIs base g l bv st av w) (hG : GtB base w) :
    Calls Tryz.prog 98 #[.pointer (some ⟨g, 0, none⟩), .int .i64 1] w (RetR base g l bv av w (termS l 256 st) (TmR w)) := term_ind l 256 (Nat.le_refl _) base g bv av st w h hG
end Go.Proofs.YtlahagabcnmdiaaGreatDoor
end
section
/- Package etf: read: what catches a panic. -/
open Go Go.RowKit
namespace Go.Proofs.YtlahagabcnmdiaaGreatDoor
set_option linter.unusedVariables false
set_option linter.unusedSimpArgs false

set_option maxHeartbeats 2000000 in
theorem catch_idle (p0 p1 p2 p3 : Addr) (w : World) :
    CallsD Tryz.prog 97 #[.pointer (some p0), .pointer (some p1), .pointer (some p2), .pointer (some p3)] .returning w fun e u' w' => e = .returned (.tuple #[]) ∧ u' = .returning ∧ w' = w := by
  refine callsD_of_wpS Tryz.func97 rfl fun c₀ cs hu => ?_
  apply wpS_seq
  apply wpS_region
  simp [wpOpsS, go_sem, recoverD, hu, Tryz.ntmps97, Exit.thenS]
  refine wpS_of_wp ?_
  have e : #[Value.pointer (some p0), .pointer (some p1), .pointer (some p2), .pointer (some p3)] ++ ((Array.replicate 17 undef).setIfInBounds 3 .nilIface).setIfInBounds 0 .nilIface = #[Value.pointer (some p0), .pointer (some p1), .pointer (some p2), .pointer (some p3), .nilIface, undef, undef, .nilIface, undef, undef, undef, undef, undef, undef, undef, undef, undef, undef, undef, undef, undef] := by kernel_rfl
  rw [e]
  clear e
  go_wp2
  cases c₀
  simp_all [bodyPostS, results, Tryz.results97]
set_option maxHeartbeats 4000000 in
set_option maxRecDepth 100000 in
theorem catch_panic (b0 b1 b2 b3 fb : Nat) (w : World) (v0 : List Value) (v1 v2 v3 : Value) (h0 : Cells w b0 35 v0) (hl : v0.length = 6) (h1 : Cells w b1 3 [v1]) (h2 : Cells w b2 56 [v2]) (h3 : Cells w b3 42 [v3]) (hne : b0 ≠ b1 ∧ b0 ≠ b2 ∧ b0 ≠ b3 ∧ b1 ≠ b2 ∧ b1 ≠ b3 ∧ b2 ≠ b3) :
    CallsD Tryz.prog 97 #[.pointer (some ⟨b0, 0, none⟩), .pointer (some ⟨b1, 0, none⟩), .pointer (some ⟨b2, 0, none⟩), .pointer (some ⟨b3, 0, none⟩)] (.panicking [{ v := .iface 96 (.pointer (some ⟨fb, 0, none⟩)), recovered := false }]) w fun e u' w' =>
      e = .returned (.tuple #[]) ∧ u' = .panicking [{ v := .iface 96 (.pointer (some ⟨fb, 0, none⟩)), recovered := true }] ∧
      Cells w' b0 35 termZ ∧ Cells w' b1 3 [.int .i64 0] ∧ Cells w' b2 56 [.slice none 0 0] ∧ Cells w' b3 42 [.iface 96 (.pointer (some ⟨fb, 0, none⟩))] ∧ Keep (fun q => q = b0 ∨ q = b1 ∨ q = b2 ∨ q = b3) w w' := by
  refine callsD_of_wpS Tryz.func97 rfl fun c₀ cs hu => ?_
  apply wpS_seq
  apply wpS_region
  simp [wpOpsS, go_sem, recoverD, hu, Tryz.ntmps97, Exit.thenS]
  refine wpS_of_wp ?_
  have e : #[Value.pointer (some ⟨b0, 0, none⟩), .pointer (some ⟨b1, 0, none⟩), .pointer (some ⟨b2, 0, none⟩), .pointer (some ⟨b3, 0, none⟩)] ++ ((Array.replicate 17 undef).setIfInBounds 3 (.iface 96 (.pointer (some ⟨fb, 0, none⟩)))).setIfInBounds 0 (.iface 96 (.pointer (some ⟨fb, 0, none⟩))) = #[Value.pointer (some ⟨b0, 0, none⟩), .pointer (some ⟨b1, 0, none⟩), .pointer (some ⟨b2, 0, none⟩), .pointer (some ⟨b3, 0, none⟩), (.iface 96 (.pointer (some ⟨fb, 0, none⟩))), undef, undef, (.iface 96 (.pointer (some ⟨fb, 0, none⟩))), undef, undef, undef, undef, undef, undef, undef, undef, undef, undef, undef, undef, undef] := by kernel_rfl
  rw [e]
  clear e
  have HU := Lib.hid hu
  have H0 := Lib.hid h0
  have H1 := Lib.hid h1
  have H2 := Lib.hid h2
  have H3 := Lib.hid h3
  have HL := Lib.hid hl
  have HN := Lib.hid hne
  have hnot : ∀ (x : Bool) (w : World), (Op.unary .not (.bool x)).run Tryz.prog w = .ok (.bool (!x)) w := fun _ _ => rfl
  have hta : ∀ (v : Value) (w : World), (Instr.typeAssert (.iface 96 v) 20 96 true).run Tryz.prog w = .ok (.tuple #[v, .bool true]) w := fun v w => by kernel_rfl
  clear hu h0 h1 h2 h3 hl hne
  go_wp2_with (refine wpList_store_blk rfl _ (.tmp 0) (.tmp 18) rfl b0 0 [.int .i64 0, .int .i64 0, .string ⟨#[]⟩, .int .u32 0, .slice none 0 0, .slice none 0 0] (by rfl) (by rfl) (by kernel_rfl) (by simp [Value.oneCell']) 35 _ H0.out (by rw [HL.out]; decide) ?_; intro wz hCz hgz; refine stop ?_)
  refine Stopped.of ?_
  have hC0 : Cells wz b0 35 termZ := by
    have h := hCz
    have e : setFrom v0 0 [.int .i64 0, .int .i64 0, .string ⟨#[]⟩, .int .u32 0, .slice none 0 0, .slice none 0 0] = termZ := by
      match v0, HL.out with
      | [a, b, c, d, e, f], _ => rfl
    rwa [e] at h
  have C0 := Lib.hid hC0
  have C1 := Lib.hid (H1.out.of_grown hgz (fun e => HN.out.1 e.symm))
  have C2 := Lib.hid (H2.out.of_grown hgz (fun e => HN.out.2.1 e.symm))
  have C3 := Lib.hid (H3.out.of_grown hgz (fun e => HN.out.2.2.1 e.symm))
  have KZ := Lib.hid (show Keep (fun q => q = b0 ∨ q = b1 ∨ q = b2 ∨ q = b3) w wz from (Keep.refl _ w).grown hgz (fun k hk _ => by cases hk; exact .inl rfl))
  clear hCz hgz hC0
  have f1 := C1.out.frozen 0
  have f2 := C2.out.frozen 0
  have f3 := C3.out.frozen 0
  have d1 := C1.out.cell 0
  have d2 := C2.out.cell 0
  have d3 := C3.out.cell 0
  simp only [List.getElem?_cons_zero] at d1 d2 d3
  have hn12 : b1 ≠ b2 := HN.out.2.2.2.1
  have hn13 : b1 ≠ b3 := HN.out.2.2.2.2.1
  have hn23 : b2 ≠ b3 := HN.out.2.2.2.2.2
  have F0 := Lib.hid (((C0.out.far (p := ⟨b1, 0, none⟩) HN.out.1 (.int .i64 0)).far (p := ⟨b2, 0, none⟩) HN.out.2.1 (.slice none 0 0)).far (p := ⟨b3, 0, none⟩) HN.out.2.2.1 (.iface 96 (.pointer (some ⟨fb, 0, none⟩))))
  have F1 := Lib.hid (show Cells _ b1 3 [.int .i64 0] from ((C1.out.set_ 0 (.int .i64 0)).far (p := ⟨b2, 0, none⟩) hn12 (.slice none 0 0)).far (p := ⟨b3, 0, none⟩) hn13 (.iface 96 (.pointer (some ⟨fb, 0, none⟩))))
  have F2 := Lib.hid (show Cells _ b2 56 [.slice none 0 0] from ((C2.out.far (p := ⟨b1, 0, none⟩) (fun e => hn12 e.symm) (.int .i64 0)).set_ 0 (.slice none 0 0)).far (p := ⟨b3, 0, none⟩) hn23 (.iface 96 (.pointer (some ⟨fb, 0, none⟩))))
  have F3 := Lib.hid (show Cells _ b3 42 [.iface 96 (.pointer (some ⟨fb, 0, none⟩))] from ((C3.out.far (p := ⟨b1, 0, none⟩) (fun e => hn13 e.symm) (.int .i64 0)).far (p := ⟨b2, 0, none⟩) (fun e => hn23 e.symm) (.slice none 0 0)).set_ 0 (.iface 96 (.pointer (some ⟨fb, 0, none⟩))))
  have FK := Lib.hid (((KZ.out.setCell (p := ⟨b1, 0, none⟩) (fun _ => .inr (.inl rfl)) (.int .i64 0)).setCell (p := ⟨b2, 0, none⟩) (fun _ => .inr (.inr (.inl rfl))) (.slice none 0 0)).setCell (p := ⟨b3, 0, none⟩) (fun _ => .inr (.inr (.inr rfl))) (.iface 96 (.pointer (some ⟨fb, 0, none⟩))))
  go_wp2
  refine ⟨rfl, _, rfl, _, by simp [results, Tryz.results97, go_sem], rfl, rfl, F0.out, F1.out, F2.out, F3.out, FK.out⟩
end Go.Proofs.YtlahagabcnmdiaaGreatDoor
end
