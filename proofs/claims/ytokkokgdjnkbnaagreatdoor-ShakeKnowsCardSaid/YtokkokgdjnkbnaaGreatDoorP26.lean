/- Texts laid together: SidG, SidH, SidI, SidJ, SidK, SidL, SidM, SidN, SidO, SidP, ShkWrites. -/
import Derived.Test.YtokkokgdjnkbnaaGreatDoorP23
import Derived.Test.YtokkokgdjnkbnaaGreatDoorP25
import Derived.Laws.EntriesVeiled
import Derived.StillTailTactics
import Derived.Test.YtokkokgdjnkbnaaGreatDoorP18
import Derived.Lib.SlBytesConst
import Derived.Deep.Cut
import Derived.Test.YtokkokgdjnkbnaaGreatDoorP24
section
/- Package shake: Take of a side that waits for a message. -/
open Go Go.RowKit
namespace Go.Proofs.YtokkokgdjnkbnaaGreatDoor

/-- what lies there behind the call of steps -/
structure StepL (t : TypeId) (g : Nat) (s : Sd) (fv : Value) (k : Int) (w w2 : World) : Prop where
  hb : Below w.heap.size w w2
  K2 : Cells w2 g t s.cells
  X2 : Cells w2 w.heap.size 119 [.int .i64 0, .nilFunc]
  X4 : Cells ((w2.setCell ⟨w.heap.size, 0, none⟩ (.int .i64 k)).setCell ⟨w.heap.size, 1, none⟩ fv) w.heap.size 119 [.int .i64 k, fv]
  KX : Cells ((w2.setCell ⟨w.heap.size, 0, none⟩ (.int .i64 k)).setCell ⟨w.heap.size, 1, none⟩ fv) g t s.cells
  e0 : w2.cell? ⟨g, 0, none⟩ = some (.int .i64 s.st)
  x0 : w2.cell? ⟨w.heap.size, 0, none⟩ = some (.int .i64 0)
  y0 : w2.frozen? ⟨w.heap.size, 0, none⟩ = false
  x1 : (w2.setCell ⟨w.heap.size, 0, none⟩ (.int .i64 k)).cell? ⟨w.heap.size, 1, none⟩ = some .nilFunc
  y1 : (w2.setCell ⟨w.heap.size, 0, none⟩ (.int .i64 k)).frozen? ⟨w.heap.size, 1, none⟩ = false
  z0 : (w2.setCell ⟨w.heap.size, 0, none⟩ (.int .i64 k)).cell? ⟨g, 0, none⟩ = some (.int .i64 s.st)
  z1 : ((w2.setCell ⟨w.heap.size, 0, none⟩ (.int .i64 k)).setCell ⟨w.heap.size, 1, none⟩ fv).cell? ⟨g, 0, none⟩ = some (.int .i64 s.st)
theorem StepL.mk' {t : TypeId} {g : Nat} {s : Sd} (fv : Value) (k : Int) {w w2 : World} (hC : Cells w g t s.cells)
    (hb : Below (w.alloc (.cells #[.int .i64 0, .nilFunc] 119 (0, 0))).drew.heap.size (w.alloc (.cells #[.int .i64 0, .nilFunc] 119 (0, 0))).drew w2) : StepL t g s fv k w w2 := by
  have hlt := hC.lt
  have hb2 : Below w.heap.size w w2 := (Below.drew ((Below.refl w.heap.size w).alloc (Nat.le_refl _) _)).trans (hb.mono (B' := w.heap.size) (by simp [World.drew]))
  have K2 := hC.below hb2
  have X2 : Cells w2 w.heap.size 119 [.int .i64 0, .nilFunc] := (Cells.new w 119 [.int .i64 0, .nilFunc]).drew.below hb
  have X3 := X2.set_ 0 (.int .i64 k)
  have X4 := X3.set_ 1 fv
  have K3 := K2.far (p := ⟨w.heap.size, 0, none⟩) (Nat.ne_of_lt hlt) (.int .i64 k)
  have KX := K3.far (p := ⟨w.heap.size, 1, none⟩) (Nat.ne_of_lt hlt) fv
  exact ⟨hb2, K2, X2, X4, KX, K2.cell 0, X2.cell 0, X2.frozen 0, X3.cell 1, X3.frozen 1, K3.cell 0, KX.cell 0⟩

set_option maxHeartbeats 8000000 in
set_option maxRecDepth 100000 in
theorem take_step (g : Nat) (s : Sd) (bv : Value) (b : List UInt8) (f : Nat) (k : Int) (w : World) (hC : Cells w g 113 s.cells) (hG : Gl w) (h0 : (s.st == 0) = false) (h8 : (s.st == 8) = false) (hx : (Lit.int .i64 s.st).wf = true)
    (hm : stepM g s.st = some (stepV f k g))
    (hR : ∀ w1, Below w.heap.size w w1 → Calls Tryz.prog 13 #[.int .i64 k, bv] w1 (RetME w1.heap.size w1 (readS k b)))
    (hT : ∀ dv w1, (readS k b).2 = [] → Cells w1 g 113 s.cells → RSl dv (readS k b).1.digest w1 → Gl w1 → Calls Tryz.prog f #[.pointer (some ⟨g, 0, none⟩), (readS k b).1.val dv] w1 (RetT 113 g w1 (tookS s (readS k b).1)))
    (hcf : ∀ args w1, (callFunc f args).run Tryz.prog w1 = .ok (.enter f args) w1)
    (hts : ∀ m, (tookS s m).2.2 ≠ [] → (tookS s m).1 = s)
    (ht : takeS s b = if (readS k b).2 ≠ [] then (s.dead, [], (readS k b).2) else if (tookS s (readS k b).1).2.2 ≠ [] then (s.dead, [], (tookS s (readS k b).1).2.2) else tookS s (readS k b).1) :
    Calls Tryz.prog 20 #[.pointer (some ⟨g, 0, none⟩), bv] w (RetT 113 g w (takeS s b)) := by
  generalize readS k b = rr at hR hT ht
  obtain ⟨⟨kd, fl, cr, chn, nm, st, dg⟩, l⟩ := rr
  have HTS := Lib.hid hts
  have HST := Lib.hid (fun W => steps_any g W)
  have HC := Lib.hid hC
  have HG := Lib.hid hG
  have HR := Lib.hid hR
  have HT := Lib.hid hT
  have HE := Lib.hid ht
  have HM := Lib.hid hm
  have c0 := hC.cell 0
  simp only [Sd.cells, List.getElem?_cons_zero] at c0
  have hlt := hC.lt
  clear hC hG hR hT ht hm
  go_enter Tryz.func20, Tryz.ntmps20
  go_wp2
  go_region_held3 (fun w' => w'.cell? ⟨g, 0, none⟩ = some (.int .i64 s.st)) (go_keep)
    (first
      | (go_at_call 55; refine (HST.out _).mono ?_; rintro e w2 ⟨mb, rfl, M2, hb⟩
         obtain ⟨hb2, K2, X2, X4, KX, e0, x0, y0, x1, y1, z0, z1⟩ := StepL.mk' (.func (.func f) #[.pointer (some ⟨g, 0, none⟩)] #[]) k HC.out hb
         have hlook := (MapV.look (m := stepM g) M2 Tryz.underlying121 Tryz.underlying63 (Tryz.zeroStep w2) s.st hx).1
         rw [HM.out] at hlook
         unfold stepV at hlook
         replace K2 := Lib.hid K2
         replace X4 := Lib.hid X4
         replace KX := Lib.hid KX
         have HB2 := Lib.hid hb2
         clear hb hb2 HST M2 X2)
      | (go_at_call 55; refine (HST.out _).mono ?_; rintro e w2 ⟨mb, rfl, M2, hb⟩
         have hb2 : Below w.heap.size w w2 := (Below.drew (Below.refl w.heap.size w)).trans hb
         have hlook := (MapV.look (m := stepM g) M2 Tryz.underlying121 Tryz.underlying63 (Tryz.zeroStep w2) s.st hx).1
         have M2a := M2.frame (w' := w2.alloc (.cells #[.int .i64 0, .nilFunc] 119 (0, 0))) (Below.heap_alloc w2 _ mb M2.lt)
         have hlook2 := (MapV.look (m := stepM g) M2a Tryz.underlying121 Tryz.underlying63 (Tryz.zeroStep _) s.st hx).1
         rw [HM.out] at hlook hlook2
         unfold stepV at hlook hlook2
         have K2 := Lib.hid (HC.out.below hb2)
         have HB2 := Lib.hid hb2
         have e0 := K2.out.cell 0
         simp only [Sd.cells, List.getElem?_cons_zero] at e0
         clear hb hb2 HST M2 M2a))
  all_goals (go_wp2_with fail)
  all_goals
    (first
      | (have HB3 := Lib.hid ((HB2.out.setCell (p := ⟨w.heap.size, 0, none⟩) (Nat.le_refl _) (.int .i64 k)).setCell (p := ⟨w.heap.size, 1, none⟩) (Nat.le_refl _) (.func (.func f) #[.pointer (some ⟨g, 0, none⟩)] #[]))
         have X3 := X4
         have K3 := KX
         clear x0 y0 x1 y1 z0 z1
         generalize hW : World.setCell _ ⟨w.heap.size, 1, none⟩ _ = W3 at *
         clear hW)
      | (have HB3 := Lib.hid (HB2.out.alloc HB2.out.size (.cells #[.int .i64 k, .func (.func f) #[.pointer (some ⟨g, 0, none⟩)] #[]] 119 (0, 0)))
         have X3 := Lib.hid (Cells.new w2 119 [.int .i64 k, .func (.func f) #[.pointer (some ⟨g, 0, none⟩)] #[]])
         have K3 := Lib.hid (K2.out.alloc (.cells #[.int .i64 k, .func (.func f) #[.pointer (some ⟨g, 0, none⟩)] #[]] 119 (0, 0)))
         generalize hW : World.alloc w2 _ = W3 at *
         clear hW))
  all_goals
    refine (HR.out _ HB3.out).mono ?_
    rintro e w4 ⟨dv, ev, rfl, hdv, her, hb4⟩
    have X5 := Lib.hid (X3.out.below hb4)
    have K5 := Lib.hid (K3.out.below hb4)
    have HB5 := Lib.hid (HB3.out.trans (hb4.mono HB3.out.size))
    have HDV := Lib.hid hdv
    obtain ⟨da, dc, rfl, _, _⟩ := hdv.shape
    have a1 := X5.out.cell 1
    have xlt := X5.out.lt
    simp only [List.getElem?_cons_zero, List.getElem?_cons_succ] at a1
    clear hdv hb4 HR
    cases l with
    | cons e0 es =>
      have HE2 := Lib.hid (show takeS s b = (s.dead, [], e0 :: es) by rw [HE.out, if_pos (by simp)])
      have HER := Lib.hid her
      obtain ⟨eb, eu, rfl, _, _⟩ := her
      clear HE HT
      unfold Msg.val
      go_wp2_with (refine wpList_store_blk rfl _ (.tmp 64) (.tmp 62) rfl g 0 [.int .i64 8, .string ⟨#[]⟩, .int .u64 0, .int .u32 0, .bool false] (by rfl) (by rfl) (by kernel_rfl) (by simp [Value.oneCell']) 113 _ (K5.out.alloc _) (by show 0 + 5 ≤ 11; decide) ?_; intro w7 hC7 hg7)
      have HC7 := Lib.hid hC7
      have HG7 := Lib.hid hg7
      clear hC7 hg7
      go_wp2
      go_ret2
      rw [HE2.out]
      have KK := Lib.hid ((Keep.ofB (S := Blk1 g) (HB5.out.alloc HB5.out.size (.cells #[.int .i64 kd, .int .u64 fl, .int .u32 cr, .int .u32 chn, .string nm, .string st, .slice da dg.length dc] 27 (0, 0)))).grownB HG7.out)
      have KL := Lib.hid ((Keep.refl (Blk1 g) (w4.alloc (.cells #[.int .i64 kd, .int .u64 fl, .int .u32 cr, .int .u32 chn, .string nm, .string st, .slice da dg.length dc] 27 (0, 0)))).grownB HG7.out)
      exact ⟨_, _, rfl, BBs.nil _ _, (ErrIs.below ((Below.refl _ w4).alloc (Nat.le_refl _) _) HER.out).keep KL.out (fun j hj => by cases hj; exact NF.cells (K5.out.alloc _) (by decide)), KK.out, HC7.out⟩
    | nil =>
      obtain rfl : ev = .nilIface := her
      have HE2 := Lib.hid (show takeS s b = _ from HE.out.trans (if_neg (by simp)))
      have M5 := Lib.hid (Cells.new w4 27 [.int .i64 kd, .int .u64 fl, .int .u32 cr, .int .u32 chn, .string nm, .string st, .slice da dg.length dc])
      have X6 := Lib.hid (X5.out.alloc (.cells #[.int .i64 kd, .int .u64 fl, .int .u32 cr, .int .u32 chn, .string nm, .string st, .slice da dg.length dc] 27 (0, 0)))
      have K6 := Lib.hid (K5.out.alloc (.cells #[.int .i64 kd, .int .u64 fl, .int .u32 cr, .int .u32 chn, .string nm, .string st, .slice da dg.length dc] 27 (0, 0)))
      have HB6 := Lib.hid (HB5.out.alloc HB5.out.size (.cells #[.int .i64 kd, .int .u64 fl, .int .u32 cr, .int .u32 chn, .string nm, .string st, .slice da dg.length dc] 27 (0, 0)))
      have D6 := Lib.hid (HDV.out.alloc (.cells #[.int .i64 kd, .int .u64 fl, .int .u32 cr, .int .u32 chn, .string nm, .string st, .slice da dg.length dc] 27 (0, 0)))
      have HT2 := Lib.hid (HT.out (.slice da dg.length dc) _ rfl K6.out D6.out (HG.out.below HB6.out))
      clear HE HT HDV X5 K5 HB5 X6 D6
      unfold Msg.val at *
      go_wp2_with fail
      refine HT2.out.mono ?_
      rintro e w6 ⟨v, ev2, rfl, hv, her2, hk, hC6⟩
      have K7 := Lib.hid hC6
      have HK := Lib.hid hk
      have HV := Lib.hid hv
      have HER := Lib.hid her2
      have HTS2 := Lib.hid (HTS.out ⟨kd, fl, cr, chn, nm, st, dg⟩)
      clear hv hk hC6 HT2 HTS
      generalize tookS s ⟨kd, fl, cr, chn, nm, st, dg⟩ = r2 at *
      obtain ⟨s2, outs, l2⟩ := r2
      cases l2 with
      | nil =>
        obtain rfl : ev2 = .nilIface := her2
        have HE3 := Lib.hid (show takeS s b = _ from HE2.out.trans (if_neg (by simp)))
        clear HE2 HTS2
        go_wp2
        go_ret2
        rw [HE3.out]
        exact ⟨_, _, rfl, HV.out.base HB6.out.size, rfl, (Keep.ofB HB6.out).trans HK.out (fun _ _ h => h), K7.out⟩
      | cons q0 qs =>
        obtain rfl : s2 = s := HTS2.out (List.cons_ne_nil _ _)
        have HE3 := Lib.hid (show takeS s2 b = (s2.dead, [], q0 :: qs) from HE2.out.trans (if_pos (show (q0 :: qs : List Lk) ≠ [] from List.cons_ne_nil _ _)))
        obtain ⟨eb, eu, rfl, _, _⟩ := her2
        clear HE2 HTS2
        go_wp2_with (refine wpList_store_blk rfl _ (.tmp 64) (.tmp 62) rfl g 0 [.int .i64 8, .string ⟨#[]⟩, .int .u64 0, .int .u32 0, .bool false] (by rfl) (by rfl) (by kernel_rfl) (by simp [Value.oneCell']) 113 _ K7.out (by show 0 + 5 ≤ 11; decide) ?_; intro w7 hC7 hg7)
        have HC7 := Lib.hid hC7
        have HG7 := Lib.hid hg7
        clear hC7 hg7
        go_wp2
        go_ret2
        rw [HE3.out]
        have KL := Lib.hid ((Keep.refl (Blk1 g) w6).grownB HG7.out)
        exact ⟨_, _, rfl, BBs.nil _ _, HER.out.keep KL.out (fun j hj => by cases hj; exact NF.cells K7.out (by decide)), ((Keep.ofB HB6.out).trans HK.out (fun _ _ h => h)).grownB HG7.out, HC7.out⟩
theorem cf_status (args : Array Value) (w1 : World) : (callFunc 73 args).run Tryz.prog w1 = .ok (.enter 73 args) w1 := by go_simp
end Go.Proofs.YtokkokgdjnkbnaaGreatDoor
end
section
/- Package shake: Take, whole; Answer of a side that waits for none. -/
open Go Go.RowKit
namespace Go.Proofs.YtokkokgdjnkbnaaGreatDoor

theorem read_any (k : Int) (bv : Value) (b : List UInt8) (w : World) (hb : RSl bv b w) (hz : b.length ≤ 140737488351232) (hE : ErrT w) :
    Calls Tryz.prog 13 #[.int .i64 k, bv] w (RetME w.heap.size w (readS k b)) := by
  by_cases hk : k < 1 ∨ 5 < k
  · exact read_bad k bv b w hb hk
  by_cases hh : b.head? = some (letS k)
  · have h5 : k = 1 ∨ k = 2 ∨ k = 3 ∨ k = 4 ∨ k = 5 := by omega
    rcases h5 with rfl | rfl | rfl | rfl | rfl
    · by_cases hl : b.length < 15
      · exact read_1_short bv b w hb hz hh hl
      · exact read_1_long bv b w hb hz hh (by omega) hE
    · exact read_2 bv b w hb hz hh
    · by_cases hl : b.length < 19
      · exact read_3_short bv b w hb hz hh hl
      · exact read_3_long bv b w hb hz hh (by omega) hE
    · exact read_45 4 (.inl rfl) bv b w hb hz hh
    · exact read_45 5 (.inr rfl) bv b w hb hz hh
  · exact read_head k bv b w hb (by omega) (by omega) hh
theorem cutN_bd (b : List UInt8) (x : Nat) : 0 ≤ numS (cutB b x 4) ∧ numS (cutB b x 4) < 4294967296 := by
  have h := numS_bd (cutB b x 4)
  have hl : (cutB b x 4).length ≤ 4 := by unfold cutB; simp; omega
  have hp : (256 : Int) ^ (cutB b x 4).length ≤ 256 ^ 4 := (show ∀ n : Nat, n ≤ 4 → (256 : Int) ^ n ≤ 256 ^ 4 by decide) _ hl
  exact ⟨h.1, Int.lt_of_lt_of_le h.2 hp⟩
theorem cutL_bd (b : List UInt8) (x : Nat) : 0 ≤ numS (cutB b x 8) ∧ numS (cutB b x 8) < 18446744073709551616 := by
  have h := numS_bd (cutB b x 8)
  have hl : (cutB b x 8).length ≤ 8 := by unfold cutB; simp; omega
  have hp : (256 : Int) ^ (cutB b x 8).length ≤ 256 ^ 8 := (show ∀ n : Nat, n ≤ 8 → (256 : Int) ^ n ≤ 256 ^ 8 by decide) _ hl
  exact ⟨h.1, Int.lt_of_lt_of_le h.2 hp⟩
theorem drop_sz (b : List UInt8) (x : Nat) (hz : b.length ≤ 140737488351232) : (⟨(b.drop x).toArray⟩ : ByteArray).size ≤ 140737488351232 := by
  show ((b.drop x).toArray).size ≤ _
  rw [List.size_toArray, List.length_drop]
  exact Nat.le_trans (Nat.sub_le _ _) hz
/-- a message that was read is one of its kind -/
theorem readS_good (k : Int) (b : List UInt8) (hz : b.length ≤ 140737488351232) (h : (readS k b).2 = []) : (readS k b).1.kind = k ∧ (readS k b).1.Ok := by
  unfold readS at h ⊢
  have z0 : (0 : Int) < 18446744073709551616 := by decide
  have z1 : (0 : Int) < 4294967296 := by decide
  have e0 : (⟨#[]⟩ : ByteArray).size ≤ 140737488351232 := Nat.zero_le _
  have n0 : ([] : List UInt8).length ≤ 140737488351232 := Nat.zero_le _
  split
  · rw [if_pos (by assumption)] at h; cases h
  · rename_i h1
    rw [if_neg h1] at h
    split
    · rename_i h2; rw [if_pos h2] at h; cases h
    · rename_i h2
      rw [if_neg h2] at h
      split
      · rename_i h3
        rw [if_pos h3] at h
        split
        · exact ⟨h3.symm, Int.le_refl 0, z0, Int.le_refl 0, z1, Int.le_refl 0, z1, e0, drop_sz b 1 hz, n0⟩
        · rename_i h4; rw [if_neg h4] at h; cases h
      · rename_i h3
        rw [if_neg h3] at h
        split
        · rename_i h4; rw [if_pos h4] at h; cases h
        · rename_i h4
          rw [if_neg h4] at h
          split
          · rename_i h5
            rw [if_pos h5] at h
            split
            · refine ⟨rfl, Int.le_refl 0, z0, Int.le_refl 0, z1, ?_, ?_, e0, e0, ?_⟩
              · show (0 : Int) ≤ if k = 4 then numS (cutB b 1 4) else 0
                split
                · exact (cutN_bd b 1).1
                · exact Int.le_refl 0
              · show (if k = 4 then numS (cutB b 1 4) else 0 : Int) < _
                split
                · exact (cutN_bd b 1).2
                · exact z1
              · show (b.drop _).length ≤ _
                rw [List.length_drop]; omega
            · rename_i h6; rw [if_neg h6] at h; cases h
          · rename_i h5
            rw [if_neg h5] at h
            simp only at h ⊢
            split
            · rename_i h6; rw [if_pos h6] at h; cases h
            · rename_i h6
              rw [if_neg h6] at h
              split
              · rename_i h7; rw [if_pos h7] at h; cases h
              · rename_i h7
                rw [if_neg h7] at h
                split
                · rename_i h8; rw [if_pos h8] at h; cases h
                · refine ⟨rfl, (cutL_bd b 1).1, (cutL_bd b 1).2, (cutN_bd b _).1, (cutN_bd b _).2, ?_, ?_, drop_sz b _ hz, e0, n0⟩
                  · show (0 : Int) ≤ if k = 3 then numS (cutB b 9 4) else 0
                    split
                    · exact (cutN_bd b 9).1
                    · exact Int.le_refl 0
                  · show (if k = 3 then numS (cutB b 9 4) else 0 : Int) < _
                    split
                    · exact (cutN_bd b 9).2
                    · exact z1
theorem tookS_same (s : Sd) (m : Msg) (h : (tookS s m).2.2 ≠ []) : (tookS s m).1 = s := by
  unfold tookS at h ⊢
  split
  · rename_i h1
    rw [if_pos h1] at h
    split
    · rename_i h2; rw [if_pos h2] at h; exact absurd rfl h
    · rfl
  · rename_i h1
    rw [if_neg h1] at h
    split
    · rename_i h2
      rw [if_pos h2] at h
      split
      · rfl
      · rename_i h3; rw [if_neg h3] at h; exact absurd rfl h
    · rename_i h2
      rw [if_neg h2] at h
      split
      · rename_i h3; rw [if_pos h3] at h; exact absurd rfl h
      · rename_i h3
        rw [if_neg h3] at h
        split
        · rfl
        · rename_i h4; rw [if_neg h4] at h; exact absurd rfl h

set_option maxHeartbeats 8000000 in
set_option maxRecDepth 100000 in
theorem take_none (g : Nat) (s : Sd) (bv : Value) (b : List UInt8) (w : World) (hC : Cells w g 113 s.cells) (h0 : (s.st == 0) = false) (h8 : (s.st == 8) = false) (hx : (Lit.int .i64 s.st).wf = true)
    (hm : stepM g s.st = none) (ht : takeS s b = (s, [], errK 161)) :
    Calls Tryz.prog 20 #[.pointer (some ⟨g, 0, none⟩), bv] w (RetT 113 g w (takeS s b)) := by
  have HST := Lib.hid (fun W => steps_any g W)
  have HF := Lib.hid (fun W => fault_nil 0 161 W)
  have HC := Lib.hid hC
  have HE := Lib.hid ht
  have HM := Lib.hid hm
  have hlt := hC.lt
  have c0 := hC.cell 0
  simp only [Sd.cells, List.getElem?_cons_zero] at c0
  clear hC ht hm
  go_enter Tryz.func20, Tryz.ntmps20
  go_wp2
  go_region_held3 (fun w' => w'.cell? ⟨g, 0, none⟩ = some (.int .i64 s.st)) (go_keep)
    (first
      | (go_at_call 55; refine (HST.out _).mono ?_; rintro e w2 ⟨mb, rfl, M2, hb⟩
         obtain ⟨hb2, K2, X2, X4, KX, e0, x0, y0, x1, y1, z0, z1⟩ := StepL.mk' .nilFunc 0 HC.out hb
         have hlook := (MapV.look (m := stepM g) M2 Tryz.underlying121 Tryz.underlying63 (Tryz.zeroStep w2) s.st hx).1
         rw [HM.out] at hlook
         replace K2 := Lib.hid K2
         replace X4 := Lib.hid X4
         replace KX := Lib.hid KX
         have HB2 := Lib.hid hb2
         clear hb hb2 HST M2 X2)
      | (go_at_call 55; refine (HST.out _).mono ?_; rintro e w2 ⟨mb, rfl, M2, hb⟩
         have hb2 : Below w.heap.size w w2 := (Below.drew (Below.refl w.heap.size w)).trans hb
         have hlook := (MapV.look (m := stepM g) M2 Tryz.underlying121 Tryz.underlying63 (Tryz.zeroStep w2) s.st hx).1
         have M2a := M2.frame (w' := w2.alloc (.cells #[.int .i64 0, .nilFunc] 119 (0, 0))) (Below.heap_alloc w2 _ mb M2.lt)
         have hlook2 := (MapV.look (m := stepM g) M2a Tryz.underlying121 Tryz.underlying63 (Tryz.zeroStep _) s.st hx).1
         rw [HM.out] at hlook hlook2
         have K2 := Lib.hid (HC.out.below hb2)
         have HB2 := Lib.hid hb2
         have e0 := K2.out.cell 0
         simp only [Sd.cells, List.getElem?_cons_zero] at e0
         clear hb hb2 HST M2 M2a))
  all_goals (go_wp2_with fail)
  all_goals
    (first
      | (have HB3 := Lib.hid ((HB2.out.setCell (p := ⟨w.heap.size, 0, none⟩) (Nat.le_refl _) (.int .i64 0)).setCell (p := ⟨w.heap.size, 1, none⟩) (Nat.le_refl _) .nilFunc)
         have K3 := KX
         clear x0 y0 x1 y1 z0 z1
         generalize hW : World.setCell _ ⟨w.heap.size, 1, none⟩ _ = W3 at *
         clear hW X4)
      | (have HB3 := Lib.hid (HB2.out.alloc HB2.out.size (.cells #[.int .i64 0, .nilFunc] 119 (0, 0)))
         have K3 := Lib.hid (K2.out.alloc (.cells #[.int .i64 0, .nilFunc] 119 (0, 0)))
         generalize hW : World.alloc w2 _ = W3 at *
         clear hW))
  all_goals
    refine (HF.out _).mono ?_
    rintro e w4 ⟨ev, rfl, her, hb4⟩
    have hb1 := HB3.out.trans (hb4.mono HB3.out.size)
    go_wp2
    go_ret2
    rw [HE.out]
    exact ⟨_, _, rfl, BBs.nil _ _, her, Keep.ofB hb1, HC.out.below hb1⟩
end Go.Proofs.YtokkokgdjnkbnaaGreatDoor
end
section
/- Package shake: Take, all of it. -/
open Go Go.RowKit
namespace Go.Proofs.YtokkokgdjnkbnaaGreatDoor

theorem cf_chal (args : Array Value) (w1 : World) : (callFunc 74 args).run Tryz.prog w1 = .ok (.enter 74 args) w1 := by go_simp
theorem cf_done (args : Array Value) (w1 : World) : (callFunc 75 args).run Tryz.prog w1 = .ok (.enter 75 args) w1 := by go_simp
theorem cf_named (args : Array Value) (w1 : World) : (callFunc 76 args).run Tryz.prog w1 = .ok (.enter 76 args) w1 := by go_simp

theorem takeS_wait {s : Sd} {b : List UInt8} (h8 : s.st ≠ 8) (h57 : ¬ (s.st = 5 ∨ s.st = 7)) {k : Int} (hk : waitK s.st = k) :
    takeS s b = if (readS k b).2 ≠ [] then (s.dead, [], (readS k b).2) else if (tookS s (readS k b).1).2.2 ≠ [] then (s.dead, [], (tookS s (readS k b).1).2.2) else tookS s (readS k b).1 := by
  subst hk
  conv => lhs; unfold takeS
  rw [if_neg h8, if_neg h57]

set_option maxHeartbeats 4000000 in
theorem take_dead (g : Nat) (s : Sd) (bv : Value) (b : List UInt8) (w : World) (hC : Cells w g 113 s.cells) (h8 : s.st = 8) :
    Calls Tryz.prog 20 #[.pointer (some ⟨g, 0, none⟩), bv] w (RetT 113 g w (takeS s b)) := by
  have HR := Lib.hid (show takeS s b = (s, [], errK 8) by unfold takeS; rw [if_pos h8])
  have HF := Lib.hid (fault_nil 0 8 w)
  have HC := Lib.hid hC
  have c0 := hC.cell 0
  simp only [Sd.cells, List.getElem?_cons_zero, h8] at c0
  clear hC h8
  go_enter Tryz.func20, Tryz.ntmps20
  go_wp2_with fail
  refine HF.out.mono ?_
  rintro e w2 ⟨ev, rfl, her, hb⟩
  go_wp2
  go_ret2
  rw [HR.out]
  exact ⟨_, _, rfl, BBs.nil _ _, her, Keep.ofB hb, HC.out.below hb⟩

theorem take_any (g : Nat) (s : Sd) (bv : Value) (b : List UInt8) (w : World) (hC : Cells w g 113 s.cells) (hs : s.Ok) (hG : Gl w) (hb : RSl bv b w) (hz : b.length ≤ 140737488351232) :
    Calls Tryz.prog 20 #[.pointer (some ⟨g, 0, none⟩), bv] w (RetT 113 g w (takeS s b)) := by
  have s0 := hs.s0
  have s1 := hs.s1
  have h0 : (s.st == 0) = false := beq_eq_false_iff_ne.2 (by omega)
  by_cases h8 : s.st = 8
  · exact take_dead g s bv b w hC h8
  have h8' : (s.st == 8) = false := beq_eq_false_iff_ne.2 h8
  have hst : s.st = 1 ∨ s.st = 2 ∨ s.st = 3 ∨ s.st = 4 ∨ s.st = 5 ∨ s.st = 6 ∨ s.st = 7 := by omega
  have hx : (Lit.int .i64 s.st).wf = true := by rcases hst with h | h | h | h | h | h | h <;> rw [h] <;> decide
  have hR : ∀ k w1, Below w.heap.size w w1 → Calls Tryz.prog 13 #[.int .i64 k, bv] w1 (RetME w1.heap.size w1 (readS k b)) := fun k w1 h => read_any k bv b w1 (hb.below h) hz (hG.e.below h)
  have hgd := fun k h => readS_good k b hz h
  rcases hst with h | h | h | h | h | h | h
  · exact take_step g s bv b 73 2 w hC hG h0 h8' hx (by rw [h]; rfl) (hR 2) (fun dv w1 hn hc1 _ _ => status_any g s _ dv w1 hc1 (hgd 2 hn).1) cf_status (fun m hm => tookS_same s m hm) (takeS_wait h8 (by omega) (by rw [h]; rfl))
  · exact take_step g s bv b 74 3 w hC hG h0 h8' hx (by rw [h]; rfl) (hR 3) (fun dv w1 hn hc1 _ hg1 => challenged_any g s _ dv w1 hc1 hs (hgd 3 hn).2.h0 (hgd 3 hn).2.h1 hg1 (hgd 3 hn).1) cf_chal (fun m hm => tookS_same s m hm) (takeS_wait h8 (by omega) (by rw [h]; rfl))
  · exact take_step g s bv b 75 5 w hC hG h0 h8' hx (by rw [h]; rfl) (hR 5) (fun dv w1 hn hc1 hd1 hg1 => done5_any g s _ dv w1 hc1 hs hd1 (hgd 5 hn).2.h0 (hgd 5 hn).2.h1 hg1 (hgd 5 hn).1) cf_done (fun m hm => tookS_same s m hm) (takeS_wait h8 (by omega) (by rw [h]; rfl))
  · exact take_step g s bv b 76 1 w hC hG h0 h8' hx (by rw [h]; rfl) (hR 1) (fun dv w1 hn hc1 _ _ => named_any g s _ dv w1 hc1 (hgd 1 hn).1) cf_named (fun m hm => tookS_same s m hm) (takeS_wait h8 (by omega) (by rw [h]; rfl))
  · exact take_none g s bv b w hC h0 h8' hx (by rw [h]; rfl) (by unfold takeS; rw [if_neg h8, if_pos (.inl h)])
  · exact take_step g s bv b 75 4 w hC hG h0 h8' hx (by rw [h]; rfl) (hR 4) (fun dv w1 hn hc1 hd1 hg1 => done4_any g s _ dv w1 hc1 hs hd1 (hgd 4 hn).2.h0 (hgd 4 hn).2.h1 hg1 (hgd 4 hn).1) cf_done (fun m hm => tookS_same s m hm) (takeS_wait h8 (by omega) (by rw [h]; rfl))
  · exact take_none g s bv b w hC h0 h8' hx (by rw [h]; rfl) (by unfold takeS; rw [if_neg h8, if_pos (.inr h)])
end Go.Proofs.YtokkokgdjnkbnaaGreatDoor
end
section
/- Package shake: Answer. Printed by wip/sidj.py. -/
open Go Go.RowKit
namespace Go.Proofs.YtokkokgdjnkbnaaGreatDoor
set_option linter.unusedSimpArgs false

theorem stat_ok (t : ByteArray) (hz : t.size ≤ 140737488351232) : (statM t).Ok := by
  unfold statM
  exact ⟨Int.le_refl 0, by show (0 : Int) < _; decide, Int.le_refl 0, by show (0 : Int) < _; decide, Int.le_refl 0, by show (0 : Int) < _; decide, Nat.zero_le _, hz, Nat.zero_le _⟩
theorem chalM_ok {s : Sd} (hs : s.Ok) : (chalM s.mf s.mc s.ch s.mn).Ok := by
  unfold chalM
  exact ⟨hs.mf0, hs.mf1, hs.mc0, hs.mc1, by show (0 : Int) ≤ (s.ch : Int); omega, by have := hs.ch1; show (s.ch : Int) < _; omega, hs.mz, Nat.zero_le _, Nat.zero_le _⟩
theorem answer_main {s : Sd} {status : ByteArray} (h5 : s.st = 5) (hv : isSt status = true) (t : ByteArray) (ht : (if lackS s.pf = true ∨ s.pc = 0 ∨ s.pn = s.mn then notB else status) = t) :
    answerS s status = if okQ t then (s.now 6 s.pn s.pf s.pc (decide (t = simB)), [(writeS (statM t)).1, (writeS (chalM s.mf s.mc s.ch s.mn)).1], []) else (s.dead, [(writeS (statM t)).1], []) := by
  subst ht
  unfold answerS
  rw [if_neg (by omega), if_neg (by omega), if_neg (by simp [hv])]

set_option maxHeartbeats 4000000 in
theorem answer_dead (g : Nat) (s : Sd) (status : ByteArray) (w : World) (hC : Cells w g 113 s.cells) (h8 : s.st = 8) :
    Calls Tryz.prog 17 #[.pointer (some ⟨g, 0, none⟩), .string status] w (RetT 113 g w (answerS s status)) := by
  have HR := Lib.hid (show answerS s status = (s, [], errK 8) by unfold answerS; rw [if_pos h8])
  have HF := Lib.hid (fault_nil 0 8 w)
  have HC := Lib.hid hC
  have c0 := hC.cell 0
  simp only [Sd.cells, List.getElem?_cons_zero, h8] at c0
  clear hC h8
  go_enter Tryz.func17, Tryz.ntmps17
  go_wp2_with fail
  refine HF.out.mono ?_
  rintro e w2 ⟨ev, rfl, her, hb⟩
  go_wp2
  go_ret2
  rw [HR.out]
  exact ⟨_, _, rfl, BBs.nil _ _, her, Keep.ofB hb, HC.out.below hb⟩

set_option maxHeartbeats 4000000 in
theorem answer_else (g : Nat) (s : Sd) (status : ByteArray) (w : World) (hC : Cells w g 113 s.cells) (h8 : s.st ≠ 8) (h5 : s.st ≠ 5) (h0 : (s.st == 0) = false) :
    Calls Tryz.prog 17 #[.pointer (some ⟨g, 0, none⟩), .string status] w (RetT 113 g w (answerS s status)) := by
  have HR := Lib.hid (show answerS s status = (s, [], errK 161) by unfold answerS; rw [if_neg h8, if_pos h5])
  have HF := Lib.hid (fault_nil 0 161 w)
  have HC := Lib.hid hC
  have c0 := hC.cell 0
  simp only [Sd.cells, List.getElem?_cons_zero] at c0
  have q8 : (s.st == 8) = false := beq_eq_false_iff_ne.2 h8
  have q5 : (s.st == 5) = false := beq_eq_false_iff_ne.2 h5
  clear hC h8 h5
  go_enter Tryz.func17, Tryz.ntmps17
  go_wp2_with fail
  refine HF.out.mono ?_
  rintro e w2 ⟨ev, rfl, her, hb⟩
  go_wp2
  go_ret2
  rw [HR.out]
  exact ⟨_, _, rfl, BBs.nil _ _, her, Keep.ofB hb, HC.out.below hb⟩

set_option maxHeartbeats 4000000 in
theorem answer_bad (g : Nat) (s : Sd) (status : ByteArray) (w : World) (hC : Cells w g 113 s.cells) (h5 : s.st = 5) (hv : isSt status = false) :
    Calls Tryz.prog 17 #[.pointer (some ⟨g, 0, none⟩), .string status] w (RetT 113 g w (answerS s status)) := by
  have HR := Lib.hid (show answerS s status = (s, [], errK 1) by unfold answerS; rw [if_neg (by omega), if_neg (by omega), if_pos hv])
  have HI := Lib.hid (isStatus_any status w)
  rw [hv] at HI
  have HF := Lib.hid (fun W => fault_nil 0 1 W)
  have HC := Lib.hid hC
  have c0 := hC.cell 0
  simp only [Sd.cells, List.getElem?_cons_zero, h5] at c0
  clear hC h5 hv
  go_enter Tryz.func17, Tryz.ntmps17
  go_wp2_with fail
  refine HI.out.mono ?_
  rintro e w2 ⟨rfl, hb2⟩
  go_wp2_with fail
  refine (HF.out _).mono ?_
  rintro e w3 ⟨ev, rfl, her, hb⟩
  have hb1 := hb2.trans (hb.mono hb2.size)
  go_wp2
  go_ret2
  rw [HR.out]
  exact ⟨_, _, rfl, BBs.nil _ _, her, Keep.ofB hb1, HC.out.below hb1⟩

set_option maxHeartbeats 8000000 in
set_option maxRecDepth 100000 in
theorem answer_A (g : Nat) (s : Sd) (status : ByteArray) (w : World) (hC : Cells w g 113 s.cells) (hG : Gl w) (h5 : s.st = 5) (hv : isSt status = true) (hlk : lackS s.pf = true) :
    Calls Tryz.prog 17 #[.pointer (some ⟨g, 0, none⟩), .string status] w (RetT 113 g w (answerS s status)) := by
  have HI := Lib.hid (isStatus_any status w)
  rw [hv] at HI
  have HL := Lib.hid (fun W => lacks_any s.pn s.pf s.pc W)
  rw [hlk] at HL
  have HR := Lib.hid (show answerS s status = (s.dead, [(writeS (statM notB)).1], []) by rw [answer_main h5 hv notB (if_pos (.inl hlk)), if_neg (by decide)])
  have HC := Lib.hid hC
  have HG := Lib.hid hG
  have c0 := hC.cell 0
  simp only [Sd.cells, List.getElem?_cons_zero, h5] at c0
  unfold peerV at HL
  clear hC hG h5 hv hlk
  go_enter Tryz.func17, Tryz.ntmps17
  go_wp2_with fail
  refine HI.out.mono ?_
  rintro e w2 ⟨rfl, hb⟩
  have K2 := Lib.hid (HC.out.below hb)
  have HB2 := Lib.hid hb
  have c1 := K2.out.cell 1
  have c2 := K2.out.cell 2
  have c3 := K2.out.cell 3
  have c5 := K2.out.cell 5
  simp only [Sd.cells, List.getElem?_cons_zero, List.getElem?_cons_succ] at c1 c2 c3 c5
  clear hb c0 HI
  go_wp2
  refine wp_region_held_drew (S := (fun w' => w'.cell? ⟨g, 1, none⟩ = some (.string s.pn) ∧ w'.cell? ⟨g, 2, none⟩ = some (.int .u64 s.pf) ∧ w'.cell? ⟨g, 3, none⟩ = some (.int .u32 s.pc))) (by kernel_rfl) (by go_keep) (fun hHeld => ?_)
  refine wpAnyH_take (i := 0) (v := (.pointer (some ⟨g, 0, none⟩))) (by simp only [List.getElem?_toArray, List.getElem?_cons_succ, List.getElem?_cons_zero]; rfl) (by kernel_rfl) (by kernel_rfl) (by kernel_rfl) (by exact fun _ _ _ h => h) (Or.inl ⟨by rfl, fun _ _ => rfl⟩) (by assumption) ?_
  try simp only [Act.put, List.setIfInBounds_toArray, List.set_cons_zero, List.set_cons_succ]
  refine wpAnyH_take (i := 1) (v := (.pointer (some ⟨g, 0, none⟩))) (by simp only [List.getElem?_toArray, List.getElem?_cons_succ, List.getElem?_cons_zero]; rfl) (by kernel_rfl) (by kernel_rfl) (by kernel_rfl) (by exact fun _ _ _ h => h) (Or.inl ⟨by rfl, by intro w hSw; go_simp⟩) (by assumption) ?_
  try simp only [Act.put, List.setIfInBounds_toArray, List.set_cons_zero, List.set_cons_succ]
  refine wpAnyH_take (i := 2) (v := (.pointer (some ⟨g, 0, none⟩))) (by simp only [List.getElem?_toArray, List.getElem?_cons_succ, List.getElem?_cons_zero]; rfl) (by kernel_rfl) (by kernel_rfl) (by kernel_rfl) (by exact fun _ _ _ h => h) (Or.inl ⟨by rfl, by intro w hSw; go_simp⟩) (by assumption) ?_
  try simp only [Act.put, List.setIfInBounds_toArray, List.set_cons_zero, List.set_cons_succ]
  refine wpAnyH_take (i := 3) (v := (.pointer (some ⟨g, 1, none⟩))) (by simp only [List.getElem?_toArray, List.getElem?_cons_succ, List.getElem?_cons_zero]; rfl) (by kernel_rfl) (by kernel_rfl) (by kernel_rfl) (by exact fun _ _ _ h => h) (Or.inl ⟨by rfl, by intro w hSw; go_simp⟩) (by assumption) ?_
  try simp only [Act.put, List.setIfInBounds_toArray, List.set_cons_zero, List.set_cons_succ]
  refine wpAnyH_take (i := 4) (v := (.agg #[.string s.pn, .int .u64 s.pf, .int .u32 s.pc])) (by simp only [List.getElem?_toArray, List.getElem?_cons_succ, List.getElem?_cons_zero]; rfl) (by kernel_rfl) (by kernel_rfl) (by kernel_rfl) (by exact fun _ _ _ h => h) (Or.inl ⟨by rfl, by intro w hSw; go_simp⟩) (by assumption) ?_
  try simp only [Act.put, List.setIfInBounds_toArray, List.set_cons_zero, List.set_cons_succ]
  refine wpAnyH_ready (rs := [5]) (by kernel_rfl) (by simp) ?_
  refine AllReadyH.cons rfl (fun K hK => ?_) AllReadyH.nil
  go_simp
  refine (HL.out _).mono ?_
  rintro e w3 ⟨rfl, hb⟩
  have hb3 : Below w2.heap.size w2 w3 := (Below.drew (Below.refl w2.heap.size w2)).trans hb
  have K3 := Lib.hid (K2.out.below hb3)
  have HB3 := Lib.hid (HB2.out.trans (hb3.mono HB2.out.size))
  have e1 := K3.out.cell 1
  have e2 := K3.out.cell 2
  have e3 := K3.out.cell 3
  have e5 := K3.out.cell 5
  simp only [Sd.cells, List.getElem?_cons_zero, List.getElem?_cons_succ] at e1 e2 e3 e5
  clear hb hb3 HL
  refine hK.out _ _ ?_ (fun hHeld => ?_)
  · go_keep
  try simp only [Act.put, List.setIfInBounds_toArray, List.set_cons_zero, List.set_cons_succ]
  refine wpAnyH_take (i := 6) (v := (.bool true)) (by simp only [List.getElem?_toArray, List.getElem?_cons_succ, List.getElem?_cons_zero]; rfl) (by kernel_rfl) (by kernel_rfl) (by kernel_rfl) (by exact fun _ _ _ h => h) (Or.inl ⟨by rfl, fun _ _ => rfl⟩) (by assumption) ?_
  try simp only [Act.put, List.setIfInBounds_toArray, List.set_cons_zero, List.set_cons_succ]
  refine wpAnyH_take (i := 7) (v := undef) (by simp only [List.getElem?_toArray, List.getElem?_cons_succ, List.getElem?_cons_zero]; rfl) (by kernel_rfl) (by kernel_rfl) (by kernel_rfl) (by exact fun _ _ _ h => h) (Or.inr ⟨by rfl, rfl⟩) (by assumption) ?_
  try simp only [Act.put, List.setIfInBounds_toArray, List.set_cons_zero, List.set_cons_succ]
  refine wpAnyH_take (i := 8) (v := undef) (by simp only [List.getElem?_toArray, List.getElem?_cons_succ, List.getElem?_cons_zero]; rfl) (by kernel_rfl) (by kernel_rfl) (by kernel_rfl) (by exact fun _ _ _ h => h) (Or.inr ⟨by rfl, rfl⟩) (by assumption) ?_
  try simp only [Act.put, List.setIfInBounds_toArray, List.set_cons_zero, List.set_cons_succ]
  refine wpAnyH_take (i := 9) (v := undef) (by simp only [List.getElem?_toArray, List.getElem?_cons_succ, List.getElem?_cons_zero]; rfl) (by kernel_rfl) (by kernel_rfl) (by kernel_rfl) (by exact fun _ _ _ h => h) (Or.inr ⟨by rfl, rfl⟩) (by assumption) ?_
  try simp only [Act.put, List.setIfInBounds_toArray, List.set_cons_zero, List.set_cons_succ]
  refine wpAnyH_take (i := 10) (v := undef) (by simp only [List.getElem?_toArray, List.getElem?_cons_succ, List.getElem?_cons_zero]; rfl) (by kernel_rfl) (by kernel_rfl) (by kernel_rfl) (by exact fun _ _ _ h => h) (Or.inr ⟨by rfl, rfl⟩) (by assumption) ?_
  try simp only [Act.put, List.setIfInBounds_toArray, List.set_cons_zero, List.set_cons_succ]
  refine wpAnyH_take (i := 11) (v := undef) (by simp only [List.getElem?_toArray, List.getElem?_cons_succ, List.getElem?_cons_zero]; rfl) (by kernel_rfl) (by kernel_rfl) (by kernel_rfl) (by exact fun _ _ _ h => h) (Or.inr ⟨by rfl, rfl⟩) (by assumption) ?_
  try simp only [Act.put, List.setIfInBounds_toArray, List.set_cons_zero, List.set_cons_succ]
  refine wpAnyH_take (i := 12) (v := undef) (by simp only [List.getElem?_toArray, List.getElem?_cons_succ, List.getElem?_cons_zero]; rfl) (by kernel_rfl) (by kernel_rfl) (by kernel_rfl) (by exact fun _ _ _ h => h) (Or.inr ⟨by rfl, rfl⟩) (by assumption) ?_
  try simp only [Act.put, List.setIfInBounds_toArray, List.set_cons_zero, List.set_cons_succ]
  refine wpAnyH_take (i := 13) (v := undef) (by simp only [List.getElem?_toArray, List.getElem?_cons_succ, List.getElem?_cons_zero]; rfl) (by kernel_rfl) (by kernel_rfl) (by kernel_rfl) (by exact fun _ _ _ h => h) (Or.inr ⟨by rfl, rfl⟩) (by assumption) ?_
  try simp only [Act.put, List.setIfInBounds_toArray, List.set_cons_zero, List.set_cons_succ]
  refine wpAnyH_take (i := 14) (v := (.bool true)) (by simp only [List.getElem?_toArray, List.getElem?_cons_succ, List.getElem?_cons_zero]; rfl) (by kernel_rfl) (by kernel_rfl) (by kernel_rfl) (by exact fun _ _ _ h => h) (Or.inl ⟨by rfl, fun _ _ => rfl⟩) (by assumption) ?_
  try simp only [Act.put, List.setIfInBounds_toArray, List.set_cons_zero, List.set_cons_succ]
  refine wpAnyH_take (i := 15) (v := (.bool true)) (by simp only [List.getElem?_toArray, List.getElem?_cons_succ, List.getElem?_cons_zero]; rfl) (by kernel_rfl) (by kernel_rfl) (by kernel_rfl) (by exact fun _ _ _ h => h) (Or.inl ⟨by rfl, fun _ _ => rfl⟩) (by assumption) ?_
  try simp only [Act.put, List.setIfInBounds_toArray, List.set_cons_zero, List.set_cons_succ]
  refine wpAnyH_take (i := 16) (v := undef) (by simp only [List.getElem?_toArray, List.getElem?_cons_succ, List.getElem?_cons_zero]; rfl) (by kernel_rfl) (by kernel_rfl) (by kernel_rfl) (by exact fun _ _ _ h => h) (Or.inr ⟨by rfl, rfl⟩) (by assumption) ?_
  try simp only [Act.put, List.setIfInBounds_toArray, List.set_cons_zero, List.set_cons_succ]
  refine wpAnyH_take (i := 17) (v := undef) (by simp only [List.getElem?_toArray, List.getElem?_cons_succ, List.getElem?_cons_zero]; rfl) (by kernel_rfl) (by kernel_rfl) (by kernel_rfl) (by exact fun _ _ _ h => h) (Or.inr ⟨by rfl, rfl⟩) (by assumption) ?_
  try simp only [Act.put, List.setIfInBounds_toArray, List.set_cons_zero, List.set_cons_succ]
  refine wpAnyH_take (i := 18) (v := undef) (by simp only [List.getElem?_toArray, List.getElem?_cons_succ, List.getElem?_cons_zero]; rfl) (by kernel_rfl) (by kernel_rfl) (by kernel_rfl) (by exact fun _ _ _ h => h) (Or.inr ⟨by rfl, rfl⟩) (by assumption) ?_
  try simp only [Act.put, List.setIfInBounds_toArray, List.set_cons_zero, List.set_cons_succ]
  refine wpAnyH_take (i := 19) (v := undef) (by simp only [List.getElem?_toArray, List.getElem?_cons_succ, List.getElem?_cons_zero]; rfl) (by kernel_rfl) (by kernel_rfl) (by kernel_rfl) (by exact fun _ _ _ h => h) (Or.inr ⟨by rfl, rfl⟩) (by assumption) ?_
  try simp only [Act.put, List.setIfInBounds_toArray, List.set_cons_zero, List.set_cons_succ]
  refine wpAnyH_take (i := 20) (v := undef) (by simp only [List.getElem?_toArray, List.getElem?_cons_succ, List.getElem?_cons_zero]; rfl) (by kernel_rfl) (by kernel_rfl) (by kernel_rfl) (by exact fun _ _ _ h => h) (Or.inr ⟨by rfl, rfl⟩) (by assumption) ?_
  try simp only [Act.put, List.setIfInBounds_toArray, List.set_cons_zero, List.set_cons_succ]
  refine wpAnyH_take (i := 21) (v := undef) (by simp only [List.getElem?_toArray, List.getElem?_cons_succ, List.getElem?_cons_zero]; rfl) (by kernel_rfl) (by kernel_rfl) (by kernel_rfl) (by exact fun _ _ _ h => h) (Or.inr ⟨by rfl, rfl⟩) (by assumption) ?_
  try simp only [Act.put, List.setIfInBounds_toArray, List.set_cons_zero, List.set_cons_succ]
  refine wpAnyH_take (i := 22) (v := undef) (by simp only [List.getElem?_toArray, List.getElem?_cons_succ, List.getElem?_cons_zero]; rfl) (by kernel_rfl) (by kernel_rfl) (by kernel_rfl) (by exact fun _ _ _ h => h) (Or.inr ⟨by rfl, rfl⟩) (by assumption) ?_
  try simp only [Act.put, List.setIfInBounds_toArray, List.set_cons_zero, List.set_cons_succ]
  refine wpAnyH_take (i := 23) (v := undef) (by simp only [List.getElem?_toArray, List.getElem?_cons_succ, List.getElem?_cons_zero]; rfl) (by kernel_rfl) (by kernel_rfl) (by kernel_rfl) (by exact fun _ _ _ h => h) (Or.inr ⟨by rfl, rfl⟩) (by assumption) ?_
  try simp only [Act.put, List.setIfInBounds_toArray, List.set_cons_zero, List.set_cons_succ]
  refine wpAnyH_take (i := 24) (v := undef) (by simp only [List.getElem?_toArray, List.getElem?_cons_succ, List.getElem?_cons_zero]; rfl) (by kernel_rfl) (by kernel_rfl) (by kernel_rfl) (by exact fun _ _ _ h => h) (Or.inr ⟨by rfl, rfl⟩) (by assumption) ?_
  try simp only [Act.put, List.setIfInBounds_toArray, List.set_cons_zero, List.set_cons_succ]
  refine wpAnyH_take (i := 25) (v := undef) (by simp only [List.getElem?_toArray, List.getElem?_cons_succ, List.getElem?_cons_zero]; rfl) (by kernel_rfl) (by kernel_rfl) (by kernel_rfl) (by exact fun _ _ _ h => h) (Or.inr ⟨by rfl, rfl⟩) (by assumption) ?_
  try simp only [Act.put, List.setIfInBounds_toArray, List.set_cons_zero, List.set_cons_succ]
  refine wpAnyH_take (i := 26) (v := undef) (by simp only [List.getElem?_toArray, List.getElem?_cons_succ, List.getElem?_cons_zero]; rfl) (by kernel_rfl) (by kernel_rfl) (by kernel_rfl) (by exact fun _ _ _ h => h) (Or.inr ⟨by rfl, rfl⟩) (by assumption) ?_
  try simp only [Act.put, List.setIfInBounds_toArray, List.set_cons_zero, List.set_cons_succ]
  refine wpAnyH_take (i := 27) (v := undef) (by simp only [List.getElem?_toArray, List.getElem?_cons_succ, List.getElem?_cons_zero]; rfl) (by kernel_rfl) (by kernel_rfl) (by kernel_rfl) (by exact fun _ _ _ h => h) (Or.inr ⟨by rfl, rfl⟩) (by assumption) ?_
  try simp only [Act.put, List.setIfInBounds_toArray, List.set_cons_zero, List.set_cons_succ]
  refine wpAnyH_take (i := 28) (v := (.bool true)) (by simp only [List.getElem?_toArray, List.getElem?_cons_succ, List.getElem?_cons_zero]; rfl) (by kernel_rfl) (by kernel_rfl) (by kernel_rfl) (by exact fun _ _ _ h => h) (Or.inl ⟨by rfl, fun _ _ => rfl⟩) (by assumption) ?_
  try simp only [Act.put, List.setIfInBounds_toArray, List.set_cons_zero, List.set_cons_succ]
  refine wpAnyH_done (by kernel_rfl) ?_ _
  clear c1 c2 c3 c5 e1 e2 e3 e5 K2 HB2
  have HSE := Lib.hid (show Calls Tryz.prog 52 #[(statM notB).val (.slice none 0 0)] w3 _ from sent_any (statM notB) (.slice none 0 0) w3 (stat_ok _ (by decide)) (RSl.nil _) (HG.out.below HB3.out).e)
  unfold Msg.val statM at HSE
  go_wp2_with fail
  refine HSE.out.mono ?_
  rintro e w5 ⟨v5, rfl, hv5, hb5⟩
  have K5 := Lib.hid (K3.out.below hb5)
  have V5 := Lib.hid hv5
  have HB5 := Lib.hid (HB3.out.trans (hb5.mono HB3.out.size))
  clear hv5 hb5 HSE
  go_wp2_with (refine wpList_store_blk rfl _ (.tmp 81) (.tmp 79) rfl g 0 [.int .i64 8, .string ⟨#[]⟩, .int .u64 0, .int .u32 0, .bool false] (by rfl) (by rfl) (by kernel_rfl) (by simp [Value.oneCell']) 113 _ K5.out (by show 0 + 5 ≤ 11; decide) ?_; intro w7 hC7 hg7)
  have HC7 := Lib.hid hC7
  have HG7 := Lib.hid hg7
  clear hC7 hg7
  go_wp2
  go_ret2
  rw [HR.out]
  have KL := Lib.hid ((Keep.refl (Blk1 g) w5).grownB HG7.out)
  exact ⟨_, _, rfl, (V5.out.base HB3.out.size).keepC KL.out K5.out (by decide) (by decide), rfl, (Keep.ofB HB5.out).grownB HG7.out, HC7.out⟩

set_option maxHeartbeats 8000000 in
set_option maxRecDepth 100000 in
theorem answer_B (g : Nat) (s : Sd) (status : ByteArray) (w : World) (hC : Cells w g 113 s.cells) (hG : Gl w) (h5 : s.st = 5) (hv : isSt status = true) (hlk : lackS s.pf = false) (hpc : s.pc = 0) :
    Calls Tryz.prog 17 #[.pointer (some ⟨g, 0, none⟩), .string status] w (RetT 113 g w (answerS s status)) := by
  have HI := Lib.hid (isStatus_any status w)
  rw [hv] at HI
  have HL := Lib.hid (fun W => lacks_any s.pn s.pf s.pc W)
  rw [hlk] at HL
  have HR := Lib.hid (show answerS s status = (s.dead, [(writeS (statM notB)).1], []) by rw [answer_main h5 hv notB (if_pos (.inr (.inl hpc))), if_neg (by decide)])
  have hpb : (s.pc == 0) = true := beq_iff_eq.2 hpc
  clear hpc
  have HC := Lib.hid hC
  have HG := Lib.hid hG
  have c0 := hC.cell 0
  simp only [Sd.cells, List.getElem?_cons_zero, h5] at c0
  unfold peerV at HL
  clear hC hG h5 hv hlk
  go_enter Tryz.func17, Tryz.ntmps17
  go_wp2_with fail
  refine HI.out.mono ?_
  rintro e w2 ⟨rfl, hb⟩
  have K2 := Lib.hid (HC.out.below hb)
  have HB2 := Lib.hid hb
  have c1 := K2.out.cell 1
  have c2 := K2.out.cell 2
  have c3 := K2.out.cell 3
  have c5 := K2.out.cell 5
  simp only [Sd.cells, List.getElem?_cons_zero, List.getElem?_cons_succ] at c1 c2 c3 c5
  clear hb c0 HI
  go_wp2
  refine wp_region_held_drew (S := (fun w' => w'.cell? ⟨g, 1, none⟩ = some (.string s.pn) ∧ w'.cell? ⟨g, 2, none⟩ = some (.int .u64 s.pf) ∧ w'.cell? ⟨g, 3, none⟩ = some (.int .u32 s.pc))) (by kernel_rfl) (by go_keep) (fun hHeld => ?_)
  refine wpAnyH_take (i := 0) (v := (.pointer (some ⟨g, 0, none⟩))) (by simp only [List.getElem?_toArray, List.getElem?_cons_succ, List.getElem?_cons_zero]; rfl) (by kernel_rfl) (by kernel_rfl) (by kernel_rfl) (by exact fun _ _ _ h => h) (Or.inl ⟨by rfl, fun _ _ => rfl⟩) (by assumption) ?_
  try simp only [Act.put, List.setIfInBounds_toArray, List.set_cons_zero, List.set_cons_succ]
  refine wpAnyH_take (i := 1) (v := (.pointer (some ⟨g, 0, none⟩))) (by simp only [List.getElem?_toArray, List.getElem?_cons_succ, List.getElem?_cons_zero]; rfl) (by kernel_rfl) (by kernel_rfl) (by kernel_rfl) (by exact fun _ _ _ h => h) (Or.inl ⟨by rfl, by intro w hSw; go_simp⟩) (by assumption) ?_
  try simp only [Act.put, List.setIfInBounds_toArray, List.set_cons_zero, List.set_cons_succ]
  refine wpAnyH_take (i := 2) (v := (.pointer (some ⟨g, 0, none⟩))) (by simp only [List.getElem?_toArray, List.getElem?_cons_succ, List.getElem?_cons_zero]; rfl) (by kernel_rfl) (by kernel_rfl) (by kernel_rfl) (by exact fun _ _ _ h => h) (Or.inl ⟨by rfl, by intro w hSw; go_simp⟩) (by assumption) ?_
  try simp only [Act.put, List.setIfInBounds_toArray, List.set_cons_zero, List.set_cons_succ]
  refine wpAnyH_take (i := 3) (v := (.pointer (some ⟨g, 1, none⟩))) (by simp only [List.getElem?_toArray, List.getElem?_cons_succ, List.getElem?_cons_zero]; rfl) (by kernel_rfl) (by kernel_rfl) (by kernel_rfl) (by exact fun _ _ _ h => h) (Or.inl ⟨by rfl, by intro w hSw; go_simp⟩) (by assumption) ?_
  try simp only [Act.put, List.setIfInBounds_toArray, List.set_cons_zero, List.set_cons_succ]
  refine wpAnyH_take (i := 4) (v := (.agg #[.string s.pn, .int .u64 s.pf, .int .u32 s.pc])) (by simp only [List.getElem?_toArray, List.getElem?_cons_succ, List.getElem?_cons_zero]; rfl) (by kernel_rfl) (by kernel_rfl) (by kernel_rfl) (by exact fun _ _ _ h => h) (Or.inl ⟨by rfl, by intro w hSw; go_simp⟩) (by assumption) ?_
  try simp only [Act.put, List.setIfInBounds_toArray, List.set_cons_zero, List.set_cons_succ]
  refine wpAnyH_ready (rs := [5]) (by kernel_rfl) (by simp) ?_
  refine AllReadyH.cons rfl (fun K hK => ?_) AllReadyH.nil
  go_simp
  refine (HL.out _).mono ?_
  rintro e w3 ⟨rfl, hb⟩
  have hb3 : Below w2.heap.size w2 w3 := (Below.drew (Below.refl w2.heap.size w2)).trans hb
  have K3 := Lib.hid (K2.out.below hb3)
  have HB3 := Lib.hid (HB2.out.trans (hb3.mono HB2.out.size))
  have e1 := K3.out.cell 1
  have e2 := K3.out.cell 2
  have e3 := K3.out.cell 3
  have e5 := K3.out.cell 5
  simp only [Sd.cells, List.getElem?_cons_zero, List.getElem?_cons_succ] at e1 e2 e3 e5
  clear hb hb3 HL
  refine hK.out _ _ ?_ (fun hHeld => ?_)
  · go_keep
  try simp only [Act.put, List.setIfInBounds_toArray, List.set_cons_zero, List.set_cons_succ]
  refine wpAnyH_take (i := 6) (v := (.bool false)) (by simp only [List.getElem?_toArray, List.getElem?_cons_succ, List.getElem?_cons_zero]; rfl) (by kernel_rfl) (by kernel_rfl) (by kernel_rfl) (by exact fun _ _ _ h => h) (Or.inl ⟨by rfl, fun _ _ => rfl⟩) (by assumption) ?_
  try simp only [Act.put, List.setIfInBounds_toArray, List.set_cons_zero, List.set_cons_succ]
  refine wpAnyH_take (i := 7) (v := (.pointer (some ⟨g, 0, none⟩))) (by simp only [List.getElem?_toArray, List.getElem?_cons_succ, List.getElem?_cons_zero]; rfl) (by kernel_rfl) (by kernel_rfl) (by kernel_rfl) (by exact fun _ _ _ h => h) (Or.inl ⟨by rfl, fun _ _ => rfl⟩) (by assumption) ?_
  try simp only [Act.put, List.setIfInBounds_toArray, List.set_cons_zero, List.set_cons_succ]
  refine wpAnyH_take (i := 8) (v := (.pointer (some ⟨g, 0, none⟩))) (by simp only [List.getElem?_toArray, List.getElem?_cons_succ, List.getElem?_cons_zero]; rfl) (by kernel_rfl) (by kernel_rfl) (by kernel_rfl) (by exact fun _ _ _ h => h) (Or.inl ⟨by rfl, by intro w hSw; go_simp⟩) (by assumption) ?_
  try simp only [Act.put, List.setIfInBounds_toArray, List.set_cons_zero, List.set_cons_succ]
  refine wpAnyH_take (i := 9) (v := (.pointer (some ⟨g, 0, none⟩))) (by simp only [List.getElem?_toArray, List.getElem?_cons_succ, List.getElem?_cons_zero]; rfl) (by kernel_rfl) (by kernel_rfl) (by kernel_rfl) (by exact fun _ _ _ h => h) (Or.inl ⟨by rfl, by intro w hSw; go_simp⟩) (by assumption) ?_
  try simp only [Act.put, List.setIfInBounds_toArray, List.set_cons_zero, List.set_cons_succ]
  refine wpAnyH_take (i := 10) (v := (.pointer (some ⟨g, 1, none⟩))) (by simp only [List.getElem?_toArray, List.getElem?_cons_succ, List.getElem?_cons_zero]; rfl) (by kernel_rfl) (by kernel_rfl) (by kernel_rfl) (by exact fun _ _ _ h => h) (Or.inl ⟨by rfl, by intro w hSw; go_simp⟩) (by assumption) ?_
  try simp only [Act.put, List.setIfInBounds_toArray, List.set_cons_zero, List.set_cons_succ]
  refine wpAnyH_take (i := 11) (v := (.pointer (some ⟨g, 3, none⟩))) (by simp only [List.getElem?_toArray, List.getElem?_cons_succ, List.getElem?_cons_zero]; rfl) (by kernel_rfl) (by kernel_rfl) (by kernel_rfl) (by exact fun _ _ _ h => h) (Or.inl ⟨by rfl, by intro w hSw; go_simp⟩) (by assumption) ?_
  try simp only [Act.put, List.setIfInBounds_toArray, List.set_cons_zero, List.set_cons_succ]
  refine wpAnyH_take (i := 12) (v := (.int .u32 s.pc)) (by simp only [List.getElem?_toArray, List.getElem?_cons_succ, List.getElem?_cons_zero]; rfl) (by kernel_rfl) (by kernel_rfl) (by kernel_rfl) (by exact fun _ _ _ h => h) (Or.inl ⟨by rfl, by intro w hSw; go_simp⟩) (by assumption) ?_
  try simp only [Act.put, List.setIfInBounds_toArray, List.set_cons_zero, List.set_cons_succ]
  refine wpAnyH_take (i := 13) (v := (.bool true)) (by simp only [List.getElem?_toArray, List.getElem?_cons_succ, List.getElem?_cons_zero]; rfl) (by kernel_rfl) (by kernel_rfl) (by kernel_rfl) (by exact fun _ _ _ h => h) (Or.inl ⟨by rfl, by intro w hSw; go_simp⟩) (by assumption) ?_
  try simp only [Act.put, List.setIfInBounds_toArray, List.set_cons_zero, List.set_cons_succ]
  refine wpAnyH_take (i := 14) (v := (.bool true)) (by simp only [List.getElem?_toArray, List.getElem?_cons_succ, List.getElem?_cons_zero]; rfl) (by kernel_rfl) (by kernel_rfl) (by kernel_rfl) (by exact fun _ _ _ h => h) (Or.inl ⟨by rfl, fun _ _ => rfl⟩) (by assumption) ?_
  try simp only [Act.put, List.setIfInBounds_toArray, List.set_cons_zero, List.set_cons_succ]
  refine wpAnyH_take (i := 15) (v := (.bool true)) (by simp only [List.getElem?_toArray, List.getElem?_cons_succ, List.getElem?_cons_zero]; rfl) (by kernel_rfl) (by kernel_rfl) (by kernel_rfl) (by exact fun _ _ _ h => h) (Or.inl ⟨by rfl, fun _ _ => rfl⟩) (by assumption) ?_
  try simp only [Act.put, List.setIfInBounds_toArray, List.set_cons_zero, List.set_cons_succ]
  refine wpAnyH_take (i := 16) (v := undef) (by simp only [List.getElem?_toArray, List.getElem?_cons_succ, List.getElem?_cons_zero]; rfl) (by kernel_rfl) (by kernel_rfl) (by kernel_rfl) (by exact fun _ _ _ h => h) (Or.inr ⟨by rfl, rfl⟩) (by assumption) ?_
  try simp only [Act.put, List.setIfInBounds_toArray, List.set_cons_zero, List.set_cons_succ]
  refine wpAnyH_take (i := 17) (v := undef) (by simp only [List.getElem?_toArray, List.getElem?_cons_succ, List.getElem?_cons_zero]; rfl) (by kernel_rfl) (by kernel_rfl) (by kernel_rfl) (by exact fun _ _ _ h => h) (Or.inr ⟨by rfl, rfl⟩) (by assumption) ?_
  try simp only [Act.put, List.setIfInBounds_toArray, List.set_cons_zero, List.set_cons_succ]
  refine wpAnyH_take (i := 18) (v := undef) (by simp only [List.getElem?_toArray, List.getElem?_cons_succ, List.getElem?_cons_zero]; rfl) (by kernel_rfl) (by kernel_rfl) (by kernel_rfl) (by exact fun _ _ _ h => h) (Or.inr ⟨by rfl, rfl⟩) (by assumption) ?_
  try simp only [Act.put, List.setIfInBounds_toArray, List.set_cons_zero, List.set_cons_succ]
  refine wpAnyH_take (i := 19) (v := undef) (by simp only [List.getElem?_toArray, List.getElem?_cons_succ, List.getElem?_cons_zero]; rfl) (by kernel_rfl) (by kernel_rfl) (by kernel_rfl) (by exact fun _ _ _ h => h) (Or.inr ⟨by rfl, rfl⟩) (by assumption) ?_
  try simp only [Act.put, List.setIfInBounds_toArray, List.set_cons_zero, List.set_cons_succ]
  refine wpAnyH_take (i := 20) (v := undef) (by simp only [List.getElem?_toArray, List.getElem?_cons_succ, List.getElem?_cons_zero]; rfl) (by kernel_rfl) (by kernel_rfl) (by kernel_rfl) (by exact fun _ _ _ h => h) (Or.inr ⟨by rfl, rfl⟩) (by assumption) ?_
  try simp only [Act.put, List.setIfInBounds_toArray, List.set_cons_zero, List.set_cons_succ]
  refine wpAnyH_take (i := 21) (v := undef) (by simp only [List.getElem?_toArray, List.getElem?_cons_succ, List.getElem?_cons_zero]; rfl) (by kernel_rfl) (by kernel_rfl) (by kernel_rfl) (by exact fun _ _ _ h => h) (Or.inr ⟨by rfl, rfl⟩) (by assumption) ?_
  try simp only [Act.put, List.setIfInBounds_toArray, List.set_cons_zero, List.set_cons_succ]
  refine wpAnyH_take (i := 22) (v := undef) (by simp only [List.getElem?_toArray, List.getElem?_cons_succ, List.getElem?_cons_zero]; rfl) (by kernel_rfl) (by kernel_rfl) (by kernel_rfl) (by exact fun _ _ _ h => h) (Or.inr ⟨by rfl, rfl⟩) (by assumption) ?_
  try simp only [Act.put, List.setIfInBounds_toArray, List.set_cons_zero, List.set_cons_succ]
  refine wpAnyH_take (i := 23) (v := undef) (by simp only [List.getElem?_toArray, List.getElem?_cons_succ, List.getElem?_cons_zero]; rfl) (by kernel_rfl) (by kernel_rfl) (by kernel_rfl) (by exact fun _ _ _ h => h) (Or.inr ⟨by rfl, rfl⟩) (by assumption) ?_
  try simp only [Act.put, List.setIfInBounds_toArray, List.set_cons_zero, List.set_cons_succ]
  refine wpAnyH_take (i := 24) (v := undef) (by simp only [List.getElem?_toArray, List.getElem?_cons_succ, List.getElem?_cons_zero]; rfl) (by kernel_rfl) (by kernel_rfl) (by kernel_rfl) (by exact fun _ _ _ h => h) (Or.inr ⟨by rfl, rfl⟩) (by assumption) ?_
  try simp only [Act.put, List.setIfInBounds_toArray, List.set_cons_zero, List.set_cons_succ]
  refine wpAnyH_take (i := 25) (v := undef) (by simp only [List.getElem?_toArray, List.getElem?_cons_succ, List.getElem?_cons_zero]; rfl) (by kernel_rfl) (by kernel_rfl) (by kernel_rfl) (by exact fun _ _ _ h => h) (Or.inr ⟨by rfl, rfl⟩) (by assumption) ?_
  try simp only [Act.put, List.setIfInBounds_toArray, List.set_cons_zero, List.set_cons_succ]
  refine wpAnyH_take (i := 26) (v := undef) (by simp only [List.getElem?_toArray, List.getElem?_cons_succ, List.getElem?_cons_zero]; rfl) (by kernel_rfl) (by kernel_rfl) (by kernel_rfl) (by exact fun _ _ _ h => h) (Or.inr ⟨by rfl, rfl⟩) (by assumption) ?_
  try simp only [Act.put, List.setIfInBounds_toArray, List.set_cons_zero, List.set_cons_succ]
  refine wpAnyH_take (i := 27) (v := undef) (by simp only [List.getElem?_toArray, List.getElem?_cons_succ, List.getElem?_cons_zero]; rfl) (by kernel_rfl) (by kernel_rfl) (by kernel_rfl) (by exact fun _ _ _ h => h) (Or.inr ⟨by rfl, rfl⟩) (by assumption) ?_
  try simp only [Act.put, List.setIfInBounds_toArray, List.set_cons_zero, List.set_cons_succ]
  refine wpAnyH_take (i := 28) (v := (.bool true)) (by simp only [List.getElem?_toArray, List.getElem?_cons_succ, List.getElem?_cons_zero]; rfl) (by kernel_rfl) (by kernel_rfl) (by kernel_rfl) (by exact fun _ _ _ h => h) (Or.inl ⟨by rfl, fun _ _ => rfl⟩) (by assumption) ?_
  try simp only [Act.put, List.setIfInBounds_toArray, List.set_cons_zero, List.set_cons_succ]
  refine wpAnyH_done (by kernel_rfl) ?_ _
  clear c1 c2 c3 c5 e1 e2 e3 e5 K2 HB2
  have HSE := Lib.hid (show Calls Tryz.prog 52 #[(statM notB).val (.slice none 0 0)] w3 _ from sent_any (statM notB) (.slice none 0 0) w3 (stat_ok _ (by decide)) (RSl.nil _) (HG.out.below HB3.out).e)
  unfold Msg.val statM at HSE
  go_wp2_with fail
  refine HSE.out.mono ?_
  rintro e w5 ⟨v5, rfl, hv5, hb5⟩
  have K5 := Lib.hid (K3.out.below hb5)
  have V5 := Lib.hid hv5
  have HB5 := Lib.hid (HB3.out.trans (hb5.mono HB3.out.size))
  clear hv5 hb5 HSE
  go_wp2_with (refine wpList_store_blk rfl _ (.tmp 81) (.tmp 79) rfl g 0 [.int .i64 8, .string ⟨#[]⟩, .int .u64 0, .int .u32 0, .bool false] (by rfl) (by rfl) (by kernel_rfl) (by simp [Value.oneCell']) 113 _ K5.out (by show 0 + 5 ≤ 11; decide) ?_; intro w7 hC7 hg7)
  have HC7 := Lib.hid hC7
  have HG7 := Lib.hid hg7
  clear hC7 hg7
  go_wp2
  go_ret2
  rw [HR.out]
  have KL := Lib.hid ((Keep.refl (Blk1 g) w5).grownB HG7.out)
  exact ⟨_, _, rfl, (V5.out.base HB3.out.size).keepC KL.out K5.out (by decide) (by decide), rfl, (Keep.ofB HB5.out).grownB HG7.out, HC7.out⟩

set_option maxHeartbeats 8000000 in
set_option maxRecDepth 100000 in
theorem answer_C (g : Nat) (s : Sd) (status : ByteArray) (w : World) (hC : Cells w g 113 s.cells) (hs : s.Ok) (hz : status.size ≤ 140737488351232) (hG : Gl w) (h5 : s.st = 5) (hv : isSt status = true) (hlk : lackS s.pf = false) (hpc : s.pc ≠ 0) :
    Calls Tryz.prog 17 #[.pointer (some ⟨g, 0, none⟩), .string status] w (RetT 113 g w (answerS s status)) := by
  have HI := Lib.hid (isStatus_any status w)
  rw [hv] at HI
  have HL := Lib.hid (fun W => lacks_any s.pn s.pf s.pc W)
  rw [hlk] at HL
  have HMn := Lib.hid (fun hn : s.pn = s.mn => show answerS s status = (s.dead, [(writeS (statM notB)).1], []) by rw [answer_main h5 hv notB (if_pos (.inr (.inr hn))), if_neg (by decide)])
  have HMd := Lib.hid (fun (hn : s.pn ≠ s.mn) (hq : okQ status = false) => show answerS s status = (s.dead, [(writeS (statM status)).1], []) by rw [answer_main h5 hv status (if_neg (by simp [hlk, hpc, hn])), if_neg (by simp [hq])])
  have HMo := Lib.hid (fun (hn : s.pn ≠ s.mn) (hq : okQ status = true) => show answerS s status = (s.now 6 s.pn s.pf s.pc (decide (status = simB)), [(writeS (statM status)).1, (writeS (chalM s.mf s.mc s.ch s.mn)).1], []) by rw [answer_main h5 hv status (if_neg (by simp [hlk, hpc, hn])), if_pos hq])
  have hpb : (s.pc == 0) = false := beq_eq_false_iff_ne.2 hpc
  have HZ := Lib.hid hz
  clear hz hpc
  have HC := Lib.hid hC
  have HG := Lib.hid hG
  have HS := Lib.hid hs
  have c0 := hC.cell 0
  simp only [Sd.cells, List.getElem?_cons_zero, h5] at c0
  unfold peerV at HL
  clear hC hG hs h5 hv hlk
  go_enter Tryz.func17, Tryz.ntmps17
  go_wp2_with fail
  refine HI.out.mono ?_
  rintro e w2 ⟨rfl, hb⟩
  have K2 := Lib.hid (HC.out.below hb)
  have HB2 := Lib.hid hb
  have c1 := K2.out.cell 1
  have c2 := K2.out.cell 2
  have c3 := K2.out.cell 3
  have c5 := K2.out.cell 5
  simp only [Sd.cells, List.getElem?_cons_zero, List.getElem?_cons_succ] at c1 c2 c3 c5
  clear hb c0 HI
  go_wp2
  refine wp_region_held_drew (S := (fun w' => w'.cell? ⟨g, 1, none⟩ = some (.string s.pn) ∧ w'.cell? ⟨g, 2, none⟩ = some (.int .u64 s.pf) ∧ w'.cell? ⟨g, 3, none⟩ = some (.int .u32 s.pc) ∧ w'.cell? ⟨g, 5, none⟩ = some (.string s.mn))) (by kernel_rfl) (by go_keep) (fun hHeld => ?_)
  refine wpAnyH_take (i := 0) (v := (.pointer (some ⟨g, 0, none⟩))) (by simp only [List.getElem?_toArray, List.getElem?_cons_succ, List.getElem?_cons_zero]; rfl) (by kernel_rfl) (by kernel_rfl) (by kernel_rfl) (by exact fun _ _ _ h => h) (Or.inl ⟨by rfl, fun _ _ => rfl⟩) (by assumption) ?_
  try simp only [Act.put, List.setIfInBounds_toArray, List.set_cons_zero, List.set_cons_succ]
  refine wpAnyH_take (i := 1) (v := (.pointer (some ⟨g, 0, none⟩))) (by simp only [List.getElem?_toArray, List.getElem?_cons_succ, List.getElem?_cons_zero]; rfl) (by kernel_rfl) (by kernel_rfl) (by kernel_rfl) (by exact fun _ _ _ h => h) (Or.inl ⟨by rfl, by intro w hSw; go_simp⟩) (by assumption) ?_
  try simp only [Act.put, List.setIfInBounds_toArray, List.set_cons_zero, List.set_cons_succ]
  refine wpAnyH_take (i := 2) (v := (.pointer (some ⟨g, 0, none⟩))) (by simp only [List.getElem?_toArray, List.getElem?_cons_succ, List.getElem?_cons_zero]; rfl) (by kernel_rfl) (by kernel_rfl) (by kernel_rfl) (by exact fun _ _ _ h => h) (Or.inl ⟨by rfl, by intro w hSw; go_simp⟩) (by assumption) ?_
  try simp only [Act.put, List.setIfInBounds_toArray, List.set_cons_zero, List.set_cons_succ]
  refine wpAnyH_take (i := 3) (v := (.pointer (some ⟨g, 1, none⟩))) (by simp only [List.getElem?_toArray, List.getElem?_cons_succ, List.getElem?_cons_zero]; rfl) (by kernel_rfl) (by kernel_rfl) (by kernel_rfl) (by exact fun _ _ _ h => h) (Or.inl ⟨by rfl, by intro w hSw; go_simp⟩) (by assumption) ?_
  try simp only [Act.put, List.setIfInBounds_toArray, List.set_cons_zero, List.set_cons_succ]
  refine wpAnyH_take (i := 4) (v := (.agg #[.string s.pn, .int .u64 s.pf, .int .u32 s.pc])) (by simp only [List.getElem?_toArray, List.getElem?_cons_succ, List.getElem?_cons_zero]; rfl) (by kernel_rfl) (by kernel_rfl) (by kernel_rfl) (by exact fun _ _ _ h => h) (Or.inl ⟨by rfl, by intro w hSw; go_simp⟩) (by assumption) ?_
  try simp only [Act.put, List.setIfInBounds_toArray, List.set_cons_zero, List.set_cons_succ]
  refine wpAnyH_ready (rs := [5]) (by kernel_rfl) (by simp) ?_
  refine AllReadyH.cons rfl (fun K hK => ?_) AllReadyH.nil
  go_simp
  refine (HL.out _).mono ?_
  rintro e w3 ⟨rfl, hb⟩
  have hb3 : Below w2.heap.size w2 w3 := (Below.drew (Below.refl w2.heap.size w2)).trans hb
  have K3 := Lib.hid (K2.out.below hb3)
  have HB3 := Lib.hid (HB2.out.trans (hb3.mono HB2.out.size))
  have e1 := K3.out.cell 1
  have e2 := K3.out.cell 2
  have e3 := K3.out.cell 3
  have e5 := K3.out.cell 5
  simp only [Sd.cells, List.getElem?_cons_zero, List.getElem?_cons_succ] at e1 e2 e3 e5
  clear hb hb3 HL
  refine hK.out _ _ ?_ (fun hHeld => ?_)
  · go_keep
  try simp only [Act.put, List.setIfInBounds_toArray, List.set_cons_zero, List.set_cons_succ]
  refine wpAnyH_take (i := 6) (v := (.bool false)) (by simp only [List.getElem?_toArray, List.getElem?_cons_succ, List.getElem?_cons_zero]; rfl) (by kernel_rfl) (by kernel_rfl) (by kernel_rfl) (by exact fun _ _ _ h => h) (Or.inl ⟨by rfl, fun _ _ => rfl⟩) (by assumption) ?_
  try simp only [Act.put, List.setIfInBounds_toArray, List.set_cons_zero, List.set_cons_succ]
  refine wpAnyH_take (i := 7) (v := (.pointer (some ⟨g, 0, none⟩))) (by simp only [List.getElem?_toArray, List.getElem?_cons_succ, List.getElem?_cons_zero]; rfl) (by kernel_rfl) (by kernel_rfl) (by kernel_rfl) (by exact fun _ _ _ h => h) (Or.inl ⟨by rfl, fun _ _ => rfl⟩) (by assumption) ?_
  try simp only [Act.put, List.setIfInBounds_toArray, List.set_cons_zero, List.set_cons_succ]
  refine wpAnyH_take (i := 8) (v := (.pointer (some ⟨g, 0, none⟩))) (by simp only [List.getElem?_toArray, List.getElem?_cons_succ, List.getElem?_cons_zero]; rfl) (by kernel_rfl) (by kernel_rfl) (by kernel_rfl) (by exact fun _ _ _ h => h) (Or.inl ⟨by rfl, by intro w hSw; go_simp⟩) (by assumption) ?_
  try simp only [Act.put, List.setIfInBounds_toArray, List.set_cons_zero, List.set_cons_succ]
  refine wpAnyH_take (i := 9) (v := (.pointer (some ⟨g, 0, none⟩))) (by simp only [List.getElem?_toArray, List.getElem?_cons_succ, List.getElem?_cons_zero]; rfl) (by kernel_rfl) (by kernel_rfl) (by kernel_rfl) (by exact fun _ _ _ h => h) (Or.inl ⟨by rfl, by intro w hSw; go_simp⟩) (by assumption) ?_
  try simp only [Act.put, List.setIfInBounds_toArray, List.set_cons_zero, List.set_cons_succ]
  refine wpAnyH_take (i := 10) (v := (.pointer (some ⟨g, 1, none⟩))) (by simp only [List.getElem?_toArray, List.getElem?_cons_succ, List.getElem?_cons_zero]; rfl) (by kernel_rfl) (by kernel_rfl) (by kernel_rfl) (by exact fun _ _ _ h => h) (Or.inl ⟨by rfl, by intro w hSw; go_simp⟩) (by assumption) ?_
  try simp only [Act.put, List.setIfInBounds_toArray, List.set_cons_zero, List.set_cons_succ]
  refine wpAnyH_take (i := 11) (v := (.pointer (some ⟨g, 3, none⟩))) (by simp only [List.getElem?_toArray, List.getElem?_cons_succ, List.getElem?_cons_zero]; rfl) (by kernel_rfl) (by kernel_rfl) (by kernel_rfl) (by exact fun _ _ _ h => h) (Or.inl ⟨by rfl, by intro w hSw; go_simp⟩) (by assumption) ?_
  try simp only [Act.put, List.setIfInBounds_toArray, List.set_cons_zero, List.set_cons_succ]
  refine wpAnyH_take (i := 12) (v := (.int .u32 s.pc)) (by simp only [List.getElem?_toArray, List.getElem?_cons_succ, List.getElem?_cons_zero]; rfl) (by kernel_rfl) (by kernel_rfl) (by kernel_rfl) (by exact fun _ _ _ h => h) (Or.inl ⟨by rfl, by intro w hSw; go_simp⟩) (by assumption) ?_
  try simp only [Act.put, List.setIfInBounds_toArray, List.set_cons_zero, List.set_cons_succ]
  refine wpAnyH_take (i := 13) (v := (.bool false)) (by simp only [List.getElem?_toArray, List.getElem?_cons_succ, List.getElem?_cons_zero]; rfl) (by kernel_rfl) (by kernel_rfl) (by kernel_rfl) (by exact fun _ _ _ h => h) (Or.inl ⟨by rfl, by intro w hSw; go_simp⟩) (by assumption) ?_
  try simp only [Act.put, List.setIfInBounds_toArray, List.set_cons_zero, List.set_cons_succ]
  refine wpAnyH_take (i := 14) (v := (.bool false)) (by simp only [List.getElem?_toArray, List.getElem?_cons_succ, List.getElem?_cons_zero]; rfl) (by kernel_rfl) (by kernel_rfl) (by kernel_rfl) (by exact fun _ _ _ h => h) (Or.inl ⟨by rfl, fun _ _ => rfl⟩) (by assumption) ?_
  try simp only [Act.put, List.setIfInBounds_toArray, List.set_cons_zero, List.set_cons_succ]
  refine wpAnyH_take (i := 15) (v := (.bool false)) (by simp only [List.getElem?_toArray, List.getElem?_cons_succ, List.getElem?_cons_zero]; rfl) (by kernel_rfl) (by kernel_rfl) (by kernel_rfl) (by exact fun _ _ _ h => h) (Or.inl ⟨by rfl, fun _ _ => rfl⟩) (by assumption) ?_
  try simp only [Act.put, List.setIfInBounds_toArray, List.set_cons_zero, List.set_cons_succ]
  refine wpAnyH_take (i := 16) (v := (.pointer (some ⟨g, 0, none⟩))) (by simp only [List.getElem?_toArray, List.getElem?_cons_succ, List.getElem?_cons_zero]; rfl) (by kernel_rfl) (by kernel_rfl) (by kernel_rfl) (by exact fun _ _ _ h => h) (Or.inl ⟨by rfl, fun _ _ => rfl⟩) (by assumption) ?_
  try simp only [Act.put, List.setIfInBounds_toArray, List.set_cons_zero, List.set_cons_succ]
  refine wpAnyH_take (i := 17) (v := (.pointer (some ⟨g, 0, none⟩))) (by simp only [List.getElem?_toArray, List.getElem?_cons_succ, List.getElem?_cons_zero]; rfl) (by kernel_rfl) (by kernel_rfl) (by kernel_rfl) (by exact fun _ _ _ h => h) (Or.inl ⟨by rfl, by intro w hSw; go_simp⟩) (by assumption) ?_
  try simp only [Act.put, List.setIfInBounds_toArray, List.set_cons_zero, List.set_cons_succ]
  refine wpAnyH_take (i := 18) (v := (.pointer (some ⟨g, 0, none⟩))) (by simp only [List.getElem?_toArray, List.getElem?_cons_succ, List.getElem?_cons_zero]; rfl) (by kernel_rfl) (by kernel_rfl) (by kernel_rfl) (by exact fun _ _ _ h => h) (Or.inl ⟨by rfl, by intro w hSw; go_simp⟩) (by assumption) ?_
  try simp only [Act.put, List.setIfInBounds_toArray, List.set_cons_zero, List.set_cons_succ]
  refine wpAnyH_take (i := 19) (v := (.pointer (some ⟨g, 1, none⟩))) (by simp only [List.getElem?_toArray, List.getElem?_cons_succ, List.getElem?_cons_zero]; rfl) (by kernel_rfl) (by kernel_rfl) (by kernel_rfl) (by exact fun _ _ _ h => h) (Or.inl ⟨by rfl, by intro w hSw; go_simp⟩) (by assumption) ?_
  try simp only [Act.put, List.setIfInBounds_toArray, List.set_cons_zero, List.set_cons_succ]
  refine wpAnyH_take (i := 20) (v := (.pointer (some ⟨g, 1, none⟩))) (by simp only [List.getElem?_toArray, List.getElem?_cons_succ, List.getElem?_cons_zero]; rfl) (by kernel_rfl) (by kernel_rfl) (by kernel_rfl) (by exact fun _ _ _ h => h) (Or.inl ⟨by rfl, by intro w hSw; go_simp⟩) (by assumption) ?_
  try simp only [Act.put, List.setIfInBounds_toArray, List.set_cons_zero, List.set_cons_succ]
  refine wpAnyH_take (i := 21) (v := (.string s.pn)) (by simp only [List.getElem?_toArray, List.getElem?_cons_succ, List.getElem?_cons_zero]; rfl) (by kernel_rfl) (by kernel_rfl) (by kernel_rfl) (by exact fun _ _ _ h => h) (Or.inl ⟨by rfl, by intro w hSw; go_simp⟩) (by assumption) ?_
  try simp only [Act.put, List.setIfInBounds_toArray, List.set_cons_zero, List.set_cons_succ]
  refine wpAnyH_take (i := 22) (v := (.pointer (some ⟨g, 0, none⟩))) (by simp only [List.getElem?_toArray, List.getElem?_cons_succ, List.getElem?_cons_zero]; rfl) (by kernel_rfl) (by kernel_rfl) (by kernel_rfl) (by exact fun _ _ _ h => h) (Or.inl ⟨by rfl, fun _ _ => rfl⟩) (by assumption) ?_
  try simp only [Act.put, List.setIfInBounds_toArray, List.set_cons_zero, List.set_cons_succ]
  refine wpAnyH_take (i := 23) (v := (.pointer (some ⟨g, 0, none⟩))) (by simp only [List.getElem?_toArray, List.getElem?_cons_succ, List.getElem?_cons_zero]; rfl) (by kernel_rfl) (by kernel_rfl) (by kernel_rfl) (by exact fun _ _ _ h => h) (Or.inl ⟨by rfl, by intro w hSw; go_simp⟩) (by assumption) ?_
  try simp only [Act.put, List.setIfInBounds_toArray, List.set_cons_zero, List.set_cons_succ]
  refine wpAnyH_take (i := 24) (v := (.pointer (some ⟨g, 5, none⟩))) (by simp only [List.getElem?_toArray, List.getElem?_cons_succ, List.getElem?_cons_zero]; rfl) (by kernel_rfl) (by kernel_rfl) (by kernel_rfl) (by exact fun _ _ _ h => h) (Or.inl ⟨by rfl, by intro w hSw; go_simp⟩) (by assumption) ?_
  try simp only [Act.put, List.setIfInBounds_toArray, List.set_cons_zero, List.set_cons_succ]
  refine wpAnyH_take (i := 25) (v := (.pointer (some ⟨g, 5, none⟩))) (by simp only [List.getElem?_toArray, List.getElem?_cons_succ, List.getElem?_cons_zero]; rfl) (by kernel_rfl) (by kernel_rfl) (by kernel_rfl) (by exact fun _ _ _ h => h) (Or.inl ⟨by rfl, by intro w hSw; go_simp⟩) (by assumption) ?_
  try simp only [Act.put, List.setIfInBounds_toArray, List.set_cons_zero, List.set_cons_succ]
  refine wpAnyH_take (i := 26) (v := (.string s.mn)) (by simp only [List.getElem?_toArray, List.getElem?_cons_succ, List.getElem?_cons_zero]; rfl) (by kernel_rfl) (by kernel_rfl) (by kernel_rfl) (by exact fun _ _ _ h => h) (Or.inl ⟨by rfl, by intro w hSw; go_simp⟩) (by assumption) ?_
  try simp only [Act.put, List.setIfInBounds_toArray, List.set_cons_zero, List.set_cons_succ]
  refine wpAnyH_take (i := 27) (v := (.bool (s.pn.toList == s.mn.toList))) (by simp only [List.getElem?_toArray, List.getElem?_cons_succ, List.getElem?_cons_zero]; rfl) (by kernel_rfl) (by kernel_rfl) (by kernel_rfl) (by exact fun _ _ _ h => h) (Or.inl ⟨by rfl, by intro w hSw; go_simp⟩) (by assumption) ?_
  try simp only [Act.put, List.setIfInBounds_toArray, List.set_cons_zero, List.set_cons_succ]
  refine wpAnyH_take (i := 28) (v := (.bool (s.pn.toList == s.mn.toList))) (by simp only [List.getElem?_toArray, List.getElem?_cons_succ, List.getElem?_cons_zero]; rfl) (by kernel_rfl) (by kernel_rfl) (by kernel_rfl) (by exact fun _ _ _ h => h) (Or.inl ⟨by rfl, fun _ _ => rfl⟩) (by assumption) ?_
  try simp only [Act.put, List.setIfInBounds_toArray, List.set_cons_zero, List.set_cons_succ]
  refine wpAnyH_done (by kernel_rfl) ?_ _
  clear c1 c2 c3 c5 e1 e2 e3 e5 K2 HB2
  by_cases hn : s.pn = s.mn
  · have hnb : (s.pn.toList == s.mn.toList) = true := beqL_eq hn
    rw [hnb]
    have HR := Lib.hid (HMn.out hn)
    clear HMn HMd HMo hn
    have HSE := Lib.hid (show Calls Tryz.prog 52 #[(statM notB).val (.slice none 0 0)] w3 _ from sent_any (statM notB) (.slice none 0 0) w3 (stat_ok _ (by decide)) (RSl.nil _) (HG.out.below HB3.out).e)
    unfold Msg.val statM at HSE
    go_wp2_with fail
    refine HSE.out.mono ?_
    rintro e w5 ⟨v5, rfl, hv5, hb5⟩
    have K5 := Lib.hid (K3.out.below hb5)
    have V5 := Lib.hid hv5
    have HB5 := Lib.hid (HB3.out.trans (hb5.mono HB3.out.size))
    clear hv5 hb5 HSE
    go_wp2_with (refine wpList_store_blk rfl _ (.tmp 81) (.tmp 79) rfl g 0 [.int .i64 8, .string ⟨#[]⟩, .int .u64 0, .int .u32 0, .bool false] (by rfl) (by rfl) (by kernel_rfl) (by simp [Value.oneCell']) 113 _ K5.out (by show 0 + 5 ≤ 11; decide) ?_; intro w7 hC7 hg7)
    have HC7 := Lib.hid hC7
    have HG7 := Lib.hid hg7
    clear hC7 hg7
    go_wp2
    go_ret2
    rw [HR.out]
    have KL := Lib.hid ((Keep.refl (Blk1 g) w5).grownB HG7.out)
    exact ⟨_, _, rfl, (V5.out.base HB3.out.size).keepC KL.out K5.out (by decide) (by decide), rfl, (Keep.ofB HB5.out).grownB HG7.out, HC7.out⟩
  have hnb : (s.pn.toList == s.mn.toList) = false := beqL_ne hn
  rw [hnb]
  by_cases h1 : status = okB
  · subst h1
    have HR := Lib.hid (HMo.out hn (by decide))
    unfold okB at *
    have HSE := Lib.hid (show Calls Tryz.prog 52 #[(statM ⟨#[111, 107]⟩).val (.slice none 0 0)] w3 _ from sent_any (statM ⟨#[111, 107]⟩) (.slice none 0 0) w3 (stat_ok _ (by decide)) (RSl.nil _) (HG.out.below HB3.out).e)
    unfold Msg.val statM at HSE
    go_wp2_with fail
    refine HSE.out.mono ?_
    rintro e w5 ⟨v5, rfl, hv5, hb5⟩
    have K5 := Lib.hid (K3.out.below hb5)
    have V5 := Lib.hid hv5
    have HB5 := Lib.hid (HB3.out.trans (hb5.mono HB3.out.size))
    clear hv5 hb5 HSE
    have c0 := K5.out.cell 0
    have f0 := K5.out.frozen 0
    have P1 := Lib.hid (K5.out.set_ 0 (.int .i64 6))
    have c4 := P1.out.cell 4
    have f4 := P1.out.frozen 4
    have P2 := Lib.hid (P1.out.set_ 4 (.bool false))
    simp only [Sd.cells, List.set_cons_zero, List.getElem?_cons_zero, List.getElem?_cons_succ] at c0 c4
    have KP := Lib.hid (((Keep.ofB (S := Blk1 g) HB5.out).setB 0 (.int .i64 6)).setB 4 (.bool false))
    have V6 := Lib.hid ((V5.out.base HB3.out.size).keepC (((Keep.refl (Blk1 g) w5).setB 0 (.int .i64 6)).setB 4 (.bool false)) K5.out (by decide) (by decide))
    clear V5
    go_wp2
    clear c0 c4 f0 f4 P1
    generalize hW : World.setCell _ ⟨g, 4, none⟩ _ = W6 at *
    clear hW
    have G6 := Lib.hid (HG.out.keepC HC.out KP.out)
    have P6 := Lib.hid (show Cells W6 g 113 (s.now 6 s.pn s.pf s.pc false).cells from P2.out)
    have c5 := P6.out.cell 5
    have c6 := P6.out.cell 6
    have c7 := P6.out.cell 7
    have c10 := P6.out.cell 10
    simp only [Sd.cells, Sd.now, List.getElem?_cons_zero, List.getElem?_cons_succ] at c5 c6 c7 c10
    have HS2 := Lib.hid (show Calls Tryz.prog 52 #[(chalM s.mf s.mc s.ch s.mn).val (.slice none 0 0)] W6.drew _ from sent_any (chalM s.mf s.mc s.ch s.mn) (.slice none 0 0) W6.drew (chalM_ok HS.out) (RSl.nil _) (G6.out.below (Below.drew (Below.refl W6.heap.size W6))).e)
    unfold Msg.val chalM at HS2
    go_region_held3 (fun w' => w'.cell? ⟨g, 5, none⟩ = some (.string s.mn) ∧ w'.cell? ⟨g, 6, none⟩ = some (.int .u64 s.mf) ∧ w'.cell? ⟨g, 7, none⟩ = some (.int .u32 s.mc) ∧ w'.cell? ⟨g, 10, none⟩ = some (.int .u32 s.ch)) (go_keep)
      (first
        | (go_at_call 52; refine HS2.out.mono ?_; rintro e w7 ⟨v7, rfl, hv7, hb⟩
           have hb7 : Below W6.heap.size W6 w7 := (Below.drew (Below.refl W6.heap.size W6)).trans hb
           have K7 := Lib.hid (P6.out.below hb7)
           have V7 := Lib.hid (V6.out.below hb7 (Nat.le_refl _))
           have e5 := K7.out.cell 5
           have e6 := K7.out.cell 6
           have e7 := K7.out.cell 7
           have e10 := K7.out.cell 10
           obtain ⟨v8, w8, hrun, hv8, hg8⟩ := V7.out.app hv7 (by simp) (Nat.le_trans KP.out.size hb7.size)
           have HRUN := Lib.hid hrun
           have V8 := Lib.hid hv8
           have hne8 : v5.ownBlock ≠ some g := fun e => by
             obtain ⟨_, _, cur, hcur⟩ := V7.out.block e
             have := K7.out
             unfold Cells at this
             rw [this] at hcur
             injection hcur with hcur
             injection hcur with _ h2
             exact absurd h2 (by decide)
           have K8 := Lib.hid (K7.out.grown hg8 hne8)
           have KP8 := Lib.hid ((KP.out.below hb7).grown hg8 (fun k hk hlt => absurd hlt (Nat.not_lt.2 (V7.out.block hk).1)))
           have j5 := K8.out.cell 5
           have j6 := K8.out.cell 6
           have j7 := K8.out.cell 7
           have j10 := K8.out.cell 10
           simp only [Sd.cells, Sd.now, List.getElem?_cons_zero, List.getElem?_cons_succ] at e5 e6 e7 e10 j5 j6 j7 j10
           clear hb hb7 hv7 hrun hv8 hg8 hne8 HS2)
        | (refine step_app_eq (by rfl) _ _ _ _ (by rfl) _ _ v8 w8 (by rfl) (by rfl) HRUN.out ?_))
    go_wp2
    go_ret2
    rw [HR.out]
    exact ⟨_, _, rfl, V8.out, rfl, KP8.out, K8.out⟩
  by_cases h2 : status = simB
  · subst h2
    have HR := Lib.hid (HMo.out hn (by decide))
    unfold simB at *
    have HSE := Lib.hid (show Calls Tryz.prog 52 #[(statM ⟨#[111, 107, 95, 115, 105, 109, 117, 108, 116, 97, 110, 101, 111, 117, 115]⟩).val (.slice none 0 0)] w3 _ from sent_any (statM ⟨#[111, 107, 95, 115, 105, 109, 117, 108, 116, 97, 110, 101, 111, 117, 115]⟩) (.slice none 0 0) w3 (stat_ok _ (by decide)) (RSl.nil _) (HG.out.below HB3.out).e)
    unfold Msg.val statM at HSE
    go_wp2_with fail
    refine HSE.out.mono ?_
    rintro e w5 ⟨v5, rfl, hv5, hb5⟩
    have K5 := Lib.hid (K3.out.below hb5)
    have V5 := Lib.hid hv5
    have HB5 := Lib.hid (HB3.out.trans (hb5.mono HB3.out.size))
    clear hv5 hb5 HSE
    have c0 := K5.out.cell 0
    have f0 := K5.out.frozen 0
    have P1 := Lib.hid (K5.out.set_ 0 (.int .i64 6))
    have c4 := P1.out.cell 4
    have f4 := P1.out.frozen 4
    have P2 := Lib.hid (P1.out.set_ 4 (.bool true))
    simp only [Sd.cells, List.set_cons_zero, List.getElem?_cons_zero, List.getElem?_cons_succ] at c0 c4
    have KP := Lib.hid (((Keep.ofB (S := Blk1 g) HB5.out).setB 0 (.int .i64 6)).setB 4 (.bool true))
    have V6 := Lib.hid ((V5.out.base HB3.out.size).keepC (((Keep.refl (Blk1 g) w5).setB 0 (.int .i64 6)).setB 4 (.bool true)) K5.out (by decide) (by decide))
    clear V5
    go_wp2
    clear c0 c4 f0 f4 P1
    generalize hW : World.setCell _ ⟨g, 4, none⟩ _ = W6 at *
    clear hW
    have G6 := Lib.hid (HG.out.keepC HC.out KP.out)
    have P6 := Lib.hid (show Cells W6 g 113 (s.now 6 s.pn s.pf s.pc true).cells from P2.out)
    have c5 := P6.out.cell 5
    have c6 := P6.out.cell 6
    have c7 := P6.out.cell 7
    have c10 := P6.out.cell 10
    simp only [Sd.cells, Sd.now, List.getElem?_cons_zero, List.getElem?_cons_succ] at c5 c6 c7 c10
    have HS2 := Lib.hid (show Calls Tryz.prog 52 #[(chalM s.mf s.mc s.ch s.mn).val (.slice none 0 0)] W6.drew _ from sent_any (chalM s.mf s.mc s.ch s.mn) (.slice none 0 0) W6.drew (chalM_ok HS.out) (RSl.nil _) (G6.out.below (Below.drew (Below.refl W6.heap.size W6))).e)
    unfold Msg.val chalM at HS2
    go_region_held3 (fun w' => w'.cell? ⟨g, 5, none⟩ = some (.string s.mn) ∧ w'.cell? ⟨g, 6, none⟩ = some (.int .u64 s.mf) ∧ w'.cell? ⟨g, 7, none⟩ = some (.int .u32 s.mc) ∧ w'.cell? ⟨g, 10, none⟩ = some (.int .u32 s.ch)) (go_keep)
      (first
        | (go_at_call 52; refine HS2.out.mono ?_; rintro e w7 ⟨v7, rfl, hv7, hb⟩
           have hb7 : Below W6.heap.size W6 w7 := (Below.drew (Below.refl W6.heap.size W6)).trans hb
           have K7 := Lib.hid (P6.out.below hb7)
           have V7 := Lib.hid (V6.out.below hb7 (Nat.le_refl _))
           have e5 := K7.out.cell 5
           have e6 := K7.out.cell 6
           have e7 := K7.out.cell 7
           have e10 := K7.out.cell 10
           obtain ⟨v8, w8, hrun, hv8, hg8⟩ := V7.out.app hv7 (by simp) (Nat.le_trans KP.out.size hb7.size)
           have HRUN := Lib.hid hrun
           have V8 := Lib.hid hv8
           have hne8 : v5.ownBlock ≠ some g := fun e => by
             obtain ⟨_, _, cur, hcur⟩ := V7.out.block e
             have := K7.out
             unfold Cells at this
             rw [this] at hcur
             injection hcur with hcur
             injection hcur with _ h2
             exact absurd h2 (by decide)
           have K8 := Lib.hid (K7.out.grown hg8 hne8)
           have KP8 := Lib.hid ((KP.out.below hb7).grown hg8 (fun k hk hlt => absurd hlt (Nat.not_lt.2 (V7.out.block hk).1)))
           have j5 := K8.out.cell 5
           have j6 := K8.out.cell 6
           have j7 := K8.out.cell 7
           have j10 := K8.out.cell 10
           simp only [Sd.cells, Sd.now, List.getElem?_cons_zero, List.getElem?_cons_succ] at e5 e6 e7 e10 j5 j6 j7 j10
           clear hb hb7 hv7 hrun hv8 hg8 hne8 HS2)
        | (refine step_app_eq (by rfl) _ _ _ _ (by rfl) _ _ v8 w8 (by rfl) (by rfl) HRUN.out ?_))
    go_wp2
    go_ret2
    rw [HR.out]
    exact ⟨_, _, rfl, V8.out, rfl, KP8.out, K8.out⟩
  have HR := Lib.hid (HMd.out hn (by simp [okQ, h1, h2]))
  have hq1 : (status.toList == [111, 107]) = false := lit_ne h1
  have hq2 : (status.toList == [111, 107, 95, 115, 105, 109, 117, 108, 116, 97, 110, 101, 111, 117, 115]) = false := lit_ne h2
  clear HMn HMd HMo hn h1 h2
  have HSE := Lib.hid (show Calls Tryz.prog 52 #[(statM status).val (.slice none 0 0)] w3 _ from sent_any (statM status) (.slice none 0 0) w3 (stat_ok _ HZ.out) (RSl.nil _) (HG.out.below HB3.out).e)
  unfold Msg.val statM at HSE
  go_wp2_with fail
  refine HSE.out.mono ?_
  rintro e w5 ⟨v5, rfl, hv5, hb5⟩
  have K5 := Lib.hid (K3.out.below hb5)
  have V5 := Lib.hid hv5
  have HB5 := Lib.hid (HB3.out.trans (hb5.mono HB3.out.size))
  clear hv5 hb5 HSE
  go_wp2_with (refine wpList_store_blk rfl _ (.tmp 81) (.tmp 79) rfl g 0 [.int .i64 8, .string ⟨#[]⟩, .int .u64 0, .int .u32 0, .bool false] (by rfl) (by rfl) (by kernel_rfl) (by simp [Value.oneCell']) 113 _ K5.out (by show 0 + 5 ≤ 11; decide) ?_; intro w7 hC7 hg7)
  have HC7 := Lib.hid hC7
  have HG7 := Lib.hid hg7
  clear hC7 hg7
  go_wp2
  go_ret2
  rw [HR.out]
  have KL := Lib.hid ((Keep.refl (Blk1 g) w5).grownB HG7.out)
  exact ⟨_, _, rfl, (V5.out.base HB3.out.size).keepC KL.out K5.out (by decide) (by decide), rfl, (Keep.ofB HB5.out).grownB HG7.out, HC7.out⟩
end Go.Proofs.YtokkokgdjnkbnaaGreatDoor
end
section
/- Package shake: Answer whole; Begin, Wait; sides that nobody made; what stays true of a side. -/
open Go Go.RowKit
namespace Go.Proofs.YtokkokgdjnkbnaaGreatDoor

theorem answer_any (g : Nat) (s : Sd) (status : ByteArray) (w : World) (hC : Cells w g 113 s.cells) (hs : s.Ok) (hz : status.size ≤ 140737488351232) (hG : Gl w) :
    Calls Tryz.prog 17 #[.pointer (some ⟨g, 0, none⟩), .string status] w (RetT 113 g w (answerS s status)) := by
  have s0 := hs.s0
  by_cases h8 : s.st = 8
  · exact answer_dead g s status w hC h8
  by_cases h5 : s.st = 5
  · cases hv : isSt status with
    | false => exact answer_bad g s status w hC h5 hv
    | true =>
      cases hlk : lackS s.pf with
      | true => exact answer_A g s status w hC hG h5 hv hlk
      | false =>
        by_cases hpc : s.pc = 0
        · exact answer_B g s status w hC hG h5 hv hlk hpc
        · exact answer_C g s status w hC hs hz hG h5 hv hlk hpc
  · exact answer_else g s status w hC h8 h5 (beq_eq_false_iff_ne.2 (by omega))

theorem Sd.Ok.now {s : Sd} (hs : s.Ok) {st : Int} {pn : ByteArray} {pf pc : Int} {sim : Bool} (h1 : 1 ≤ st) (h2 : st ≤ 8) (f0 : 0 ≤ pf) (f1 : pf < 18446744073709551616) : (s.now st pn pf pc sim).Ok :=
  ⟨h1, h2, f0, f1, hs.mf0, hs.mf1, hs.mc0, hs.mc1, hs.mz, hs.ch1, hs.ck⟩
theorem Sd.Ok.dead {s : Sd} (hs : s.Ok) : s.dead.Ok := hs.now (by decide) (by decide) (Int.le_refl 0) (by decide)
theorem tookS_ok {s : Sd} {m : Msg} (hs : s.Ok) (hm : m.Ok) : (tookS s m).1.Ok := by
  unfold tookS
  split
  · split
    · exact hs.now (by decide) (by decide) hs.pf0 hs.pf1
    · exact hs
  · split
    · split
      · exact hs
      · exact hs.now (by decide) (by decide) hm.f0 hm.f1
    · split
      · exact hs.now (by decide) (by decide) hm.f0 hm.f1
      · split
        · exact hs
        · exact hs.now (by decide) (by decide) hs.pf0 hs.pf1
theorem takeS_ok {s : Sd} {b : List UInt8} (hs : s.Ok) (hz : b.length ≤ 140737488351232) : (takeS s b).1.Ok := by
  unfold takeS
  split
  · exact hs
  · split
    · exact hs
    · split
      · exact hs.dead
      · rename_i h
        split
        · exact hs.dead
        · exact tookS_ok hs (readS_good _ b hz (by simpa using h)).2
theorem answerS_ok {s : Sd} {t : ByteArray} (hs : s.Ok) : (answerS s t).1.Ok := by
  unfold answerS
  split
  · exact hs
  · split
    · exact hs
    · split
      · exact hs
      · simp only
        generalize (if lackS s.pf = true ∨ s.pc = 0 ∨ s.pn = s.mn then notB else t) = u
        split
        · exact hs.now (by decide) (by decide) hs.pf0 hs.pf1
        · exact hs.dead
theorem writeS_len (m : Msg) : (writeS m).1.length ≤ 100 + m.digest.length + m.status.size := by
  unfold writeS
  split
  · exact Nat.zero_le _
  · split
    · show (115 :: m.status.data.toList).length ≤ _
      have : m.status.data.toList.length = m.status.size := rfl
      rw [List.length_cons, this]; omega
    · split
      · simp [beN_length]; omega
      · split
        · simp; omega
        · split
          · exact Nat.zero_le _
          · rename_i h
            have h1 := nodeS_size m.name (by simpa using h)
            have h2 : m.name.data.toList.length = m.name.size := rfl
            simp only [List.length_cons, List.length_append, beN_length, h2]
            split
            · rw [beN_length]; omega
            · simp; omega
theorem reply_len {ch : Int} {d : List UInt8} (hd : d.length = 16) : (writeS (replyM ch d)).1.length ≤ 1000 := by
  have := writeS_len (replyM ch d)
  have h1 : (replyM ch d).digest.length = 16 := hd
  have h2 : (replyM ch d).status.size = 0 := rfl
  omega
theorem ack_len {d : List UInt8} (hd : d.length = 16) : (writeS (ackM d)).1.length ≤ 1000 := by
  have := writeS_len (ackM d)
  have h1 : (ackM d).digest.length = 16 := hd
  have h2 : (ackM d).status.size = 0 := rfl
  omega
/-- few, short messages -/
def Few (n : Nat) (l : List (List UInt8)) : Prop := l.length ≤ n ∧ ∀ b ∈ l, b.length ≤ 1000
theorem Few.nil (n : Nat) : Few n [] := ⟨Nat.zero_le _, fun _ h => by cases h⟩
theorem Few.one {b : List UInt8} (h : b.length ≤ 1000) : Few 1 [b] := ⟨Nat.le_refl _, fun c hc => by rw [List.mem_singleton.1 hc]; exact h⟩
theorem tookS_few {s : Sd} {m : Msg} (hs : s.Ok) : Few 1 (tookS s m).2.1 := by
  unfold tookS
  split
  · split <;> exact Few.nil _
  · split
    · split
      · exact Few.nil _
      · exact Few.one (reply_len (digestS_len _ hs.ck))
    · split
      · exact Few.nil _
      · split
        · exact Few.nil _
        · simp only
          split
          · exact Few.nil _
          · exact Few.one (ack_len (digestS_len _ hs.ck))
theorem takeS_few {s : Sd} {b : List UInt8} (hs : s.Ok) : Few 1 (takeS s b).2.1 := by
  unfold takeS
  split
  · exact Few.nil _
  · split
    · exact Few.nil _
    · split
      · exact Few.nil _
      · split
        · exact Few.nil _
        · exact tookS_few hs
theorem isSt_len {t : ByteArray} (h : isSt t = true) : t.size ≤ 16 := by
  unfold isSt statusL at h
  have e : t.data.toList.length = t.size := rfl
  simp only [List.contains_cons, List.contains_nil, Bool.or_false, Bool.or_eq_true, beq_iff_eq] at h
  rw [← e]
  rcases h with h | h | h | h | h <;> rw [h] <;> decide
theorem stat_len {t : ByteArray} (ht : t.size ≤ 16) : (writeS (statM t)).1.length ≤ 1000 := by
  have := writeS_len (statM t)
  have h1 : (statM t).digest.length = 0 := rfl
  have h2 : (statM t).status.size = t.size := rfl
  omega
theorem chal_len (f c h : Int) (n : ByteArray) : (writeS (chalM f c h n)).1.length ≤ 1000 := by
  have := writeS_len (chalM f c h n)
  have h1 : (chalM f c h n).digest.length = 0 := rfl
  have h2 : (chalM f c h n).status.size = 0 := rfl
  omega
theorem answerS_few {s : Sd} {t : ByteArray} : Few 2 (answerS s t).2.1 := by
  unfold answerS
  split
  · exact Few.nil _
  · split
    · exact Few.nil _
    · split
      · exact Few.nil _
      · rename_i hv
        have hv' : isSt t = true := by simpa using hv
        have ht : (if lackS s.pf = true ∨ s.pc = 0 ∨ s.pn = s.mn then notB else t).size ≤ 16 := by
          split
          · decide
          · exact isSt_len hv'
        simp only
        generalize (if lackS s.pf = true ∨ s.pc = 0 ∨ s.pn = s.mn then notB else t) = u at ht ⊢
        split
        · refine ⟨Nat.le_refl _, fun b hb => ?_⟩
          rcases List.mem_cons.1 hb with rfl | hb
          · exact stat_len ht
          · rw [List.mem_singleton.1 hb]; exact chal_len _ _ _ _
        · exact ⟨Nat.le_succ 1, fun b hb => by rw [List.mem_singleton.1 hb]; exact stat_len ht⟩

/-- a side takes messages, one behind the other -/
def playS : Sd → List (List UInt8) → Sd × List (List UInt8)
  | x, [] => (x, [])
  | x, b :: r => ((playS (takeS x b).1 r).1, (takeS x b).2.1 ++ (playS (takeS x b).1 r).2)
theorem playS_snoc (l : List (List UInt8)) : ∀ (x : Sd) (b : List UInt8), playS x (l ++ [b]) = ((takeS (playS x l).1 b).1, (playS x l).2 ++ (takeS (playS x l).1 b).2.1) := by
  induction l with
  | nil => intro x b; simp [playS]
  | cons c l ih => intro x b; simp only [List.cons_append, playS, ih, List.append_assoc]
theorem playS_ok (l : List (List UInt8)) : ∀ (x : Sd), x.Ok → (∀ b ∈ l, b.length ≤ 1000) → (playS x l).1.Ok ∧ Few l.length (playS x l).2 := by
  induction l with
  | nil => intro x hx _; exact ⟨hx, Few.nil _⟩
  | cons c l ih =>
    intro x hx hl
    have h1 := takeS_ok (b := c) hx (Nat.le_trans (hl c (List.mem_cons_self ..)) (by decide))
    have h2 := takeS_few (b := c) hx
    obtain ⟨h3, h4⟩ := ih (takeS x c).1 h1 (fun b hb => hl b (List.mem_cons_of_mem _ hb))
    refine ⟨h3, ?_, fun b hb => ?_⟩
    · show ((takeS x c).2.1 ++ (playS (takeS x c).1 l).2).length ≤ _
      rw [List.length_append, List.length_cons]
      have := h2.1; have := h4.1; omega
    · rcases List.mem_append.1 hb with hb | hb
      · exact h2.2 b hb
      · exact h4.2 b hb
abbrev Meet := Sd × Sd × List (List UInt8)
/-- both take what the other sent -/
def roundS (m : Meet) : Meet := ((playS m.1 m.2.2).1, (playS m.2.1 (playS m.1 m.2.2).2).1, (playS m.2.1 (playS m.1 m.2.2).2).2)
def roundN : Nat → Meet → Meet
  | 0, m => m
  | n + 1, m => roundS (roundN n m)
structure Meet.Ok (m : Meet) : Prop where
  x : m.1.Ok
  y : m.2.1.Ok
  l : Few 2 m.2.2
theorem Meet.Ok.round {m : Meet} (h : m.Ok) : (roundS m).Ok := by
  obtain ⟨h1, h2⟩ := playS_ok m.2.2 m.1 h.x h.l.2
  obtain ⟨h3, h4⟩ := playS_ok (playS m.1 m.2.2).2 m.2.1 h.y h2.2
  exact ⟨h1, h3, Nat.le_trans h4.1 (Nat.le_trans h2.1 h.l.1), h4.2⟩
theorem roundN_ok {m : Meet} (h : m.Ok) : ∀ n, (roundN n m).Ok
  | 0 => h
  | n + 1 => (roundN_ok h n).round
end Go.Proofs.YtokkokgdjnkbnaaGreatDoor
end
section
/- Package shake: Begin, Wait. -/
open Go Go.RowKit
namespace Go.Proofs.YtokkokgdjnkbnaaGreatDoor

/-- what Begin hands back -/
def BeginE (t : TypeId) (w : World) (r : List Lk) (s : Sd) (m : List UInt8) (e : Ending) (w' : World) : Prop :=
  ∃ pv bv ev, e = .returned (.tuple #[pv, bv, ev]) ∧ MadeE t w r s w' pv ev ∧ BufIs w.heap.size bv (if r = [] then m else []) w'
def WaitE (t : TypeId) (w : World) (r : List Lk) (s : Sd) (e : Ending) (w' : World) : Prop :=
  ∃ pv ev, e = .returned (.tuple #[pv, ev]) ∧ MadeE t w r s w' pv ev
theorem made_facts {mn : ByteArray} {mf mc : Int} {peer : ByteArray} {begins : Bool} {cookie : ByteArray} (h : madeS mn mf mc peer begins cookie = []) : (nodeS mn).2.2 = [] ∧ lackS mf = false ∧ mc ≠ 0 ∧ cookieS cookie = [] ∧ (begins = true → peer ≠ mn ∧ (nodeS peer).2.2 = []) := by
  unfold madeS at h
  split at h
  · rename_i h1
    rcases nodeS_two mn with h2 | h2
    · exact absurd h2 h1
    · rw [h2] at h; cases h
  · rename_i h1
    split at h
    · rename_i h2
      rcases nodeS_two peer with h3 | h3
      · exact absurd h3 h2.2
      · rw [h3] at h; cases h
    · rename_i h2
      split at h
      · cases h
      · rename_i h3
        split at h
        · cases h
        · rename_i h4
          split at h
          · cases h
          · rename_i h5
            refine ⟨by simpa using h1, by simpa using h3, h4, ?_, fun hb => ⟨fun e => h5 ⟨hb, e⟩, Classical.byContradiction fun e => h2 ⟨hb, e⟩⟩⟩
            cases hk : cookieS cookie with
            | nil => rfl
            | cons k r => rw [hk] at h; cases h
theorem newS_ok {mn : ByteArray} {mf mc : Int} {peer : ByteArray} {begins : Bool} {cookie : ByteArray} {ch : Nat} (h : madeS mn mf mc peer begins cookie = []) (f0 : 0 ≤ mf) (f1 : mf < 18446744073709551616) (r0 : 0 ≤ mc) (r1 : mc < 4294967296) (hc : ch < 4294967296) : (newS mn mf mc peer begins cookie ch).Ok := by
  have hf := made_facts h
  have hm := nodeS_size mn hf.1
  refine ⟨?_, ?_, Int.le_refl 0, by show (0 : Int) < _; decide, f0, f1, r0, r1, by show mn.size ≤ _; omega, hc, hf.2.2.2.1⟩
  · show (1 : Int) ≤ if begins = true then 1 else 4
    split <;> decide
  · show (if begins = true then 1 else 4 : Int) ≤ 8
    split <;> decide
theorem name_ok {mn : ByteArray} {mf mc : Int} (hz : mn.size ≤ 140737488351232) (f0 : 0 ≤ mf) (f1 : mf < 18446744073709551616) (r0 : 0 ≤ mc) (r1 : mc < 4294967296) : (nameM mf mc mn).Ok := by
  unfold nameM
  exact ⟨f0, f1, r0, r1, Int.le_refl 0, by show (0 : Int) < _; decide, hz, Nat.zero_le _, Nat.zero_le _⟩
theorem name_good {mn : ByteArray} {mf mc : Int} (h : (nodeS mn).2.2 = []) : (writeS (nameM mf mc mn)).2 = [] := by
  unfold writeS
  have hf : formS (nameM mf mc mn) = true := by simp [formS, nameM, emp, toList_data]
  rw [if_neg (by simp [hf]), if_neg (by show ¬ (1 : Int) = 2; decide), if_neg (by show ¬ (1 : Int) = 4; decide), if_neg (by show ¬ (1 : Int) = 5; decide), if_neg (by simpa [nameM] using h)]

set_option maxHeartbeats 8000000 in
set_option maxRecDepth 100000 in
theorem begin_any (mn : ByteArray) (mf mc : Int) (peer cookie : ByteArray) (ch : Nat) (w : World) (hz : mn.size ≤ 140737488351232) (hpz : peer.size ≤ 140737488351232) (f0 : 0 ≤ mf) (f1 : mf < 18446744073709551616) (r0 : 0 ≤ mc) (r1 : mc < 4294967296) (hE : ErrT w) :
    Calls Tryz.prog 49 #[peerV mn mf mc, .string peer, .string cookie, .int .u32 ch] w (BeginE 113 w (madeS mn mf mc peer true cookie) (newS mn mf mc peer true cookie ch) (writeS (nameM mf mc mn)).1) := by
  have HM := Lib.hid (fun W h => made_any mn mf mc peer true cookie ch W hz hpz h)
  have HN := Lib.hid (name_ok (mn := mn) hz f0 f1 r0 r1)
  have HE := Lib.hid hE
  have C0 := Lib.hid (Cells.new w 45 [.string mn, .int .u64 mf, .int .u32 mc])
  have HB0 := Lib.hid ((Below.refl _ w).alloc (Nat.le_refl _) (.cells #[.string mn, .int .u64 mf, .int .u32 mc] 45 (0, 0)))
  clear hz hpz f0 f1 r0 r1 hE
  unfold peerV at *
  go_enter Tryz.func49, Tryz.ntmps49
  go_wp2_with fail
  refine (HM.out _ (HE.out.below HB0.out)).mono ?_
  rintro e w2 ⟨pv, ev, rfl, her, hb, hcase⟩
  have C2 := Lib.hid (C0.out.below hb)
  have HB2 := Lib.hid (HB0.out.trans (hb.mono HB0.out.size))
  clear hb HM
  have c0 := C2.out.cell 0
  have c1 := C2.out.cell 1
  have c2 := C2.out.cell 2
  have hlt := C2.out.lt
  simp only [List.getElem?_cons_zero, List.getElem?_cons_succ] at c0 c1 c2
  rcases hcase with ⟨hr, g, rfl, hg, hC⟩ | ⟨hr, rfl⟩
  · have hgd := Lib.hid (name_good (mf := mf) (mc := mc) (made_facts hr).1)
    have HR := Lib.hid hr
    rw [hr] at her
    obtain rfl : ev = .nilIface := her
    have HC := Lib.hid hC
    have HGG := Lib.hid hg
    have HW := Lib.hid (show Calls Tryz.prog 9 #[(nameM mf mc mn).val (.slice none 0 0)] w2 _ from write_any (nameM mf mc mn) (.slice none 0 0) w2 (RSl.nil _) HN.out (HE.out.below HB2.out))
    clear hr hC hg
    unfold Msg.val nameM at HW
    go_wp2_with fail
    refine HW.out.mono ?_
    rintro e w3 ⟨bv, ev3, rfl, hv, her3, hb3⟩
    replace hgd := hgd.out
    unfold nameM at hgd
    rw [hgd] at her3
    obtain rfl : ev3 = .nilIface := her3
    have HV := Lib.hid hv
    have HB3 := Lib.hid hb3
    clear hv hb3 HW hgd
    go_wp2
    refine bodyPost_ret (v := .tuple #[.pointer (some ⟨g, 0, none⟩), bv, .nilIface]) (by simp [results, Tryz.results49, go_sem]) rfl ?_
    refine ⟨_, _, _, rfl, ⟨by rw [HR.out]; rfl, HB2.out.trans (HB3.out.mono HB2.out.size), .inl ⟨HR.out, g, rfl, Nat.le_trans (by simp) HGG.out, HC.out.below HB3.out⟩⟩, ?_⟩
    rw [if_pos HR.out]
    exact HV.out.base HB2.out.size
  · have HR := Lib.hid hr
    have HER := Lib.hid her
    cases hrr : madeS mn mf mc peer true cookie with
    | nil => exact absurd hrr hr
    | cons k r =>
      rw [hrr] at her
      obtain ⟨eb, eu, rfl, _, _⟩ := her
      rw [hrr] at HER
      clear hr HR
      go_wp2
      refine bodyPost_ret (v := .tuple #[.pointer none, .slice none 0 0, .iface 128 (.pointer (some ⟨eb, 0, none⟩))]) (by simp [results, Tryz.results49, go_sem]) rfl ?_
      exact ⟨_, _, _, rfl, ⟨by rw [hrr]; exact HER.out, HB2.out, .inr ⟨by rw [hrr]; exact List.cons_ne_nil _ _, rfl⟩⟩, by rw [hrr]; exact BufIs.nil _ _⟩

set_option maxHeartbeats 4000000 in
theorem wait_any (mn : ByteArray) (mf mc : Int) (cookie : ByteArray) (ch : Nat) (w : World) (hz : mn.size ≤ 140737488351232) (hE : ErrT w) :
    Calls Tryz.prog 50 #[peerV mn mf mc, .string cookie, .int .u32 ch] w (WaitE 113 w (madeS mn mf mc ⟨#[]⟩ false cookie) (newS mn mf mc ⟨#[]⟩ false cookie ch)) := by
  have HM := Lib.hid (fun W h => made_any mn mf mc ⟨#[]⟩ false cookie ch W hz (Nat.zero_le _) h)
  have HE := Lib.hid hE
  have HB0 := Lib.hid ((Below.refl _ w).alloc (Nat.le_refl _) (.cells #[.string mn, .int .u64 mf, .int .u32 mc] 45 (0, 0)))
  clear hz hE
  unfold peerV at *
  go_enter Tryz.func50, Tryz.ntmps50
  go_wp2_with fail
  refine (HM.out _ (HE.out.below HB0.out)).mono ?_
  rintro e w2 ⟨pv, ev, rfl, her, hb, hcase⟩
  have HB2 := Lib.hid (HB0.out.trans (hb.mono HB0.out.size))
  have HER := Lib.hid her
  have HCS := Lib.hid hcase
  clear hb her hcase
  go_wp2
  go_ret2
  refine ⟨_, _, rfl, HER.out, HB2.out, ?_⟩
  rcases HCS.out with ⟨hr, g, rfl, hg, hC⟩ | h
  · exact .inl ⟨hr, g, rfl, Nat.le_trans (by simp) hg, hC⟩
  · exact .inr h
end Go.Proofs.YtokkokgdjnkbnaaGreatDoor
end
section
/- Package heddlelaw08: two sides that take one another's messages (rounds). -/
open Go Go.RowKit
namespace Go.Proofs.YtokkokgdjnkbnaaGreatDoor

/-- side ga has taken k messages of the list; side gb stands by -/
structure In1 (t : TypeId) (ga gb : Nat) (a b : Sd) (l : List (List UInt8)) (k : Nat) (vl vo : Value) (B1 : Nat) (w0 wr : World) : Prop where
  ca : Cells wr ga t (playS a (l.take k)).1.cells
  cb : Cells wr gb t b.cells
  ne : ga ≠ gb
  ha : w0.heap.size ≤ ga
  hao : ga < B1
  hbo : gb < B1
  oka : a.Ok
  fl : Few 2 l
  bl : BBs w0.heap.size vl l wr
  ol : ∀ g, vl.ownBlock = some g → g < B1
  bo : BBs B1 vo (playS a (l.take k)).2 wr
  hb : Below w0.heap.size w0 wr
  sz : B1 ≤ wr.heap.size
  s0 : w0.heap.size ≤ B1
  gl : Gl w0

theorem In1.next {ga gb : Nat} {a b : Sd} {l : List (List UInt8)} {k : Nat} {vl vo : Value} {B1 : Nat} {w0 wr : World} (h : In1 113 ga gb a b l k vl vo B1 w0 wr) (hk : k < l.length) {u : Value} (hu : BufIs 0 u l[k] wr) :
    Calls Tryz.prog 20 #[.pointer (some ⟨ga, 0, none⟩), u] wr fun e w' => ∃ v ev vo' w2, e = .returned (.tuple #[v, ev]) ∧ (Builtin.append_ #[55, 55] 55 #[vo, v]).run Tryz.prog w' = .ok vo' w2 ∧ In1 113 ga gb a b l (k + 1) vl vo' B1 w0 w2 := by
  have hfk : ∀ c ∈ l.take k, c.length ≤ 1000 := fun c hc => h.fl.2 c (List.mem_of_mem_take hc)
  obtain ⟨hok, hfew⟩ := playS_ok (l.take k) a h.oka hfk
  have hlk : l[k].length ≤ 1000 := h.fl.2 _ (List.getElem_mem hk)
  have hsn : l.take (k + 1) = l.take k ++ [l[k]] := List.take_succ_eq_append_getElem hk
  refine (take_any ga (playS a (l.take k)).1 u l[k] wr h.ca hok (h.gl.below h.hb) hu.rsl (by omega)).mono ?_
  rintro e w' ⟨v, ev, rfl, hv, _, hk', hC⟩
  have hb1 : Below w0.heap.size w0 w' := h.hb.trans (hk'.toBelow h.hb.size (fun j hj => by rw [show j = ga from hj]; exact h.ha))
  have hbo' : BBs B1 vo (playS a (l.take k)).2 w' := h.bo.keepC hk' h.ca (by decide) (by decide)
  have hsz : B1 ≤ w'.heap.size := Nat.le_trans h.sz hk'.size
  have hl2 : (l.take k).length ≤ 2 := by have := h.fl.1; rw [List.length_take]; omega
  have hone := (takeS_few (b := l[k]) hok).1
  have h2 := hfew.1
  obtain ⟨vo', w2, hrun, hvo, hg⟩ := hbo'.app hv (by omega) hsz
  have hg2 : ∀ j, j < B1 → w2.heap[j]? = w'.heap[j]? := fun j hj => hg.block j (by omega) (fun e => by have := (hbo'.block e.symm).1; omega)
  have hb2 : Below w0.heap.size w0 w2 := hb1.grown hg hb1.size (fun j hj => Nat.le_trans h.s0 (hbo'.block hj).1)
  have hown : ∀ (c : List UInt8) (x : Value) (g : Nat), BufIs 0 x c w' → x.ownBlock = some g → vo.ownBlock = some g → False := fun c x g hx hxg hvg => by
    obtain ⟨_, _, cur, hcur⟩ := hbo'.block hvg
    exact hx.ne_cells hcur (by decide) hxg
  refine ⟨v, ev, vo', w2, rfl, hrun, ?_⟩
  have hps := playS_snoc (l.take k) a l[k]
  refine ⟨?_, ?_, h.ne, h.ha, h.hao, h.hbo, h.oka, h.fl, ?_, h.ol, ?_, hb2, Nat.le_trans hsz hg.size, h.s0, ?_⟩
  · rw [hsn, hps]; exact hC.frame (hg2 ga h.hao)
  · exact (h.cb.keep hk' (fun e => h.ne (show gb = ga from e).symm)).frame (hg2 gb h.hbo)
  · exact (h.bl.keepC hk' h.ca (by decide) (by decide)).frame (fun j hj => hg2 j (h.ol j hj)) (fun x c hx => hx.frame fun j hj => hg.block j (hx.block hj).2 (fun e => hown c x j hx hj e.symm))
  · rw [hsn, hps]; exact hvo
  · exact h.gl
end Go.Proofs.YtokkokgdjnkbnaaGreatDoor
end
section
/- Package heddlelaw08: met. -/
open Go Go.RowKit Go.Extern.Stop Go.Stop Go.Extern
namespace Go.Proofs.YtokkokgdjnkbnaaGreatDoor

/-- how a meeting begins -/
def meet0 (an : ByteArray) (af ac : Int) (bn : ByteArray) (bf bc : Int) (c0 c1 : ByteArray) (n0 n1 : Nat) : Meet :=
  (newS an af ac bn true c0 n0, (answerS (takeS (newS bn bf bc ⟨#[]⟩ false c1 n1) (writeS (nameM af ac an)).1).1 okB).1, (answerS (takeS (newS bn bf bc ⟨#[]⟩ false c1 n1) (writeS (nameM af ac an)).1).1 okB).2.1)
structure MetI (t : TypeId) (gx gy : Nat) (v : Value) (m : Meet) (w0 wr : World) : Prop where
  cx : Cells wr gx t m.1.cells
  cy : Cells wr gy t m.2.1.cells
  ne : gx ≠ gy
  hx : w0.heap.size ≤ gx
  hy : w0.heap.size ≤ gy
  ok : m.Ok
  bb : BBs w0.heap.size v m.2.2 wr
  hb : Below w0.heap.size w0 wr
  gl : Gl w0
theorem MetI.in1 {t : TypeId} {gx gy : Nat} {v : Value} {x y : Sd} {l : List (List UInt8)} {w0 wr : World} (h : MetI t gx gy v (x, y, l) w0 wr) : In1 t gx gy x y l 0 v (.slice none 0 0) wr.heap.size w0 wr :=
  ⟨h.cx, h.cy, h.ne, h.hx, h.cx.lt, h.cy.lt, h.ok.x, h.ok.l, h.bb, fun _ hg => (h.bb.block hg).2.1, BBs.nil _ _, h.hb, Nat.le_refl _, h.hb.size, h.gl⟩
theorem In1.in2 {t : TypeId} {gx gy : Nat} {x y : Sd} {l : List (List UInt8)} {v vo : Value} {B1 : Nat} {w0 wr : World} (h : In1 t gx gy x y l l.length v vo B1 w0 wr) (hy : w0.heap.size ≤ gy) (oky : y.Ok) :
    In1 t gy gx y (playS x l).1 (playS x l).2 0 vo (.slice none 0 0) wr.heap.size w0 wr := by
  have hp := playS_ok l x h.oka h.fl.2
  have ht : l.take l.length = l := List.take_of_length_le (Nat.le_refl _)
  have ca := h.ca
  have bo := h.bo
  rw [ht] at ca bo
  exact ⟨h.cb, ca, h.ne.symm, hy, h.cb.lt, ca.lt, oky, ⟨Nat.le_trans hp.2.1 h.fl.1, hp.2.2⟩, bo.base h.s0, fun _ hg => (bo.block hg).2.1, BBs.nil _ _, h.hb, Nat.le_refl _, h.hb.size, h.gl⟩
theorem In1.met {t : TypeId} {gx gy : Nat} {x y : Sd} {l : List (List UInt8)} {v vo : Value} {B1 : Nat} {w0 wr : World} (h : In1 t gy gx y (playS x l).1 (playS x l).2 (playS x l).2.length v vo B1 w0 wr) (hx : w0.heap.size ≤ gx) (hm : Meet.Ok (x, y, l)) :
    MetI t gx gy vo (roundS (x, y, l)) w0 wr := by
  have ht : (playS x l).2.take (playS x l).2.length = (playS x l).2 := List.take_of_length_le (Nat.le_refl _)
  have ca := h.ca
  have bo := h.bo
  rw [ht] at ca bo
  exact ⟨h.cb, ca, h.ne.symm, hx, h.ha, hm.round, bo.base h.s0, h.hb, h.gl⟩

set_option maxHeartbeats 8000000 in
set_option maxRecDepth 100000 in
theorem met_any (an : ByteArray) (af ac : Int) (bn : ByteArray) (bf bc : Int) (c0 c1 : ByteArray) (n0 n1 : Nat) (w : World) (haz : an.size ≤ 140737488351232) (hbz : bn.size ≤ 140737488351232)
    (af0 : 0 ≤ af) (af1 : af < 18446744073709551616) (ac0 : 0 ≤ ac) (ac1 : ac < 4294967296) (bf0 : 0 ≤ bf) (bf1 : bf < 18446744073709551616) (bc0 : 0 ≤ bc) (bc1 : bc < 4294967296) (hn0 : n0 < 4294967296) (hn1 : n1 < 4294967296) (hG : Gl w) :
    Calls Tryz.prog 25 #[peerV an af ac, peerV bn bf bc, .agg #[.string c0, .string c1], .agg #[.int .u32 n0, .int .u32 n1]] w fun e w' => Below w.heap.size w w' ∧
      ((madeS an af ac bn true c0 = [] ∧ madeS bn bf bc ⟨#[]⟩ false c1 = [] ∧ ∃ gx gy, e = .returned (.tuple #[.pointer (some ⟨gx, 0, none⟩), .pointer (some ⟨gy, 0, none⟩), .bool true]) ∧
        Cells w' gx 113 (roundN 4 (meet0 an af ac bn bf bc c0 c1 n0 n1)).1.cells ∧ Cells w' gy 113 (roundN 4 (meet0 an af ac bn bf bc c0 c1 n0 n1)).2.1.cells) ∨
       ((madeS an af ac bn true c0 ≠ [] ∨ madeS bn bf bc ⟨#[]⟩ false c1 ≠ []) ∧ e = .returned (.tuple #[.pointer none, .pointer none, .bool false]))) := by
  have HBG := Lib.hid (fun W h => begin_any an af ac bn c0 n0 W haz hbz af0 af1 ac0 ac1 h)
  have HWT := Lib.hid (fun W h => wait_any bn bf bc c1 n1 W hbz h)
  have HXO := Lib.hid (fun h => newS_ok (mn := an) (mf := af) (mc := ac) (peer := bn) (begins := true) (cookie := c0) (ch := n0) h af0 af1 ac0 ac1 hn0)
  have HYO := Lib.hid (fun h => newS_ok (mn := bn) (mf := bf) (mc := bc) (peer := ⟨#[]⟩) (begins := false) (cookie := c1) (ch := n1) h bf0 bf1 bc0 bc1 hn1)
  have HG := Lib.hid hG
  have HB0 := Lib.hid (((((Below.refl _ w).alloc (Nat.le_refl _) (.cells #[.string an, .int .u64 af, .int .u32 ac] 45 (0, 0))).alloc (by simp) (.cells #[.string bn, .int .u64 bf, .int .u32 bc] 45 (0, 0))).alloc (by simp; omega) (.cells #[.string c0, .string c1] 70 (0, 0))).alloc (by simp; omega) (.cells #[.int .u32 n0, .int .u32 n1] 71 (0, 0)))
  have CB0 := Lib.hid (((Cells.new (w.alloc (.cells #[.string an, .int .u64 af, .int .u32 ac] 45 (0, 0))) 45 [.string bn, .int .u64 bf, .int .u32 bc]).alloc (.cells #[.string c0, .string c1] 70 (0, 0))).alloc (.cells #[.int .u32 n0, .int .u32 n1] 71 (0, 0)))
  have CC0 := Lib.hid ((Cells.new ((w.alloc (.cells #[.string an, .int .u64 af, .int .u32 ac] 45 (0, 0))).alloc (.cells #[.string bn, .int .u64 bf, .int .u32 bc] 45 (0, 0))) 70 [.string c0, .string c1]).alloc (.cells #[.int .u32 n0, .int .u32 n1] 71 (0, 0)))
  have CN0 := Lib.hid (Cells.new (((w.alloc (.cells #[.string an, .int .u64 af, .int .u32 ac] 45 (0, 0))).alloc (.cells #[.string bn, .int .u64 bf, .int .u32 bc] 45 (0, 0))).alloc (.cells #[.string c0, .string c1] 70 (0, 0))) 71 [.int .u32 n0, .int .u32 n1])
  clear haz hbz af0 af1 ac0 ac1 bf0 bf1 bc0 bc1 hn0 hn1 hG
  unfold peerV at *
  go_enter Tryz.func25, Tryz.ntmps25
  go_wp2_with fail
  refine (HBG.out _ (HG.out.below HB0.out).e).mono ?_
  rintro e w2 ⟨pv, bv, ev, rfl, ⟨her, hb, hcase⟩, hbuf⟩
  have HB2 := Lib.hid (HB0.out.trans (hb.mono HB0.out.size))
  have CB2 := CB0.out.below hb
  have CC2 := CC0.out.below hb
  have CN2 := CN0.out.below hb
  have hlt := HB2.out.size
  have i0 := CB2.cell 0
  have i1 := CB2.cell 1
  have i2 := CB2.cell 2
  have j1 := CC2.cell 1
  have k1 := CN2.cell 1
  simp only [List.getElem?_cons_zero, List.getElem?_cons_succ, World.size_alloc] at i0 i1 i2 j1 k1
  clear CB2 CC2 CN2 CB0 CC0 CN0 HBG hb
  rcases hcase with ⟨hr, gx, rfl, hgx, hCx⟩ | ⟨hr, rfl⟩
  · rw [hr] at her
    obtain rfl : ev = .nilIface := her
    rw [if_pos hr] at hbuf
    have HR := Lib.hid hr
    have HX := Lib.hid hCx
    have HGX := Lib.hid (show w.heap.size ≤ gx from Nat.le_trans HB0.out.size hgx)
    have HBUF := Lib.hid hbuf
    clear hr hCx hgx hbuf
    go_wp2_with fail
    refine (HWT.out _ (HG.out.below HB2.out).e).mono ?_
    rintro e w3 ⟨qv, fv, rfl, her2, hb3, hcase2⟩
    have HB3 := Lib.hid (HB2.out.trans (hb3.mono HB2.out.size))
    clear i0 i1 i2 j1 k1 hlt HWT
    rcases hcase2 with ⟨hr2, gy, rfl, hgy, hCy⟩ | ⟨hr2, rfl⟩
    · rw [hr2] at her2
      obtain rfl : fv = .nilIface := her2
      have HR2 := Lib.hid hr2
      have HXO2 := Lib.hid (HXO.out HR.out)
      have HYO2 := Lib.hid (HYO.out hr2)
      have HX3 := Lib.hid (HX.out.below hb3)
      have hne : gx ≠ gy := Nat.ne_of_lt (Nat.lt_of_lt_of_le HX.out.lt hgy)
      have hgy' : w.heap.size ≤ gy := Nat.le_trans HB2.out.size hgy
      have HNE := Lib.hid hne
      have HGY := Lib.hid hgy'
      have hml : (writeS (nameM af ac an)).1.length ≤ 1000 := by
        have h1 := writeS_len (nameM af ac an)
        have h2 : (nameM af ac an).digest.length = 0 := rfl
        have h3 : (nameM af ac an).status.size = 0 := rfl
        omega
      have HTK := Lib.hid (take_any gy (newS bn bf bc ⟨#[]⟩ false c1 n1) bv (writeS (nameM af ac an)).1 w3 hCy (HYO.out hr2) (HG.out.below HB3.out) (HBUF.out.rsl.below hb3) (by omega))
      have HY1 := Lib.hid (takeS_ok (b := (writeS (nameM af ac an)).1) (HYO.out hr2) (by omega))
      have hCy3 := hCy
      clear hr2 hgy hCy hne hgy' hml HXO HYO hb3
      go_wp2_with fail
      refine HTK.out.mono ?_
      rintro e w4 ⟨v4, ev4, rfl, _, _, hk4, hC4⟩
      have HB4 := Lib.hid (HB3.out.trans (hk4.toBelow HB3.out.size (fun j hj => by rw [show j = gy from hj]; exact HGY.out)))
      have HX4 := Lib.hid (HX3.out.keep hk4 (fun e => HNE.out e))
      have HAN := Lib.hid (answer_any gy _ okB w4 hC4 HY1.out (by decide) (HG.out.below HB4.out))
      have HCY4 := Lib.hid hC4
      clear hk4 hC4 hCy3 HTK
      unfold okB at HAN
      go_wp2_with fail
      refine HAN.out.mono ?_
      rintro e w5 ⟨v5, ev5, rfl, hv5, _, hk5, hC5⟩
      have HB5 := Lib.hid (HB4.out.trans (hk5.toBelow HB4.out.size (fun j hj => by rw [show j = gy from hj]; exact HGY.out)))
      have HM0 := Lib.hid (show MetI 113 gx gy v5 (meet0 an af ac bn bf bc c0 c1 n0 n1) w w5 from
        ⟨HX4.out.keep hk5 (fun e => HNE.out e), hC5, HNE.out, HGX.out, HGY.out, ⟨HXO2.out, answerS_ok HY1.out, answerS_few⟩, hv5.base HB4.out.size, HB5.out, HG.out⟩)
      clear hk5 hC5 hv5 HAN HX HX3 HX4 HCY4 HB2 HB3 HB4 HB5 HY1 HYO2 HXO2 HBUF
      go_wp2_with fail
      go_loopw [16, 18] (fun v r wr => ∃ k : Nat, k ≤ 4 ∧ r = .int .i64 k ∧ MetI 113 gx gy v (roundN k (meet0 an af ac bn bf bc c0 c1 n0 n1)) w wr) (fun _ r _ => 4 - (intOf r).toNat)
      case atStart => exact ⟨0, Nat.zero_le _, rfl, HM0.out⟩
      case round =>
        obtain ⟨k, hk, rfl, hm⟩ := hrel
        clear HM0
        by_cases hlt : k < 4
        · have hki : (k : Int) < 4 := by omega
          have HS := Lib.hid (show roundN (k + 1) (meet0 an af ac bn bf bc c0 c1 n0 n1) = roundS (roundN k (meet0 an af ac bn bf bc c0 c1 n0 n1)) from rfl)
          generalize roundN k (meet0 an af ac bn bf bc c0 c1 n0 n1) = mm at HS hm
          obtain ⟨x, y, l⟩ := mm
          have HMI := Lib.hid hm
          clear hm
          go_wp2_with fail
          go_loopw [19, 20] (fun vo i wr2 => ∃ k2 : Nat, k2 ≤ l.length ∧ i = .int .i64 k2 ∧ In1 113 gx gy x y l k2 u16 vo wr.heap.size w wr2) (fun _ i _ => l.length - (intOf i).toNat)
          case atStart => exact ⟨0, Nat.zero_le _, rfl, HMI.out.in1⟩
          case round =>
            obtain ⟨k2, hk2, rfl, hi⟩ := hrel
            have hlen := run_bbs_len hi.bl
            by_cases hlt2 : k2 < l.length
            · have hfl2 := hi.fl.1
              have hw2 : IntKind.i64.wrap ((k2 : Int) + 1) = (k2 : Int) + 1 := IntWalk.i64_in _ (by omega)
              have hki2 : (k2 : Int) < (l.length : Int) := by omega
              have hk20 : (0 : Int) ≤ (k2 : Int) := by omega
              rcases hi.bl.shape with ⟨_, hnil⟩ | ⟨gv, cv, rfl, _, _, hlc, hcm⟩
              · rw [hnil] at hlt2; exact absurd hlt2 (Nat.not_lt_zero _)
              obtain ⟨u, hcell, hu⟩ := hi.bl.at_ k2 hlt2
              have HNX := Lib.hid (hi.next hlt2 hu)
              clear hi hu HMI
              go_wp2_with fail
              refine HNX.out.mono ?_
              rintro e w6 ⟨v6, ev6, vo', w7, rfl, hrun, hi'⟩
              have HRUN := Lib.hid hrun
              have HI := Lib.hid hi'
              clear hrun hi' HNX hlen hcell
              go_wp2_with (at_builtin; refine stop ?_)
              refine Stopped.of ?_
              refine wp_app_eq rfl (.tmp 88) (.tmp 89) _ _ rfl _ _ vo' w7 rfl rfl HRUN.out ?_
              go_wp2
              go_roundw
              case rel => exact ⟨k2 + 1, by omega, by go_num, HI.out⟩
              case measure => simp [intOf]; omega
            · have hki2 : ¬ (k2 : Int) < (l.length : Int) := by omega
              obtain rfl : k2 = l.length := by omega
              have HOK := Lib.hid HMI.out.ok
              have HGX2 := Lib.hid HMI.out.hx
              obtain ⟨B2, hin⟩ : ∃ B2, In1 113 gy gx y (playS x l).1 (playS x l).2 0 u19 (.slice none 0 0) B2 w _ := ⟨_, hi.in2 HMI.out.hy HMI.out.ok.y⟩
              have HIN := Lib.hid hin
              clear hi HMI hin
              go_wp2_with fail
              go_loopw [16, 23] (fun vo i wr3 => ∃ k3 : Nat, k3 ≤ (playS x l).2.length ∧ i = .int .i64 k3 ∧ In1 113 gy gx y (playS x l).1 (playS x l).2 k3 u19 vo B2 w wr3) (fun _ i _ => (playS x l).2.length - (intOf i).toNat)
              case atStart => exact ⟨0, Nat.zero_le _, rfl, HIN.out⟩
              case round =>
                obtain ⟨k3, hk3, rfl, hi⟩ := hrel
                clear HIN hlen
                have hlen := run_bbs_len hi.bl
                by_cases hlt3 : k3 < (playS x l).2.length
                · have hfl2 := hi.fl.1
                  have hw2 : IntKind.i64.wrap ((k3 : Int) + 1) = (k3 : Int) + 1 := IntWalk.i64_in _ (by omega)
                  have hki3 : (k3 : Int) < ((playS x l).2.length : Int) := by omega
                  have hk30 : (0 : Int) ≤ (k3 : Int) := by omega
                  rcases hi.bl.shape with ⟨_, hnil⟩ | ⟨gv, cv, rfl, _, _, hlc, hcm⟩
                  · rw [hnil] at hlt3; exact absurd hlt3 (Nat.not_lt_zero _)
                  obtain ⟨u, hcell, hu⟩ := hi.bl.at_ k3 hlt3
                  have HNX := Lib.hid (hi.next hlt3 hu)
                  clear hi hu
                  go_wp2_with fail
                  refine HNX.out.mono ?_
                  rintro e w6 ⟨v6, ev6, vo', w7, rfl, hrun, hi'⟩
                  have HRUN := Lib.hid hrun
                  have HI := Lib.hid hi'
                  clear hrun hi' HNX hlen hcell
                  go_wp2_with (at_builtin; refine stop ?_)
                  refine Stopped.of ?_
                  refine wp_app_eq rfl (.tmp 106) (.tmp 107) _ _ rfl _ _ vo' w7 rfl rfl HRUN.out ?_
                  go_wp2
                  go_roundw
                  case rel => exact ⟨k3 + 1, by omega, by go_num, HI.out⟩
                  case measure => simp [intOf]; omega
                · have hki3 : ¬ (k3 : Int) < ((playS x l).2.length : Int) := by omega
                  obtain rfl : k3 = (playS x l).2.length := by omega
                  have HMT := Lib.hid (hi.met HGX2.out HOK.out)
                  clear hi HOK
                  go_wp2
                  go_roundw
                  case rel => exact ⟨k + 1, by omega, by go_num, by rw [HS.out]; exact HMT.out⟩
                  case measure => simp [intOf]; omega
        · have hki : ¬ (k : Int) < 4 := by omega
          obtain rfl : k = 4 := by omega
          have HMI := Lib.hid hm
          clear hm
          go_wp2
          refine bodyPost_ret (v := .tuple #[.pointer (some ⟨gx, 0, none⟩), .pointer (some ⟨gy, 0, none⟩), .bool true]) (by simp [results, Tryz.results25, go_sem]) rfl ?_
          exact ⟨HMI.out.hb, .inl ⟨HR.out, HR2.out, gx, gy, rfl, HMI.out.cx, HMI.out.cy⟩⟩
    · cases hrr : madeS bn bf bc ⟨#[]⟩ false c1 with
      | nil => exact absurd hrr hr2
      | cons q r =>
        rw [hrr] at her2
        obtain ⟨eb, eu, rfl, _, _⟩ := her2
        clear hrr
        have HR2 := Lib.hid hr2
        clear hr2 HX HBUF hb3
        go_wp2
        refine bodyPost_ret (v := .tuple #[.pointer none, .pointer none, .bool false]) (by simp [results, Tryz.results25, go_sem]) rfl ?_
        exact ⟨HB3.out, .inr ⟨.inr HR2.out, rfl⟩⟩
  · have HR := Lib.hid hr
    cases hrr : madeS an af ac bn true c0 with
    | nil => exact absurd hrr hr
    | cons q r =>
      rw [hrr] at her
      obtain ⟨eb, eu, rfl, _, _⟩ := her
      clear hrr hr hbuf HXO HYO
      go_wp2_with fail
      refine (HWT.out _ (HG.out.below HB2.out).e).mono ?_
      rintro e w3 ⟨qv, fv, rfl, _, hb3, _⟩
      have HB3 := Lib.hid (HB2.out.trans (hb3.mono HB2.out.size))
      clear i0 i1 i2 j1 k1 hlt HWT hb3
      go_wp2
      refine bodyPost_ret (v := .tuple #[.pointer none, .pointer none, .bool false]) (by simp [results, Tryz.results25, go_sem]) rfl ?_
      exact ⟨HB3.out, .inr ⟨.inl HR.out, rfl⟩⟩
end Go.Proofs.YtokkokgdjnkbnaaGreatDoor
end
section
/- Layer 8, plain: what two sides come to. -/
open Go Go.RowKit
namespace Go.Proofs.YtokkokgdjnkbnaaGreatDoor

theorem reply_good {ch : Int} {d : List UInt8} (hd : d.length = 16) : (writeS (replyM ch d)).2 = [] := by
  unfold writeS
  have hf : formS (replyM ch d) = true := by simp [formS, replyM, emp, toList_data, hd]
  rw [if_neg (by simp [hf]), if_neg (by show ¬ (4 : Int) = 2; decide), if_pos (by rfl)]
theorem ack_good {d : List UInt8} (hd : d.length = 16) : (writeS (ackM d)).2 = [] := by
  unfold writeS
  have hf : formS (ackM d) = true := by simp [formS, ackM, emp, toList_data, hd]
  rw [if_neg (by simp [hf]), if_neg (by show ¬ (5 : Int) = 2; decide), if_neg (by show ¬ (5 : Int) = 4; decide), if_pos (by rfl)]
theorem stat_good {t : ByteArray} (h : isSt t = true) : (writeS (statM t)).2 = [] := by
  unfold writeS
  have hf : formS (statM t) = true := by simp [formS, statM, emp, toList_data, h]
  rw [if_neg (by simp [hf]), if_pos (by rfl)]
theorem chal_good {f c h : Int} {n : ByteArray} (hn : (nodeS n).2.2 = []) : (writeS (chalM f c h n)).2 = [] := by
  unfold writeS
  have hf : formS (chalM f c h n) = true := by simp [formS, chalM, emp, toList_data]
  rw [if_neg (by simp [hf]), if_neg (by show ¬ (3 : Int) = 2; decide), if_neg (by show ¬ (3 : Int) = 4; decide), if_neg (by show ¬ (3 : Int) = 5; decide), if_neg (by simpa [chalM] using hn)]
theorem chalV_ok {f c h : Int} {n : ByteArray} (f0 : 0 ≤ f) (f1 : f < 18446744073709551616) (r0 : 0 ≤ c) (r1 : c < 4294967296) (h0 : 0 ≤ h) (h1 : h < 4294967296) (hz : n.size ≤ 140737488351232) : (chalM f c h n).Ok := by
  unfold chalM; exact ⟨f0, f1, r0, r1, h0, h1, hz, Nat.zero_le _, Nat.zero_le _⟩
/-- a side that waits takes a message of its kind -/
theorem takeS_msg {s : Sd} {m : Msg} (h8 : s.st ≠ 8) (h57 : ¬ (s.st = 5 ∨ s.st = 7)) (hk : waitK s.st = m.kind) (hm : m.Ok) (hg : (writeS m).2 = []) :
    takeS s (writeS m).1 = if (tookS s m).2.2 ≠ [] then (s.dead, [], (tookS s m).2.2) else tookS s m := by
  rw [takeS_wait h8 h57 hk, read_write m hm hg, if_neg (by simp)]
theorem took_stat (s : Sd) : tookS s (statM okB) = (s.now 2 s.pn s.pf s.pc false, [], []) := status_ok rfl (by decide)
theorem took_name (s : Sd) (f c : Int) (n : ByteArray) : tookS s (nameM f c n) = (s.now 5 n f c s.sim, [], []) := by
  unfold tookS; rw [if_neg (by show ¬ (1 : Int) = 2; decide), if_neg (by show ¬ (1 : Int) = 3; decide), if_pos (by rfl)]; rfl
theorem roundS_nil (x y : Sd) : roundS (x, y, []) = (x, y, []) := rfl

section
variable {an : ByteArray} {af ac : Int} {bn : ByteArray} {bf bc : Int} {c0 c1 : ByteArray} {n0 n1 : Nat}
theorem meet0_eq (hA : madeS an af ac bn true c0 = []) (af0 : 0 ≤ af) (af1 : af < 18446744073709551616) (ac0 : 0 ≤ ac) (ac1 : ac < 4294967296) :
    meet0 an af ac bn bf bc c0 c1 n0 n1 = (newS an af ac bn true c0 n0, (newS bn bf bc ⟨#[]⟩ false c1 n1).now 6 an af ac false, [(writeS (statM okB)).1, (writeS (chalM bf bc n1 bn)).1]) := by
  have ha := made_facts hA
  have hz := nodeS_size an ha.1
  have ht : takeS (newS bn bf bc ⟨#[]⟩ false c1 n1) (writeS (nameM af ac an)).1 = ((newS bn bf bc ⟨#[]⟩ false c1 n1).now 5 an af ac false, [], []) := by
    rw [takeS_msg (by show (4 : Int) ≠ 8; decide) (by show ¬ ((4 : Int) = 5 ∨ (4 : Int) = 7); decide) rfl (name_ok (by omega) af0 af1 ac0 ac1) (name_good ha.1), took_name, if_neg (by simp)]
    rfl
  unfold meet0
  rw [ht]
  have hans : answerS ((newS bn bf bc ⟨#[]⟩ false c1 n1).now 5 an af ac false) okB = (((newS bn bf bc ⟨#[]⟩ false c1 n1).now 5 an af ac false).now 6 an af ac false, [(writeS (statM okB)).1, (writeS (chalM bf bc n1 bn)).1], []) := by
    rw [answer_main (s := (newS bn bf bc ⟨#[]⟩ false c1 n1).now 5 an af ac false) rfl (by decide) okB (if_neg ?_), if_pos (by decide)]
    · rfl
    · rintro (h | h | h)
      · exact absurd (show lackS af = true from h) (by simp [ha.2.1])
      · exact ha.2.2.1 h
      · exact (ha.2.2.2.2 rfl).1 (show bn = an from (show an = bn from h).symm)
  rw [hans]
  rfl

theorem round1_eq (hA : madeS an af ac bn true c0 = []) (hB : madeS bn bf bc ⟨#[]⟩ false c1 = []) (bf0 : 0 ≤ bf) (bf1 : bf < 18446744073709551616) (bc0 : 0 ≤ bc) (bc1 : bc < 4294967296) (hn0 : n0 < 4294967296) (hn1 : n1 < 4294967296) :
    roundS (newS an af ac bn true c0 n0, (newS bn bf bc ⟨#[]⟩ false c1 n1).now 6 an af ac false, [(writeS (statM okB)).1, (writeS (chalM bf bc n1 bn)).1]) =
      if sameS c1 n1 (digestS c0 n1).1 = true then ((newS an af ac bn true c0 n0).now 3 bn bf bc false, (newS bn bf bc ⟨#[]⟩ false c1 n1).now 7 an af ac false, [(writeS (ackM (digestS c1 n0).1)).1])
      else ((newS an af ac bn true c0 n0).now 3 bn bf bc false, (newS bn bf bc ⟨#[]⟩ false c1 n1).dead, []) := by
  have ha := made_facts hA
  have hb := made_facts hB
  have hz := nodeS_size bn hb.1
  have h16 := digestS_len n1 ha.2.2.2.1
  have h16' := digestS_len n0 hb.2.2.2.1
  have hx1 : takeS (newS an af ac bn true c0 n0) (writeS (statM okB)).1 = ((newS an af ac bn true c0 n0).now 2 ⟨#[]⟩ 0 0 false, [], []) := by
    rw [takeS_msg (by show (1 : Int) ≠ 8; decide) (by show ¬ ((1 : Int) = 5 ∨ (1 : Int) = 7); decide) rfl (stat_ok okB (by decide)) (stat_good (by decide)), took_stat, if_neg (by simp)]
    rfl
  have hx2 : takeS ((newS an af ac bn true c0 n0).now 2 ⟨#[]⟩ 0 0 false) (writeS (chalM bf bc n1 bn)).1 = ((newS an af ac bn true c0 n0).now 3 bn bf bc false, [(writeS (replyM n0 (digestS c0 n1).1)).1], []) := by
    rw [takeS_msg (by show (2 : Int) ≠ 8; decide) (by show ¬ ((2 : Int) = 5 ∨ (2 : Int) = 7); decide) rfl (chalV_ok bf0 bf1 bc0 bc1 (by omega) (by omega) (by omega)) (chal_good hb.1),
      chal_ok (s := (newS an af ac bn true c0 n0).now 2 ⟨#[]⟩ 0 0 false) (m := chalM bf bc n1 bn) rfl rfl hb.2.1, if_neg (by simp)]
    rfl
  have hp : playS (newS an af ac bn true c0 n0) [(writeS (statM okB)).1, (writeS (chalM bf bc n1 bn)).1] = ((newS an af ac bn true c0 n0).now 3 bn bf bc false, [(writeS (replyM n0 (digestS c0 n1).1)).1]) := by
    simp only [playS, hx1, hx2, List.append_nil, List.nil_append]
  have hy : takeS ((newS bn bf bc ⟨#[]⟩ false c1 n1).now 6 an af ac false) (writeS (replyM n0 (digestS c0 n1).1)).1 =
      if sameS c1 n1 (digestS c0 n1).1 = true then ((newS bn bf bc ⟨#[]⟩ false c1 n1).now 7 an af ac false, [(writeS (ackM (digestS c1 n0).1)).1], []) else ((newS bn bf bc ⟨#[]⟩ false c1 n1).dead, [], errK 163) := by
    rw [takeS_msg (by show (6 : Int) ≠ 8; decide) (by show ¬ ((6 : Int) = 5 ∨ (6 : Int) = 7); decide) rfl (reply_ok hn0 h16) (reply_good h16)]
    cases hs : sameS c1 n1 (digestS c0 n1).1 with
    | true =>
      rw [done_4 (s := (newS bn bf bc ⟨#[]⟩ false c1 n1).now 6 an af ac false) (m := replyM n0 (digestS c0 n1).1) rfl hs, if_neg (by simp), if_pos rfl]
      rfl
    | false =>
      rw [done_no (s := (newS bn bf bc ⟨#[]⟩ false c1 n1).now 6 an af ac false) (m := replyM n0 (digestS c0 n1).1) (.inl rfl) hs, if_pos (by simp [errK]), if_neg (by decide)]
      rfl
  unfold roundS
  simp only [hp]
  simp only [playS, hy, List.append_nil]
  split <;> rfl

theorem same_self {c : ByteArray} {n : Nat} (h : cookieS c = []) : sameS c n (digestS c n).1 = true := by
  unfold sameS digestS; rw [if_pos h]; simp [h]
theorem meet_up (hA : madeS an af ac bn true c0 = []) (hB : madeS bn bf bc ⟨#[]⟩ false c0 = []) (af0 : 0 ≤ af) (af1 : af < 18446744073709551616) (ac0 : 0 ≤ ac) (ac1 : ac < 4294967296) (bf0 : 0 ≤ bf) (bf1 : bf < 18446744073709551616) (bc0 : 0 ≤ bc) (bc1 : bc < 4294967296) (hn0 : n0 < 4294967296) (hn1 : n1 < 4294967296) :
    roundN 4 (meet0 an af ac bn bf bc c0 c0 n0 n1) = ((newS an af ac bn true c0 n0).now 7 bn bf bc false, (newS bn bf bc ⟨#[]⟩ false c0 n1).now 7 an af ac false, []) := by
  have ha := made_facts hA
  have h16' := digestS_len n0 ha.2.2.2.1
  have hx3 : takeS ((newS an af ac bn true c0 n0).now 3 bn bf bc false) (writeS (ackM (digestS c0 n0).1)).1 = ((newS an af ac bn true c0 n0).now 7 bn bf bc false, [], []) := by
    rw [takeS_msg (by show (3 : Int) ≠ 8; decide) (by show ¬ ((3 : Int) = 5 ∨ (3 : Int) = 7); decide) rfl (ack_ok h16') (ack_good h16'),
      done_5 (s := (newS an af ac bn true c0 n0).now 3 bn bf bc false) (m := ackM (digestS c0 n0).1) rfl (same_self ha.2.2.2.1), if_neg (by simp)]
    rfl
  show roundS (roundS (roundS (roundS (meet0 an af ac bn bf bc c0 c0 n0 n1)))) = _
  rw [meet0_eq hA af0 af1 ac0 ac1, round1_eq hA hB bf0 bf1 bc0 bc1 hn0 hn1, if_pos (same_self ha.2.2.2.1)]
  have h2 : roundS ((newS an af ac bn true c0 n0).now 3 bn bf bc false, (newS bn bf bc ⟨#[]⟩ false c0 n1).now 7 an af ac false, [(writeS (ackM (digestS c0 n0).1)).1]) = ((newS an af ac bn true c0 n0).now 7 bn bf bc false, (newS bn bf bc ⟨#[]⟩ false c0 n1).now 7 an af ac false, []) := by
    unfold roundS
    simp only [playS, hx3, List.append_nil]
  rw [h2, roundS_nil, roundS_nil]
theorem meet_no (hA : madeS an af ac bn true c0 = []) (hB : madeS bn bf bc ⟨#[]⟩ false c1 = []) (af0 : 0 ≤ af) (af1 : af < 18446744073709551616) (ac0 : 0 ≤ ac) (ac1 : ac < 4294967296) (bf0 : 0 ≤ bf) (bf1 : bf < 18446744073709551616) (bc0 : 0 ≤ bc) (bc1 : bc < 4294967296) (hn0 : n0 < 4294967296) (hn1 : n1 < 4294967296)
    (hd : (digestS c0 n1).1 ≠ (digestS c1 n1).1) :
    roundN 4 (meet0 an af ac bn bf bc c0 c1 n0 n1) = ((newS an af ac bn true c0 n0).now 3 bn bf bc false, (newS bn bf bc ⟨#[]⟩ false c1 n1).dead, []) := by
  have hb := made_facts hB
  have hs : sameS c1 n1 (digestS c0 n1).1 = false := by
    cases h : sameS c1 n1 (digestS c0 n1).1 with
    | false => rfl
    | true =>
      unfold sameS at h
      simp only [Bool.and_eq_true, decide_eq_true_eq] at h
      refine absurd ?_ hd
      rw [← h.2]
      conv => rhs; unfold digestS
      rw [if_pos hb.2.2.2.1]
  show roundS (roundS (roundS (roundS (meet0 an af ac bn bf bc c0 c1 n0 n1)))) = _
  rw [meet0_eq hA af0 af1 ac0 ac1, round1_eq hA hB bf0 bf1 bc0 bc1 hn0 hn1, if_neg (by simp [hs]), roundS_nil, roundS_nil, roundS_nil]
end
end Go.Proofs.YtokkokgdjnkbnaaGreatDoor
end
section
/- Package heddlelaw08: peer, awake. -/
open Go Go.RowKit
namespace Go.Proofs.YtokkokgdjnkbnaaGreatDoor

theorem peer_any (n : ByteArray) (c : Int) (w : World) : Calls Tryz.prog 40 #[.string n, .int .u32 c] w fun e w' => e = .returned (peerV n needF c) ∧ Below w.heap.size w w' := by
  go_enter Tryz.func40, Tryz.ntmps40
  go_wp2
  refine bodyPost_ret (v := peerV n needF c) (by simp [results, Tryz.results40, go_sem, peerV, needF]) rfl ?_
  exact ⟨rfl, (Below.refl _ w).alloc (Nat.le_refl _) _⟩
def nhB : ByteArray := ⟨#[110, 64, 104]⟩
def mhB : ByteArray := ⟨#[109, 64, 104]⟩
def cB : ByteArray := ⟨#[99]⟩
theorem nh_node : (nodeS nhB).2.2 = [] := by kernel_rfl
theorem mh_node : (nodeS mhB).2.2 = [] := by kernel_rfl
theorem c_cook : cookieS cB = [] := by kernel_rfl
theorem need_ok : lackS needF = false := by kernel_rfl
theorem made_nh : madeS nhB needF 1 mhB true cB = [] := by
  unfold madeS
  rw [if_neg (by simp [nh_node]), if_neg (by simp [mh_node]), if_neg (by simp [need_ok]), if_neg (by decide), if_neg (by rintro ⟨_, h⟩; exact absurd (congrArg ByteArray.data h) (by decide)), c_cook]
  rfl
theorem made_mh : madeS mhB needF 2 ⟨#[]⟩ false cB = [] := by
  unfold madeS
  rw [if_neg (by simp [mh_node]), if_neg (by simp), if_neg (by simp [need_ok]), if_neg (by decide), if_neg (by simp), c_cook]
  rfl
theorem okay_read : readS 2 [115, 111, 107, 97, 121] = (Msg.none, [⟨shakeL, 1, 160⟩]) := by kernel_rfl
theorem met_awake (w : World) (hG : Gl w) : Calls Tryz.prog 25 #[peerV nhB needF 1, peerV mhB needF 2, .agg #[.string cB, .string cB], .agg #[.int .u32 5, .int .u32 6]] w fun e w' => Below w.heap.size w w' ∧
    ∃ gx gy, e = .returned (.tuple #[.pointer (some ⟨gx, 0, none⟩), .pointer (some ⟨gy, 0, none⟩), .bool true]) ∧ Cells w' gx 113 ((newS nhB needF 1 mhB true cB 5).now 7 mhB needF 2 false).cells ∧ Cells w' gy 113 ((newS mhB needF 2 ⟨#[]⟩ false cB 6).now 7 nhB needF 1 false).cells := by
  have hu := meet_up (n0 := 5) (n1 := 6) made_nh made_mh (by decide) (by decide) (by decide) (by decide) (by decide) (by decide) (by decide) (by decide) (by decide) (by decide)
  refine (show Calls Tryz.prog 25 #[peerV nhB needF 1, peerV mhB needF 2, .agg #[.string cB, .string cB], .agg #[.int .u32 5, .int .u32 6]] w _ from met_any nhB needF 1 mhB needF 2 cB cB 5 6 w (by decide) (by decide) (by decide) (by decide) (by decide) (by decide) (by decide) (by decide) (by decide) (by decide) (by decide) (by decide) hG).mono ?_
  rintro e w' ⟨hb, ⟨_, _, gx, gy, he, hx, hy⟩ | ⟨h | h, _⟩⟩
  · rw [hu] at hx hy
    exact ⟨hb, gx, gy, he, hx, hy⟩
  · exact absurd made_nh h
  · exact absurd made_mh h

theorem lit_rsl (w : World) (l : List UInt8) (f : Nat × Nat) (hl : l.length ≤ maxLen) : RSl (.slice (some ⟨w.heap.size, 0, none⟩) l.length l.length) l (w.alloc (.cells (bytesV l).toArray 5 f)) := by
  refine ⟨_, l.length, rfl, Nat.le_refl _, hl, fun j hj => ⟨w.heap.size, 0, rfl, ?_⟩⟩
  have hb : (w.alloc (.cells (bytesV l).toArray 5 f)).heap[w.heap.size]? = some (.cells (bytesV l).toArray 5 f) := by
    show (w.heap.push _)[w.heap.size]? = _
    simp
  simp only [World.cell?, hb, Nat.zero_add]
  simpa using bytesV_get l j hj

set_option maxHeartbeats 8000000 in
set_option maxRecDepth 100000 in
theorem awake_any (w : World) (hG : Gl w) : Calls Tryz.prog 12 #[] w fun e w' => e = .returned (.bool true) ∧ Below w.heap.size w w' := by
  have HG := Lib.hid hG
  have HP := Lib.hid (fun n c W => peer_any n c W)
  have HM := Lib.hid (fun W h => met_awake W h)
  have kc := fun (w : World) (C : Array Value) (n c : Nat) => Lib.run_convert_bytes_const (P := Tryz.prog) w 25 5 C n c Tryz.underlying25 Tryz.underlying5
  clear hG
  unfold peerV needF nhB mhB cB at *
  go_enter Tryz.func12, Tryz.ntmps12
  go_wp2_with fail
  refine (HP.out _ _ _).mono ?_
  rintro e w1 ⟨rfl, hb1⟩
  go_wp2_with fail
  refine (HP.out _ _ _).mono ?_
  rintro e w2 ⟨rfl, hb2⟩
  have HB2 := Lib.hid (hb1.trans (hb2.mono hb1.size))
  clear hb1 hb2 HP
  go_wp2_with fail
  refine (HM.out _ (HG.out.below HB2.out)).mono ?_
  rintro e w3 ⟨hb3, gx, gy, rfl, hx, hy⟩
  have HB3 := Lib.hid (HB2.out.trans (hb3.mono HB2.out.size))
  have HX := Lib.hid (show Calls Tryz.prog 22 #[.pointer (some ⟨gx, 0, none⟩)] w3 fun e w' => e = .returned (.agg #[.int .i64 7, .string ⟨#[109, 64, 104]⟩, .int .u64 4345626892, .int .u32 2, .bool false]) ∧ Below w3.heap.size w3 w' from now_any gx _ w3 hx)
  have HY := Lib.hid (fun w4 (h : Below w3.heap.size w3 w4) => show Calls Tryz.prog 22 #[.pointer (some ⟨gy, 0, none⟩)] w4 fun e w' => e = .returned (.agg #[.int .i64 7, .string ⟨#[110, 64, 104]⟩, .int .u64 4345626892, .int .u32 1, .bool false]) ∧ Below w4.heap.size w4 w' from now_any gy _ w4 (hy.below h))
  clear hb3 hx hy HM
  go_wp2_with fail
  refine HX.out.mono ?_
  rintro e w4 ⟨rfl, hb4⟩
  go_wp2_with fail
  refine (HY.out _ hb4).mono ?_
  rintro e w5 ⟨rfl, hb5⟩
  have hb45 := hb4.trans (hb5.mono hb4.size)
  have HB5 := Lib.hid (HB3.out.trans (hb45.mono HB3.out.size))
  clear hb4 hb5 hb45 HX HY
  have HB6 := Lib.hid ((HB5.out.alloc HB5.out.size (.cells #[.int .i64 7, .string ⟨#[109, 64, 104]⟩, .int .u64 4345626892, .int .u32 2, .bool false] 65 (0, 0))).alloc (Nat.le_trans HB5.out.size (by simp)) (.cells #[.int .i64 7, .string ⟨#[110, 64, 104]⟩, .int .u64 4345626892, .int .u32 1, .bool false] 65 (0, 0)))
  have HX6 := Lib.hid ((Cells.new w5 65 [.int .i64 7, .string ⟨#[109, 64, 104]⟩, .int .u64 4345626892, .int .u32 2, .bool false]).alloc (.cells #[.int .i64 7, .string ⟨#[110, 64, 104]⟩, .int .u64 4345626892, .int .u32 1, .bool false] 65 (0, 0)))
  have HY6 := Lib.hid (show Cells ((w5.alloc (.cells #[.int .i64 7, .string ⟨#[109, 64, 104]⟩, .int .u64 4345626892, .int .u32 2, .bool false] 65 (0, 0))).alloc (.cells #[.int .i64 7, .string ⟨#[110, 64, 104]⟩, .int .u64 4345626892, .int .u32 1, .bool false] 65 (0, 0))) (w5.heap.size + 1) 65 [.int .i64 7, .string ⟨#[110, 64, 104]⟩, .int .u64 4345626892, .int .u32 1, .bool false] by
    have := Cells.new (w5.alloc (.cells #[.int .i64 7, .string ⟨#[109, 64, 104]⟩, .int .u64 4345626892, .int .u32 2, .bool false] 65 (0, 0))) 65 [.int .i64 7, .string ⟨#[110, 64, 104]⟩, .int .u64 4345626892, .int .u32 1, .bool false]
    rwa [World.size_alloc] at this)
  go_upto_region 5 with (fail)
  generalize hW : World.alloc (World.alloc w5 _) _ = W6 at *
  clear hW
  have HB7 := Lib.hid (HB6.out.alloc HB6.out.size (.cells (bytesV [115, 111, 107, 97, 121]).toArray 5 (5, 6)))
  have HRD := Lib.hid (read_any 2 _ [115, 111, 107, 97, 121] _ (lit_rsl W6 [115, 111, 107, 97, 121] (5, 6) (by decide)) (by decide) (HG.out.below HB7.out).e)
  rw [okay_read] at HRD
  go_wp2_with fail
  refine HRD.out.mono ?_
  rintro e w8 ⟨dv, ev, rfl, hdv, her, hb8⟩
  have HB8 := Lib.hid (HB7.out.trans (hb8.mono HB7.out.size))
  have HX8 := Lib.hid ((HX6.out.alloc (.cells (bytesV [115, 111, 107, 97, 121]).toArray 5 (5, 6))).below hb8)
  have HY8 := Lib.hid ((HY6.out.alloc (.cells (bytesV [115, 111, 107, 97, 121]).toArray 5 (5, 6))).below hb8)
  have HER := Lib.hid her
  clear hb8 her HRD HX6 HY6
  obtain ⟨da, dc, rfl, _, _⟩ := hdv.shape
  clear hdv
  have x0 := HX8.out.cell 0
  have x1 := HX8.out.cell 1
  have y0 := HY8.out.cell 0
  have y3 := HY8.out.cell 3
  simp only [List.getElem?_cons_zero, List.getElem?_cons_succ] at x0 x1 y0 y3
  have xlt := HX8.out.lt
  have ylt := HY8.out.lt
  unfold Msg.val Msg.none
  go_wp2_with fail
  have HB9 := Lib.hid (HB8.out.alloc HB8.out.size (.cells #[.int .i64 0, .int .u64 0, .int .u32 0, .int .u32 0, .string ⟨#[]⟩, .string ⟨#[]⟩, .slice da 0 dc] 27 (0, 0)))
  have HE9 := Lib.hid (HER.out.below ((Below.refl w8.heap.size w8).alloc (Nat.le_refl _) (.cells #[.int .i64 0, .int .u64 0, .int .u32 0, .int .u32 0, .string ⟨#[]⟩, .string ⟨#[]⟩, .slice da 0 dc] 27 (0, 0))))
  generalize hW9 : World.alloc w8 _ = W9 at *
  clear hW9
  refine (one_any _ _ _ _).mono ?_
  rintro e w10 ⟨rfl, rfl⟩
  have hb10 := (Below.refl W9.heap.size W9).alloc (Nat.le_refl _) (.cells #[.string ⟨#[115, 104, 97, 107, 101]⟩, .int .i64 1, .int .i64 160] 98 (0, 0))
  have HB10 := Lib.hid (HB9.out.trans (hb10.mono HB9.out.size))
  have HF := refused_links ev [⟨shakeL, 1, 160⟩] [⟨shakeL, 1, 160⟩] _ _ _ (HE9.out.below hb10) (by simp) (by simp) (LinksIs.lit (base := W9.heap.size) (w := W9) ⟨shakeL, 1, 160⟩ (Nat.le_refl _)) (HG.out.below HB10.out).e
  rw [show decide ([(⟨shakeL, 1, 160⟩ : Lk)] = [⟨shakeL, 1, 160⟩]) = true by simp] at HF
  replace HF := Lib.hid HF
  clear hb10
  go_wp2_with fail
  refine HF.out.mono ?_
  rintro e w11 ⟨rfl, hb11⟩
  have hb := HB10.out.trans (hb11.mono HB10.out.size)
  go_wp2
  go_ret
  exact ⟨rfl, hb⟩
end Go.Proofs.YtokkokgdjnkbnaaGreatDoor
end
section
/- Law ShakeWrites: the walk. -/
open Go Go.RowKit
namespace Go.Proofs.YtokkokgdjnkbnaaGreatDoor

theorem writeS_errs (m : Msg) : (writeS m).2.length ≤ 16 := by
  unfold writeS
  split
  · exact (by decide : 1 ≤ 16)
  · split
    · exact Nat.zero_le _
    · split
      · exact Nat.zero_le _
      · split
        · exact Nat.zero_le _
        · split
          · exact (by decide : 2 ≤ 16)
          · exact Nat.zero_le _

set_option maxHeartbeats 8000000 in
set_option maxRecDepth 100000 in
theorem writes_walk (m : Msg) (dv : Value) (w : World) (hd : RSl dv m.digest w) (hm : m.Ok) (hG : Gl w) :
    Calls Tryz.prog 3 #[m.val dv] w fun e w' => e = .returned (.bool true) ∧ Below w.heap.size w w' := by
  have HB0 := Lib.hid ((Below.refl w.heap.size w).alloc (Nat.le_refl _) (.cells #[.int .i64 m.kind, .int .u64 m.flags, .int .u32 m.creation, .int .u32 m.challenge, .string m.name, .string m.status, dv] 27 (0, 0)))
  have HW := Lib.hid (fun W (h : Below w.heap.size w W) => write_any m dv W (hd.below h) hm (hG.below h).e)
  have HR := Lib.hid (fun W (h : Below w.heap.size w W) => writeR_any m dv W (hd.below h) hm)
  have HA := Lib.hid (fun W (h : Below w.heap.size w W) => awake_any W (hG.below h))
  have HG := Lib.hid hG
  have C0 := Lib.hid (Cells.new w 27 [.int .i64 m.kind, .int .u64 m.flags, .int .u32 m.creation, .int .u32 m.challenge, .string m.name, .string m.status, dv])
  obtain ⟨da, dc, rfl, _, _⟩ := hd.shape
  clear hd hm hG
  have hel := writeS_errs m
  generalize writeS m = r at *
  obtain ⟨l, er⟩ := r
  obtain ⟨kd, fl, cr, chn, nm, st, dg⟩ := m
  unfold Msg.val at *
  go_enter Tryz.func3, Tryz.ntmps3
  go_wp2_with fail
  refine (HW.out _ HB0.out).mono ?_
  rintro e w1 ⟨v1, ev, rfl, hv1, her, hb1⟩
  have HB1 := Lib.hid (HB0.out.trans (hb1.mono HB0.out.size))
  have C1 := Lib.hid (C0.out.below hb1)
  have c0 := C1.out.cell 0
  have c1 := C1.out.cell 1
  have c2 := C1.out.cell 2
  have c3 := C1.out.cell 3
  have c4 := C1.out.cell 4
  have c5 := C1.out.cell 5
  have c6 := C1.out.cell 6
  simp only [List.getElem?_cons_zero, List.getElem?_cons_succ] at c0 c1 c2 c3 c4 c5 c6
  have V1 := Lib.hid hv1
  have E1 := Lib.hid her
  clear hb1 hv1 her HW C0
  go_wp2_with fail
  refine (HR.out _ HB1.out).mono ?_
  rintro e w2 ⟨v2, lv, rfl, hv2, hlk, hb2⟩
  have HB2 := Lib.hid (HB1.out.trans (hb2.mono HB1.out.size))
  have hc1 := run_slice_string (V1.out.rsl.below hb2).slice
  have hc2 := run_slice_string hv2.rsl.slice
  have HF := refused_links ev er er lv _ w2 (E1.out.below hb2) hel hel hlk (HG.out.below HB2.out).e
  rw [show decide (er = er) = true by simp] at HF
  replace HF := Lib.hid HF
  clear hb2 hv2 hlk HR c0 c1 c2 c3 c4 c5 c6 hel
  rcases V1.out.shape with ⟨rfl, rfl⟩ | ⟨g1, q1, rfl, _⟩
  all_goals
    go_wp2_with fail
    refine HF.out.mono ?_
    rintro e w3 ⟨rfl, hb3⟩
    have HB3 := Lib.hid (HB2.out.trans (hb3.mono HB2.out.size))
    clear hb3
    go_wp2_with fail
    refine (HA.out _ HB3.out).mono ?_
    rintro e w4 ⟨rfl, hb4⟩
    have hb := HB3.out.trans (hb4.mono HB3.out.size)
    go_wp2
    go_ret
    exact ⟨rfl, hb⟩
end Go.Proofs.YtokkokgdjnkbnaaGreatDoor
end
