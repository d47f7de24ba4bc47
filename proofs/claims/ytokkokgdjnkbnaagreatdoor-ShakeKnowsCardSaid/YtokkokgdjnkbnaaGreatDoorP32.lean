/- Texts laid together: ShkReads. -/
import Derived.Test.YtokkokgdjnkbnaaGreatDoorP26
import Derived.Test.YtokkokgdjnkbnaaGreatDoorP30
import Derived.Test.YtokkokgdjnkbnaaGreatDoorP31
section
/- Law ShakeReads: the walk. -/
open Go Go.RowKit
namespace Go.Proofs.YtokkokgdjnkbnaaGreatDoor

theorem readS_errs (k : Int) (b : List UInt8) : (readS k b).2.length ≤ 16 := by
  unfold readS
  split
  · exact (by decide : 1 ≤ 16)
  · split
    · exact (by decide : 1 ≤ 16)
    · split
      · split
        · exact Nat.zero_le _
        · exact (by decide : 1 ≤ 16)
      · split
        · exact (by decide : 1 ≤ 16)
        · split
          · split
            · exact Nat.zero_le _
            · exact (by decide : 1 ≤ 16)
          · simp only
            split
            · exact (by decide : 1 ≤ 16)
            · split
              · exact (by decide : 1 ≤ 16)
              · split
                · exact (by decide : 2 ≤ 16)
                · exact Nat.zero_le _

set_option maxHeartbeats 8000000 in
set_option maxRecDepth 100000 in
theorem reads_walk (k : Int) (cv : Value) (c : List UInt8) (w : World) (hc : RSl cv c w) (hz : c.length ≤ 140737488351232) (hG : Gl w) :
    Calls Tryz.prog 4 #[.int .i64 k, cv] w fun e w' => e = .returned (.bool true) ∧ Below w.heap.size w w' := by
  have HRD := Lib.hid (read_any k cv c w hc hz hG.e)
  have HRR := Lib.hid (fun W (h : Below w.heap.size w W) => readR_any k cv c W (hc.below h) hz)
  have HA := Lib.hid (fun W (h : Below w.heap.size w W) => awake_any W (hG.below h))
  have HG := Lib.hid hG
  have hel := readS_errs k c
  obtain ⟨ca, cc, rfl, _, _⟩ := hc.shape
  clear hc hz hG
  generalize readS k c = rr at *
  obtain ⟨m, l⟩ := rr
  have HEL := Lib.hid hel
  clear hel
  go_enter Tryz.func4, Tryz.ntmps4
  go_wp2_with fail
  refine HRD.out.mono ?_
  rintro e w1 ⟨dv, ev, rfl, hdv, her, hb1⟩
  obtain ⟨da, dc, rfl, _, _⟩ := hdv.shape
  have hn1 := (Below.refl w1.heap.size w1).alloc (Nat.le_refl _) (.cells #[.int .i64 m.kind, .int .u64 m.flags, .int .u32 m.creation, .int .u32 m.challenge, .string m.name, .string m.status, .slice da m.digest.length dc] 27 (0, 0))
  have HB1 := Lib.hid (hb1.trans (hn1.mono hb1.size))
  have D1 := Lib.hid (hdv.below hn1)
  have E1 := Lib.hid (her.below hn1)
  have C1 := Lib.hid (Cells.new w1 27 [.int .i64 m.kind, .int .u64 m.flags, .int .u32 m.creation, .int .u32 m.challenge, .string m.name, .string m.status, .slice da m.digest.length dc])
  clear hb1 hdv her hn1 HRD
  unfold Msg.val
  go_wp2_with fail
  refine (HRR.out _ HB1.out).mono ?_
  rintro e w2 ⟨dv2, lv, rfl, hdv2, hlk, _, hb2⟩
  obtain ⟨ea, ec, rfl, _, _⟩ := hdv2.shape
  have C2 := C1.out.below hb2
  have c0 := C2.cell 0
  have c1 := C2.cell 1
  have c2 := C2.cell 2
  have c3 := C2.cell 3
  have c4 := C2.cell 4
  have c5 := C2.cell 5
  have c6 := C2.cell 6
  have clt := C2.lt
  simp only [List.getElem?_cons_zero, List.getElem?_cons_succ] at c0 c1 c2 c3 c4 c5 c6
  have hn2 := (Below.refl w2.heap.size w2).alloc (Nat.le_refl _) (.cells #[.int .i64 m.kind, .int .u64 m.flags, .int .u32 m.creation, .int .u32 m.challenge, .string m.name, .string m.status, .slice ea m.digest.length ec] 27 (0, 0))
  have hb12 := HB1.out.trans (hb2.mono HB1.out.size)
  have HB2 := Lib.hid (hb12.trans (hn2.mono hb12.size))
  have E2 := Lib.hid ((E1.out.below hb2).below hn2)
  have L2 := Lib.hid (hlk.below hn2 (Nat.le_refl _))
  have HS := sameR_self m _ _ _ ((D1.out.below hb2).below hn2) (hdv2.below hn2)
  unfold Msg.val at HS ⊢
  replace HS := Lib.hid HS
  clear hb2 hdv2 hlk hn2 hb12 C2 C1 D1 E1 HRR
  go_wp2_with fail
  refine HS.out.mono ?_
  rintro e w3 ⟨rfl, hb3⟩
  have HB3 := Lib.hid (HB2.out.trans (hb3.mono HB2.out.size))
  have HF := refused_links ev l l lv _ w3 (E2.out.below hb3) HEL.out HEL.out (L2.out.below hb3 (Nat.le_refl _)) (HG.out.below HB3.out).e
  rw [show decide (l = l) = true by simp] at HF
  replace HF := Lib.hid HF
  clear hb3 HS E2 L2 c0 c1 c2 c3 c4 c5 c6 clt
  go_wp2_with fail
  refine HF.out.mono ?_
  rintro e w4 ⟨rfl, hb4⟩
  have HB4 := Lib.hid (HB3.out.trans (hb4.mono HB3.out.size))
  clear hb4 HF
  go_wp2_with fail
  refine (HA.out _ HB4.out).mono ?_
  rintro e w5 ⟨rfl, hb5⟩
  have hb := HB4.out.trans (hb5.mono HB4.out.size)
  go_wp2
  go_ret
  exact ⟨rfl, hb⟩
end Go.Proofs.YtokkokgdjnkbnaaGreatDoor
end
