/- Texts laid together: ShkNobody. -/
import Derived.Test.YtokkokgdjnkbnaaDoorP26
section
/- Law ShakeNobody: the walk. -/
open Go Go.RowKit
namespace Go.Proofs.YtokkokgdjnkbnaaDoor

def zeroSide : List Value := [.int .i64 0, .string ⟨#[]⟩, .int .u64 0, .int .u32 0, .bool false, .string ⟨#[]⟩, .int .u64 0, .int .u32 0, .string ⟨#[]⟩, .string ⟨#[]⟩, .int .u32 0]
/-- the two sides of the law, the list of both, the link -/
structure NobI (b : Nat) (w0 wr : World) : Prop where
  hl : LinksIs w0.heap.size (.slice (some ⟨b, 0, none⟩) 1 1) [⟨shakeL, 0, 3⟩] wr
  hz : Cells wr (b + 1) 47 zeroSide
  hs : Cells wr (b + 1 + 1) 37 [.pointer none, .pointer (some ⟨b + 1, 0, none⟩)]
  hb : Below w0.heap.size w0 wr
theorem NobI.below {b : Nat} {w0 wr w' : World} (h : NobI b w0 wr) (hb : Below wr.heap.size wr w') : NobI b w0 w' :=
  ⟨h.hl.below hb (Nat.le_refl _), h.hz.below hb, h.hs.below hb, h.hb.trans (hb.mono h.hb.size)⟩
theorem NobI.at_ {b : Nat} {w0 wr : World} (h : NobI b w0 wr) (k : Nat) (hk : k < 2) : ∃ pv, wr.cell? ⟨b + 1 + 1, k, none⟩ = some pv ∧ NoSide pv wr := by
  have hk2 : k = 0 ∨ k = 1 := by omega
  rcases hk2 with rfl | rfl
  · exact ⟨_, h.hs.cell 0, .inl rfl⟩
  · exact ⟨_, h.hs.cell 1, .inr ⟨_, rfl, h.hz⟩⟩

set_option maxHeartbeats 8000000 in
set_option maxRecDepth 100000 in
theorem nobody8_walk (bv : Value) (s : ByteArray) (w : World) (hG : Gl w) :
    Calls Tryd.prog 4 #[bv, .string s] w fun e w' => e = .returned (.bool true) ∧ Below w.heap.size w w' := by
  have HG := Lib.hid hG
  clear hG
  have HI := Lib.hid (show NobI w.heap.size w (((w.alloc (.cells #[.string ⟨#[115, 104, 97, 107, 101]⟩, .int .i64 0, .int .i64 3] 74 (0, 0))).alloc (.cells zeroSide.toArray 47 (0, 0))).alloc (.cells #[.pointer none, .pointer (some ⟨w.heap.size + 1, 0, none⟩)] 37 (0, 0))) from by
    refine ⟨((LinksIs.lit (base := w.heap.size) (w := w) ⟨shakeL, 0, 3⟩ (Nat.le_refl _)).alloc _).alloc _, ?_, ?_, (((Below.refl _ w).alloc (Nat.le_refl _) _).alloc (by simp) _).alloc (by simp; omega) _⟩
    · have := (Cells.new (w.alloc (.cells #[.string ⟨#[115, 104, 97, 107, 101]⟩, .int .i64 0, .int .i64 3] 74 (0, 0))) 47 zeroSide).alloc (.cells #[.pointer none, .pointer (some ⟨w.heap.size + 1, 0, none⟩)] 37 (0, 0))
      rwa [World.size_alloc] at this
    · have := Cells.new ((w.alloc (.cells #[.string ⟨#[115, 104, 97, 107, 101]⟩, .int .i64 0, .int .i64 3] 74 (0, 0))).alloc (.cells zeroSide.toArray 47 (0, 0))) 37 [.pointer none, .pointer (some ⟨w.heap.size + 1, 0, none⟩)]
      rwa [World.size_alloc, World.size_alloc] at this)
  unfold zeroSide at HI
  go_enter Tryd.func4, Tryd.ntmps4
  go_wp2_with fail
  refine (one_any _ _ _ _).mono ?_
  rintro e w1 ⟨rfl, rfl⟩
  go_wp2_with fail
  go_loopw [19] (fun i wr => ∃ k : Nat, k ≤ 2 ∧ i = .int .i64 k ∧ NobI w.heap.size w wr) (fun i _ => 2 - (intOf i).toNat)
  case atStart => exact ⟨0, Nat.zero_le _, rfl, HI.out⟩
  case round =>
    obtain ⟨k, hk, rfl, hi⟩ := hrel
    clear HI
    by_cases hlt : k < 2
    · have hki : (k : Int) < 2 := by omega
      have hk0 : (0 : Int) ≤ (k : Int) := by omega
      have hw2 : IntKind.i64.wrap ((k : Int) + 1) = (k : Int) + 1 := IntWalk.i64_in _ (by omega)
      obtain ⟨pv, hcell, hno⟩ := hi.at_ k hlt
      have HN := Lib.hid hno
      have HI := Lib.hid hi
      have HT := Lib.hid (take_zero pv bv wr hno)
      clear hno hi
      go_wp2_with fail
      refine HT.out.mono ?_
      rintro e w2 ⟨ev, rfl, her, hb2⟩
      have HI2 := Lib.hid (HI.out.below hb2)
      have HN2 := Lib.hid (HN.out.below hb2)
      have HA := Lib.hid (answer_zero pv s w2 (HN.out.below hb2))
      have HE2 := Lib.hid her
      clear hb2 HT HI HN her hcell
      go_wp2_with fail
      refine HA.out.mono ?_
      rintro e w3 ⟨fv, rfl, hfr, hb3⟩
      have HI3 := Lib.hid (HI2.out.below hb3)
      have HN3 := Lib.hid (HN2.out.below hb3)
      have HE3 := Lib.hid (HE2.out.below hb3)
      have HF3 := Lib.hid hfr
      have HR := refused_links ev [⟨shakeL, 0, 3⟩] [⟨shakeL, 0, 3⟩] _ _ w3 HE3.out (by simp) (by simp) HI3.out.hl (HG.out.below HI3.out.hb).e
      rw [show decide ([(⟨shakeL, 0, 3⟩ : Lk)] = [⟨shakeL, 0, 3⟩]) = true by simp] at HR
      replace HR := Lib.hid HR
      clear hb3 HA hfr HI2 HN2 HE2
      go_wp2_with fail
      refine HR.out.mono ?_
      rintro e w4 ⟨rfl, hb4⟩
      have HI4 := Lib.hid (HI3.out.below hb4)
      have HN4 := Lib.hid (HN3.out.below hb4)
      have HF4 := Lib.hid (HF3.out.below hb4)
      have HR2 := refused_links fv [⟨shakeL, 0, 3⟩] [⟨shakeL, 0, 3⟩] _ _ w4 HF4.out (by simp) (by simp) HI4.out.hl (HG.out.below HI4.out.hb).e
      rw [show decide ([(⟨shakeL, 0, 3⟩ : Lk)] = [⟨shakeL, 0, 3⟩]) = true by simp] at HR2
      replace HR2 := Lib.hid HR2
      clear hb4 HR HI3 HN3 HF3 HE3
      go_wp2_with fail
      refine HR2.out.mono ?_
      rintro e w5 ⟨rfl, hb5⟩
      have HI5 := Lib.hid (HI4.out.below hb5)
      have HW := Lib.hid (now_zero pv w5 (HN4.out.below hb5))
      clear hb5 HR2 HI4 HN4 HF4
      go_wp2_with fail
      refine HW.out.mono ?_
      rintro e w6 ⟨rfl, hb6⟩
      have HI6 := Lib.hid (HI5.out.below hb6)
      clear hb6 HW HI5
      go_wp2
      go_roundw
      case rel => exact ⟨k + 1, by omega, by go_num, HI6.out⟩
      case measure => simp [intOf]; omega
    · have hki : ¬ (k : Int) < 2 := by omega
      have HI := Lib.hid hi
      have HA := Lib.hid (awake_any wr (HG.out.below hi.hb))
      clear hi
      go_wp2_with fail
      refine HA.out.mono ?_
      rintro e w2 ⟨rfl, hb2⟩
      have hb := HI.out.hb.trans (hb2.mono HI.out.hb.size)
      go_wp2
      go_ret
      exact ⟨rfl, hb⟩
end Go.Proofs.YtokkokgdjnkbnaaDoor
end
