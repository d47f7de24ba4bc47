/- Package atom: Node. -/
import Derived.Test.YtdafikemndaeeaaDoorAtomN
open Go Go.RowKit
namespace Go.Proofs.YtdafikemndaeeaaDoor

def okN (c : UInt8) : Bool := (kindS c.toNat != 0) || (c.toNat == 45)
def okH (c : UInt8) : Bool := (kindS c.toNat != 0) || (c.toNat == 45) || (c.toNat == 46)
/-- what is asked of the two parts ahead of their letters -/
def goodS (s : ByteArray) : Bool :=
  (cutS s 64).2.2 && !(cutS s 64).1.toList.isEmpty && !(cutS s 64).2.1.toList.isEmpty && decide (s.size ≤ 64) && !decide (0 ≤ Lib.indexByte (cutS s 64).2.1.data.toList 64)
def goodAll (s : ByteArray) : Bool := goodS s && (cutS s 64).1.data.toList.all okN && (cutS s 64).2.1.data.toList.all okH
def nodeS (s : ByteArray) : ByteArray × ByteArray × List Lk := if goodAll s then ((cutS s 64).1, (cutS s 64).2.1, []) else (⟨#[]⟩, ⟨#[]⟩, [⟨atomL, 0, 24⟩])

theorem cut_size (s : ByteArray) (c : UInt8) : (cutS s c).1.size ≤ s.size ∧ (cutS s c).2.1.size ≤ s.size := by
  unfold cutS; split
  · simp [ByteArray.size_extract]; omega
  · exact ⟨Nat.le_refl _, Nat.zero_le _⟩

set_option maxHeartbeats 16000000 in
set_option maxRecDepth 100000 in
theorem node_any (s : ByteArray) (w : World) (hs : s.size ≤ 140737488351232) :
    Calls Tryd.prog 46 #[.string s] w fun e w' => ∃ ev, e = .returned (.tuple #[.string (nodeS s).1, .string (nodeS s).2.1, ev]) ∧ ErrIs w' ev (nodeS s).2.2 ∧ Below w.heap.size w w' := by
  have HC := Lib.hid (cut_any s 64 w hs)
  have hz := cut_size s 64
  have HI := fun w => Lib.hid (Tryd.strings_Contains_one (cutS s 64).2.1 64 w)
  have HG : goodS s = ((cutS s 64).2.2 && !(cutS s 64).1.toList.isEmpty && !(cutS s 64).2.1.toList.isEmpty && decide (s.size ≤ 64) && !decide (0 ≤ Lib.indexByte (cutS s 64).2.1.data.toList 64)) := rfl
  have HN : nodeS s = (if (goodS s && (cutS s 64).1.data.toList.all okN && (cutS s 64).2.1.data.toList.all okH) then ((cutS s 64).1, (cutS s 64).2.1, []) else (⟨#[]⟩, ⟨#[]⟩, [⟨atomL, 0, 24⟩])) := rfl
  generalize hcut : cutS s 64 = ct at *
  obtain ⟨a, b, ok⟩ := ct
  simp only at *
  have hcv1 := fun w => Lib.run_convert_string_bytes (P := Tryd.prog) w 9 34 5 a Tryd.underlying9 Tryd.underlying34 Tryd.underlying5
  have hcv2 := fun w => Lib.run_convert_string_bytes (P := Tryd.prog) w 9 34 5 b Tryd.underlying9 Tryd.underlying34 Tryd.underlying5
  have H : (ok = false ∧ goodS s = false) ∨ (ok = true ∧ a.toList.isEmpty = true ∧ goodS s = false) ∨ (ok = true ∧ a.toList.isEmpty = false ∧ b.toList.isEmpty = true ∧ goodS s = false) ∨
      (ok = true ∧ a.toList.isEmpty = false ∧ b.toList.isEmpty = false ∧ ¬ (s.size : Int) ≤ 64 ∧ goodS s = false) ∨
      (ok = true ∧ a.toList.isEmpty = false ∧ b.toList.isEmpty = false ∧ (s.size : Int) ≤ 64 ∧ goodS s = !decide (0 ≤ Lib.indexByte b.data.toList 64)) := by
    rw [HG]
    cases ok <;> cases a.toList.isEmpty <;> cases b.toList.isEmpty <;> by_cases h : s.size ≤ 64 <;> simp [h] <;> omega
  generalize hgd : goodS s = gd at *
  generalize hix : decide (0 ≤ Lib.indexByte b.data.toList 64) = ix at *
  have HNN := Lib.hid HN
  clear HN HG hcut hgd hix
  rcases H with ⟨rfl, hg⟩ | ⟨rfl, h1, hg⟩ | ⟨rfl, h1, h2, hg⟩ | ⟨rfl, h1, h2, h3, hg⟩ | ⟨rfl, h1, h2, h3, hg⟩
  all_goals
    have HGD := Lib.hid hg
    clear hg
    go_enter Tryd.func46, Tryd.ntmps46
    go_wp2_with fail
    refine HC.out.mono ?_
    rintro e w1 ⟨rfl, n1, rfl⟩
    go_wp2_with (go_at_call 71; refine (HI _).out.mono ?_; rintro e w2 ⟨rfl, rfl⟩)
    obtain ⟨W, hW⟩ : ∃ W, W = w.drewN n1 := ⟨_, rfl⟩
    have hbW : Below w.heap.size w W := by rw [hW]; exact below_drewN (Below.refl _ _) _
    have HWS := Lib.hid (show W.heap.size = w.heap.size by rw [hW]; rfl)
    rw [← hW]
    clear hW
    have HW := Lib.hid hbW
    clear hbW
    go_loopw [8, 41] (fun g i wr => ∃ k : Nat, k ≤ a.size ∧ i = .int .i64 k ∧ g = .bool (gd && (a.data.toList.take k).all okN) ∧ ConvRow w.heap.size a wr ∧ Below w.heap.size w wr) (fun _ i _ => a.size - (intOf i).toNat)
    case atStart =>
      exact ⟨0, Nat.zero_le _, rfl, by rw [HGD.out]; simp, HWS.out ▸ ConvRow.mk W a, below_bytesWorld HW.out HW.out.size _ _⟩
    case round =>
      obtain ⟨k, hk, rfl, rfl, hc, hbw⟩ := hrel
      by_cases hlt : k < a.size
      · have hki : (k : Int) < (a.size : Int) := by omega
        have hcell := hc.cell k hlt
        have hnx := Lib.hid (show (gd && (a.data.toList.take (k + 1)).all okN) = ((gd && (a.data.toList.take k).all okN) && okN a[k]) by
          rw [List.take_succ_eq_append_getElem (by simpa using hlt), List.all_append, Bool.and_assoc]; simp; rfl)
        have HCV := Lib.hid hc
        have HB := Lib.hid hbw
        clear hc hbw HGD
        generalize (gd && (a.data.toList.take k).all okN) = f at *
        generalize a[k] = c at *
        cases f with
        | false =>
          go_wp2
          go_roundw
          case rel => exact ⟨k + 1, by omega, by go_num, by rw [hnx.out]; rfl, HCV.out, HB.out⟩
          case measure => simp [intOf]; omega
        | true =>
          have HKD := Lib.hid (fun w => kind_any (c.toNat : Int) w)
          have hok := Lib.hid (show okN c = ((kindS (c.toNat : Int) != 0) || ((c.toNat : Int) == 45)) by unfold okN; congr 1; rw [Bool.eq_iff_iff]; simp; omega)
          by_cases c1 : (kindS (c.toNat : Int) != 0) = true
          · go_wp2_with (go_at_call 53; refine (HKD.out _).mono ?_; rintro e w3 ⟨rfl, rfl⟩)
            go_roundw
            case rel => exact ⟨k + 1, by omega, by go_num, by rw [hnx.out, hok.out, c1]; rfl, HCV.out, HB.out⟩
            case measure => simp [intOf]; omega
          · have c1' : (kindS (c.toNat : Int) != 0) = false := by simpa using c1
            clear c1
            go_wp2_with (go_at_call 53; refine (HKD.out _).mono ?_; rintro e w3 ⟨rfl, rfl⟩)
            go_roundw
            case rel => exact ⟨k + 1, by omega, by go_num, by rw [hnx.out, hok.out, c1']; rfl, HCV.out, HB.out⟩
            case measure => simp [intOf]; omega
      · have hkn : ¬ (k : Int) < (a.size : Int) := by omega
        rw [show (a.data.toList.take k) = a.data.toList from List.take_of_length_le (by simp; omega)]
        have HB := Lib.hid hbw
        clear hc hbw HGD
        generalize hf2 : (gd && a.data.toList.all okN) = f2 at *
        go_wp2_with fail
        go_loopw [8, 59] (fun g i wr2 => ∃ k : Nat, k ≤ b.size ∧ i = .int .i64 k ∧ g = .bool (f2 && (b.data.toList.take k).all okH) ∧ ConvRow wr.heap.size b wr2 ∧ Below w.heap.size w wr2) (fun _ i _ => b.size - (intOf i).toNat)
        case atStart =>
          exact ⟨0, Nat.zero_le _, rfl, by simp, ConvRow.mk wr b, below_bytesWorld HB.out HB.out.size _ _⟩
        case round =>
          obtain ⟨k2, hk2, rfl, rfl, hc, hbw⟩ := hrel
          by_cases hlt2 : k2 < b.size
          · have hki2 : (k2 : Int) < (b.size : Int) := by omega
            have hcell := hc.cell k2 hlt2
            have hnx := Lib.hid (show (f2 && (b.data.toList.take (k2 + 1)).all okH) = ((f2 && (b.data.toList.take k2).all okH) && okH b[k2]) by
              rw [List.take_succ_eq_append_getElem (by simpa using hlt2), List.all_append, Bool.and_assoc]; simp; rfl)
            have HCV := Lib.hid hc
            have HB2 := Lib.hid hbw
            clear hc hbw hf2
            generalize (f2 && (b.data.toList.take k2).all okH) = f at *
            generalize b[k2] = c at *
            cases f with
            | false =>
              go_wp2
              go_roundw
              case rel => exact ⟨k2 + 1, by omega, by go_num, by rw [hnx.out]; rfl, HCV.out, HB2.out⟩
              case measure => simp [intOf]; omega
            | true =>
              have HKD := Lib.hid (fun w => kind_any (c.toNat : Int) w)
              have hok := Lib.hid (show okH c = ((kindS (c.toNat : Int) != 0) || ((c.toNat : Int) == 45) || ((c.toNat : Int) == 46)) by
                unfold okH; congr 1
                · congr 1; rw [Bool.eq_iff_iff]; simp; omega
                · rw [Bool.eq_iff_iff]; simp; omega)
              by_cases c1 : (kindS (c.toNat : Int) != 0) = true
              · go_wp2_with (go_at_call 53; refine (HKD.out _).mono ?_; rintro e w3 ⟨rfl, rfl⟩)
                go_roundw
                case rel => exact ⟨k2 + 1, by omega, by go_num, by rw [hnx.out, hok.out, c1]; rfl, HCV.out, HB2.out⟩
                case measure => simp [intOf]; omega
              · have c1' : (kindS (c.toNat : Int) != 0) = false := by simpa using c1
                clear c1
                by_cases c2 : ((c.toNat : Int) == 45) = true
                · go_wp2_with (go_at_call 53; refine (HKD.out _).mono ?_; rintro e w3 ⟨rfl, rfl⟩)
                  go_roundw
                  case rel => exact ⟨k2 + 1, by omega, by go_num, by rw [hnx.out, hok.out, c1', c2]; rfl, HCV.out, HB2.out⟩
                  case measure => simp [intOf]; omega
                · have c2' : ((c.toNat : Int) == 45) = false := by simpa using c2
                  clear c2
                  go_wp2_with (go_at_call 53; refine (HKD.out _).mono ?_; rintro e w3 ⟨rfl, rfl⟩)
                  go_roundw
                  case rel => exact ⟨k2 + 1, by omega, by go_num, by rw [hnx.out, hok.out, c1', c2']; rfl, HCV.out, HB2.out⟩
                  case measure => simp [intOf]; omega
          · have hkn2 : ¬ (k2 : Int) < (b.size : Int) := by omega
            rw [show (b.data.toList.take k2) = b.data.toList from List.take_of_length_le (by simp; omega)]
            have HB2 := Lib.hid hbw
            clear hc hbw
            have HFin := Lib.hid HNN.out
            clear hf2 HNN
            generalize (f2 && b.data.toList.all okH) = f at *
            cases f with
            | false =>
              go_wp2_with (go_at_call 48; refine (refused_any _ _ _).mono ?_; rintro e w4 ⟨rfl, rfl⟩)
              go_ret3
              rw [HFin.out]
              exact ⟨_, rfl, ErrIs.one, HB2.out.alloc HB2.out.size _⟩
            | true =>
              go_wp2
              go_ret3
              rw [HFin.out]
              exact ⟨_, rfl, rfl, HB2.out⟩
end Go.Proofs.YtdafikemndaeeaaDoor
