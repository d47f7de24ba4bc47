/- The reference's Node, walked; the statement AtomNodes. -/
import Derived.Test.YtdafikemndaeeaaDoorAtomR
import Derived.Test.YtdafikemndaeeaaDoorAtomL
open Go Go.RowKit
namespace Go.Proofs.YtdafikemndaeeaaDoor

theorem runN_bd (l : List UInt8) : ∀ (k : Nat) (st : Int × Bool), -1 ≤ st.1 → st.1 < k → -1 ≤ (runN l k st).1 ∧ (runN l k st).1 < k + l.length := by
  induction l with
  | nil => intro k st h1 h2; exact ⟨h1, by simpa [runN] using h2⟩
  | cons c r ih =>
    intro k st h1 h2
    rw [runN]
    have := ih (k + 1) (stepN st k c) (by unfold stepN; split <;> simp <;> omega) (by unfold stepN; split <;> simp <;> omega)
    refine ⟨this.1, ?_⟩
    have := this.2
    simp; omega
theorem runN_snoc (s : ByteArray) (k : Nat) (h : k < s.size) (st : Int × Bool) : runN (s.data.toList.take (k + 1)) 0 st = stepN (runN (s.data.toList.take k) 0 st) k s[k] := by
  rw [List.take_succ_eq_append_getElem (by simpa using h), runN_append]
  have : (s.data.toList.take k).length = k := by simp; omega
  rw [this, Nat.zero_add]
  rfl

theorem run_slice_string_to {P : Program} {t : TypeId} (h : P.underlying t = some .string) (s : ByteArray) (b : Nat) (hb : b ≤ s.size) (w : World) :
    (Instr.slice t (.string s) none (some (.int .i64 (b : Int))) none).run P w = .ok (.string (s.extract 0 b)) w := by
  simp [Instr.slice, run_underlying h, Instr.sliceBounds, Instr.sliceBound, asIntOf, hb]
theorem run_slice_string_from {P : Program} {t : TypeId} (h : P.underlying t = some .string) (s : ByteArray) (a : Nat) (ha : a ≤ s.size) (w : World) :
    (Instr.slice t (.string s) (some (.int .i64 (a : Int))) none none).run P w = .ok (.string (s.extract a s.size)) w := by
  simp [Instr.slice, run_underlying h, Instr.sliceBounds, Instr.sliceBound, asIntOf, ha]

def RetSSL (B : Nat) (w : World) (r : ByteArray × ByteArray × List Lk) (e : Ending) (w' : World) : Prop := ∃ lv, e = .returned (.tuple #[.string r.1, .string r.2.1, lv]) ∧ LinksIs B lv r.2.2 w' ∧ Below B w w'

set_option maxHeartbeats 800000 in
set_option maxRecDepth 100000 in
theorem nodeR_any (s : ByteArray) (w : World) (hs : s.size ≤ 140737488351232) :
    Calls Tryd.prog 47 #[.string s] w (RetSSL w.heap.size w (nodeRS s)) := by
  have HFin := Lib.hid (show nodeRS s = (if (!(endN s).2 || decide ((endN s).1 < 1) || ((endN s).1 == (s.size : Int) - 1)) = true then (⟨#[]⟩, ⟨#[]⟩, [⟨atomL, 0, 24⟩])
    else (s.extract 0 (endN s).1.toNat, s.extract ((endN s).1.toNat + 1) s.size, [])) from rfl)
  have HE := Lib.hid (show endN s = runN s.data.toList 0 (-1, decide (3 ≤ (s.size : Int)) && decide ((s.size : Int) ≤ 64)) from rfl)
  have hg0 : (3 ≤ (s.size : Int) ∧ (decide (3 ≤ (s.size : Int)) && decide ((s.size : Int) ≤ 64)) = decide ((s.size : Int) ≤ 64)) ∨ (¬ 3 ≤ (s.size : Int) ∧ (decide (3 ≤ (s.size : Int)) && decide ((s.size : Int) ≤ 64)) = false) := by
    by_cases h : 3 ≤ (s.size : Int)
    · exact .inl ⟨h, by simp [h]⟩
    · exact .inr ⟨h, by simp [h]⟩
  generalize hgg : (decide (3 ≤ (s.size : Int)) && decide ((s.size : Int) ≤ 64)) = g0 at *
  clear hgg
  rcases hg0 with ⟨h3, hg⟩ | ⟨h3, hg⟩
  all_goals
    have HG := Lib.hid hg
    clear hg
    go_enter Tryd.func47, Tryd.ntmps47
    go_wp2_with fail
    go_loop [5, 6, 7] (fun a g i => ∃ k : Nat, k ≤ s.size ∧ i = .int .i64 k ∧ a = .int .i64 (runN (s.data.toList.take k) 0 (-1, g0)).1 ∧ g = .bool (runN (s.data.toList.take k) 0 (-1, g0)).2) (fun _ _ i => s.size - (intOf i).toNat)
    case atStart => exact ⟨0, Nat.zero_le _, rfl, rfl, by rw [HG.out]; rfl⟩
    case round =>
      clear HG
      obtain ⟨k, hk, rfl, rfl, rfl⟩ := hrel
      have hbd := runN_bd (s.data.toList.take k) 0 (-1, g0) (by simp) (by simp)
      have hlen : (s.data.toList.take k).length ≤ k := List.length_take_le _ _
      by_cases hlt : k < s.size
      · have hki : (k : Int) < (s.size : Int) := by omega
        have hnx := Lib.hid (runN_snoc s k hlt (-1, g0))
        generalize runN (s.data.toList.take k) 0 (-1, g0) = st at *
        obtain ⟨a, g⟩ := st
        have hsc : s[k].toNat < 256 := s[k].toNat_lt
        clear HE HFin
        simp only at hbd
        by_cases c64 : ((s[k].toNat : Int) == 64) = true
        · have P : ∀ b, (a < 0 → b = g) → (¬ a < 0 → b = false) → stepN (a, g) k s[k] = ((k : Int), b) := by
            intro b h1 h2
            unfold stepN
            rw [if_pos c64]
            by_cases ha : a < 0
            · rw [h1 ha]; simp [ha]
            · rw [h2 ha]; simp [ha]
          have HP := Lib.hid P
          clear P
          cases g with
          | false =>
            go_wp2
            go_round
            case rel => exact ⟨k + 1, by omega, by go_num, by rw [hnx.out, HP.out false (fun _ => rfl) (fun _ => rfl)], by rw [hnx.out, HP.out false (fun _ => rfl) (fun _ => rfl)]⟩
            case measure => simp [intOf]; omega
          | true =>
            by_cases ha : a < 0
            · have HA := Lib.hid (HP.out true (fun _ => rfl) (fun h => absurd ha h))
              go_wp2
              go_round
              case rel => exact ⟨k + 1, by omega, by go_num, by rw [hnx.out, HA.out], by rw [hnx.out, HA.out]⟩
              case measure => simp [intOf]; omega
            · have HA := Lib.hid (HP.out false (fun h => absurd h ha) (fun _ => rfl))
              go_wp2
              go_round
              case rel => exact ⟨k + 1, by omega, by go_num, by rw [hnx.out, HA.out], by rw [hnx.out, HA.out]⟩
              case measure => simp [intOf]; omega
        · have P : stepN (a, g) k s[k] = (a, g && ((kindS (s[k].toNat : Int) != 0) || ((s[k].toNat : Int) == 45) || (((s[k].toNat : Int) == 46) && decide (0 ≤ a)))) := by
            unfold stepN
            rw [if_neg c64]
          have HP := Lib.hid P
          have c64' : ((s[k].toNat : Int) == 64) = false := by simpa using c64
          clear P c64
          cases g with
          | false =>
            go_wp2
            go_round
            case rel => exact ⟨k + 1, by omega, by go_num, by rw [hnx.out, HP.out], by rw [hnx.out, HP.out]; rfl⟩
            case measure => simp [intOf]; omega
          | true =>
            have HKD := Lib.hid (fun w => inWord_any (s[k].toNat : Int) w)
            by_cases c1 : (kindS (s[k].toNat : Int) != 0) = true
            · go_wp2_with (go_at_call 72; refine (HKD.out _).mono ?_; rintro e w3 ⟨rfl, rfl⟩)
              go_round
              case rel => exact ⟨k + 1, by omega, by go_num, by rw [hnx.out, HP.out], by rw [hnx.out, HP.out, c1]; rfl⟩
              case measure => simp [intOf]; omega
            · have c1' : (kindS (s[k].toNat : Int) != 0) = false := by simpa using c1
              clear c1
              by_cases c2 : ((s[k].toNat : Int) == 45) = true
              · go_wp2_with (go_at_call 72; refine (HKD.out _).mono ?_; rintro e w3 ⟨rfl, rfl⟩)
                go_round
                case rel => exact ⟨k + 1, by omega, by go_num, by rw [hnx.out, HP.out], by rw [hnx.out, HP.out, c1', c2]; rfl⟩
                case measure => simp [intOf]; omega
              · have c2' : ((s[k].toNat : Int) == 45) = false := by simpa using c2
                clear c2
                by_cases c3 : ((s[k].toNat : Int) == 46) = true
                · by_cases ha : 0 ≤ a
                  · go_wp2_with (go_at_call 72; refine (HKD.out _).mono ?_; rintro e w3 ⟨rfl, rfl⟩)
                    go_round
                    case rel => exact ⟨k + 1, by omega, by go_num, by rw [hnx.out, HP.out], by rw [hnx.out, HP.out, c1', c2', c3, decide_eq_true ha]; rfl⟩
                    case measure => simp [intOf]; omega
                  · go_wp2_with (go_at_call 72; refine (HKD.out _).mono ?_; rintro e w3 ⟨rfl, rfl⟩)
                    go_round
                    case rel => exact ⟨k + 1, by omega, by go_num, by rw [hnx.out, HP.out], by rw [hnx.out, HP.out, c1', c2', c3]; simp⟩
                    case measure => simp [intOf]; omega
                · have c3' : ((s[k].toNat : Int) == 46) = false := by simpa using c3
                  clear c3
                  go_wp2_with (go_at_call 72; refine (HKD.out _).mono ?_; rintro e w3 ⟨rfl, rfl⟩)
                  go_round
                  case rel => exact ⟨k + 1, by omega, by go_num, by rw [hnx.out, HP.out], by rw [hnx.out, HP.out, c1', c2', c3']; rfl⟩
                  case measure => simp [intOf]; omega
      · have hkn : ¬ (k : Int) < (s.size : Int) := by omega
        have hek : k = s.size := by omega
        rw [show (s.data.toList.take k) = s.data.toList from List.take_of_length_le (by simp; omega)] at hbd ⊢
        have HEE := HE.out
        have hF := HFin.out
        rw [HEE] at hF
        generalize runN s.data.toList 0 (-1, g0) = st at *
        obtain ⟨a, g⟩ := st
        simp only at hbd hF
        have ha1 : a < s.size := by have := hbd.2; simp at this; omega
        have HF := Lib.hid hF
        clear hF HEE HE HFin hek
        cases g with
        | false =>
          go_wp2_with (go_at_call 64; refine (no01_any _ _ _).mono ?_; rintro e w4 ⟨lv, rfl, hlk, hb⟩)
          go_ret3
          rw [HF.out]
          exact ⟨_, rfl, hlk, hb⟩
        | true =>
          by_cases c1 : a < 1
          · have HF2 := Lib.hid (show nodeRS s = (⟨#[]⟩, ⟨#[]⟩, [⟨atomL, 0, 24⟩]) by rw [HF.out]; simp [c1])
            clear HF
            go_wp2_with (go_at_call 64; refine (no01_any _ _ _).mono ?_; rintro e w4 ⟨lv, rfl, hlk, hb⟩)
            go_ret3
            rw [HF2.out]
            exact ⟨_, rfl, hlk, hb⟩
          · by_cases c2 : (a == (s.size : Int) - 1) = true
            · have HF2 := Lib.hid (show nodeRS s = (⟨#[]⟩, ⟨#[]⟩, [⟨atomL, 0, 24⟩]) by rw [HF.out]; simp [c2])
              clear HF
              go_wp2_with (go_at_call 64; refine (no01_any _ _ _).mono ?_; rintro e w4 ⟨lv, rfl, hlk, hb⟩)
              go_ret3
              rw [HF2.out]
              exact ⟨_, rfl, hlk, hb⟩
            · have c2' : (a == (s.size : Int) - 1) = false := by simpa using c2
              have HF2 := Lib.hid (show nodeRS s = (s.extract 0 a.toNat, s.extract (a.toNat + 1) s.size, []) by rw [HF.out]; simp [c2', c1])
              have c3 : a ≠ (s.size : Int) - 1 := by simpa using c2
              obtain ⟨n, rfl⟩ : ∃ n : Nat, a = n := ⟨a.toNat, by omega⟩
              have hn1 : n + 1 ≤ s.size := by omega
              have hn2 : (n : Int) + 1 ≤ (s.size : Int) := by omega
              have hn3 : (n : Int) ≤ (s.size : Int) := by omega
              have hn4 : (0 : Int) ≤ (n : Int) := by omega
              have hnw := show IntKind.i64.wrap ((n : Int) + 1) = (n : Int) + 1 from IntWalk.i64_in _ (by omega)
              have hs1 := fun w => run_slice_string_to (P := Tryd.prog) Tryd.underlying9 s n (by omega) w
              have hs2 := fun w => run_slice_string_from (P := Tryd.prog) Tryd.underlying9 s (n + 1) (by omega) w
              clear HF c2 c3 hbd
              go_wp2
              go_quiet (fail)
              go_wp2
              go_ret3
              rw [HF2.out]
              exact ⟨_, rfl, LinksIs.nil _ _, below_drewN (Below.refl _ _) _⟩
end Go.Proofs.YtdafikemndaeeaaDoor
