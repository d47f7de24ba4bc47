/- Package mix and its reference: Cookie. -/
import Derived.Test.YtdafikemndaeeaaDoorMixA
open Go Go.RowKit
namespace Go.Proofs.YtdafikemndaeeaaDoor

theorem below_iter2 {B : Nat} {a w : World} (h : Below B a w) (hB : B ≤ w.heap.size) (s : ByteArray) (p : Nat) : Below B a (w.iter s p) := h.alloc hB _
set_option maxHeartbeats 4000000 in
set_option maxRecDepth 1000000 in
theorem cookie_any (s : ByteArray) (w : World) :
    Calls Tryd.prog 44 #[.string s] w fun e w' => ∃ ev, e = .returned ev ∧ ErrIs w' ev (cookieS s) ∧ Below w.heap.size w w' := by
  by_cases h0 : s.size = 0
  · obtain rfl : s = ⟨#[]⟩ := ByteArray.size_eq_zero_iff.1 h0
    have hnx : ∀ wr ty, wr.heap[w.heap.size]? = some (.stringIter ⟨#[]⟩ 0) → (Instr.next (.pointer (some ⟨w.heap.size, 0, none⟩)) true ty).run Tryd.prog wr = _ := fun wr ty hit => Lib.run_next_end_at wr w.heap.size ⟨#[]⟩ 0 ty hit (by decide)
    have hnx1 := fun ty => hnx _ ty (World.iter_heap w ⟨#[]⟩ 0)
    clear hnx
    go_enter Tryd.func44, Tryd.ntmps44
    go_wp2
    refine wp_loop_rounds 1 ?_
    rw [rounds_succ]
    go_wp2_with (go_at_call 62; refine (refusedM_any _ _ _).mono ?_; rintro e w' ⟨ev, rfl, her, hb⟩)
    go_ret
    exact ⟨_, rfl, her, (below_iter2 (Below.refl _ w) (Nat.le_refl _) _ _).trans (hb.mono (by simp [World.iter]))⟩
  go_enter Tryd.func44, Tryd.ntmps44
  go_wp2
  go_loopw [3] (fun v wr => ∃ (pos fuel : Nat), v = .int .i64 (-1) ∧ wr.heap[w.heap.size]? = some (.stringIter s pos) ∧ Below w.heap.size w wr ∧ cookGo s fuel pos = cookGo s s.size 0 ∧ s.size ≤ pos + fuel ∧ pos ≤ 255) (fun _ wr => s.size - wr.iterPos w.heap.size)
  case atStart =>
    exact ⟨0, s.size, rfl, World.iter_heap w s 0, below_iter2 (Below.refl _ w) (Nat.le_refl _) s 0, rfl, by omega, by omega⟩
  case round =>
    obtain ⟨pos, fuel, rfl, hit, hbw, hacc, hfu, hp255⟩ := hrel
    have hsz : w.heap.size < wr.heap.size := (Array.getElem?_eq_some_iff.1 hit).1
    have hne : s.toList.isEmpty = false := by
      rw [toList_data]
      cases h : s.data.toList with
      | nil => exact absurd (by simpa using congrArg List.length h) h0
      | cons a b => rfl
    by_cases hp : pos < s.size
    · have hnx : ∀ ty, (Instr.next (.pointer (some ⟨w.heap.size, 0, none⟩)) true ty).run Tryd.prog wr = _ := fun ty => Lib.run_next_any_at wr w.heap.size s pos ty hit hp
      have hwd := Lib.decode_width_pos s pos hp
      have hit2 := Lib.iterAt_heap wr w.heap.size s pos (pos + (Utf8.decode s pos).2) hit
      have hbw2 := Lib.below_iterAt hbw (k := w.heap.size) (by omega) s (pos + (Utf8.decode s pos).2)
      obtain ⟨f, rfl⟩ : ∃ f, fuel = f + 1 := ⟨fuel - 1, by omega⟩
      have hsmall := decode_small s pos hp
      have hlarge := decode_large s pos hp
      have hbad := cookGo_bad s f pos hp
      have hgood := cookGo_good s f pos hp
      generalize hdd : Utf8.decode s pos = d at *
      obtain ⟨c, n⟩ := d
      simp only at *
      have fin : okC s[pos] pos = false → cookieS s = [⟨mixL, pos, 140⟩] := fun h => by
        have := hacc.symm.trans (hbad h)
        unfold cookieS
        rw [if_neg h0, this, if_pos (by omega)]
      by_cases h1 : 255 ≤ pos
      · have hf := Lib.hid (fin (by simp [okC]; omega))
        have h1' : (255 : Int) ≤ pos := by omega
        clear hdd hsmall hlarge hbad hgood fin hacc h1
        go_wp2_with (go_at_call 62; refine (refusedM_any _ _ _).mono ?_; rintro e w' ⟨ev, rfl, her, hb⟩)
        go_ret
        rw [hf.out]
        exact ⟨_, rfl, her, hbw2.trans (hb.mono (by rw [Lib.iterAt_size]; omega))⟩
      by_cases h2 : s[pos].toNat < 33
      · have hf := Lib.hid (fin (by simp [okC]; omega))
        have hc := hsmall (by omega)
        have h1' : ¬ (255 : Int) ≤ pos := by omega
        have h2' : (c : Int) < 33 := by have := congrArg Prod.fst hc; simp at this; omega
        clear hc
        clear hdd hsmall hlarge hbad hgood fin hacc h1 h2
        go_wp2_with (go_at_call 62; refine (refusedM_any _ _ _).mono ?_; rintro e w' ⟨ev, rfl, her, hb⟩)
        go_ret
        rw [hf.out]
        exact ⟨_, rfl, her, hbw2.trans (hb.mono (by rw [Lib.iterAt_size]; omega))⟩
      by_cases h3 : 126 < s[pos].toNat
      · have hf := Lib.hid (fin (by simp [okC]; omega))
        have hc : 126 < c := by
          by_cases h4 : s[pos].toNat < 128
          · have := congrArg Prod.fst (hsmall h4); simp at this; omega
          · have := hlarge (by omega); omega
        have h1' : ¬ (255 : Int) ≤ pos := by omega
        have h2' : ¬ (c : Int) < 33 := by omega
        have h3' : (126 : Int) < c := by omega
        clear hc
        clear hdd hsmall hlarge hbad hgood fin hacc h1 h2 h3
        go_wp2_with (go_at_call 62; refine (refusedM_any _ _ _).mono ?_; rintro e w' ⟨ev, rfl, her, hb⟩)
        go_ret
        rw [hf.out]
        exact ⟨_, rfl, her, hbw2.trans (hb.mono (by rw [Lib.iterAt_size]; omega))⟩
      have hc := hsmall (by omega)
      have hg := Lib.hid ((hgood (by simp [okC]; omega)).symm.trans hacc)
      have h1' : ¬ (255 : Int) ≤ pos := by omega
      have h2' : ¬ (c : Int) < 33 := by have := congrArg Prod.fst hc; simp at this; omega
      have h3' : ¬ (126 : Int) < c := by have := congrArg Prod.fst hc; simp at this; omega
      obtain rfl : n = 1 := by have := congrArg Prod.snd hc; simpa using this
      clear hdd hsmall hlarge hbad hgood fin hacc hc h2 h3
      go_wp2
      go_roundw
      case rel => exact ⟨pos + 1, f, rfl, hit2, hbw2, hg.out, by omega, by omega⟩
      case measure =>
        simp only [World.iterPos, hit2, hit]
        omega
    · have hnx : ∀ ty, (Instr.next (.pointer (some ⟨w.heap.size, 0, none⟩)) true ty).run Tryd.prog wr = _ := fun ty => Lib.run_next_end_at wr w.heap.size s pos ty hit hp
      have hf : Hid (cookieS s = []) := Lib.hid (by
        unfold cookieS
        rw [if_neg h0, ← hacc, cookGo_end s fuel pos hp]; rfl)
      clear hacc
      go_wp2
      go_ret
      rw [hf.out]
      exact ⟨_, rfl, rfl, hbw⟩

set_option maxHeartbeats 4000000 in
set_option maxRecDepth 1000000 in
theorem cookieR_any (s : ByteArray) (w : World) :
    Calls Tryd.prog 25 #[.string s] w fun e w' => ∃ v, e = .returned v ∧ LinksIs w.heap.size v (cookieS s) w' ∧ Below w.heap.size w w' := by
  by_cases h0 : s.size = 0
  · obtain rfl : s = ⟨#[]⟩ := ByteArray.size_eq_zero_iff.1 h0
    go_enter Tryd.func25, Tryd.ntmps25
    go_wp2_with (go_at_call 61; refine (no07_any _ _ _).mono ?_; rintro e w' ⟨v, rfl, hl, hb⟩)
    go_ret
    exact ⟨_, rfl, hl, hb⟩
  have hne : s.toList.isEmpty = false := by
    rw [toList_data]
    cases h : s.data.toList with
    | nil => exact absurd (by simpa using congrArg List.length h) h0
    | cons a b => rfl
  go_enter Tryd.func25, Tryd.ntmps25
  go_wp2
  go_loop [3] (fun v => ∃ (pos fuel : Nat), v = .int .i64 pos ∧ cookGo s fuel pos = cookGo s s.size 0 ∧ s.size ≤ pos + fuel ∧ pos ≤ 255 ∧ pos ≤ s.size) (fun v => s.size - (intOf v).toNat)
  case atStart => exact ⟨0, s.size, rfl, rfl, by omega, by omega, by omega⟩
  case round =>
    obtain ⟨pos, fuel, rfl, hacc, hfu, hp255, hps⟩ := hrel
    by_cases hp : pos < s.size
    · have hpi : (pos : Int) < (s.size : Int) := by omega
      obtain ⟨f, rfl⟩ : ∃ f, fuel = f + 1 := ⟨fuel - 1, by omega⟩
      have hbad := cookGo_bad s f pos hp
      have hgood := cookGo_good s f pos hp
      have fin : okC s[pos] pos = false → cookieS s = [⟨mixL, pos, 140⟩] := fun h => by
        have := hacc.symm.trans (hbad h)
        unfold cookieS
        rw [if_neg h0, this, if_pos (by omega)]
      by_cases h1 : pos = 255
      · have hf := Lib.hid (fin (by simp [okC]; omega))
        clear hbad hgood fin hacc
        subst h1
        go_wp2_with (go_at_call 61; refine (no07_any _ _ _).mono ?_; rintro e w' ⟨v, rfl, hl, hb⟩)
        go_ret
        rw [hf.out]
        exact ⟨_, rfl, hl, hb⟩
      have h1' : ((pos : Int) == 255) = false := by simp; omega
      by_cases h2 : s[pos].toNat < 33
      · have hf := Lib.hid (fin (by simp [okC]; omega))
        have h2' : (s[pos].toNat : Int) < 33 := by omega
        clear hbad hgood fin hacc h1 h2
        go_wp2_with (go_at_call 61; refine (no07_any _ _ _).mono ?_; rintro e w' ⟨v, rfl, hl, hb⟩)
        go_ret
        rw [hf.out]
        exact ⟨_, rfl, hl, hb⟩
      have h2' : ¬ (s[pos].toNat : Int) < 33 := by omega
      by_cases h3 : 126 < s[pos].toNat
      · have hf := Lib.hid (fin (by simp [okC]; omega))
        have h3' : (126 : Int) < s[pos].toNat := by omega
        clear hbad hgood fin hacc h1 h2 h3
        go_wp2_with (go_at_call 61; refine (no07_any _ _ _).mono ?_; rintro e w' ⟨v, rfl, hl, hb⟩)
        go_ret
        rw [hf.out]
        exact ⟨_, rfl, hl, hb⟩
      have h3' : ¬ (126 : Int) < s[pos].toNat := by omega
      have hg := Lib.hid ((hgood (by simp [okC]; omega)).symm.trans hacc)
      clear hbad hgood fin hacc h2 h3
      go_wp2
      go_round
      case rel => exact ⟨pos + 1, f, by simp, hg.out, by omega, by omega, by omega⟩
      case measure => simp [intOf]; omega
    · have hpi : ¬ (pos : Int) < (s.size : Int) := by omega
      have hf : Hid (cookieS s = []) := Lib.hid (by
        unfold cookieS
        rw [if_neg h0, ← hacc, cookGo_end s fuel pos hp]; rfl)
      clear hacc
      go_wp2
      go_ret
      rw [hf.out]
      exact ⟨_, rfl, LinksIs.nil _ _, Below.refl _ _⟩
end Go.Proofs.YtdafikemndaeeaaDoor
