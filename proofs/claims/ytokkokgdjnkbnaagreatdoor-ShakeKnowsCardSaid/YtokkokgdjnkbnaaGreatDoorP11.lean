/- Texts laid together: MixA, MixB. -/
import Derived.Test.YtokkokgdjnkbnaaGreatDoorP7
import Derived.Lib.OthersKept
import Derived.Lib.RuneCountTail
import Derived.Lib.RuneCount
import Derived.Lib.DecodeN
section
/- Package mix and its reference: what a cookie is. -/
open Go Go.RowKit
namespace Go.Proofs.YtokkokgdjnkbnaaGreatDoor

/-- the layer's name: mix -/
def mixL : ByteArray := ⟨#[109, 105, 120]⟩
theorem refusedM_any (at_ code : Int) (w : World) :
    Calls Tryz.prog 94 #[.int .i64 at_, .int .i64 code] w fun e w' => ∃ ev, e = .returned ev ∧ ErrIs w' ev [⟨mixL, at_, code⟩] ∧ Below w.heap.size w w' := by
  go_enter Tryz.func94, Tryz.ntmps94
  go_wp2
  go_ret
  exact ⟨_, rfl, ErrIs.one, (Below.refl _ _).alloc (Nat.le_refl _) _⟩
theorem no07_any (at_ code : Int) (w : World) :
    Calls Tryz.prog 78 #[.int .i64 at_, .int .i64 code] w fun e w' => ∃ v, e = .returned v ∧ LinksIs w.heap.size v [⟨mixL, at_, code⟩] w' ∧ Below w.heap.size w w' := by
  go_enter Tryz.func78, Tryz.ntmps78
  go_wp2_with (go_at_call 41; refine (one_any _ _ _ _).mono ?_; rintro e w' ⟨rfl, rfl⟩)
  go_ret
  exact ⟨_, rfl, LinksIs.lit ⟨mixL, at_, code⟩ (Nat.le_refl _), (Below.refl _ _).alloc (Nat.le_refl _) _⟩

/-- a byte that a cookie may have, at its place -/
def okC (c : UInt8) (p : Nat) : Bool := decide (p < 255) && decide (33 ≤ c.toNat) && decide (c.toNat ≤ 126)
/-- the first place of a byte that may not be there; below 0: there is none -/
def cookGo (s : ByteArray) : Nat → Nat → Int
  | 0, _ => -1
  | f + 1, p => if h : p < s.size then (if okC s[p] p then cookGo s f (p + 1) else p) else -1
def cookieS (s : ByteArray) : List Lk :=
  if s.size = 0 then [⟨mixL, 0, 140⟩] else if 0 ≤ cookGo s s.size 0 then [⟨mixL, cookGo s s.size 0, 140⟩] else []
theorem cookGo_end (s : ByteArray) (f p : Nat) (h : ¬ p < s.size) : cookGo s f p = -1 := by
  cases f with
  | zero => rfl
  | succ f => rw [cookGo, dif_neg h]
theorem cookGo_bad (s : ByteArray) (f p : Nat) (h : p < s.size) (hb : okC s[p] p = false) : cookGo s (f + 1) p = p := by rw [cookGo, dif_pos h, hb]; rfl
theorem cookGo_good (s : ByteArray) (f p : Nat) (h : p < s.size) (hb : okC s[p] p = true) : cookGo s (f + 1) p = cookGo s f (p + 1) := by rw [cookGo, dif_pos h, hb]; rfl

theorem decode_small (s : ByteArray) (p : Nat) (h : p < s.size) (hc : s[p].toNat < 128) : Utf8.decode s p = (s[p].toNat, 1) := by
  rw [Lib.decode_at]
  have : s.get! p = s[p] := by simp [ByteArray.get!, getElem!_pos, h]; rfl
  rw [this]
  unfold Lib.decodeN
  rw [if_pos hc]
theorem decode_large (s : ByteArray) (p : Nat) (h : p < s.size) (hc : 128 ≤ s[p].toNat) : 128 ≤ (Utf8.decode s p).1 := by
  rw [Lib.decode_at]
  have : s.get! p = s[p] := by simp [ByteArray.get!, getElem!_pos, h]; rfl
  rw [this]
  unfold Lib.decodeN
  rw [if_neg (by omega)]
  (repeat' split) <;> simp only [] <;> omega
end Go.Proofs.YtokkokgdjnkbnaaGreatDoor
end
section
/- Package mix and its reference: Cookie. -/
open Go Go.RowKit
namespace Go.Proofs.YtokkokgdjnkbnaaGreatDoor

theorem below_iter2 {B : Nat} {a w : World} (h : Below B a w) (hB : B ≤ w.heap.size) (s : ByteArray) (p : Nat) : Below B a (w.iter s p) := h.alloc hB _
set_option maxHeartbeats 4000000 in
set_option maxRecDepth 1000000 in
theorem cookie_any (s : ByteArray) (w : World) :
    Calls Tryz.prog 87 #[.string s] w fun e w' => ∃ ev, e = .returned ev ∧ ErrIs w' ev (cookieS s) ∧ Below w.heap.size w w' := by
  by_cases h0 : s.size = 0
  · obtain rfl : s = ⟨#[]⟩ := ByteArray.size_eq_zero_iff.1 h0
    have hnx : ∀ wr ty, wr.heap[w.heap.size]? = some (.stringIter ⟨#[]⟩ 0) → (Instr.next (.pointer (some ⟨w.heap.size, 0, none⟩)) true ty).run Tryz.prog wr = _ := fun wr ty hit => Lib.run_next_end_at wr w.heap.size ⟨#[]⟩ 0 ty hit (by decide)
    have hnx1 := fun ty => hnx _ ty (World.iter_heap w ⟨#[]⟩ 0)
    clear hnx
    go_enter Tryz.func87, Tryz.ntmps87
    go_wp2
    refine wp_loop_rounds 1 ?_
    rw [rounds_succ]
    go_wp2_with (go_at_call 94; refine (refusedM_any _ _ _).mono ?_; rintro e w' ⟨ev, rfl, her, hb⟩)
    go_ret
    exact ⟨_, rfl, her, (below_iter2 (Below.refl _ w) (Nat.le_refl _) _ _).trans (hb.mono (by simp [World.iter]))⟩
  go_enter Tryz.func87, Tryz.ntmps87
  go_wp2
  go_loopw [3] (fun v wr => ∃ (pos fuel : Nat), v = .int .i64 (-1) ∧ wr.heap[w.heap.size]? = some (.stringIter s pos) ∧ Below w.heap.size w wr ∧ cookGo s fuel pos = cookGo s s.size 0 ∧ s.size ≤ pos + fuel ∧ pos ≤ 255) (fun _ wr => s.size - wr.iterPos w.heap.size)
  case atStart =>
    exact ⟨0, s.size, rfl, World.iter_heap w s 0, below_iter2 (Below.refl _ w) (Nat.le_refl _) s 0, rfl, by omega, by omega⟩
  case round =>
    obtain ⟨pos, fuel, rfl, hit, hbw, hacc, hfu, hp255⟩ := hrel
    have hsz : w.heap.size < wr.heap.size := (Array.getElem?_eq_some_iff.1 hit).1
    have hne : s.toList.isEmpty = false := by
      rw [toList_data]
      cases h : s.data.toList with
      | nil => exact absurd (by simpa using congrArg List.length h) h0
      | cons a b => rfl
    by_cases hp : pos < s.size
    · have hnx : ∀ ty, (Instr.next (.pointer (some ⟨w.heap.size, 0, none⟩)) true ty).run Tryz.prog wr = _ := fun ty => Lib.run_next_any_at wr w.heap.size s pos ty hit hp
      have hwd := Lib.decode_width_pos s pos hp
      have hit2 := Lib.iterAt_heap wr w.heap.size s pos (pos + (Utf8.decode s pos).2) hit
      have hbw2 := Lib.below_iterAt hbw (k := w.heap.size) (by omega) s (pos + (Utf8.decode s pos).2)
      obtain ⟨f, rfl⟩ : ∃ f, fuel = f + 1 := ⟨fuel - 1, by omega⟩
      have hsmall := decode_small s pos hp
      have hlarge := decode_large s pos hp
      have hbad := cookGo_bad s f pos hp
      have hgood := cookGo_good s f pos hp
      generalize hdd : Utf8.decode s pos = d at *
      obtain ⟨c, n⟩ := d
      simp only at *
      have fin : okC s[pos] pos = false → cookieS s = [⟨mixL, pos, 140⟩] := fun h => by
        have := hacc.symm.trans (hbad h)
        unfold cookieS
        rw [if_neg h0, this, if_pos (by omega)]
      by_cases h1 : 255 ≤ pos
      · have hf := Lib.hid (fin (by simp [okC]; omega))
        have h1' : (255 : Int) ≤ pos := by omega
        clear hdd hsmall hlarge hbad hgood fin hacc h1
        go_wp2_with (go_at_call 94; refine (refusedM_any _ _ _).mono ?_; rintro e w' ⟨ev, rfl, her, hb⟩)
        go_ret
        rw [hf.out]
        exact ⟨_, rfl, her, hbw2.trans (hb.mono (by rw [Lib.iterAt_size]; omega))⟩
      by_cases h2 : s[pos].toNat < 33
      · have hf := Lib.hid (fin (by simp [okC]; omega))
        have hc := hsmall (by omega)
        have h1' : ¬ (255 : Int) ≤ pos := by omega
        have h2' : (c : Int) < 33 := by have := congrArg Prod.fst hc; simp at this; omega
        clear hc
        clear hdd hsmall hlarge hbad hgood fin hacc h1 h2
        go_wp2_with (go_at_call 94; refine (refusedM_any _ _ _).mono ?_; rintro e w' ⟨ev, rfl, her, hb⟩)
        go_ret
        rw [hf.out]
        exact ⟨_, rfl, her, hbw2.trans (hb.mono (by rw [Lib.iterAt_size]; omega))⟩
      by_cases h3 : 126 < s[pos].toNat
      · have hf := Lib.hid (fin (by simp [okC]; omega))
        have hc : 126 < c := by
          by_cases h4 : s[pos].toNat < 128
          · have := congrArg Prod.fst (hsmall h4); simp at this; omega
          · have := hlarge (by omega); omega
        have h1' : ¬ (255 : Int) ≤ pos := by omega
        have h2' : ¬ (c : Int) < 33 := by omega
        have h3' : (126 : Int) < c := by omega
        clear hc
        clear hdd hsmall hlarge hbad hgood fin hacc h1 h2 h3
        go_wp2_with (go_at_call 94; refine (refusedM_any _ _ _).mono ?_; rintro e w' ⟨ev, rfl, her, hb⟩)
        go_ret
        rw [hf.out]
        exact ⟨_, rfl, her, hbw2.trans (hb.mono (by rw [Lib.iterAt_size]; omega))⟩
      have hc := hsmall (by omega)
      have hg := Lib.hid ((hgood (by simp [okC]; omega)).symm.trans hacc)
      have h1' : ¬ (255 : Int) ≤ pos := by omega
      have h2' : ¬ (c : Int) < 33 := by have := congrArg Prod.fst hc; simp at this; omega
      have h3' : ¬ (126 : Int) < c := by have := congrArg Prod.fst hc; simp at this; omega
      obtain rfl : n = 1 := by have := congrArg Prod.snd hc; simpa using this
      clear hdd hsmall hlarge hbad hgood fin hacc hc h2 h3
      go_wp2
      go_roundw
      case rel => exact ⟨pos + 1, f, rfl, hit2, hbw2, hg.out, by omega, by omega⟩
      case measure =>
        simp only [World.iterPos, hit2, hit]
        omega
    · have hnx : ∀ ty, (Instr.next (.pointer (some ⟨w.heap.size, 0, none⟩)) true ty).run Tryz.prog wr = _ := fun ty => Lib.run_next_end_at wr w.heap.size s pos ty hit hp
      have hf : Hid (cookieS s = []) := Lib.hid (by
        unfold cookieS
        rw [if_neg h0, ← hacc, cookGo_end s fuel pos hp]; rfl)
      clear hacc
      go_wp2
      go_ret
      rw [hf.out]
      exact ⟨_, rfl, rfl, hbw⟩

set_option maxHeartbeats 4000000 in
set_option maxRecDepth 1000000 in
theorem cookieR_any (s : ByteArray) (w : World) :
    Calls Tryz.prog 59 #[.string s] w fun e w' => ∃ v, e = .returned v ∧ LinksIs w.heap.size v (cookieS s) w' ∧ Below w.heap.size w w' := by
  by_cases h0 : s.size = 0
  · obtain rfl : s = ⟨#[]⟩ := ByteArray.size_eq_zero_iff.1 h0
    go_enter Tryz.func59, Tryz.ntmps59
    go_wp2_with (go_at_call 78; refine (no07_any _ _ _).mono ?_; rintro e w' ⟨v, rfl, hl, hb⟩)
    go_ret
    exact ⟨_, rfl, hl, hb⟩
  have hne : s.toList.isEmpty = false := by
    rw [toList_data]
    cases h : s.data.toList with
    | nil => exact absurd (by simpa using congrArg List.length h) h0
    | cons a b => rfl
  go_enter Tryz.func59, Tryz.ntmps59
  go_wp2
  go_loop [3] (fun v => ∃ (pos fuel : Nat), v = .int .i64 pos ∧ cookGo s fuel pos = cookGo s s.size 0 ∧ s.size ≤ pos + fuel ∧ pos ≤ 255 ∧ pos ≤ s.size) (fun v => s.size - (intOf v).toNat)
  case atStart => exact ⟨0, s.size, rfl, rfl, by omega, by omega, by omega⟩
  case round =>
    obtain ⟨pos, fuel, rfl, hacc, hfu, hp255, hps⟩ := hrel
    by_cases hp : pos < s.size
    · have hpi : (pos : Int) < (s.size : Int) := by omega
      obtain ⟨f, rfl⟩ : ∃ f, fuel = f + 1 := ⟨fuel - 1, by omega⟩
      have hbad := cookGo_bad s f pos hp
      have hgood := cookGo_good s f pos hp
      have fin : okC s[pos] pos = false → cookieS s = [⟨mixL, pos, 140⟩] := fun h => by
        have := hacc.symm.trans (hbad h)
        unfold cookieS
        rw [if_neg h0, this, if_pos (by omega)]
      by_cases h1 : pos = 255
      · have hf := Lib.hid (fin (by simp [okC]; omega))
        clear hbad hgood fin hacc
        subst h1
        go_wp2_with (go_at_call 78; refine (no07_any _ _ _).mono ?_; rintro e w' ⟨v, rfl, hl, hb⟩)
        go_ret
        rw [hf.out]
        exact ⟨_, rfl, hl, hb⟩
      have h1' : ((pos : Int) == 255) = false := by simp; omega
      by_cases h2 : s[pos].toNat < 33
      · have hf := Lib.hid (fin (by simp [okC]; omega))
        have h2' : (s[pos].toNat : Int) < 33 := by omega
        clear hbad hgood fin hacc h1 h2
        go_wp2_with (go_at_call 78; refine (no07_any _ _ _).mono ?_; rintro e w' ⟨v, rfl, hl, hb⟩)
        go_ret
        rw [hf.out]
        exact ⟨_, rfl, hl, hb⟩
      have h2' : ¬ (s[pos].toNat : Int) < 33 := by omega
      by_cases h3 : 126 < s[pos].toNat
      · have hf := Lib.hid (fin (by simp [okC]; omega))
        have h3' : (126 : Int) < s[pos].toNat := by omega
        clear hbad hgood fin hacc h1 h2 h3
        go_wp2_with (go_at_call 78; refine (no07_any _ _ _).mono ?_; rintro e w' ⟨v, rfl, hl, hb⟩)
        go_ret
        rw [hf.out]
        exact ⟨_, rfl, hl, hb⟩
      have h3' : ¬ (126 : Int) < s[pos].toNat := by omega
      have hg := Lib.hid ((hgood (by simp [okC]; omega)).symm.trans hacc)
      clear hbad hgood fin hacc h2 h3
      go_wp2
      go_round
      case rel => exact ⟨pos + 1, f, by simp, hg.out, by omega, by omega, by omega⟩
      case measure => simp [intOf]; omega
    · have hpi : ¬ (pos : Int) < (s.size : Int) := by omega
      have hf : Hid (cookieS s = []) := Lib.hid (by
        unfold cookieS
        rw [if_neg h0, ← hacc, cookGo_end s fuel pos hp]; rfl)
      clear hacc
      go_wp2
      go_ret
      rw [hf.out]
      exact ⟨_, rfl, LinksIs.nil _ _, Below.refl _ _⟩
end Go.Proofs.YtokkokgdjnkbnaaGreatDoor
end
