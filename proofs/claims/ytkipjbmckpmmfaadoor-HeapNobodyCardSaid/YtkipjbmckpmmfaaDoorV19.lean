/- Texts laid together: AtomC. -/
import Derived.Test.YtkipjbmckpmmfaaDoorV18
import Derived.Test.YtkipjbmckpmmfaaDoorShelf
import Derived.Lib.OthersKept
import Derived.Lib.RuneCountTail
import Derived.Lib.RuneCount
section
/- Package atom: the place of the first code point that is none. -/
open Go Go.RowKit
namespace Go.Proofs.YtkipjbmckpmmfaaDoor

/-- from a place on: the place of the first code point that is none; below 0: there is none -/
def utfGo (s : ByteArray) : Nat → Nat → Int
  | 0, _ => -1
  | f + 1, pos => if pos < s.size then (if (Utf8.decode s pos).1 = 65533 ∧ (Utf8.decode s pos).2 < 2 then (pos : Int) else utfGo s f (pos + (Utf8.decode s pos).2)) else -1
def utfS (s : ByteArray) : Int := utfGo s s.size 0

theorem utfGo_end (s : ByteArray) (f pos : Nat) (h : ¬ pos < s.size) : utfGo s f pos = -1 := by
  cases f with
  | zero => rfl
  | succ f => rw [utfGo, if_neg h]

theorem below_iter {B : Nat} {a w : World} (h : Below B a w) (hB : B ≤ w.heap.size) (s : ByteArray) (p : Nat) : Below B a (w.iter s p) := h.alloc hB _

theorem decodeGo_ext (s : ByteArray) (pos : Nat) (h : pos < s.size) : Lib.decodeGo (s.extract pos s.size) = Utf8.decode s pos := by
  unfold Lib.decodeGo
  rw [if_neg (by simp; omega), Lib.tail_decode]; rfl

set_option maxHeartbeats 4000000 in
set_option maxRecDepth 1000000 in
theorem strange_any (s : ByteArray) (w : World) (hT : Lib.Utf8Tabs 1 2 w) :
    Calls Tryd.prog 70 #[.string s] w fun e w' => e = .returned (.int .i64 (utfS s)) ∧ Below w.heap.size w w' := by
  go_enter Tryd.func70, Tryd.ntmps70
  go_wp2
  go_loopw [] (fun wr => ∃ (pos fuel : Nat), wr.heap[w.heap.size]? = some (.stringIter s pos) ∧ Below w.heap.size w wr ∧ utfGo s fuel pos = utfS s ∧ s.size ≤ pos + fuel) (fun wr => s.size - wr.iterPos w.heap.size)
  case atStart =>
    exact ⟨0, s.size, World.iter_heap w s 0, below_iter (Below.refl _ w) (Nat.le_refl _) s 0, rfl, by omega⟩
  case round =>
    obtain ⟨pos, fuel, hit, hbw, hacc, hfu⟩ := hrel
    have hsz : w.heap.size < wr.heap.size := (Array.getElem?_eq_some_iff.1 hit).1
    have HA := Lib.hid hacc
    clear hacc
    by_cases hp : pos < s.size
    · have hnx : ∀ ty, (Instr.next (.pointer (some ⟨w.heap.size, 0, none⟩)) true ty).run Tryd.prog wr = _ := fun ty => Lib.run_next_any_at wr w.heap.size s pos ty hit hp
      have hwd := Lib.decode_width_pos s pos hp
      have hd1 := decode_le s pos
      have hit2 := Lib.iterAt_heap wr w.heap.size s pos (pos + (Utf8.decode s pos).2) hit
      have hbw2 := Lib.below_iterAt hbw (k := w.heap.size) (by omega) s (pos + (Utf8.decode s pos).2)
      obtain ⟨f, rfl⟩ : ∃ f, fuel = f + 1 := ⟨fuel - 1, by omega⟩
      have hu := HA.out
      rw [utfGo, if_pos hp] at hu
      generalize hdd : Utf8.decode s pos = d at *
      obtain ⟨c, n⟩ := d
      simp only at *
      by_cases hc : c = 65533
      · subst hc
        have hT2 := Utf8Tabs_below hT hbw2
        have hcall := Tryd.utf8_DecodeRuneInString (s.extract pos s.size) _ hT2
        rw [decodeGo_ext s pos hp, hdd] at hcall
        have HC := Lib.hid hcall
        have HU := Lib.hid hu
        have HD := Lib.hid hdd
        clear hcall hu hdd HA
        by_cases hn : n < 2
        · have hnb : (n : Int) < 2 := by omega
          go_wp2_with (go_at_call 75; refine HC.out.mono ?_; rintro e w1 ⟨rfl, hb1⟩)
          go_ret
          have := HU.out
          rw [if_pos ⟨trivial, hn⟩] at this
          exact ⟨ret_int this, hbw2.trans (hb1.mono (by rw [Lib.iterAt_size]; omega))⟩
        · have hnb : ¬ (n : Int) < 2 := by omega
          go_wp2_with (go_at_call 75; refine HC.out.mono ?_; rintro e w1 ⟨rfl, hb1⟩)
          have hit3 : w1.heap[w.heap.size]? = some (.stringIter s (pos + n)) := (hb1.block _ (by rw [Lib.iterAt_size]; exact hsz)).trans hit2
          go_roundw
          case rel =>
            have := HU.out
            rw [if_neg (fun h => hn h.2)] at this
            exact ⟨pos + n, f, hit3, hbw2.trans (hb1.mono (by rw [Lib.iterAt_size]; omega)), this, by omega⟩
          case measure =>
            simp only [World.iterPos, hit3, hit]
            omega
      · have hcb : (((c : Nat) : Int) == 65533) = false := by simp; omega
        rw [if_neg (fun h => hc h.1)] at hu
        have HU := Lib.hid hu
        clear hu hdd HA
        go_wp2
        go_roundw
        case rel =>
          refine ⟨pos + n, f, hit2, hbw2, HU.out, by omega⟩
        case measure =>
          simp only [World.iterPos, hit2, hit]
          omega
    · have hnx : ∀ ty, (Instr.next (.pointer (some ⟨w.heap.size, 0, none⟩)) true ty).run Tryd.prog wr = _ := fun ty => Lib.run_next_end_at wr w.heap.size s pos ty hit hp
      go_wp2
      go_ret
      have := HA.out
      rw [utfGo_end s fuel pos hp] at this
      exact ⟨ret_int this, hbw⟩
end Go.Proofs.YtkipjbmckpmmfaaDoor
end
