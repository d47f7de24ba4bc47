/- Texts laid together: AtomD, AtomE. -/
import Derived.Test.YtkipjbmckpmmfaaDoorV19
import Derived.Test.YtkipjbmckpmmfaaDoorV5
import Derived.Deep.DeepMust
import Derived.Deep.DeepFit
import Derived.Deep.RegionLaw
import Derived.StillTailTactics
import Derived.Test.YtkipjbmckpmmfaaDoorV3
section
/- Package atom: Quote. -/
open Go Go.RowKit
namespace Go.Proofs.YtkipjbmckpmmfaaDoor

def hexL : List UInt8 := [48, 49, 50, 51, 52, 53, 54, 55, 56, 57, 97, 98, 99, 100, 101, 102]
def hexD (n : Nat) : UInt8 := hexL.getD n 0
/-- a byte as it stands in quotes -/
def quoteByteS (c : UInt8) : List UInt8 :=
  if c = 39 ∨ c = 92 then [92, c] else if c = 10 then [92, 110] else if c = 9 then [92, 116] else if c = 13 then [92, 114]
  else if c.toNat < 32 ∨ c = 127 then [92, 120, hexD (c.toNat / 16), hexD (c.toNat % 16)] else [c]
def quoteBodyS (l : List UInt8) : List UInt8 := l.flatMap quoteByteS

theorem quoteByteS_le (c : UInt8) : (quoteByteS c).length ≤ 4 := by
  unfold quoteByteS
  (repeat' split) <;> simp
theorem quoteBodyS_le (l : List UInt8) : (quoteBodyS l).length ≤ 4 * l.length := by
  induction l with
  | nil => simp [quoteBodyS]
  | cons c l ih => 
    have := quoteByteS_le c
    simp only [quoteBodyS, List.flatMap_cons, List.length_append, List.length_cons] at *
    omega
theorem quoteBodyS_snoc (l : List UInt8) (c : UInt8) : 39 :: quoteBodyS (l ++ [c]) = (39 :: quoteBodyS l) ++ quoteByteS c := by
  simp [quoteBodyS]

def hexI (x : Int) : Int := ((hexD x.toNat).toNat : Int)
theorem hex_index (x : Int) (h0 : 0 ≤ x) (h1 : x < 16) (w : World) :
    (Instr.index 9 (.string ⟨#[48, 49, 50, 51, 52, 53, 54, 55, 56, 57, 97, 98, 99, 100, 101, 102]⟩) (.int .u8 x)).run Tryd.prog w = .ok (.int .u8 (hexI x)) w := by
  have hx : x = 0 ∨ x = 1 ∨ x = 2 ∨ x = 3 ∨ x = 4 ∨ x = 5 ∨ x = 6 ∨ x = 7 ∨ x = 8 ∨ x = 9 ∨ x = 10 ∨ x = 11 ∨ x = 12 ∨ x = 13 ∨ x = 14 ∨ x = 15 := by omega
  clear h0 h1
  rcases hx with rfl | rfl | rfl | rfl | rfl | rfl | rfl | rfl | rfl | rfl | rfl | rfl | rfl | rfl | rfl | rfl
  all_goals
    show @Eq (Result Value) _ _
    kernel_rfl
theorem and15 (x : Int) (h0 : 0 ≤ x) (h1 : x < 256) : bits BinOp.and IntKind.u8 x 15 = x % 16 := by
  obtain ⟨a, rfl⟩ := Int.eq_ofNat_of_zero_le h0
  have key : ∀ a : Fin 256, bits BinOp.and IntKind.u8 ((a.val : Nat) : Int) 15 = ((a.val : Nat) : Int) % 16 := by decide +kernel
  exact key ⟨a, by omega⟩

set_option maxHeartbeats 4000000 in
set_option maxRecDepth 100000 in
theorem quote_loop (s : ByteArray) (w : World) (hs : s.size ≤ 255) (hT : Lib.Utf8Tabs 1 2 w)
    (hu : utfS s = -1) (hp : plainS s.data.toList = false) :
    Calls Tryd.prog 66 #[.string s] w fun e w' => e = .returned (.tuple #[.string ⟨(39 :: (quoteBodyS s.data.toList ++ [39])).toArray⟩, .nilIface]) ∧ Below w.heap.size w w' := by
  have hst := strange_any s w hT
  rw [hu] at hst
  have hpl := fun w => plain_any s w (by unfold maxLen; omega)
  rw [hp] at hpl
  have HST := Lib.hid hst
  have HPL := Lib.hid hpl
  have hcv := fun w => Lib.run_convert_string_bytes (P := Tryd.prog) w 9 127 5 s Tryd.underlying9 Tryd.underlying127 Tryd.underlying5
  clear hst hpl hu hp
  go_enter Tryd.func66, Tryd.ntmps66
  go_wp2_with (first | (go_at_call 70; refine HST.out.mono ?_; rintro e w1 ⟨rfl, hb1⟩) | (go_at_call 71; refine (HPL.out _).mono ?_; rintro e w' ⟨rfl, rfl⟩))
  obtain ⟨B, hB⟩ : ∃ B, B = w'.heap.size := ⟨_, rfl⟩
  have hBle := hb1.size
  rw [← hB] at hBle
  rw [← hB]
  have HBE := Lib.hid hB
  clear hB
  go_loopw [5, 25] (fun b i wr => ∃ k : Nat, k ≤ s.size ∧ i = .int .i64 k ∧ BufIs B b (39 :: quoteBodyS (s.data.toList.take k)) wr ∧ ConvRow (B + 1) s wr ∧ Below w.heap.size w wr) (fun _ i _ => s.size - (intOf i).toNat)
  case atStart =>
    refine ⟨0, Nat.zero_le _, rfl, ?_, ?_, ?_⟩
    · exact HBE.out ▸ (BufIs.lit (w := w') [39] (Nat.le_refl _) (by decide)).bytesWorld _ s
    · have := ConvRow.mk (w'.alloc (Obj.cells #[Value.int IntKind.u8 39] 5)) s
      simpa [HBE.out] using this
    · exact below_bytesWorld (hb1.alloc (by have := hb1.size; omega) _) (by have := hb1.size; simp; omega) _ s
  case round =>
    obtain ⟨k, hk, rfl, hb, hc, hbl⟩ := hrel
    have hBw : B < wr.heap.size := by have := hc.lt; omega
    by_cases hlt : k < s.size
    · have hcell := hc.cell k hlt
      have hC := Lib.hid hc
      clear hc
      have htk := Lib.hid (show s.data.toList.take (k + 1) = s.data.toList.take k ++ [s[k]] by
        rw [List.take_succ_eq_append_getElem (by simpa using hlt)]; rfl)
      have hlen : (s.data.toList.take k).length = k := by rw [List.length_take]; simp; omega
      have HQ4 := Lib.hid (show (quoteBodyS (s.data.toList.take k)).length ≤ 1020 by have := quoteBodyS_le (s.data.toList.take k); omega)
      have HB := Lib.hid hb
      clear hlen hb
      generalize hcc : s[k] = c at *
      have hc256 : (c.toNat : Int) < 256 := by have := c.toNat_lt; omega
      by_cases c1 : c = 39 ∨ c = 92
      · have q := Lib.hid (show quoteByteS c = [92, c] by unfold quoteByteS; rw [if_pos c1])
        have hN := Lib.hid (show ∀ j, (h : j < [92, c].length) → (wr.alloc (Obj.cells #[Value.int IntKind.u8 92, Value.int IntKind.u8 ↑c.toNat] 5)).cell? ((⟨wr.heap.size, 0, none⟩ : Addr).add j) = some (byteV [92, c][j]) by
          intro j h; match j, h with | 0, _ => simp [Addr.add, byteV] | 1, _ => simp [Addr.add, byteV])
        have b1 : ((c.toNat : Int) == 39) = true ∨ ((c.toNat : Int) == 39) = false ∧ ((c.toNat : Int) == 92) = true := by
          by_cases h : c = 39
          · exact .inl (byte_eqb h)
          · exact .inr ⟨byte_neb h, byte_eqb (c1.resolve_left h)⟩
        clear c1 hc256
        rcases b1 with b1 | ⟨b1, b2⟩
        all_goals
          go_wp2_with (at_builtin; refine stop ?_)
          refine Stopped.of ?_
          refine wp_app_row rfl (.tmp 52) (.tmp 54) rfl B u5 (39 :: quoteBodyS (s.data.toList.take k)) rfl (HB.out.alloc _) ⟨wr.heap.size, 0, none⟩ 2 2 [92, c] rfl rfl hN.out (by have := HQ4.out; simp; omega) (by simp; omega) ?_
          intro v' w2 hb2 hg2
          go_wp2
          go_roundw
          case rel =>
            refine ⟨k + 1, by omega, by go_num, ?_, (hC.out.alloc _).grown (HB.out.alloc _) hg2, below_grown (hbl.alloc (by omega) _) (HB.out.alloc _) hBle (by simp; omega) hg2⟩
            rw [htk.out, quoteBodyS_snoc, q.out]; exact hb2
          case measure => simp [intOf]; omega
      have b1 : ((c.toNat : Int) == 39) = false := byte_neb (fun h => c1 (.inl h))
      have b2 : ((c.toNat : Int) == 92) = false := byte_neb (fun h => c1 (.inr h))
      by_cases c3 : c = 10
      · have q := Lib.hid (show quoteByteS c = [92, 110] by unfold quoteByteS; rw [if_neg c1, if_pos c3])
        have b3 : ((c.toNat : Int) == 10) = true := byte_eqb c3
        clear c1 c3 hc256
        go_wp2_with (at_builtin; refine stop ?_)
        refine Stopped.of ?_
        refine wp_app_str rfl (.tmp 58) _ rfl B u5 (39 :: quoteBodyS (s.data.toList.take k)) rfl HB.out ⟨#[92, 110]⟩ rfl (by have := HQ4.out; simp [ByteArray.size]; omega) (by omega) ?_
        intro v' w2 hb2 hg2
        go_wp2
        go_roundw
        case rel =>
          refine ⟨k + 1, by omega, by go_num, ?_, hC.out.grown HB.out hg2, below_grown hbl HB.out hBle (by omega) hg2⟩
          rw [htk.out, quoteBodyS_snoc, q.out]; exact hb2
        case measure => simp [intOf]; omega
      have b3 : ((c.toNat : Int) == 10) = false := byte_neb c3
      by_cases c4 : c = 9
      · have q := Lib.hid (show quoteByteS c = [92, 116] by unfold quoteByteS; rw [if_neg c1, if_neg c3, if_pos c4])
        have b4 : ((c.toNat : Int) == 9) = true := byte_eqb c4
        clear c1 c3 c4 hc256
        go_wp2_with (at_builtin; refine stop ?_)
        refine Stopped.of ?_
        refine wp_app_str rfl (.tmp 62) _ rfl B u5 (39 :: quoteBodyS (s.data.toList.take k)) rfl HB.out ⟨#[92, 116]⟩ rfl (by have := HQ4.out; simp [ByteArray.size]; omega) (by omega) ?_
        intro v' w2 hb2 hg2
        go_wp2
        go_roundw
        case rel =>
          refine ⟨k + 1, by omega, by go_num, ?_, hC.out.grown HB.out hg2, below_grown hbl HB.out hBle (by omega) hg2⟩
          rw [htk.out, quoteBodyS_snoc, q.out]; exact hb2
        case measure => simp [intOf]; omega
      have b4 : ((c.toNat : Int) == 9) = false := byte_neb c4
      by_cases c5 : c = 13
      · have q := Lib.hid (show quoteByteS c = [92, 114] by unfold quoteByteS; rw [if_neg c1, if_neg c3, if_neg c4, if_pos c5])
        have b5 : ((c.toNat : Int) == 13) = true := byte_eqb c5
        clear c1 c3 c4 c5 hc256
        go_wp2_with (at_builtin; refine stop ?_)
        refine Stopped.of ?_
        refine wp_app_str rfl (.tmp 66) _ rfl B u5 (39 :: quoteBodyS (s.data.toList.take k)) rfl HB.out ⟨#[92, 114]⟩ rfl (by have := HQ4.out; simp [ByteArray.size]; omega) (by omega) ?_
        intro v' w2 hb2 hg2
        go_wp2
        go_roundw
        case rel =>
          refine ⟨k + 1, by omega, by go_num, ?_, hC.out.grown HB.out hg2, below_grown hbl HB.out hBle (by omega) hg2⟩
          rw [htk.out, quoteBodyS_snoc, q.out]; exact hb2
        case measure => simp [intOf]; omega
      have b5 : ((c.toNat : Int) == 13) = false := byte_neb c5
      by_cases c6 : c.toNat < 32 ∨ c = 127
      · have q := Lib.hid (show quoteByteS c = [92, 120, hexD (c.toNat / 16), hexD (c.toNat % 16)] by unfold quoteByteS; rw [if_neg c1, if_neg c3, if_neg c4, if_neg c5, if_pos c6])
        have b6 : (c.toNat : Int) < 32 ∨ ¬ ((c.toNat : Int) < 32) ∧ ((c.toNat : Int) == 127) = true := by
          by_cases h : c.toNat < 32
          · exact .inl (by omega)
          · exact .inr ⟨by omega, byte_eqb (c6.resolve_left h)⟩
        clear c1 c3 c4 c5 c6
        have hd1 := hex_index ((c.toNat : Int) / 16) (by omega) (by omega)
        have hd2 := hex_index ((c.toNat : Int) % 16) (by omega) (by omega)
        have ha15 := and15 (c.toNat : Int) (by omega) hc256
        have e1 := Lib.hid (show hexI ((c.toNat : Int) / 16) = ((hexD (c.toNat / 16)).toNat : Int) by unfold hexI; rw [show ((c.toNat : Int) / 16).toNat = c.toNat / 16 by omega])
        have e2 := Lib.hid (show hexI ((c.toNat : Int) % 16) = ((hexD (c.toNat % 16)).toNat : Int) by unfold hexI; rw [show ((c.toNat : Int) % 16).toNat = c.toNat % 16 by omega])
        have hN := Lib.hid (show ∀ j, (h : j < [92, 120, hexD (c.toNat / 16), hexD (c.toNat % 16)].length) → (wr.drew.alloc (Obj.cells #[Value.int IntKind.u8 92, Value.int IntKind.u8 120, Value.int IntKind.u8 (hexI ((c.toNat : Int) / 16)), Value.int IntKind.u8 (hexI ((c.toNat : Int) % 16))] 5)).cell? ((⟨wr.heap.size, 0, none⟩ : Addr).add j) = some (byteV [92, 120, hexD (c.toNat / 16), hexD (c.toNat % 16)][j]) by
            rw [e1.out, e2.out]
            exact lit_cells wr.drew [92, 120, hexD (c.toNat / 16), hexD (c.toNat % 16)] wr.heap.size rfl)
        rcases b6 with b6 | ⟨b6, b7⟩
        all_goals
          go_wp2
          go_region_law (refine step_app_row rfl (.tmp 36) (.tmp 43) rfl B u5 (39 :: quoteBodyS (s.data.toList.take k)) rfl (HB.out.drew.alloc _) ⟨wr.heap.size, 0, none⟩ 4 4 [92, 120, hexD (c.toNat / 16), hexD (c.toNat % 16)] rfl rfl hN.out (by have := HQ4.out; simp; omega) (by simp; omega) ?_; intro v' w2 hb2 hg2)
          all_goals
            go_wp2
            go_roundw
            case rel =>
              refine ⟨k + 1, by omega, by go_num, ?_, (hC.out.drew.alloc _).grown (HB.out.drew.alloc _) hg2, below_grown (hbl.drew.alloc (by simp; omega) _) (HB.out.drew.alloc _) hBle (by simp; omega) hg2⟩
              rw [htk.out, quoteBodyS_snoc, q.out]; exact hb2
            case measure => simp [intOf]; omega
      · have q := Lib.hid (show quoteByteS c = [c] by unfold quoteByteS; rw [if_neg c1, if_neg c3, if_neg c4, if_neg c5, if_neg c6])
        have b6 : ((c.toNat : Int) == 127) = false := byte_neb (fun h => c6 (.inr h))
        have b7 : ¬ (c.toNat : Int) < 32 := by omega
        have hN := Lib.hid (show ∀ j, (h : j < [c].length) → (wr.alloc (Obj.cells #[Value.int IntKind.u8 ↑c.toNat] 5)).cell? ((⟨wr.heap.size, 0, none⟩ : Addr).add j) = some (byteV [c][j]) by
          intro j h; match j, h with | 0, _ => simp [Addr.add, byteV])
        clear c1 c3 c4 c5 c6 hc256
        go_wp2_with (at_builtin; refine stop ?_)
        refine Stopped.of ?_
        refine wp_app_row rfl (.tmp 45) (.tmp 47) rfl B u5 (39 :: quoteBodyS (s.data.toList.take k)) rfl (HB.out.alloc _) ⟨wr.heap.size, 0, none⟩ 1 1 [c] rfl rfl hN.out (by have := HQ4.out; simp; omega) (by simp; omega) ?_
        intro v' w2 hb2 hg2
        go_wp2
        go_roundw
        case rel =>
          refine ⟨k + 1, by omega, by go_num, ?_, (hC.out.alloc _).grown (HB.out.alloc _) hg2, below_grown (hbl.alloc (by omega) _) (HB.out.alloc _) hBle (by simp; omega) hg2⟩
          rw [htk.out, quoteBodyS_snoc, q.out]; exact hb2
        case measure => simp [intOf]; omega
    · have HK := Lib.hid (show s.data.toList.take k = s.data.toList from List.take_of_length_le (by simp; omega))
      have HQ4 := Lib.hid (show (quoteBodyS (s.data.toList.take k)).length ≤ 1020 by
        have := quoteBodyS_le (s.data.toList.take k)
        have h2 : (s.data.toList.take k).length ≤ k := List.length_take_le _ _
        omega)
      have HB := Lib.hid hb
      clear hb hc
      have hN := Lib.hid (show ∀ j, (h : j < [(39 : UInt8)].length) → (wr.alloc (Obj.cells #[Value.int IntKind.u8 39] 5)).cell? ((⟨wr.heap.size, 0, none⟩ : Addr).add j) = some (byteV [(39 : UInt8)][j]) by
          intro j h; match j, h with | 0, _ => simp [Addr.add, byteV])
      go_wp2_with (at_builtin; refine stop ?_)
      refine Stopped.of ?_
      refine wp_app_row rfl (.tmp 69) (.tmp 70) rfl B u5 (39 :: quoteBodyS (s.data.toList.take k)) rfl (HB.out.alloc _) ⟨wr.heap.size, 0, none⟩ 1 1 [39] rfl rfl hN.out (by have := HQ4.out; simp; omega) (by simp; omega) ?_
      intro v' w2 hb2 hg2
      have hcv2 := run_buf_string hb2
      have HB2 := Lib.hid hb2
      clear hb2
      go_wp2
      go_ret2
      refine ⟨?_, below_grown (hbl.alloc (by omega) _) (HB.out.alloc _) hBle (by simp; omega) hg2⟩
      rw [HK.out]
      rfl
end Go.Proofs.YtkipjbmckpmmfaaDoor
end
section
/- Package atom: Quote, whole. -/
open Go Go.RowKit
namespace Go.Proofs.YtkipjbmckpmmfaaDoor

/-- what Quote answers -/
def quoteS (s : ByteArray) : List UInt8 × List Lk :=
  if 255 < s.size then ([], [⟨atomL, 0, 4⟩]) else if 0 ≤ utfS s then ([], [⟨atomL, utfS s, 23⟩])
  else if plainS s.data.toList then (s.data.toList, []) else (39 :: (quoteBodyS s.data.toList ++ [39]), [])

theorem utfGo_cases (s : ByteArray) : ∀ f p, utfGo s f p = -1 ∨ 0 ≤ utfGo s f p := by
  intro f
  induction f with
  | zero => exact fun _ => .inl rfl
  | succ f ih =>
    intro p
    rw [utfGo]
    split
    · split
      · exact .inr (by omega)
      · exact ih _
    · exact .inl rfl
set_option maxHeartbeats 4000000 in
set_option maxRecDepth 100000 in
theorem quote_any (s : ByteArray) (w : World) (hs : s.size ≤ maxLen) (hT : Lib.Utf8Tabs 1 2 w) :
    Calls Tryd.prog 66 #[.string s] w (RetSE w.heap.size w (quoteS s)) := by
  have hs' := hs
  unfold maxLen at hs'
  by_cases h1 : 255 < s.size
  · have P := Lib.hid (show quoteS s = ([], [⟨atomL, 0, 4⟩]) by unfold quoteS; rw [if_pos h1])
    have h1' : 255 < (s.size : Int) := by omega
    clear h1
    go_enter Tryd.func66, Tryd.ntmps66
    go_wp2_with (go_at_call 69; refine (refused_any _ _ _).mono ?_; rintro e w' ⟨rfl, rfl⟩)
    go_ret2
    rw [P.out]
    exact ⟨_, rfl, ErrIs.one, (Below.refl _ _).alloc (Nat.le_refl _) _⟩
  rcases utfGo_cases s s.size 0 with h2 | h2
  · by_cases h3 : plainS s.data.toList = true
    · have P := Lib.hid (show quoteS s = (s.data.toList, []) by unfold quoteS utfS; rw [if_neg h1, h2, if_neg (by decide), if_pos h3])
      have hst := strange_any s w hT
      rw [show utfS s = -1 from h2] at hst
      have hpl := fun w => plain_any s w hs
      rw [h3] at hpl
      have HST := Lib.hid hst
      have HPL := Lib.hid hpl
      have h1' : ¬ 255 < (s.size : Int) := by omega
      clear hst hpl h1 h2 h3
      go_enter Tryd.func66, Tryd.ntmps66
      go_wp2_with (first | (go_at_call 70; refine HST.out.mono ?_; rintro e w1 ⟨rfl, hb1⟩) | (go_at_call 71; refine (HPL.out _).mono ?_; rintro e w' ⟨rfl, rfl⟩))
      go_ret2
      rw [P.out]
      exact ⟨_, rfl, rfl, hb1⟩
    · have h3' : plainS s.data.toList = false := by simpa using h3
      have P := Lib.hid (show quoteS s = (39 :: (quoteBodyS s.data.toList ++ [39]), []) by unfold quoteS utfS; rw [if_neg h1, h2, if_neg (by decide), if_neg h3])
      refine (quote_loop s w (by omega) hT h2 h3').mono ?_
      rintro e w' ⟨rfl, hb⟩
      rw [P.out]
      exact ⟨_, rfl, rfl, hb⟩
  · have P := Lib.hid (show quoteS s = ([], [⟨atomL, utfS s, 23⟩]) by unfold quoteS; rw [if_neg h1, if_pos (show 0 ≤ utfS s from h2)])
    have h1' : ¬ 255 < (s.size : Int) := by omega
    have h3 : 0 ≤ utfS s := h2
    have HST := Lib.hid (strange_any s w hT)
    clear h1 h2
    go_enter Tryd.func66, Tryd.ntmps66
    go_wp2_with (first | (go_at_call 70; refine HST.out.mono ?_; rintro e w1 ⟨rfl, hb1⟩) | (go_at_call 69; refine (refused_any _ _ _).mono ?_; rintro e w' ⟨rfl, rfl⟩))
    go_ret2
    rw [P.out]
    exact ⟨_, rfl, ErrIs.one, hb1.alloc hb1.size _⟩
end Go.Proofs.YtkipjbmckpmmfaaDoor
end
