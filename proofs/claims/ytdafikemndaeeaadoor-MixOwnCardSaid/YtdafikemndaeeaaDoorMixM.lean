/- The law MixKnows: the walk. -/
import Derived.Test.YtdafikemndaeeaaDoorMixI
open Go Go.RowKit
namespace Go.Proofs.YtdafikemndaeeaaDoor

theorem xor8 (a b : Nat) (ha : a < 256) (hb : b < 256) : bits BinOp.xor IntKind.u8 (a : Int) (b : Int) = ((a ^^^ b : Nat) : Int) := by
  have hx : a ^^^ b < 2 ^ 8 := Nat.xor_lt_two_pow (by omega) (by omega)
  have h1 : (BitVec.ofInt 8 (a : Int)).toNat = a := by
    rw [BitVec.ofInt_natCast, BitVec.toNat_ofNat]; exact Nat.mod_eq_of_lt (by omega)
  have h2 : (BitVec.ofInt 8 (b : Int)).toNat = b := by
    rw [BitVec.ofInt_natCast, BitVec.toNat_ofNat]; exact Nat.mod_eq_of_lt (by omega)
  have hw : ∀ n : Int, IntKind.u8.wrap n = n % 256 := fun n => by simp [IntKind.wrap, IntKind.bits, IntKind.signed]
  show IntKind.u8.wrap ((BitVec.ofInt 8 (a : Int) ^^^ BitVec.ofInt 8 (b : Int)).toNat : Int) = _
  rw [BitVec.toNat_xor, h1, h2, hw]
  omega
theorem xor8b (a : UInt8) (t : Nat) (ht : t < 256) : bits BinOp.xor IntKind.u8 (a.toNat : Int) (t : Int) = ((a ^^^ UInt8.ofNat t).toNat : Int) := by
  rw [xor8 _ _ a.toNat_lt ht, UInt8.toNat_xor, UInt8.toNat_ofNat', Nat.mod_eq_of_lt ht]

theorem BufIs.stored {base g c : Nat} {l : List UInt8} {w : World} (h : BufIs base (.slice (some ⟨g, 0, none⟩) l.length c) l w) (j : Nat) (hj : j < l.length) (x : UInt8) :
    BufIs base (.slice (some ⟨g, 0, none⟩) l.length c) (l.set j x) (w.setCell ⟨g, j, none⟩ (.int .u8 x.toNat)) ∧ w.grownBy (w.setCell ⟨g, j, none⟩ (.int .u8 x.toNat)) (some g) := by
  have hs := World.ownsRow.stored (show w.ownsRow base 5 1 (.slice (some ⟨g, 0, none⟩) l.length c) l.length (bytesV l) from h) j (.int .u8 x.toNat)
  refine ⟨?_, hs.2⟩
  have e : bytesV (l.set j x) = (bytesV l).set j (.int .u8 x.toNat) := by simp [bytesV, List.map_set, byteV]
  unfold BufIs
  rw [e, List.length_set]
  exact hs.1

theorem at16 (at_ : Int) : ∃ k : Nat, wrap64 ((IntKind.u64.wrap at_).tmod 16) = (k : Int) ∧ k < 16 := by
  rw [IntKind.wrap_u64]
  have h0 : 0 ≤ at_ % 18446744073709551616 := Int.emod_nonneg _ (by omega)
  rw [Int.tmod_eq_emod_of_nonneg h0]
  refine ⟨(at_ % 18446744073709551616 % 16).toNat, ?_, by omega⟩
  unfold wrap64; omega
theorem set_same (l : List UInt8) (k : Nat) (hk : k < l.length) (t : Nat) (ht : t < 256) : decide (l = l.set k (l[k] ^^^ UInt8.ofNat t)) = decide (t = 0) := by
  by_cases h0 : t = 0
  · subst h0
    have : l[k] ^^^ UInt8.ofNat 0 = l[k] := by simp
    rw [this, List.set_getElem_self]
    simp
  · rw [decide_eq_false h0]
    refine decide_eq_false fun e => h0 ?_
    have e2 := congrArg (fun z : List UInt8 => z[k]?) e
    simp only [List.getElem?_set_self hk, List.getElem?_eq_getElem hk, Option.some.injEq] at e2
    have e3 : UInt8.ofNat t = 0 := by
      have := congrArg (fun z => l[k] ^^^ z) e2
      simpa [← UInt8.xor_assoc] using this.symm
    have := congrArg UInt8.toNat e3
    simp at this
    omega
set_option maxHeartbeats 8000000 in
set_option maxRecDepth 100000 in
theorem knows_walk (s : ByteArray) (u : Nat) (dv : Value) (dg : List UInt8) (at_ : Int) (t : Nat) (w : World) (hu : u < 4294967296) (ht : t < 256) (hd : SliceIs dv dg w) (hP : Pow10 w) :
    Calls Tryd.prog 6 #[.string s, .int .u32 u, dv, .int .i64 at_, .int .u8 t] w fun e w' => e = .returned (.bool true) ∧ Below w.heap.size w w' := by
  have HS := Lib.hid (same_any s u dv dg w hu hd hP)
  have HR := fun w1 (h : Below w.heap.size w w1) => Lib.hid (sameR_any s u dv dg w1 hu (hd.below h))
  have HD := fun w1 (h : Below w.heap.size w w1) => Lib.hid (digest_any s u hu w1 (hP.below h))
  have HA := fun w1 (h : Below w.heap.size w w1) => Lib.hid (alive07 w1 (hP.below h))
  have hb1 : (sameS s u dg != sameS s u dg) = false := by simp
  generalize sameS s u dg = b at *
  clear hd
  by_cases hk : cookieS s = []
  · have h1 : digestS s u = (digS (textS s u).data.toList, []) := by unfold digestS; rw [if_pos hk]
    rw [h1] at HD
    have HS2 := fun v l w1 (hv : SliceIs v l w1) (h : Below w.heap.size w w1) => Lib.hid (same_any s u v l w1 hu hv (hP.below h))
    have hsame : ∀ l, sameS s u l = decide (digS (textS s u).data.toList = l) := fun l => by unfold sameS; simp [hk]
    simp only [hsame] at HS2
    have h16 := digS_length (textS s u).data.toList
    generalize digS (textS s u).data.toList = d at *
    have H16 := Lib.hid h16
    clear h1 hsame h16
    go_enter Tryd.func6, Tryd.ntmps6
    go_wp2_with fail
    refine HS.out.mono ?_
    rintro e w1 ⟨rfl, hw1⟩
    go_wp2_with fail
    refine (HR w1 hw1).out.mono ?_
    rintro e w2 ⟨rfl, hw2⟩
    have hw2 := hw1.trans (hw2.mono hw1.size)
    go_wp2_with fail
    refine (HD w2 hw2).out.mono ?_
    rintro e w3 ⟨v, ev, rfl, hv, her, hw3⟩
    obtain rfl : ev = .nilIface := her
    have hw3 := hw2.trans (hw3.mono hw2.size)
    have hlen := run_buf_len hv
    rw [H16.out] at hlen
    have H1 := HS2 _ _ w3 hv.slice hw3
    have hdd : decide (d = d) = true := by simp
    rw [hdd] at H1
    have HV := Lib.hid hv
    clear hdd hv
    go_wp2_with fail
    refine H1.out.mono ?_
    rintro e w4 ⟨rfl, hw4⟩
    have hv4 := HV.out.below hw4 (Nat.le_refl _)
    have hw4' := hw3.trans (hw4.mono hw3.size)
    clear HV H1 hlen
    obtain ⟨g, c, rfl⟩ : ∃ g c, v = .slice (some ⟨g, 0, none⟩) d.length c := by
      rcases hv4.shape with ⟨_, h⟩ | ⟨g, c, h, _⟩
      · have := H16.out; subst h; cases this
      · exact ⟨g, c, h⟩
    obtain ⟨k, hix, hk16⟩ := at16 at_
    have hkd : k < d.length := by rw [H16.out]; exact hk16
    have hki : (k : Int) < (d.length : Int) := by omega
    have hcl : w4.cell? ⟨g, k, none⟩ = some (.int .u8 d[k].toNat) := hv4.cell k hkd
    have hfr : w4.frozen? ⟨g, k, none⟩ = false := World.ownsRow.frozenAt (show w4.ownsRow _ 5 1 _ d.length (bytesV d) from hv4) k
    have hx := xor8b d[k] t ht
    have hss := set_same d k hkd t ht
    generalize d[k] ^^^ UInt8.ofNat t = x at *
    have HST := Lib.hid (hv4.stored k hkd x)
    have hg1 := (hv4.block (g := g) rfl).1
    have hw5 := Lib.hid (Below.grown hw4' (hv4.stored k hkd x).2 (by have := hw3.size; have := hw4.size; omega) (fun j hj => by cases hj; exact Nat.le_trans (by have := hw2.size; omega) hg1))
    have H2 := HS2 _ _ _ HST.out.1.slice hw5.out
    rw [hss] at H2
    by_cases ht0 : t = 0
    · have ht0' : ((t : Int) == 0) = true := by simp [ht0]
      rw [decide_eq_true ht0] at H2
      clear hv4 hss hg1 ht0
      go_wp2_with fail
      refine H2.out.mono ?_
      rintro e w6 ⟨rfl, hw6⟩
      have hw6' := hw5.out.trans (hw6.mono hw5.out.size)
      go_wp2_with fail
      refine (HA _ hw6').out.mono ?_
      rintro e w7 ⟨rfl, hw7⟩
      go_wp2
      go_ret
      exact ⟨rfl, hw6'.trans (hw7.mono hw6'.size)⟩
    · have ht0' : ((t : Int) == 0) = false := by simp [ht0]
      rw [decide_eq_false ht0] at H2
      clear hv4 hss hg1 ht0
      go_wp2_with fail
      refine H2.out.mono ?_
      rintro e w6 ⟨rfl, hw6⟩
      have hw6' := hw5.out.trans (hw6.mono hw5.out.size)
      go_wp2_with fail
      refine (HA _ hw6').out.mono ?_
      rintro e w7 ⟨rfl, hw7⟩
      go_wp2
      go_ret
      exact ⟨rfl, hw6'.trans (hw7.mono hw6'.size)⟩
  · have h1 : digestS s u = ([], cookieS s) := by unfold digestS; rw [if_neg hk]
    rw [h1] at HD
    have HC := fun w1 => Lib.hid (cookieR_any s w1)
    obtain ⟨l, hl⟩ : ∃ l, l = cookieS s := ⟨_, rfl⟩
    rw [← hl] at HD HC hk
    have hpos : (0 : Int) < l.length := by
      cases l with
      | nil => exact absurd rfl hk
      | cons k r => simp
    clear h1 hl
    go_enter Tryd.func6, Tryd.ntmps6
    go_wp2_with fail
    refine HS.out.mono ?_
    rintro e w1 ⟨rfl, hw1⟩
    go_wp2_with fail
    refine (HR w1 hw1).out.mono ?_
    rintro e w2 ⟨rfl, hw2⟩
    have hw2 := hw1.trans (hw2.mono hw1.size)
    go_wp2_with fail
    refine (HD w2 hw2).out.mono ?_
    rintro e w3 ⟨v, ev, rfl, hv, her, hw3⟩
    have hw3 := hw2.trans (hw3.mono hw2.size)
    have hne : ∃ b, ev = .iface 105 (.pointer (some b)) := by
      cases l with
      | nil => exact absurd rfl hk
      | cons k r => obtain ⟨b, u, hv, _⟩ := her; exact ⟨_, hv⟩
    obtain ⟨b, rfl⟩ := hne
    clear her hv
    go_wp2_with fail
    refine (HC w3).out.mono ?_
    rintro e w4 ⟨lv, rfl, hlk, hw4⟩
    have hw4 := hw3.trans (hw4.mono hw3.size)
    have hlen := run_links_len hlk
    clear hlk
    go_wp2_with fail
    refine (HA _ hw4).out.mono ?_
    rintro e w5 ⟨rfl, hw5⟩
    go_wp2
    go_ret
    exact ⟨rfl, hw4.trans (hw5.mono hw4.size)⟩
end Go.Proofs.YtdafikemndaeeaaDoor
