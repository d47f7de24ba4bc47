/- Package mix: Digest. -/
import Derived.Test.YtdafikemndaeeaaDoorMixF
open Go Go.RowKit
namespace Go.Proofs.YtdafikemndaeeaaDoor

theorem cookieGo_small (s : ByteArray) : ∀ (f p : Nat), s.size ≤ p + f → p ≤ 255 → cookGo s f p < 0 → s.size ≤ 255
  | 0, p, h1, h2, _ => by omega
  | f + 1, p, h1, h2, h3 => by
    by_cases h : p < s.size
    · cases hb : okC s[p] p with
      | false => rw [cookGo_bad s f p h hb] at h3; omega
      | true =>
        rw [cookGo_good s f p h hb] at h3
        have : p < 255 := by unfold okC at hb; simp at hb; omega
        exact cookieGo_small s f (p + 1) (by omega) (by omega) h3
    · omega
theorem cookieS_ok (s : ByteArray) (h : cookieS s = []) : s.size ≤ 255 := by
  unfold cookieS at h
  by_cases h0 : s.size = 0
  · omega
  rw [if_neg h0] at h
  by_cases h1 : 0 ≤ cookGo s s.size 0
  · rw [if_pos h1] at h; cases h
  · exact cookieGo_small s s.size 0 (by omega) (by omega) (by omega)

def stepA (x : Int) (c : UInt8) : Int := IntKind.u64.wrap (bits BinOp.xor IntKind.u64 x (IntKind.u64.wrap ↑c.toNat) * 1099511628211)
def stepB (y : Int) (c : UInt8) : Int := IntKind.u64.wrap (IntKind.u64.wrap (IntKind.u64.wrap (y + IntKind.u64.wrap ↑c.toNat) * 6364136223846793005) + 1442695040888963407)
def textS (s : ByteArray) (u : Nat) : ByteArray := s ++ ⟨(Lib.decDigits u).toArray⟩
def accA (l : List UInt8) : Int := l.foldl stepA 14695981039346656037
def accB (l : List UInt8) : Int := l.foldl stepB 88172645463325252
def mixA (x y : Int) : Int := IntKind.u64.wrap (bits BinOp.xor IntKind.u64 x (y / 536870912) * 18397679294719823053)
def mixB (x y : Int) : Int := IntKind.u64.wrap (bits BinOp.xor IntKind.u64 y (mixA x y / 4294967296) * 14181476777654086739)
def mixN : Nat → Int × Int → Int × Int
  | 0, p => p
  | k + 1, p => (mixA (mixN k p).1 (mixN k p).2, mixB (mixN k p).1 (mixN k p).2)
/-- the digest of a text -/
def digS (l : List UInt8) : List UInt8 := be8 (mixN 4 (accA l, accB l)).1 ++ be8 (mixN 4 (accA l, accB l)).2
theorem digS_length (l : List UInt8) : (digS l).length = 16 := rfl
/-- Digest: the bytes, or how it is refused -/
def digestS (s : ByteArray) (u : Nat) : List UInt8 × List Lk := if cookieS s = [] then (digS (textS s u).data.toList, []) else ([], cookieS s)
theorem accA_snoc (l : List UInt8) (c : UInt8) : accA (l ++ [c]) = stepA (accA l) c := by simp [accA]
theorem accB_snoc (l : List UInt8) (c : UInt8) : accB (l ++ [c]) = stepB (accB l) c := by simp [accB]
theorem textS_list (s : ByteArray) (u : Nat) : (textS s u).data.toList = s.data.toList ++ Lib.decDigits u := by simp [textS, ByteArray.data_append]
theorem textS_size (s : ByteArray) (u : Nat) : (textS s u).size = s.size + (Lib.decDigits u).length := by
  have := congrArg List.length (textS_list s u)
  rw [List.length_append] at this
  exact this
theorem dec20 (u : Nat) (hu : u < 4294967296) : (Lib.decDigits u).length ≤ 20 := by
  by_cases h0 : u = 0
  · subst h0; rw [Lib.decDigits_one (by omega)]; simp
  rw [Lib.decDigits_length]
  have := Lib.numDigits_eq u (by omega) (by omega); split at this <;> omega

set_option maxHeartbeats 8000000 in
set_option maxRecDepth 100000 in
theorem digest_any (s : ByteArray) (u : Nat) (hu : u < 4294967296) (w : World) (hP : Pow10 w) :
    Calls Tryd.prog 24 #[.string s, .int .u32 u] w fun e w' => ∃ v ev, e = .returned (.tuple #[v, ev]) ∧ BufIs w.heap.size v (digestS s u).1 w' ∧ ErrIs w' ev (digestS s u).2 ∧ Below w.heap.size w w' := by
  have HC := Lib.hid (cookie_any s w)
  have HF := fun w1 (h : Below w.heap.size w w1) => Lib.hid (formatUint_any u (by omega) w1 (hP.below h))
  by_cases hk : cookieS s = []
  · have hkc := hk
    have hsz := cookieS_ok s hk
    have hd20 := dec20 u hu
    rw [hk] at HC
    have hcv := fun w => Lib.run_convert_string_bytes (P := Tryd.prog) w 9 34 5 (s ++ ⟨(Lib.decDigits u).toArray⟩) Tryd.underlying9 Tryd.underlying34 Tryd.underlying5
    have hcc : s.size + (⟨(Lib.decDigits u).toArray⟩ : ByteArray).size ≤ 9223372036854775807 := by
      have : (⟨(Lib.decDigits u).toArray⟩ : ByteArray).size = (Lib.decDigits u).length := rfl
      omega
    go_enter Tryd.func24, Tryd.ntmps24
    go_wp2_with fail
    refine HC.out.mono ?_
    rintro e w1 ⟨ev, rfl, her, hb1⟩
    obtain rfl : ev = .nilIface := her
    go_wp2_with fail
    refine (HF w1 hb1).out.mono ?_
    rintro e w2 ⟨rfl, hb2⟩
    have hb2 := hb1.trans (hb2.mono hb1.size)
    go_wp2_with fail
    go_loopw [7, 8, 23] (fun a b i wr => ∃ k : Nat, k ≤ s.size + (Lib.decDigits u).length ∧ a = .int .u64 (accA ((textS s u).data.toList.take k)) ∧ b = .int .u64 (accB ((textS s u).data.toList.take k)) ∧ i = .int .i64 k ∧ ConvRow w2.heap.size (textS s u) wr ∧ Below w.heap.size w wr) (fun _ _ i _ => s.size + (Lib.decDigits u).length - (intOf i).toNat)
    case atStart =>
      exact ⟨0, Nat.zero_le _, rfl, rfl, rfl, ConvRow.mk w2 (textS s u), below_bytesWorld hb2 hb2.size _ _⟩
    case round =>
      obtain ⟨k, hk, rfl, rfl, rfl, hc, hbw⟩ := hrel
      by_cases hlt : k < s.size + (Lib.decDigits u).length
      · have hlt' : (k : Int) < (s.size : Int) + (Lib.decDigits u).length := by omega
        have hltt : k < (textS s u).size := by rw [textS_size]; exact hlt
        have hcell := hc.cell k hltt
        have htk := Lib.hid (show (textS s u).data.toList.take (k + 1) = (textS s u).data.toList.take k ++ [(textS s u)[k]] by
          rw [List.take_succ_eq_append_getElem (by simpa using hltt)]; rfl)
        have hC := Lib.hid hc
        clear hc
        go_wp2
        go_roundw
        case rel => exact ⟨k + 1, by omega, by rw [htk.out, accA_snoc]; rfl, by rw [htk.out, accB_snoc]; rfl, by go_num, hC.out, hbw⟩
        case measure => simp [intOf]; omega
      · obtain rfl : k = s.size + (Lib.decDigits u).length := by omega
        have hnlt : ¬ ((s.size + (Lib.decDigits u).length : Nat) : Int) < (s.size : Int) + (Lib.decDigits u).length := by omega
        rw [show (textS s u).data.toList.take (s.size + (Lib.decDigits u).length) = (textS s u).data.toList from List.take_of_length_le (by rw [← textS_size]; simp)]
        have HR := Lib.hid (show ∀ v w', BufIs w.heap.size v ([] ++ be8 (mixN 4 (accA (textS s u).data.toList, accB (textS s u).data.toList)).1 ++ be8 (mixN 4 (accA (textS s u).data.toList, accB (textS s u).data.toList)).2) w' → BufIs w.heap.size v (digestS s u).1 w' by
          intro v w' h; unfold digestS; rw [if_pos hkc]; exact h)
        have HE := Lib.hid (show ∀ w', ErrIs w' .nilIface (digestS s u).2 by intro w'; unfold digestS; rw [if_pos hkc]; rfl)
        generalize accA (textS s u).data.toList = x0 at *
        generalize accB (textS s u).data.toList = y0 at *
        clear hcc hcv
        go_wp2
        go_loopw [7, 8, 39] (fun a b i wr' => ∃ k : Nat, k ≤ 4 ∧ a = .int .u64 (mixN k (x0, y0)).1 ∧ b = .int .u64 (mixN k (x0, y0)).2 ∧ i = .int .i64 k ∧ wr' = wr) (fun _ _ i _ => 4 - (intOf i).toNat)
        case atStart => exact ⟨0, Nat.zero_le _, rfl, rfl, rfl, rfl⟩
        case round =>
          obtain ⟨k, hk4, rfl, rfl, rfl, rfl⟩ := hrel
          by_cases h4 : k < 4
          · have h4' : (k : Int) < 4 := by omega
            go_wp2
            go_roundw
            case rel => exact ⟨k + 1, by omega, rfl, rfl, by go_num, trivial⟩
            case measure => simp [intOf]; omega
          · obtain rfl : k = 4 := by omega
            generalize (mixN 4 (x0, y0)).1 = x at *
            generalize (mixN 4 (x0, y0)).2 = y at *
            go_wp2_with fail
            refine (put_any w.heap.size _ [] x _ (BufIs.nil _ _) hbw.size (by simp)).mono ?_
            rintro e w3 ⟨v3, rfl, hv3, hb3⟩
            go_wp2_with fail
            refine (put_any w.heap.size _ _ y _ hv3 (Nat.le_trans hbw.size hb3.size) (by simp [be8])).mono ?_
            rintro e w4 ⟨v4, rfl, hv4, hb4⟩
            go_wp2
            go_ret2
            exact ⟨_, _, rfl, HR.out _ _ hv4, HE.out _, (hbw.trans hb3).trans hb4⟩
  · have HR := Lib.hid (show digestS s u = ([], cookieS s) by unfold digestS; rw [if_neg hk])
    go_enter Tryd.func24, Tryd.ntmps24
    go_wp2_with fail
    refine HC.out.mono ?_
    rintro e w1 ⟨ev, rfl, her, hb1⟩
    have hne : ∃ b, ev = .iface 105 (.pointer (some b)) := by
      cases hl : cookieS s with
      | nil => exact absurd hl hk
      | cons k r => rw [hl] at her; obtain ⟨b, u, hv, _⟩ := her; exact ⟨_, hv⟩
    obtain ⟨b, rfl⟩ := hne
    go_wp2
    go_ret2
    rw [HR.out]
    exact ⟨_, _, rfl, BufIs.nil _ _, her, hb1⟩
end Go.Proofs.YtdafikemndaeeaaDoor
