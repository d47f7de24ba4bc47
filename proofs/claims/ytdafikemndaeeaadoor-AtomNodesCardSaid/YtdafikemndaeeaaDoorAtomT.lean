/- The statement AtomNodes, walked. -/
import Derived.Test.YtdafikemndaeeaaDoorAtomS
import Derived.Test.YtdafikemndaeeaaDoorBackLaw
open Go Go.RowKit
namespace Go.Proofs.YtdafikemndaeeaaDoor

theorem nodeS_back (s : ByteArray) (h : goodAll s = true) : (cutS s 64).1 ++ ⟨#[64]⟩ ++ (cutS s 64).2.1 = s := by
  have hg : (cutS s 64).2.2 = true := by
    unfold goodAll goodS at h
    cases hc : (cutS s 64).2.2 with
    | true => rfl
    | false => rw [hc] at h; simp at h
  unfold cutS at hg ⊢
  by_cases hi : 0 ≤ Lib.indexByte s.data.toList 64
  · rw [if_pos hi]
    obtain ⟨k, hk⟩ : ∃ k : Nat, Lib.indexByte s.data.toList 64 = k := ⟨(Lib.indexByte s.data.toList 64).toNat, by omega⟩
    have hsome := Lib.indexByte_some hk
    rw [hk]
    have hlt : k < s.data.toList.length := (List.getElem?_eq_some_iff.1 hsome.1).1
    apply chars_inj
    simp only [append_toList, extract_list, Int.toNat_natCast, List.drop_zero, Nat.sub_zero]
    have h1 : s.data.toList.drop k = 64 :: s.data.toList.drop (k + 1) := by
      rw [List.drop_eq_getElem_cons hlt]
      congr 1
      have := hsome.1
      rw [List.getElem?_eq_getElem hlt] at this
      exact Option.some.inj this
    rw [List.take_of_length_le (i := s.size - (k + 1)) (by simp), List.append_assoc]
    show s.data.toList.take k ++ (64 :: s.data.toList.drop (k + 1)) = _
    rw [← h1, List.take_append_drop]
  · rw [if_neg hi] at hg; cases hg

set_option maxHeartbeats 4000000 in
set_option maxRecDepth 100000 in
theorem nodes_walk (s : ByteArray) (w : World) (hs : s.size ≤ 140737488351232) (hT : Lib.Utf8Tabs 2 3 w) (hE : ErrT w) :
    Calls Tryd.prog 14 #[.string s] w fun e w' => e = .returned (.bool true) ∧ Below w.heap.size w w' := by
  have HQ := Lib.hid (node_any s w hs)
  have HR := fun w1 => Lib.hid (nodeR_any s w1 hs)
  have HF := fun ev lv base w1 (her : ErrIs w1 ev (nodeS s).2.2) (hlk : LinksIs base lv (nodeS s).2.2 w1) (h : Below w.heap.size w w1) =>
    Lib.hid (refused_links ev (nodeS s).2.2 (nodeS s).2.2 lv base w1 her (by unfold nodeS; split <;> simp) (by unfold nodeS; split <;> simp) hlk (hE.below h))
  have HA := fun w1 (h : Below w.heap.size w w1) => Lib.hid (alive01 w1 (Utf8Tabs_below hT h))
  have hself : decide ((nodeS s).2.2 = (nodeS s).2.2) = true := by simp
  rw [hself] at HF
  rw [nodeRS_eq] at HR
  have hza : (nodeS s).1.size ≤ 140737488351232 := by
    unfold nodeS; split
    · have := (cut_size s 64).1; show (cutS s 64).1.size ≤ _; omega
    · exact Nat.zero_le _
  have hzb : (nodeS s).2.1.size ≤ 140737488351232 := by
    unfold nodeS; split
    · have := (cut_size s 64).2; show (cutS s 64).2.1.size ≤ _; omega
    · exact Nat.zero_le _
  have hcase : ((nodeS s).2.2 = [] ∧ (nodeS s).1 ++ ⟨#[64]⟩ ++ (nodeS s).2.1 = s) ∨ (nodeS s).2.2 = [⟨atomL, 0, 24⟩] := by
    cases h : goodAll s with
    | true => left; have := nodeS_back s h; unfold nodeS; rw [h]; exact ⟨rfl, this⟩
    | false => right; unfold nodeS; rw [h]; rfl
  clear hself
  generalize nodeS s = r at *
  obtain ⟨a, b, l⟩ := r
  have hss : (s.toList == s.toList) = true := by simp
  have hsa : (a.toList == a.toList) = true := by simp
  have hsb : (b.toList == b.toList) = true := by simp
  simp only at HQ HR HF hcase hza hzb
  have hz1 : (a ++ ⟨#[64]⟩).size = a.size + 1 := size_append _ _
  have HC := Lib.hid hcase
  clear hcase
  go_enter Tryd.func14, Tryd.ntmps14
  go_wp2_with fail
  refine HQ.out.mono ?_
  rintro e w1 ⟨ev, rfl, her, hb1⟩
  go_wp2_with fail
  refine (HR w1).out.mono ?_
  rintro e w2 ⟨lv, rfl, hlk, hb2⟩
  have her2 := her.below hb2
  have hb2 := hb1.trans (hb2.mono hb1.size)
  have HF2 := HF ev lv _ w2 her2 hlk hb2
  have HER := Lib.hid her2
  clear her her2 hlk
  go_wp2_with fail
  refine HF2.out.mono ?_
  rintro e w3 ⟨rfl, hb3⟩
  have hb3 := hb2.trans (hb3.mono hb2.size)
  rcases HC.out with ⟨hl, hj⟩ | hl
  · subst hl
    obtain rfl : ev = .nilIface := HER.out
    have HJ : ((a ++ ⟨#[64]⟩ ++ b).toList == s.toList) = true := by rw [hj]; simp
    clear hj HC
    go_wp2_with fail
    refine (HA w3 hb3).out.mono ?_
    rintro e w6 ⟨rfl, hb6⟩
    have hb6 := hb3.trans (hb6.mono hb3.size)
    go_wp2
    go_ret
    exact ⟨rfl, hb6⟩
  · subst hl
    obtain ⟨b1, u1, rfl, _, _⟩ := HER.out
    go_wp2_with fail
    refine (HA w3 hb3).out.mono ?_
    rintro e w6 ⟨rfl, hb6⟩
    have hb6 := hb3.trans (hb6.mono hb3.size)
    go_wp2
    go_ret
    exact ⟨rfl, hb6⟩
end Go.Proofs.YtdafikemndaeeaaDoor
