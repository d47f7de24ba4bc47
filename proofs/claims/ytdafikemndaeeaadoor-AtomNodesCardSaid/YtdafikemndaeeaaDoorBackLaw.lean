/- AtomBack: the walk of the statement. -/
import Derived.Test.YtdafikemndaeeaaDoorReadsLaw
open Go Go.RowKit
namespace Go.Proofs.YtdafikemndaeeaaDoor

theorem validR_bad {s : ByteArray} (h : (quoteS s).2 ≠ []) : validR s = false := by
  unfold validR
  unfold quoteS at h
  by_cases h1 : 255 < s.size
  · simp; omega
  · rw [if_neg h1] at h
    by_cases h2 : 0 ≤ utfS s
    · simp; omega
    · rw [if_neg h2] at h
      split at h <;> exact absurd rfl h

theorem append_toList (a b : ByteArray) : (a ++ b).data.toList = a.data.toList ++ b.data.toList := by
  rw [ByteArray.data_append]; simp

set_option maxHeartbeats 8000000 in
set_option maxRecDepth 100000 in
theorem back_walk (s ahead behind : ByteArray) (w : World) (hs : s.size ≤ 140737488351232) (ha : ahead.size ≤ 140737488351232) (hbh : behind.size ≤ 140737488351232) (hT : Lib.Utf8Tabs 2 3 w) :
    Calls Tryd.prog 3 #[.string s, .string ahead, .string behind] w fun e w' => e = .returned (.bool true) ∧ Below w.heap.size w w' := by
  have HQ := Lib.hid (quote_any s w (by unfold maxLen; omega) hT)
  have HA := fun w1 (h : Below w.heap.size w w1) => Lib.hid (alive01 w1 (Utf8Tabs_below hT h))
  have HVR := fun w1 => Lib.hid (validR_any s w1 hs)
  have hbad := @validR_bad s
  obtain ⟨r, hr⟩ : ∃ r, r = quoteS s := ⟨_, rfl⟩
  rw [← hr] at HQ hbad
  obtain ⟨q, l⟩ := r
  simp only at hbad
  cases l with
  | cons k l =>
    rw [hbad (by simp)] at HVR
    clear hbad hr
    go_enter Tryd.func3, Tryd.ntmps3
    go_wp2_with fail
    refine HQ.out.mono ?_
    rintro e w1 ⟨ev, rfl, her, hb1⟩
    obtain ⟨b, u, rfl, hc, hu⟩ := her
    clear hc hu
    go_wp2_with fail
    refine (HVR w1).out.mono ?_
    rintro e w2 ⟨rfl, rfl⟩
    go_wp2_with fail
    refine (HA _ hb1).out.mono ?_
    rintro e w2 ⟨rfl, hb2⟩
    go_wp2
    go_ret
    exact ⟨rfl, hb1.trans (hb2.mono hb1.size)⟩
  | nil =>
    have hq := hr.symm
    have hqs := quoteS_ok hq
    have hql : q.length ≤ 1022 ∧ q ≠ [] := by
      have h1 := hqs.1.1
      have h2 := quoteBodyS_le s.data.toList
      rcases hqs.2 with ⟨hp, rfl⟩ | ⟨_, rfl⟩
      · exact ⟨by omega, fun h => by rw [h] at hp; cases hp⟩
      · exact ⟨by simp; omega, by simp⟩
    obtain ⟨hql, hqn⟩ := hql
    obtain ⟨Q, hQ⟩ : ∃ Q : ByteArray, Q = ⟨q.toArray⟩ := ⟨_, rfl⟩
    have hQd : Q.data.toList = q := by rw [hQ]
    have hQz : Q.size = q.length := by rw [hQ, size_mk]
    have hz1 : (ahead ++ Q).size = ahead.size + Q.size := size_append _ _
    have hz2 : (Q ++ behind).size = Q.size + behind.size := size_append _ _
    have hsc1 : scanS (ahead ++ Q) (ahead.size : Int) = (s.data.toList, (ahead.size : Int) + q.length, []) :=
      scan_back _ ahead.size s q [] hq (by rw [append_toList, hQd]; simp) (.inl rfl)
    have HQ2 : Hid (Calls Tryd.prog 15 #[.string s] w fun e w' => e = .returned (.tuple #[.string Q, .nilIface]) ∧ Below w.heap.size w w') :=
      HQ.out.mono (by rintro e w' ⟨ev, rfl, rfl, hb⟩; exact ⟨by rw [hQ], hb⟩)
    have HS1 : ∀ w1, Below w.heap.size w w1 → Hid (Calls Tryd.prog 18 #[.string (ahead ++ Q), .int .i64 ahead.size] w1 fun e w' => e = .returned (.tuple #[.string s, .int .i64 ((ahead.size : Int) + Q.size), .nilIface]) ∧ Below w1.heap.size w1 w') := fun w1 h =>
      (scan_any (ahead ++ Q) (ahead.size : Int) w1 (by omega) (Utf8Tabs_below hT h)).mono (by rintro e w' ⟨ev, rfl, her, hb⟩; rw [hsc1] at her ⊢; obtain rfl := her; exact ⟨by rw [mk_eta, hQz], hb⟩)
    have hpos : 0 < Q.size := by
      rw [hQz]; exact List.length_pos_iff.2 hqn
    have hQ0 := drop_cons Q 0 hpos
    rw [List.drop_zero, hQd] at hQ0
    have hss : (s.toList == s.toList) = true := by simp
    have hQe : Q.toList.isEmpty = false := by rw [toList_data, hQd]; cases q with | nil => exact absurd rfl hqn | cons => rfl
    have hnn : ((((ahead.size : Int) + Q.size) != ((ahead.size : Int) + Q.size)) = false) := by simp
    have hqz : Q.size ≤ 1022 := by omega
    by_cases h39 : Q[0] = 39
    · have b39 : ((Q[0].toNat : Int) != 39) = false := by have := byte_eqb h39; rw [bne]; exact congrArg (fun b => !b) this
      have hsc2 : scanS (Q ++ behind) 0 = (s.data.toList, (q.length : Int), []) := by
        have := scan_back (Q ++ behind) 0 s q behind.data.toList hq (by rw [append_toList, hQd]; simp) (.inr (by rw [hQ0, h39]; rfl))
        simpa using this
      have HS2 : ∀ w1, Below w.heap.size w w1 → Hid (Calls Tryd.prog 18 #[.string (Q ++ behind), .int .i64 0] w1 fun e w' => e = .returned (.tuple #[.string s, .int .i64 (Q.size : Int), .nilIface]) ∧ Below w1.heap.size w1 w') := fun w1 h =>
        (scan_any (Q ++ behind) 0 w1 (by omega) (Utf8Tabs_below hT h)).mono (by rintro e w' ⟨ev, rfl, her, hb⟩; rw [hsc2] at her ⊢; obtain rfl := her; exact ⟨by rw [mk_eta, hQz], hb⟩)
      clear hr HQ hbad hq hqs hql hqn hsc1 hsc2 h39 hQ0 hQz hQd hz1 hz2 hQ HVR
      go_enter Tryd.func3, Tryd.ntmps3
      go_wp2_with fail
      refine HQ2.out.mono ?_
      rintro e w1 ⟨rfl, hb1⟩
      go_wp2_with fail
      refine (HS1 w1 hb1).out.mono ?_
      rintro e w2 ⟨rfl, hb2⟩
      have hb2 := hb1.trans (hb2.mono hb1.size)
      go_wp2_with fail
      refine (HS2 w2 hb2).out.mono ?_
      rintro e w3 ⟨rfl, hb3⟩
      have hb3 := hb2.trans (hb3.mono hb2.size)
      go_wp2_with fail
      refine (HA w3 hb3).out.mono ?_
      rintro e w4 ⟨rfl, hb4⟩
      have hb4 := hb3.trans (hb4.mono hb3.size)
      go_wp2
      go_ret
      exact ⟨rfl, hb4⟩
    · have b39 : ((Q[0].toNat : Int) != 39) = true := by have := byte_neb h39; rw [bne]; exact congrArg (fun b => !b) this
      clear hr HQ hbad hq hqs hql hqn hsc1 h39 hQ0 hQz hQd hz1 hz2 hQ HVR
      go_enter Tryd.func3, Tryd.ntmps3
      go_wp2_with fail
      refine HQ2.out.mono ?_
      rintro e w1 ⟨rfl, hb1⟩
      go_wp2_with fail
      refine (HS1 w1 hb1).out.mono ?_
      rintro e w2 ⟨rfl, hb2⟩
      have hb2 := hb1.trans (hb2.mono hb1.size)
      go_wp2_with fail
      refine (HA w2 hb2).out.mono ?_
      rintro e w4 ⟨rfl, hb4⟩
      have hb4 := hb2.trans (hb4.mono hb2.size)
      go_wp2
      go_ret
      exact ⟨rfl, hb4⟩
end Go.Proofs.YtdafikemndaeeaaDoor
