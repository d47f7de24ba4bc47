/- AtomReads: the walk of the statement. -/
import Derived.Test.YtdafikemndaeeaaDoorAtomI
import Derived.Test.YtdafikemndaeeaaDoorAtomP
open Go Go.RowKit
namespace Go.Proofs.YtdafikemndaeeaaDoor

theorem size_append (a b : ByteArray) : (a ++ b).size = a.size + b.size := by simp [ByteArray.size_append]

set_option maxHeartbeats 4000000 in
set_option maxRecDepth 100000 in
theorem reads_walk (s : ByteArray) (frm : Int) (w : World) (hs : s.size ≤ 140737488351232) (hT : Lib.Utf8Tabs 2 3 w) :
    Calls Tryd.prog 4 #[.string s, .int .i64 frm] w fun e w' => e = .returned (.bool true) ∧ Below w.heap.size w w' := by
  have HS := Lib.hid (scan_any s frm w (by omega) hT)
  have HA := fun w1 (h : Below w.heap.size w w1) => Lib.hid (alive01 w1 (Utf8Tabs_below hT h))
  have hb := scan_bad s frm
  have hg := scan_good s frm
  obtain ⟨r, hr⟩ : ∃ r, r = scanS s frm := ⟨_, rfl⟩
  rw [← hr] at HS hb hg
  clear hr
  obtain ⟨a, n, l⟩ := r
  simp only at hb hg
  cases l with
  | cons k l =>
    obtain ⟨rfl, rfl⟩ := hb (by simp)
    clear hb hg
    go_enter Tryd.func4, Tryd.ntmps4
    go_wp2_with fail
    refine HS.out.mono ?_
    rintro e w1 ⟨ev, rfl, her, hb1⟩
    obtain ⟨b, u, rfl, hc, hu⟩ := her
    clear hc hu
    go_wp2_with fail
    refine (HA w1 hb1).out.mono ?_
    rintro e w2 ⟨rfl, hb2⟩
    go_wp2
    go_ret
    exact ⟨rfl, hb1.trans (hb2.mono hb1.size)⟩
  | nil =>
    obtain ⟨hga, hn⟩ := hg rfl
    obtain ⟨q, hq⟩ := quoteS_good a hga
    have hqs := quoteS_ok hq
    have hql : q.length ≤ 140737488355000 := by
      have h1 := hga.1
      have h2 := quoteBodyS_le a
      rcases hqs.2 with ⟨_, rfl⟩ | ⟨_, rfl⟩
      · simp; omega
      · simp; omega
    have hsc : scanS ⟨q.toArray⟩ 0 = (a, (q.length : Int), []) := by
      have := scan_back ⟨q.toArray⟩ 0 ⟨a.toArray⟩ q [] hq (by simp) (.inl rfl)
      simpa using this
    have HQ := fun w1 (h : Below w.heap.size w w1) => Lib.hid (quote_any ⟨a.toArray⟩ w1 (by rw [size_mk]; have := hga.1; unfold maxLen; omega) (Utf8Tabs_below hT h))
    have HS2 := fun w1 (h : Below w.heap.size w w1) => Lib.hid (scan_any ⟨q.toArray⟩ 0 w1 (by rw [size_mk]; omega) (Utf8Tabs_below hT h))
    have HV := fun w1 (h : Below w.heap.size w w1) => Lib.hid (valid_any ⟨a.toArray⟩ w1 (by rw [size_mk]; have := hga.1; unfold maxLen; omega) (Utf8Tabs_below hT h))
    rw [hq] at HQ
    rw [hsc] at HS2
    rw [validS_of_quote hq] at HV
    clear hq hsc hga hqs hql hb hg
    go_enter Tryd.func4, Tryd.ntmps4
    go_wp2_with fail
    refine HS.out.mono ?_
    rintro e w1 ⟨ev, rfl, rfl, hb1⟩
    go_wp2_with fail
    refine (HQ w1 hb1).out.mono ?_
    rintro e w2 ⟨ev, rfl, rfl, hb2⟩
    have hb2 := hb1.trans (hb2.mono hb1.size)
    go_wp2_with fail
    refine (HS2 w2 hb2).out.mono ?_
    rintro e w3 ⟨ev, rfl, rfl, hb3⟩
    have hb3 := hb2.trans (hb3.mono hb2.size)
    go_wp2_with fail
    refine (HV w3 hb3).out.mono ?_
    rintro e w4 ⟨rfl, hb4⟩
    have hb4 := hb3.trans (hb4.mono hb3.size)
    go_wp2_with fail
    refine (HA w4 hb4).out.mono ?_
    rintro e w5 ⟨rfl, hb5⟩
    have hb5 := hb4.trans (hb5.mono hb4.size)
    go_wp2
    go_ret
    exact ⟨rfl, hb5⟩
end Go.Proofs.YtdafikemndaeeaaDoor
