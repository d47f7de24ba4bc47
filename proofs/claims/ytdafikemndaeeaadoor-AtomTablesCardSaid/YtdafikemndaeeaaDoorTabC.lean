/- The reference's table. -/
import Derived.Test.YtdafikemndaeeaaDoorTabB
open Go Go.RowKit
namespace Go.Proofs.YtdafikemndaeeaaDoor

section
variable {limit : Int} {g : Nat} {l : List ByteArray} {F : Nat → Prop} {w : World}
theorem put_live (h : TabIs limit g l F w) (s : ByteArray) (hs : s.size ≤ 140737488351232) (hT : Lib.Utf8Tabs 2 3 w) (hE : ErrT w) :
    Calls Tryd.prog 33 #[.pointer (some ⟨g, 0, none⟩), .string s] w (RetPut limit g F w (putS limit l s)) := by
  by_cases hq : (quoteS s).2 = []
  · cases hi : idxM l s.data.toList with
    | some i => exact put_there h s hs hT hq i hi
    | none =>
      by_cases hf : (l.length : Int) = limit
      · exact put_full h s hs hT hq hi hf
      · exact put_new h s hs hT hq hi (by have := h.lo.2.2; omega)
  · exact put_bad h s hs hT hE hq

theorem idx_step (l : List ByteArray) (s : List UInt8) (k : Nat) (hk : k < l.length) (h : (l.take k).findIdx? (fun a => a.data.toList == s) = none) :
    (l[k].data.toList = s → idxM l s = some k) ∧ (l[k].data.toList ≠ s → (l.take (k + 1)).findIdx? (fun a => a.data.toList == s) = none) := by
  constructor
  · intro e
    unfold idxM
    have : l.findIdx? (fun a => a.data.toList == s) = some k := by
      rw [List.findIdx?_eq_some_iff_getElem]
      refine ⟨hk, by simp [e], fun j hj => ?_⟩
      rw [List.findIdx?_eq_none_iff] at h
      have := h l[j] (by rw [List.mem_take_iff_getElem]; exact ⟨j, by omega, rfl⟩)
      simpa using this
    rw [this]; rfl
  · intro e
    rw [List.take_succ_eq_append_getElem hk, List.findIdx?_append, h]
    simp [e]

set_option maxHeartbeats 4000000 in
set_option maxRecDepth 100000 in
theorem findR_live (h : RTabIs limit g l F w) (s : ByteArray) :
    Calls Tryd.prog 42 #[.pointer (some ⟨g, 0, none⟩), .string s] w fun e w' => e = .returned (.tuple #[.int .i64 ((idxM l s.data.toList).getD 0), .bool (idxM l s.data.toList).isSome]) ∧ w = w' := by
  obtain ⟨⟨sv, h1, h2, h4, h6⟩, hlo, hnf⟩ := h
  have c1 := h1.cell 1
  simp only [List.getElem?_cons_zero, List.getElem?_cons_succ] at c1
  have hl := run_strs_len h2
  have H2 := Lib.hid h2
  have hll : l.length ≤ 1048576 := by omega
  clear h1 h2 hnf hlo
  go_enter Tryd.func42, Tryd.ntmps42
  go_wp2
  go_loop [6] (fun i => ∃ k : Nat, k ≤ l.length ∧ i = .int .i64 k ∧ (l.take k).findIdx? (fun a => a.data.toList == s.data.toList) = none) (fun i => l.length - (intOf i).toNat)
  case atStart => exact ⟨0, Nat.zero_le _, rfl, rfl⟩
  case round =>
    obtain ⟨k, hk, rfl, hno⟩ := hrel
    by_cases hlt : k < l.length
    · have hkI : (k : Int) < (l.length : Int) := by omega
      have HS := Lib.hid (idx_step l s.data.toList k hlt hno)
      obtain ⟨_, hn⟩ | ⟨b, c, hsv, hb, hc1, hc2⟩ := H2.out.shape
      · rw [hn] at hlt; simp at hlt
      have H2' := H2.out
      rw [hsv] at H2' c1
      have hcell := H2'.cell k hlt
      have HSV := Lib.hid hsv
      clear H2 hno H2' hl hsv
      by_cases he : l[k].data.toList = s.data.toList
      · have hb : (l[k].toList == s.toList) = true := by rw [toList_data, toList_data, he]; simp
        have P := Lib.hid (HS.out.1 he)
        clear he
        go_wp2
        go_ret2
        rw [P.out]
        exact ⟨rfl, rfl⟩
      · have hb : (l[k].toList == s.toList) = false := by rw [toList_data, toList_data]; simpa using he
        have P := Lib.hid (HS.out.2 he)
        clear he
        go_wp2
        go_round
        case rel => exact ⟨k + 1, by omega, by go_num, P.out⟩
        case measure => simp [intOf]; omega
    · have hkI : ¬ (k : Int) < (l.length : Int) := by omega
      have P := Lib.hid (show idxM l s.data.toList = none by
        unfold idxM
        rw [List.take_of_length_le (by omega)] at hno
        rw [hno]; rfl)
      clear hno H2
      go_wp2
      go_ret2
      rw [P.out]
      exact ⟨rfl, rfl⟩

theorem textR_live (h : RTabIs limit g l F w) (n : Int) :
    Calls Tryd.prog 43 #[.pointer (some ⟨g, 0, none⟩), .int .i64 n] w fun e w' => ∃ lv, e = .returned (.tuple #[.string (textS l n).1, lv]) ∧ LinksIs w.heap.size lv (textS l n).2 w' ∧ Below w.heap.size w w' := by
  obtain ⟨⟨sv, h1, h2, h4, h6⟩, hlo, hnf⟩ := h
  have c1 := h1.cell 1
  have hl := run_strs_len h2
  simp only [List.getElem?_cons_zero, List.getElem?_cons_succ] at c1
  by_cases n0 : n < 0
  · have HT := Lib.hid (show textS l n = (⟨#[]⟩, [⟨atomL, 0, 2⟩]) by unfold textS; rw [if_pos (.inl n0)])
    clear h1 h2 hnf
    go_enter Tryd.func43, Tryd.ntmps43
    go_wp2_with (go_at_call 64; refine (no01_any _ _ _).mono ?_; rintro e w4 ⟨lv, rfl, hlk, hb⟩)
    go_ret2
    rw [HT.out]
    exact ⟨_, rfl, hlk, hb⟩
  · by_cases n1 : (l.length : Int) ≤ n
    · have HT := Lib.hid (show textS l n = (⟨#[]⟩, [⟨atomL, 0, 2⟩]) by unfold textS; rw [if_pos (.inr n1)])
      clear h1 h2 hnf
      go_enter Tryd.func43, Tryd.ntmps43
      go_wp2_with (go_at_call 64; refine (no01_any _ _ _).mono ?_; rintro e w4 ⟨lv, rfl, hlk, hb⟩)
      go_ret2
      rw [HT.out]
      exact ⟨_, rfl, hlk, hb⟩
    · obtain ⟨k, rfl⟩ : ∃ k : Nat, n = k := ⟨n.toNat, by omega⟩
      have hk : k < l.length := by omega
      have hk2 : (k : Int) < (l.length : Int) := by omega
      obtain ⟨_, rfl⟩ | ⟨b, c, rfl, hb, hc1, hc2⟩ := h2.shape
      · simp at hk
      have hcell := h2.cell k hk
      have HT := Lib.hid (show textS l k = (l[k], []) by unfold textS; rw [if_neg (by omega)]; simp [hk])
      clear h1 h2 hnf
      go_enter Tryd.func43, Tryd.ntmps43
      go_wp2
      go_ret2
      rw [HT.out]
      exact ⟨_, rfl, LinksIs.nil _ _, Below.refl _ _⟩

def RetPutR (limit : Int) (g : Nat) (F : Nat → Prop) (w : World) (r : Int × List Lk × List ByteArray) (e : Ending) (w' : World) : Prop :=
  ∃ lv F', e = .returned (.tuple #[.int .i64 r.1, lv]) ∧ LinksIs w.heap.size lv r.2.1 w' ∧ RTabIs limit g r.2.2 F' w' ∧ Keep F w w' ∧ ∀ b, F' b → F b ∨ w.heap.size ≤ b

set_option maxHeartbeats 4000000 in
set_option maxRecDepth 100000 in
theorem putR_bad (h : RTabIs limit g l F w) (s : ByteArray) (hs : s.size ≤ 140737488351232) (hq : (quoteS s).2 ≠ []) :
    Calls Tryd.prog 41 #[.pointer (some ⟨g, 0, none⟩), .string s] w (RetPutR limit g F w (putS limit l s)) := by
  have HP := Lib.hid (show putS limit l s = (0, (quoteS s).2, l) by unfold putS; rw [if_pos hq])
  have HH := Lib.hid h
  have HQ := Lib.hid (quoteR_any s w hs)
  obtain ⟨a, c, hqe⟩ : ∃ a c, (quoteS s).2 = [⟨atomL, a, c⟩] := (quoteS_err s).resolve_left hq
  have HQE := Lib.hid hqe
  clear h hq hqe
  go_enter Tryd.func41, Tryd.ntmps41
  go_wp2_with fail
  refine HQ.out.mono ?_
  rintro e w1 ⟨lv, rfl, hlk, hb1⟩
  obtain ⟨_, hn⟩ | ⟨lb, lc, hlv, hlb1, hlb2, hlb3, hlb4⟩ := hlk.shape
  · rw [HQE.out] at hn; cases hn
  rw [hlv] at hlk
  obtain rfl := hlv
  have hl1 : (quoteS s).2.length = 1 := by rw [HQE.out]; rfl
  have HLK := Lib.hid hlk
  have HB := Lib.hid hb1
  clear hlk hb1
  go_wp2
  go_ret2
  rw [HP.out]
  have K1 := Keep.of_below HB.out (Nat.le_refl _) Nob
  have hlk := HLK.out
  rw [hl1] at hlk
  exact ⟨_, F, rfl, hlk, HH.out.keep K1 (fun _ h => h.elim), K1.more (fun _ _ h => h.elim), fun b hb => .inl hb⟩

set_option maxHeartbeats 4000000 in
set_option maxRecDepth 100000 in
theorem putR_there (h : RTabIs limit g l F w) (s : ByteArray) (hs : s.size ≤ 140737488351232) (hq : (quoteS s).2 = []) (i : Int) (hi : idxM l s.data.toList = some i) :
    Calls Tryd.prog 41 #[.pointer (some ⟨g, 0, none⟩), .string s] w (RetPutR limit g F w (putS limit l s)) := by
  have HP := Lib.hid (show putS limit l s = (i, [], l) by unfold putS; rw [if_neg (by simp [hq]), hi])
  have HH := Lib.hid h
  have HQ := Lib.hid (quoteR_any s w hs)
  have HQE := Lib.hid hq
  have HI := Lib.hid hi
  clear h hq hi
  go_enter Tryd.func41, Tryd.ntmps41
  go_wp2_with fail
  refine HQ.out.mono ?_
  rintro e w1 ⟨lv, rfl, hlk, hb1⟩
  rw [HQE.out] at hlk
  obtain ⟨hlv, _⟩ | ⟨lb, lc, hlv, hlb1, hlb2, hlb3, hlb4⟩ := hlk.shape
  all_goals
    obtain rfl := hlv
    have K1 := Lib.hid (Keep.of_below hb1 (Nat.le_refl _) Nob)
    have HF := findR_live (HH.out.keep K1.out (fun _ h => h.elim)) s
    rw [HI.out] at HF
    have HFF := Lib.hid HF
    clear hlk hb1 HF
    go_wp2_with (go_at_call 42; refine HFF.out.mono ?_; rintro e w' ⟨rfl, rfl⟩)
    go_ret2
    rw [HP.out]
    exact ⟨_, F, rfl, LinksIs.nil _ _, HH.out.keep K1.out (fun _ h => h.elim), K1.out.more (fun _ _ h => h.elim), fun b hb => .inl hb⟩

set_option maxHeartbeats 4000000 in
set_option maxRecDepth 100000 in
theorem putR_full (h : RTabIs limit g l F w) (s : ByteArray) (hs : s.size ≤ 140737488351232) (hq : (quoteS s).2 = []) (hi : idxM l s.data.toList = none) (hf : (l.length : Int) = limit) :
    Calls Tryd.prog 41 #[.pointer (some ⟨g, 0, none⟩), .string s] w (RetPutR limit g F w (putS limit l s)) := by
  have HP := Lib.hid (show putS limit l s = (0, [⟨atomL, 0, 5⟩], l) by unfold putS; rw [if_neg (by simp [hq]), hi]; simp only; rw [if_neg (by omega)])
  have HH := Lib.hid h
  have HQ := Lib.hid (quoteR_any s w hs)
  have HQE := Lib.hid hq
  have HI := Lib.hid hi
  have hge : limit ≤ (l.length : Int) := by omega
  clear h hq hi hf
  go_enter Tryd.func41, Tryd.ntmps41
  go_wp2_with fail
  refine HQ.out.mono ?_
  rintro e w1 ⟨lv, rfl, hlk, hb1⟩
  rw [HQE.out] at hlk
  obtain ⟨hlv, _⟩ | ⟨lb, lc, hlv, hlb1, hlb2, hlb3, hlb4⟩ := hlk.shape
  all_goals
    obtain rfl := hlv
    have K1 := Lib.hid (Keep.of_below hb1 (Nat.le_refl _) Nob)
    have HF := findR_live (HH.out.keep K1.out (fun _ h => h.elim)) s
    rw [HI.out] at HF
    have HFF := Lib.hid HF
    obtain ⟨⟨sv, h1, h2, h4, h6⟩, hlo, hnf⟩ := HH.out.keep K1.out (fun _ h => h.elim)
    have c0 := h1.cell 0
    have c1 := h1.cell 1
    simp only [List.getElem?_cons_zero, List.getElem?_cons_succ] at c0 c1
    have hl := run_strs_len h2
    clear hlk hb1 HF h1 h2 hnf
    go_wp2_with (go_at_call 42; refine HFF.out.mono ?_; rintro e w' ⟨rfl, rfl⟩)
    go_quiet (fail)
    go_wp2_with (go_at_call 64; refine (no01_any _ _ _).mono ?_; rintro e w4 ⟨lv2, rfl, hlk2, hb2⟩)
    go_ret2
    rw [HP.out]
    have hwz := K1.out.size
    have K3 := (K1.out.drewN _).below hb2
    exact ⟨_, F, rfl, hlk2.base (by simpa using hwz), HH.out.keep K3 (fun _ h => h.elim), K3.more (fun _ _ h => h.elim), fun b hb => .inl hb⟩

set_option maxHeartbeats 4000000 in
set_option maxRecDepth 100000 in
theorem putR_new (h : RTabIs limit g l F w) (s : ByteArray) (hs : s.size ≤ 140737488351232) (hq : (quoteS s).2 = []) (hi : idxM l s.data.toList = none) (hf : (l.length : Int) < limit) :
    Calls Tryd.prog 41 #[.pointer (some ⟨g, 0, none⟩), .string s] w (RetPutR limit g F w (putS limit l s)) := by
  have HP := Lib.hid (show putS limit l s = ((l.length : Int), [], l ++ [s]) by unfold putS; rw [if_neg (by simp [hq]), hi]; simp only; rw [if_pos hf])
  have HH := Lib.hid h
  have HQ := Lib.hid (quoteR_any s w hs)
  have HQE := Lib.hid hq
  have HI := Lib.hid hi
  have hlt : ¬ limit ≤ (l.length : Int) := by omega
  clear h hq hi
  go_enter Tryd.func41, Tryd.ntmps41
  go_wp2_with fail
  refine HQ.out.mono ?_
  rintro e w1 ⟨lv, rfl, hlk, hb1⟩
  rw [HQE.out] at hlk
  obtain ⟨hlv, _⟩ | ⟨lb, lc, hlv, hlb1, hlb2, hlb3, hlb4⟩ := hlk.shape
  all_goals
    obtain rfl := hlv
    have K1 := Lib.hid (Keep.of_below hb1 (Nat.le_refl _) Nob)
    have HF := findR_live (HH.out.keep K1.out (fun _ h => h.elim)) s
    rw [HI.out] at HF
    have HFF := Lib.hid HF
    obtain ⟨⟨sv, h1, h2, h4, h6⟩, hlo, hnf⟩ := HH.out.keep K1.out (fun _ h => h.elim)
    have c0 := h1.cell 0
    have c1 := h1.cell 1
    simp only [List.getElem?_cons_zero, List.getElem?_cons_succ] at c0 c1
    have hl := run_strs_len h2
    have C1 := Lib.hid h1
    have S1 := Lib.hid h2
    have H6 := Lib.hid h6
    have HLO := Lib.hid hlo
    have hll : l.length ≤ 1048576 := by omega
    clear hlk hb1 HF h1 h2 hnf hlo h6
    go_wp2_with (go_at_call 42; refine HFF.out.mono ?_; rintro e w' ⟨rfl, rfl⟩)
    go_quiet (fail)
    generalize hW : World.drewN _ _ = W5 at *
    have C5 := Lib.hid (show Cells W5 g _ _ by rw [← hW]; exact C1.out.drewN _)
    have S5 := Lib.hid (show StrsIs sv l W5 by rw [← hW]; exact S1.out.drewN _)
    have K5 := Lib.hid (show Keep F w W5 by rw [← hW]; exact (K1.out.more (S' := F) (fun _ _ h => h.elim)).drewN _)
    clear hW hl
    obtain ⟨v', w6, hrun, hs6, hg6, hat⟩ := S5.out.app s (by omega)
    have nsv : sv.ownBlock ≠ some g := S5.out.ne_cells C5.out (by decide)
    have S6 := Lib.hid hs6
    have hw5 := K5.out.size
    have K6 := Lib.hid ((K5.out.alloc (.cells #[.string s] 9 (0, 0))).grown hg6 (fun k hk _ => H6.out k hk))
    have C6 := Lib.hid ((C5.out.alloc (.cells #[.string s] 9 (0, 0))).grown hg6 nsv)
    have HAT := Lib.hid hat
    have c1' := C5.out.cell 1
    have d1 := C6.out.cell 1
    have f1 := C6.out.frozen 1
    simp only [List.getElem?_cons_zero, List.getElem?_cons_succ] at c1' d1
    clear hs6 hg6 hat c0 c1
    go_wp2_with (at_builtin; refine stop ?_)
    refine Stopped.of ?_
    refine wp_app_eq rfl (.tmp 42) (.tmp 44) _ _ rfl _ _ v' w6 rfl rfl hrun ?_
    clear hrun
    obtain ⟨_, hno⟩ | ⟨sb, sc, hv', hsb, _, _⟩ := S6.out.shape
    · simp at hno
    obtain rfl := hv'
    have hl5 : ((l ++ [s]).length : Int) - 1 = l.length := by simp
    go_wp2
    go_ret2
    rw [HP.out]
    have S6' := S6.out
    have HAT' := HAT.out
    have hlen : (l ++ [s]).length = l.length + 1 := by simp
    rw [hlen] at S6' HAT'
    generalize hv' : (Value.slice (some ⟨sb, 0, none⟩) (l.length + 1) sc) = v' at *
    have CF := C6.out.set_ 1 v'
    have KF := K6.out.setCell (p := ⟨g, 1, none⟩) (fun _ => h4) v'
    have SF : StrsIs v' (l ++ [s]) (w6.setCell ⟨g, 1, none⟩ v') := S6'.frame fun b hb => Below.heap_setCell _ _ _ _ (by rintro rfl; exact S6'.ne_cells C6.out (by decide) hb)
    refine ⟨_, fun b => b = g ∨ v'.ownBlock = some b, rfl, LinksIs.nil _ _, ⟨⟨v', by simpa using CF, SF, .inl rfl, fun b hb => .inr hb⟩, ?_, ?_⟩, KF, ?_⟩
    · have := HLO.out
      refine ⟨this.1, this.2.1, ?_⟩
      simp only [hlen]; omega
    · rintro b (rfl | hb)
      · exact ⟨CF.lt, NF.cells CF (by decide)⟩
      · exact ⟨(SF.lt hb).1, NF.strs SF hb⟩
    · rintro b (rfl | hb)
      · exact .inl h4
      · rcases HAT' with e | e
        · exact .inl (H6.out b (by rw [← e]; exact hb))
        · right
          rw [e] at hb
          have := Option.some.inj hb
          omega
theorem putR_live (h : RTabIs limit g l F w) (s : ByteArray) (hs : s.size ≤ 140737488351232) :
    Calls Tryd.prog 41 #[.pointer (some ⟨g, 0, none⟩), .string s] w (RetPutR limit g F w (putS limit l s)) := by
  by_cases hq : (quoteS s).2 = []
  · cases hi : idxM l s.data.toList with
    | some i => exact putR_there h s hs hq i hi
    | none =>
      by_cases hf : (l.length : Int) = limit
      · exact putR_full h s hs hq hi hf
      · exact putR_new h s hs hq hi (by have := h.lo.2.2; omega)
  · exact putR_bad h s hs hq
end
end Go.Proofs.YtdafikemndaeeaaDoor
