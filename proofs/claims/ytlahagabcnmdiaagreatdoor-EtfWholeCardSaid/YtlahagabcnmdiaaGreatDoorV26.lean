/- Texts laid together: RfC, RfD, RfE, RfF, RfG. -/
import Derived.Test.YtlahagabcnmdiaaGreatDoorV23
import Derived.Test.YtlahagabcnmdiaaGreatDoorV17
import Derived.Test.YtlahagabcnmdiaaGreatDoorV25
section
/- The reference of layer 4: its reader: named. Printed by wip/rfc.py. -/
open Go Go.RowKit
namespace Go.Proofs.YtlahagabcnmdiaaGreatDoor
set_option linter.unusedVariables false
set_option linter.unusedSimpArgs false

theorem rfAtom_any {base g : Nat} {l : List UInt8} {bv av lv : Value} {st : Rd} {w : World} (tag m more : Nat) (h : RfIs base g l bv st av lv [] w) (hm : tag + m < l.length) (ht : tag + m ≤ 65536) (hmo : more ≤ 100) :
    Calls Tryz.prog 141 #[.pointer (some ⟨g, 0, none⟩), .int .i64 tag, .int .i64 (tag + m : Nat), .int .i64 more] w (AtR base g l bv av w st (txtS l tag (l.getD (tag + m) 0 == 118) more ⟨tag + m + 1, st.part, st.atoms⟩)) := by
  cases hw : l.getD (tag + m) 0 == 118 with
  | true => exact rfAtom_wide tag m more h hm ht hmo hw
  | false => exact rfAtom_thin tag m more h hm ht hmo hw
/-- an atom more -/
theorem RfRes.app {base g : Nat} {l : List UInt8} {bv av lv : Value} {k : List Lk} {st : Rd} {w : World} (h : RfIs base g l bv st av lv k w) (s : ByteArray) (hl : st.atoms.length + 1 ≤ st.part) :
    ∃ a' n' c' w', (Builtin.append_ #[56, 56] 56 #[av, .slice (some ⟨w.heap.size, 0, none⟩) 1 1]).run Tryz.prog (w.alloc (.cells #[.string s] 9 (0, 0))) = .ok (.slice a' n' c') w' ∧ Cells w' g 178 [bv, .int .i64 st.at_, .int .i64 st.part, av, lv] ∧ Below base w w' ∧ (∀ q, q < w.heap.size → av.ownBlock ≠ some q → w'.heap[q]? = w.heap[q]?) ∧
      RfRes base g l bv av w ⟨st.at_, st.part, st.atoms ++ [s]⟩ (.slice a' n' c') lv k (w'.setCell ⟨g, 3, none⟩ (.slice a' n' c')) := by
  obtain ⟨v', w', hr, h2, hg, hob⟩ := h.atoms.app s (by have := h.ok.part; have := h.ok.atoms; omega)
  obtain ⟨a', n', c', rfl⟩ : ∃ a n c, v' = .slice a n c := by
    rcases h2.shape with ⟨rfl, _⟩ | ⟨_, _, rfl, _⟩ <;> exact ⟨_, _, _, rfl⟩
  have hb1 : Below w.heap.size w (w.alloc (.cells #[.string s] 9 (0, 0))) := (Below.refl _ _).alloc (Nat.le_refl _) _
  have hC := (h.cells.below hb1).grown hg (fun e => h.ne e rfl)
  have hsz : (w.alloc (.cells #[.string s] 9 (0, 0))).heap.size = w.heap.size + 1 := by simp
  have hvg : ∀ q, (Value.slice a' n' c').ownBlock = some q → q ≠ g := fun q hq => by
    rcases hob with e | e
    · rw [e] at hq; exact h.ne hq
    · rw [e] at hq; cases hq; have := h.cells.lt; omega
  have hown : ∀ q, (Value.slice a' n' c').ownBlock = some q → av.ownBlock = some q ∨ w.heap.size ≤ q := fun q hq => by
    rcases hob with e | e
    · rw [e] at hq; exact .inl hq
    · rw [e] at hq; cases hq; exact .inr (Nat.le_succ _)
  have hk0 : Keep (fun q => av.ownBlock = some q) w w' := (keepB hb1).grown hg (fun k hk _ => hk)
  have hk : Keep (LsK g av) w w' := (keepB hb1).grown hg (fun k hk _ => .inr hk)
  have hbs : base ≤ w.heap.size := Nat.le_trans h.hg (Nat.le_of_lt h.cells.lt)
  refine ⟨a', n', c', w', hr, hC, hk.toBelow hbs (fun q hq => (h.lt hq).2), fun q h1 h2 => hk0.block q h1 h2, ⟨h.hg, hC.set_ 3 _, ?_, h.far, h2.frame fun q hq => Below.heap_setCell _ _ _ _ (hvg q hq), fun q hq => ?_, ?_, h.nil, ⟨h.ok.le, h.ok.in_, h.ok.part, by rw [List.length_append]; exact hl⟩⟩, hk.setCell (p := ⟨g, 3, none⟩) (fun _ => .inl rfl) _, hown⟩
  · refine h.buf.far_keep h.far fun q hq => ?_
    rw [Below.heap_setCell _ _ _ _ (by have := h.hg; show q ≠ g; omega)]
    refine hk.block q (Nat.lt_of_lt_of_le hq hbs) fun e => ?_
    have := (h.lt e).2
    omega
  · rcases hown q hq with e | e
    · exact h.own q e
    · exact Nat.le_trans hbs e
  · refine h.links.frame fun q hq => ?_
    have hqg := h.links.ne_cells h.cells (by decide) hq
    rw [Below.heap_setCell _ _ _ _ hqg]
    refine hk.block q (h.links.block hq).2 fun e => ?_
    rcases e with e | e
    · exact hqg e
    · obtain ⟨cur, hc⟩ := h.links.etype hq
      obtain ⟨_, cur2, hc2⟩ := h.atoms.lt e
      rw [hc] at hc2
      injection hc2 with hc2
      injection hc2 with _ h3
      exact absurd h3 (by decide)
theorem namS_has (l : List UInt8) (tag m more p : Nat) (a : List ByteArray) : namS l tag more ⟨tag + m, p, a⟩ =
    if hasS l tag (m + 1) = [] then (if l.getD (tag + m) 0 ≠ 118 ∧ l.getD (tag + m) 0 ≠ 119 then .bad [⟨etfL, (tag + m : Nat), 83⟩]
      else (txtS l tag (l.getD (tag + m) 0 == 118) more ⟨tag + m + 1, p, a⟩).bind fun s st2 => if (nodeS s).2.2 ≠ [] then .bad (ofS tag (nodeS s).2.2) else .ok s ⟨st2.at_, st2.part, st2.atoms ++ [s]⟩)
    else .bad (hasS l tag (m + 1)) := by
  unfold namS
  rw [hasS_need]
  by_cases hs : hasS l tag (m + 1) = []
  · rw [if_pos hs, if_pos hs]; rfl
  · rw [if_neg hs, if_neg hs]; rfl
theorem someLk {base : Nat} {v : Value} {k : Lk} {l : List Lk} {w : World} (h : LinksIs base v (k :: l) w) : ∃ g n c, v = .slice (some ⟨g, 0, none⟩) n c := by
  rcases h.shape with ⟨_, hn⟩ | ⟨g, c, rfl, _⟩
  · cases hn
  · exact ⟨g, _, c, rfl⟩
set_option maxHeartbeats 16000000 in
set_option maxRecDepth 100000 in
theorem rfNamed_any {base g : Nat} {l : List UInt8} {bv av lv : Value} {st : Rd} {w : World} (tag m more : Nat) (h : RfIs base g l bv st av lv [] w) (ht : tag + m ≤ 65600) (hmo : more ≤ 100) (hat : st.atoms.length + 1 ≤ st.part) :
    Calls Tryz.prog 143 #[.pointer (some ⟨g, 0, none⟩), .int .i64 tag, .int .i64 (tag + m : Nat), .int .i64 more] w (AtR base g l bv av w st (namS l tag more ⟨tag + m, st.part, st.atoms⟩)) := by
  have HG := Lib.hid h.cells.lt
  have HV := Lib.hid (fun q (hq : av.ownBlock = some q) => (h.atoms.lt hq).1)
  have HBS := Lib.hid (Nat.le_trans h.hg (Nat.le_of_lt h.cells.lt))
  have HAT := Lib.hid hat
  have HLL := Lib.hid h.buf.len_le
  have HT := Lib.hid (namS_has l tag m more st.part st.atoms)
  obtain ⟨ba, bc, rfl⟩ := h.form
  have ht0 : (0 : Int) ≤ (tag : Int) := by omega
  have ht1 : (tag : Int) ≤ 65600 := by omega
  have hm0 : (0 : Int) ≤ (m : Int) := by omega
  have hm1 : (m : Int) ≤ 65600 := by omega
  have hmo0 : (0 : Int) ≤ (more : Int) := by omega
  have hmo1 : (more : Int) ≤ 100 := by omega
  have hsub : (tag : Int) + (m : Int) - (tag : Int) = (m : Int) := by omega
  have hll : (l.length : Int) ≤ 9223372036854775807 := HLL.out
  have hne := run_neqLinks
  have HH1 := Lib.hid (show Calls Tryz.prog 139 #[.pointer (some ⟨g, 0, none⟩), .int .i64 tag, .int .i64 ((m : Int) + 1)] w _ from rfHas_any tag (m + 1) h (by omega) (by omega))
  rw [show ((tag + m : Nat) : Int) = (tag : Int) + (m : Int) by omega]
  clear h hat
  go_enter Tryz.func143, Tryz.ntmps143
  go_wp2_with fail
  refine HH1.out.mono ?_
  rintro e w2 ⟨rfl, lv2, hr⟩
  by_cases hs1 : hasS l tag (m + 1) = []
  · rw [hs1] at hr
    obtain rfl := hr.is_.nil rfl
    rw [decide_eq_true hs1]
    have R2 := Lib.hid hr
    have HT2 := Lib.hid (HT.out.trans (if_pos hs1))
    have HL1 := Lib.hid (hasS_len hs1)
    have c0 := hr.is_.cells.cell 0
    simp only [List.getElem?_cons_zero, List.getElem?_cons_succ] at c0
    obtain ⟨q, o, rfl, hx⟩ := hr.is_.buf.get (tag + m) (by have := hasS_len hs1; omega)
    have hmi : ((tag : Int) + (m : Int)) < (l.length : Int) := by have := HL1.out.1; omega
    have HCV : Hid (∀ b : UInt8, ((((l.getD (tag + m) 0).toNat : Nat) : Int) == (b.toNat : Int)) = (l.getD (tag + m) 0 == b)) := Lib.hid fun b => by
      rw [Bool.eq_iff_iff, beq_iff_eq, beq_iff_eq]
      exact ⟨fun e => UInt8.toNat_inj.1 (by omega), fun e => by rw [e]⟩
    clear hs1 hr HH1
    have HATM := Lib.hid (show Calls Tryz.prog 141 #[.pointer (some ⟨g, 0, none⟩), .int .i64 tag, .int .i64 ((tag : Int) + (m : Int)), .int .i64 more] w2 _ from rfAtom_any tag m more R2.out.is_ (by have := HL1.out.1; omega) (by have := HL1.out.2; omega) hmo)
    by_cases hb : l.getD (tag + m) 0 ≠ 118 ∧ l.getD (tag + m) 0 ≠ 119
    · have HT3 := Lib.hid (HT2.out.trans (if_pos hb))
      have h118 : ((((l.getD (tag + m) 0).toNat : Nat) : Int) != 118) = true := by
        have := (HCV.out 118).trans (beq_eq_false_iff_ne.2 hb.1)
        have e : ((((l.getD (tag + m) 0).toNat : Nat) : Int) == 118) = false := this
        rw [bne, e]; rfl
      have h119 : ((((l.getD (tag + m) 0).toNat : Nat) : Int) != 119) = true := by
        have := (HCV.out 119).trans (beq_eq_false_iff_ne.2 hb.2)
        have e : ((((l.getD (tag + m) 0).toNat : Nat) : Int) == 119) = false := this
        rw [bne, e]; rfl
      have HFA := Lib.hid (show Calls Tryz.prog 125 #[.pointer (some ⟨g, 0, none⟩), .int .i64 ((tag : Int) + (m : Int)), .int .i64 83] w2 _ from rfFail_any ((tag + m : Nat) : Int) 83 R2.out.is_)
      clear HCV HATM hb
      generalize (l.getD (tag + m) 0).toNat = cv at *
      go_wp2_with fail
      refine HFA.out.mono ?_
      rintro e w3 ⟨rfl, lv3, hr⟩
      have R3 := Lib.hid (RfRes.trans HG.out HV.out R2.out hr)
      clear hr HFA c0 hx
      go_wp2
      go_ret2
      rw [HT3.out]
      exact ⟨_, 0, _, _, _, _, rfl, R3.out, by omega, rfl, rfl, by simp⟩
    · have HT3 := Lib.hid (HT2.out.trans (if_neg hb))
      have HWAY : Hid ((l.getD (tag + m) 0).toNat = 118 ∨ (l.getD (tag + m) 0).toNat = 119) := Lib.hid (by
        by_cases h1 : l.getD (tag + m) 0 = 118
        · exact .inl (by rw [h1]; rfl)
        · exact .inr (by rw [Classical.not_not.1 fun h2 => hb ⟨h1, h2⟩]; rfl))
      generalize htx : txtS l tag (l.getD (tag + m) 0 == 118) more ⟨tag + m + 1, st.part, st.atoms⟩ = tx at *
      have HTX := Lib.hid htx
      clear HCV hb htx
      generalize (l.getD (tag + m) 0).toNat = cv at *
      have hor := HWAY.out
      clear HWAY
      rcases hor with rfl | rfl
      · go_wp2_with fail
        refine HATM.out.mono ?_
        rintro e w3 ⟨s, nx, av3, lv3, st3, k3, rfl, hr, hnx, hpe, hm⟩
        have HPE := Lib.hid hpe
        clear hpe
        have R3 := Lib.hid (RfRes.trans HG.out HV.out R2.out hr)
        have HNX := Lib.hid hnx
        cases tx with
        | bad kk =>
          obtain ⟨rfl, hkk⟩ := hm
          have HKK := Lib.hid hkk
          have HT4 := Lib.hid (show namS l tag more ⟨tag + m, st.part, st.atoms⟩ = .bad k3 from HT3.out)
          obtain ⟨_, q3, n3, c3, rfl⟩ := hr.is_.lform.resolve_left (fun e => hkk e.1)
          have d4 := hr.is_.cells.cell 4
          simp only [List.getElem?_cons_zero, List.getElem?_cons_succ] at d4
          clear hr hnx hkk HATM c0 hx
          go_wp2
          go_ret2
          rw [HT4.out]
          exact ⟨_, 0, _, _, _, _, rfl, R3.out, by omega, HPE.out, rfl, HKK.out⟩
        | ok x s2 =>
          obtain ⟨rfl, rfl, rfl, rfl⟩ := hm
          have HT4 := Lib.hid (show namS l tag more ⟨tag + m, st.part, st.atoms⟩ = if (nodeS s).2.2 ≠ [] then .bad (ofS tag (nodeS s).2.2) else .ok s ⟨s2.at_, s2.part, s2.atoms ++ [s]⟩ from HT3.out)
          obtain rfl := hr.is_.nil rfl
          have d4 := hr.is_.cells.cell 4
          simp only [List.getElem?_cons_zero, List.getElem?_cons_succ] at d4
          have HSZ := Lib.hid (show s.size ≤ 65536 ∧ s2.atoms = st.atoms ∧ s2.part = st.part from by
            rcases txtS_cases l tag (l.getD (tag + m) 0 == 118) more ⟨tag + m + 1, st.part, st.atoms⟩ with ⟨k, e⟩ | ⟨s', n, e, h1, h2, h3⟩
            · rw [HTX.out] at e; cases e
            · rw [HTX.out] at e; cases e; exact ⟨by dsimp only at *; omega, rfl, rfl⟩)
          have HND := Lib.hid (fun W => nodeR_nil s W (by have := HSZ.out.1; omega))
          rw [nodeRS_eq] at HND
          have hnx0 : (0 : Int) ≤ (s2.at_ : Int) := by omega
          have hnx1 : (s2.at_ : Int) ≤ 200000 := by omega
          clear hr hnx HATM c0 hx
          go_wp2_with fail
          refine (HND.out _).mono ?_
          rintro e w4 ⟨lv4, rfl, hl4, hb4, hn4⟩
          have R4 := Lib.hid (R3.out.more hb4)
          by_cases hnn : (nodeS s).2.2 = []
          · obtain rfl := hn4 hnn
            have HT5 := Lib.hid (HT4.out.trans (if_neg (fun e => e hnn)))
            obtain ⟨av', rfl⟩ : ∃ av', av3 = av' := ⟨_, rfl⟩
            obtain ⟨ax, ac, hav⟩ := R4.out.is_.aform
            subst hav
            have ha5 := HSZ.out
            obtain ⟨a', n', c', w5, hrun, hC, hB, hK, hres⟩ := RfRes.app R4.out.is_ s (by show s2.atoms.length + 1 ≤ st.part; rw [ha5.2.1]; exact HAT.out)
            have HR5 := Lib.hid hrun
            have HC5 := Lib.hid hC
            have R5 := Lib.hid (RfRes.trans HG.out HV.out R4.out hres)
            have d3 := R4.out.is_.cells.cell 3
            have e3 := hC.cell 3
            have f3 := hC.frozen 3
            simp only [List.getElem?_cons_zero, List.getElem?_cons_succ] at d3 e3
            clear hl4 hb4 hn4 hnn hrun hC hB hK hres HND d4 ha5
            generalize s2.atoms.length = sal at *
            go_wp2_with (at_builtin; refine stop ?_)
            refine Stopped.of ?_
            refine wp_app_eq rfl (.tmp 75) (.tmp 77) _ _ rfl _ _ (.slice a' n' c') w5 rfl rfl HR5.out ?_
            clear d3
            go_wp2
            go_ret2
            rw [HT5.out]
            have h2 := HSZ.out
            exact ⟨_, s2.at_, _, _, _, _, rfl, R5.out, by omega, rfl, rfl, rfl, rfl, rfl⟩
          · obtain ⟨k4, r4, hkr⟩ : ∃ k r, (nodeS s).2.2 = k :: r := by
              cases hq : (nodeS s).2.2 with
              | nil => exact absurd hq hnn
              | cons k r => exact ⟨k, r, rfl⟩
            have HT5 := Lib.hid (HT4.out.trans (if_pos hnn))
            have HKR := Lib.hid hkr
            rw [hkr] at hl4
            have HR4 := Lib.hid (show r4.length ≤ 50 from by
              have : (nodeS s).2.2.length ≤ 1 := by unfold nodeS; split <;> simp
              rw [hkr] at this; simp at this; rw [this]; decide)
            obtain ⟨q4, n4, c4, rfl⟩ := someLk hl4
            have HO := Lib.hid (overR_any (tag : Int) _ k4 r4 _ w4 hl4 HR4.out)
            clear hl4 hb4 hn4 hnn hkr HND d4
            go_wp2_with fail
            refine HO.out.mono ?_
            rintro e w5 ⟨lv5, rfl, hl5, hb5⟩
            obtain ⟨q5, n5, c5, rfl⟩ := someLk hl5
            have R5 := Lib.hid (R4.out.more hb5)
            have R6 := Lib.hid (RfRes.fails HG.out HV.out R5.out (hl5.base (show base ≤ w4.heap.size from Nat.le_trans HBS.out R4.out.keep.size)) (by simp))
            have d4 := R5.out.is_.cells.cell 4
            have f4 := R5.out.is_.cells.frozen 4
            simp only [List.getElem?_cons_zero, List.getElem?_cons_succ] at d4
            clear hl5 hb5 HO
            go_wp2
            go_ret2
            rw [HT5.out, HKR.out]
            exact ⟨_, 0, _, _, _, _, rfl, R6.out, by omega, rfl, rfl, by simp [ofS]⟩
      · go_wp2_with fail
        refine HATM.out.mono ?_
        rintro e w3 ⟨s, nx, av3, lv3, st3, k3, rfl, hr, hnx, hpe, hm⟩
        have HPE := Lib.hid hpe
        clear hpe
        have R3 := Lib.hid (RfRes.trans HG.out HV.out R2.out hr)
        have HNX := Lib.hid hnx
        cases tx with
        | bad kk =>
          obtain ⟨rfl, hkk⟩ := hm
          have HKK := Lib.hid hkk
          have HT4 := Lib.hid (show namS l tag more ⟨tag + m, st.part, st.atoms⟩ = .bad k3 from HT3.out)
          obtain ⟨_, q3, n3, c3, rfl⟩ := hr.is_.lform.resolve_left (fun e => hkk e.1)
          have d4 := hr.is_.cells.cell 4
          simp only [List.getElem?_cons_zero, List.getElem?_cons_succ] at d4
          clear hr hnx hkk HATM c0 hx
          go_wp2
          go_ret2
          rw [HT4.out]
          exact ⟨_, 0, _, _, _, _, rfl, R3.out, by omega, HPE.out, rfl, HKK.out⟩
        | ok x s2 =>
          obtain ⟨rfl, rfl, rfl, rfl⟩ := hm
          have HT4 := Lib.hid (show namS l tag more ⟨tag + m, st.part, st.atoms⟩ = if (nodeS s).2.2 ≠ [] then .bad (ofS tag (nodeS s).2.2) else .ok s ⟨s2.at_, s2.part, s2.atoms ++ [s]⟩ from HT3.out)
          obtain rfl := hr.is_.nil rfl
          have d4 := hr.is_.cells.cell 4
          simp only [List.getElem?_cons_zero, List.getElem?_cons_succ] at d4
          have HSZ := Lib.hid (show s.size ≤ 65536 ∧ s2.atoms = st.atoms ∧ s2.part = st.part from by
            rcases txtS_cases l tag (l.getD (tag + m) 0 == 118) more ⟨tag + m + 1, st.part, st.atoms⟩ with ⟨k, e⟩ | ⟨s', n, e, h1, h2, h3⟩
            · rw [HTX.out] at e; cases e
            · rw [HTX.out] at e; cases e; exact ⟨by dsimp only at *; omega, rfl, rfl⟩)
          have HND := Lib.hid (fun W => nodeR_nil s W (by have := HSZ.out.1; omega))
          rw [nodeRS_eq] at HND
          have hnx0 : (0 : Int) ≤ (s2.at_ : Int) := by omega
          have hnx1 : (s2.at_ : Int) ≤ 200000 := by omega
          clear hr hnx HATM c0 hx
          go_wp2_with fail
          refine (HND.out _).mono ?_
          rintro e w4 ⟨lv4, rfl, hl4, hb4, hn4⟩
          have R4 := Lib.hid (R3.out.more hb4)
          by_cases hnn : (nodeS s).2.2 = []
          · obtain rfl := hn4 hnn
            have HT5 := Lib.hid (HT4.out.trans (if_neg (fun e => e hnn)))
            obtain ⟨av', rfl⟩ : ∃ av', av3 = av' := ⟨_, rfl⟩
            obtain ⟨ax, ac, hav⟩ := R4.out.is_.aform
            subst hav
            have ha5 := HSZ.out
            obtain ⟨a', n', c', w5, hrun, hC, hB, hK, hres⟩ := RfRes.app R4.out.is_ s (by show s2.atoms.length + 1 ≤ st.part; rw [ha5.2.1]; exact HAT.out)
            have HR5 := Lib.hid hrun
            have HC5 := Lib.hid hC
            have R5 := Lib.hid (RfRes.trans HG.out HV.out R4.out hres)
            have d3 := R4.out.is_.cells.cell 3
            have e3 := hC.cell 3
            have f3 := hC.frozen 3
            simp only [List.getElem?_cons_zero, List.getElem?_cons_succ] at d3 e3
            clear hl4 hb4 hn4 hnn hrun hC hB hK hres HND d4 ha5
            generalize s2.atoms.length = sal at *
            go_wp2_with (at_builtin; refine stop ?_)
            refine Stopped.of ?_
            refine wp_app_eq rfl (.tmp 75) (.tmp 77) _ _ rfl _ _ (.slice a' n' c') w5 rfl rfl HR5.out ?_
            clear d3
            go_wp2
            go_ret2
            rw [HT5.out]
            have h2 := HSZ.out
            exact ⟨_, s2.at_, _, _, _, _, rfl, R5.out, by omega, rfl, rfl, rfl, rfl, rfl⟩
          · obtain ⟨k4, r4, hkr⟩ : ∃ k r, (nodeS s).2.2 = k :: r := by
              cases hq : (nodeS s).2.2 with
              | nil => exact absurd hq hnn
              | cons k r => exact ⟨k, r, rfl⟩
            have HT5 := Lib.hid (HT4.out.trans (if_pos hnn))
            have HKR := Lib.hid hkr
            rw [hkr] at hl4
            have HR4 := Lib.hid (show r4.length ≤ 50 from by
              have : (nodeS s).2.2.length ≤ 1 := by unfold nodeS; split <;> simp
              rw [hkr] at this; simp at this; rw [this]; decide)
            obtain ⟨q4, n4, c4, rfl⟩ := someLk hl4
            have HO := Lib.hid (overR_any (tag : Int) _ k4 r4 _ w4 hl4 HR4.out)
            clear hl4 hb4 hn4 hnn hkr HND d4
            go_wp2_with fail
            refine HO.out.mono ?_
            rintro e w5 ⟨lv5, rfl, hl5, hb5⟩
            obtain ⟨q5, n5, c5, rfl⟩ := someLk hl5
            have R5 := Lib.hid (R4.out.more hb5)
            have R6 := Lib.hid (RfRes.fails HG.out HV.out R5.out (hl5.base (show base ≤ w4.heap.size from Nat.le_trans HBS.out R4.out.keep.size)) (by simp))
            have d4 := R5.out.is_.cells.cell 4
            have f4 := R5.out.is_.cells.frozen 4
            simp only [List.getElem?_cons_zero, List.getElem?_cons_succ] at d4
            clear hl5 hb5 HO
            go_wp2
            go_ret2
            rw [HT5.out, HKR.out]
            exact ⟨_, 0, _, _, _, _, rfl, R6.out, by omega, rfl, rfl, by simp [ofS]⟩
  · rw [decide_eq_false hs1]
    have R4 := Lib.hid hr
    have HT3 := Lib.hid (HT.out.trans (if_neg hs1))
    have HS2 := Lib.hid hs1
    clear hs1 hr HH1
    go_wp2
    go_ret2
    rw [HT3.out]
    exact ⟨_, 0, _, _, _, _, rfl, R4.out, by omega, rfl, rfl, HS2.out⟩
end Go.Proofs.YtlahagabcnmdiaaGreatDoor
end
section
/- The reference of layer 4: its reader: plain. Printed by wip/rfd.py. -/
open Go Go.RowKit
namespace Go.Proofs.YtlahagabcnmdiaaGreatDoor
set_option linter.unusedVariables false
set_option linter.unusedSimpArgs false

/-- behind a call that reads a term: a term in new memory, and a reader that is in order, be it well or not; p: parts that are counted with it -/
def TmO (base g : Nat) (l : List UInt8) (bv av : Value) (w : World) (st : Rd) (p : Nat) (r : Res Tm) (e : Ending) (w' : World) : Prop :=
  ∃ (t : Tm) (st' : Rd) (av' lv' : Value) (k : List Lk) (vs : List Value), e = .returned (.agg vs.toArray) ∧ TmAt (fun q => w.heap.size ≤ q ∧ av'.ownBlock ≠ some q) t vs w' ∧ RfRes base g l bv av w st' av' lv' k w' ∧ st.part + p + t.args.length ≤ st'.part ∧ (t.kind = 7 → t.args ≠ []) ∧
    match r with
    | .ok x s => k = [] ∧ t = x ∧ st' = s ∧ s.part ≤ 4096
    | .bad kk => k = kk ∧ kk ≠ []
theorem TmAt.leaf (S : Nat → Prop) (w : World) {k i : Int} {s : ByteArray} {c : Int} (hp : Part k i s c) : TmAt S (.mk k i s c [] []) [.int .i64 k, .int .i64 i, .string s, .int .u32 c, .slice none 0 0, .slice none 0 0] w := by
  rw [TmAt]
  exact ⟨hp, .slice none 0 0, none, 0, rfl, ⟨none, 0, rfl, ⟨Nat.le_refl _, by simp⟩, by simp [maxLen], fun i hi => absurd hi (Nat.not_lt_zero _)⟩, by simp [maxLen], by simp, by rw [ArgsAt]; trivial⟩
/-- a part behind its place: the tag's byte is asked for, then what is behind it -/
def bodyN (l : List UInt8) (rd : Rd → Res Tm) (tag : Nat) (k : UInt8) (p : Nat) (a : List ByteArray) : Res Tm := (needS l tag 1 ⟨tag, p, a⟩).bind fun _ st2 => bodyS l rd tag k st2
theorem hasS_long {l : List UInt8} {tag n : Nat} (h : ¬ tag + 1 ≤ 65536) (hn : 1 ≤ n) : hasS l tag n = [⟨etfL, tag, 4⟩] := by
  unfold hasS
  rw [if_pos (by omega)]
theorem bodyN_eq (l : List UInt8) (rd : Rd → Res Tm) (tag : Nat) (k : UInt8) (p : Nat) (a : List ByteArray) (n : Nat) (hn : 1 ≤ n) (hin : tag < l.length) (r : Res Tm) (h : tag + 1 ≤ 65536 → bodyS l rd tag k ⟨tag + 1, p, a⟩ = if hasS l tag n = [] then r else .bad (hasS l tag n)) :
    bodyN l rd tag k p a = if hasS l tag n = [] then r else .bad (hasS l tag n) := by
  unfold bodyN needS
  dsimp only
  by_cases h1 : tag + 1 ≤ 65536
  · rw [if_neg (by omega), if_neg (by omega)]
    exact h h1
  · rw [if_pos (by omega), hasS_long h1 hn, if_neg (by simp)]
    rfl
def zeroT : Tm := .mk 0 0 ⟨#[]⟩ 0 [] []
theorem zeroT_at (S : Nat → Prop) (w : World) : TmAt S zeroT termZ w := TmAt.leaf S w ⟨by decide, by decide, by decide, by decide, Nat.zero_le _, by decide, by decide⟩
set_option maxHeartbeats 16000000 in
set_option maxRecDepth 100000 in
theorem rfPlain_97 {base g : Nat} {l : List UInt8} {bv av lv : Value} {st : Rd} {w : World} (rd : Rd → Res Tm) (h : RfIs base g l bv st av lv [] w) (hin : st.at_ < l.length) (hK : l.getD st.at_ 0 = 97) (hat : st.atoms.length + 1 ≤ st.part) (hpt : st.part ≤ 4096) :
    Calls Tryz.prog 126 #[.pointer (some ⟨g, 0, none⟩), .int .i64 st.at_] w (TmO base g l bv av w st 0 (bodyN l rd st.at_ 97 st.part st.atoms)) := by
  have HG := Lib.hid h.cells.lt
  have HV := Lib.hid (fun q (hq : av.ownBlock = some q) => (h.atoms.lt hq).1)
  have HBS := Lib.hid (Nat.le_trans h.hg (Nat.le_of_lt h.cells.lt))
  have HAT := Lib.hid hat
  have HPT := Lib.hid hpt
  have HOK := Lib.hid h.ok
  have HLL := Lib.hid h.buf.len_le
  have BX := Lib.hid ((Below.refl w.heap.size w).alloc (Nat.le_refl _) (.cells #[.int .i64 0, .int .i64 0, .string ⟨#[]⟩, .int .u32 0, .slice none 0 0, .slice none 0 0] 35 (0, 0)))
  have R1 := Lib.hid (show Cells (w.alloc (.cells #[.int .i64 0, .int .i64 0, .string ⟨#[]⟩, .int .u32 0, .slice none 0 0, .slice none 0 0] 35 (0, 0))) w.heap.size 35 termZ from Cells.new w 35 termZ)
  have RA := Lib.hid (RfRes.below h BX.out)
  have HG1 := Lib.hid (Nat.lt_of_lt_of_le HG.out BX.out.size)
  have HV1 := Lib.hid (fun q (hq : av.ownBlock = some q) => Nat.lt_of_lt_of_le (HV.out q hq) BX.out.size)
  have HNR := Lib.hid (show ¬ LsK g av w.heap.size from fun e => by
    rcases e with e | e
    · have := HG.out; omega
    · have := HV.out _ e; omega)
  obtain ⟨tag, part, atoms⟩ := st
  dsimp only at *
  obtain ⟨ba, bc, rfl⟩ := h.form
  obtain ⟨q, o, rfl, hx0⟩ := h.buf.get tag hin
  have hx := (BX.out.cell (p := ⟨q, o + tag, none⟩) (World.block_lt_of_cell? w _ hx0)).trans hx0
  rw [hK] at hx
  clear hx0
  have htag : tag ≤ 65536 := HOK.out.le
  have ht0 : (0 : Int) ≤ (tag : Int) := by omega
  have ht1 : (tag : Int) ≤ 65536 := by omega
  have hti : (tag : Int) < (l.length : Int) := by omega
  have hll : (l.length : Int) ≤ 9223372036854775807 := HLL.out
  have hne := run_neqLinks
  have HT := Lib.hid (bodyN_eq l rd tag 97 part atoms 2 (by decide) hin (.ok (.mk 1 (l.getD (tag + 1) 0).toNat ⟨#[]⟩ 0 [] []) ⟨tag + 2, part, atoms⟩) fun h1 => by
    unfold bodyS
    rw [if_pos rfl, hasS_need]
    split
    · rfl
    · rfl)
  clear h hat hpt
  go_enter Tryz.func126, Tryz.ntmps126
  go_upto_region 1 with (fail)
  generalize w.alloc (.cells #[.int .i64 0, .int .i64 0, .string ⟨#[]⟩, .int .u32 0, .slice none 0 0, .slice none 0 0] 35 (0, 0)) = w1 at *
  unfold termZ at *
  have c0 := RA.out.is_.cells.cell 0
  simp only [List.getElem?_cons_zero, List.getElem?_cons_succ] at c0
  have HH := Lib.hid (rfHas_any tag 2 RA.out.is_ (by omega) (by omega))
  go_wp2_with fail
  refine HH.out.mono ?_
  rintro e w2 ⟨rfl, lv2, hr⟩
  by_cases hs1 : hasS l tag 2 = []
  · rw [hs1] at hr
    obtain rfl := hr.is_.nil rfl
    rw [decide_eq_true hs1]
    have R2 := Lib.hid hr
    have HT2 := Lib.hid (HT.out.trans (if_pos hs1))
    have HL1 := Lib.hid (hasS_len hs1)
    clear hs1 hr HH c0 hx
    have hok3 : RfOk l ⟨tag + 2, part, atoms⟩ := ⟨by have := HL1.out.2; show tag + 2 ≤ 65536; omega, by have := HL1.out.1; show tag + 2 ≤ l.length; omega, HOK.out.part, HOK.out.atoms⟩
    have R3 := Lib.hid (RfRes.trans HG1.out HV1.out R2.out (RfRes.place R2.out.is_ (tag + 2) hok3))
    have d1 := R2.out.is_.cells.cell 1
    have f1 := R2.out.is_.cells.frozen 1
    simp only [List.getElem?_cons_zero, List.getElem?_cons_succ] at d1
    go_upto_region 6 with (fail)
    rw [show (((tag + 2 : Nat) : Int)) = (tag : Int) + 2 from rfl] at R3
    generalize w2.setCell ⟨g, 1, none⟩ (.int .i64 ((tag : Int) + 2)) = w3 at *
    clear d1 f1 hok3
    have d0 := R3.out.is_.cells.cell 0
    simp only [List.getElem?_cons_zero, List.getElem?_cons_succ] at d0
    obtain ⟨q', o', hqe, hy⟩ := R3.out.is_.buf.get (tag + 1) (by have := HL1.out.1; omega)
    cases hqe
    have hyi : (tag : Int) + 1 < (l.length : Int) := by have := HL1.out.1; omega
    have hyb : (((l.getD (tag + 1) 0).toNat : Nat) : Int) < 256 := by have := (l.getD (tag + 1) 0).toNat_lt; omega
    have hyb0 : (0 : Int) ≤ (((l.getD (tag + 1) 0).toNat : Nat) : Int) := by omega
    generalize (l.getD (tag + 1) 0).toNat = cv at *
    have RZ := Lib.hid (R1.out.keep R3.out.keep HNR.out)
    go_wp2_with (refine wpList_store_blk rfl _ (.tmp 4) (.tmp 37) rfl w.heap.size 0 [.int .i64 1, .int .i64 (cv : Int), .string ⟨#[]⟩, .int .u32 0, .slice none 0 0, .slice none 0 0] (by rfl) (by rfl) (by kernel_rfl) (by simp [Value.oneCell']) 35 _ RZ.out (by show 0 + 6 ≤ 6; decide) ?_; intro wz hCz hgz; refine stop ?_)
    refine Stopped.of ?_
    have C0 : Cells wz w.heap.size 35 [.int .i64 1, .int .i64 (cv : Int), .string ⟨#[]⟩, .int .u32 0, .slice none 0 0, .slice none 0 0] := hCz
    have z0 := C0.cell 0
    have z1 := C0.cell 1
    have z2 := C0.cell 2
    have z3 := C0.cell 3
    have z4 := C0.cell 4
    have z5 := C0.cell 5
    simp only [List.getElem?_cons_zero, List.getElem?_cons_succ] at z0 z1 z2 z3 z4 z5
    have KZ := Lib.hid (show Keep (fun q => q = w.heap.size) w3 wz from (Keep.refl _ _).grown hgz (fun k hk _ => by cases hk; rfl))
    clear C0 hCz hgz
    go_wp2
    refine bodyPost_ret (v := .agg #[.int .i64 1, .int .i64 (cv : Int), .string ⟨#[]⟩, .int .u32 0, .slice none 0 0, .slice none 0 0]) (by simp [results, Tryz.results126, go_sem, z0, z1, z2, z3, z4, z5]) rfl ?_
    rw [HT2.out]
    exact ⟨_, _, _, _, _, [.int .i64 1, .int .i64 (cv : Int), .string ⟨#[]⟩, .int .u32 0, .slice none 0 0, .slice none 0 0], rfl, TmAt.leaf _ _ ⟨by decide, by decide, by omega, by omega, Nat.zero_le _, by decide, by decide⟩, (RfRes.trans HG.out HV.out RA.out R3.out).res KZ.out HBS.out (Nat.le_refl _) RZ.out, by show _ + 0 + 0 ≤ _; exact Nat.le_refl _, (fun e => by cases e), rfl, rfl, rfl, HPT.out⟩
  · rw [decide_eq_false hs1]
    have R2 := Lib.hid hr
    have HT2 := Lib.hid (HT.out.trans (if_neg hs1))
    have HS1 := Lib.hid hs1
    clear hs1 hr HH c0 hx
    go_upto_region 4 with (fail)
    have RZ := Lib.hid (R1.out.keep R2.out.keep HNR.out)
    go_wp2_with (refine wpList_store_blk rfl _ (.tmp 4) (.tmp 22) rfl w.heap.size 0 [.int .i64 0, .int .i64 0, .string ⟨#[]⟩, .int .u32 0, .slice none 0 0, .slice none 0 0] (by rfl) (by rfl) (by kernel_rfl) (by simp [Value.oneCell']) 35 _ RZ.out (by show 0 + 6 ≤ 6; decide) ?_; intro wz hCz hgz; refine stop ?_)
    refine Stopped.of ?_
    have C0 : Cells wz w.heap.size 35 [.int .i64 0, .int .i64 0, .string ⟨#[]⟩, .int .u32 0, .slice none 0 0, .slice none 0 0] := hCz
    have z0 := C0.cell 0
    have z1 := C0.cell 1
    have z2 := C0.cell 2
    have z3 := C0.cell 3
    have z4 := C0.cell 4
    have z5 := C0.cell 5
    simp only [List.getElem?_cons_zero, List.getElem?_cons_succ] at z0 z1 z2 z3 z4 z5
    have KZ := Lib.hid (show Keep (fun q => q = w.heap.size) w2 wz from (Keep.refl _ _).grown hgz (fun k hk _ => by cases hk; rfl))
    clear C0 hCz hgz
    go_wp2
    refine bodyPost_ret (v := .agg #[.int .i64 0, .int .i64 0, .string ⟨#[]⟩, .int .u32 0, .slice none 0 0, .slice none 0 0]) (by simp [results, Tryz.results126, go_sem, z0, z1, z2, z3, z4, z5]) rfl ?_
    rw [HT2.out]
    exact ⟨zeroT, _, _, _, _, termZ, rfl, zeroT_at _ _, (RfRes.trans HG.out HV.out RA.out R2.out).res KZ.out HBS.out (Nat.le_refl _) RZ.out, by show _ + 0 + 0 ≤ _; omega, (fun e => by cases e), rfl, HS1.out⟩
set_option maxHeartbeats 16000000 in
set_option maxRecDepth 100000 in
theorem rfPlain_98 {base g : Nat} {l : List UInt8} {bv av lv : Value} {st : Rd} {w : World} (rd : Rd → Res Tm) (h : RfIs base g l bv st av lv [] w) (hin : st.at_ < l.length) (hK : l.getD st.at_ 0 = 98) (hat : st.atoms.length + 1 ≤ st.part) (hpt : st.part ≤ 4096) :
    Calls Tryz.prog 126 #[.pointer (some ⟨g, 0, none⟩), .int .i64 st.at_] w (TmO base g l bv av w st 0 (bodyN l rd st.at_ 98 st.part st.atoms)) := by
  have HG := Lib.hid h.cells.lt
  have HV := Lib.hid (fun q (hq : av.ownBlock = some q) => (h.atoms.lt hq).1)
  have HBS := Lib.hid (Nat.le_trans h.hg (Nat.le_of_lt h.cells.lt))
  have HAT := Lib.hid hat
  have HPT := Lib.hid hpt
  have HOK := Lib.hid h.ok
  have HLL := Lib.hid h.buf.len_le
  have BX := Lib.hid ((Below.refl w.heap.size w).alloc (Nat.le_refl _) (.cells #[.int .i64 0, .int .i64 0, .string ⟨#[]⟩, .int .u32 0, .slice none 0 0, .slice none 0 0] 35 (0, 0)))
  have R1 := Lib.hid (show Cells (w.alloc (.cells #[.int .i64 0, .int .i64 0, .string ⟨#[]⟩, .int .u32 0, .slice none 0 0, .slice none 0 0] 35 (0, 0))) w.heap.size 35 termZ from Cells.new w 35 termZ)
  have RA := Lib.hid (RfRes.below h BX.out)
  have HG1 := Lib.hid (Nat.lt_of_lt_of_le HG.out BX.out.size)
  have HV1 := Lib.hid (fun q (hq : av.ownBlock = some q) => Nat.lt_of_lt_of_le (HV.out q hq) BX.out.size)
  have HNR := Lib.hid (show ¬ LsK g av w.heap.size from fun e => by
    rcases e with e | e
    · have := HG.out; omega
    · have := HV.out _ e; omega)
  obtain ⟨tag, part, atoms⟩ := st
  dsimp only at *
  obtain ⟨ba, bc, rfl⟩ := h.form
  obtain ⟨q, o, rfl, hx0⟩ := h.buf.get tag hin
  have hx := (BX.out.cell (p := ⟨q, o + tag, none⟩) (World.block_lt_of_cell? w _ hx0)).trans hx0
  rw [hK] at hx
  clear hx0
  have htag : tag ≤ 65536 := HOK.out.le
  have ht0 : (0 : Int) ≤ (tag : Int) := by omega
  have ht1 : (tag : Int) ≤ 65536 := by omega
  have hti : (tag : Int) < (l.length : Int) := by omega
  have hll : (l.length : Int) ≤ 9223372036854775807 := HLL.out
  have hne := run_neqLinks
  have HT := Lib.hid (bodyN_eq l rd tag 98 part atoms 5 (by decide) hin (.ok (.mk 1 (sInt (numS (cutB l (tag + 1) 4))) ⟨#[]⟩ 0 [] []) ⟨tag + 5, part, atoms⟩) fun h1 => by
    unfold bodyS fourS
    rw [if_neg (by decide), if_pos rfl, hasS_need]
    split
    · rfl
    · rfl)
  clear h hat hpt
  go_enter Tryz.func126, Tryz.ntmps126
  go_upto_region 1 with (fail)
  generalize w.alloc (.cells #[.int .i64 0, .int .i64 0, .string ⟨#[]⟩, .int .u32 0, .slice none 0 0, .slice none 0 0] 35 (0, 0)) = w1 at *
  unfold termZ at *
  have c0 := RA.out.is_.cells.cell 0
  simp only [List.getElem?_cons_zero, List.getElem?_cons_succ] at c0
  have HH := Lib.hid (rfHas_any tag 5 RA.out.is_ (by omega) (by omega))
  go_wp2_with fail
  refine HH.out.mono ?_
  rintro e w2 ⟨rfl, lv2, hr⟩
  by_cases hs1 : hasS l tag 5 = []
  · rw [hs1] at hr
    obtain rfl := hr.is_.nil rfl
    rw [decide_eq_true hs1]
    have R2 := Lib.hid hr
    have HT2 := Lib.hid (HT.out.trans (if_pos hs1))
    have HL1 := Lib.hid (hasS_len hs1)
    clear hs1 hr HH c0 hx
    have hok3 : RfOk l ⟨tag + 5, part, atoms⟩ := ⟨by have := HL1.out.2; show tag + 5 ≤ 65536; omega, by have := HL1.out.1; show tag + 5 ≤ l.length; omega, HOK.out.part, HOK.out.atoms⟩
    have R3 := Lib.hid (RfRes.trans HG1.out HV1.out R2.out (RfRes.place R2.out.is_ (tag + 5) hok3))
    have d1 := R2.out.is_.cells.cell 1
    have f1 := R2.out.is_.cells.frozen 1
    simp only [List.getElem?_cons_zero, List.getElem?_cons_succ] at d1
    go_upto_region 11 with (fail)
    rw [show (((tag + 5 : Nat) : Int)) = (tag : Int) + 5 from rfl] at R3
    generalize w2.setCell ⟨g, 1, none⟩ (.int .i64 ((tag : Int) + 5)) = w3 at *
    clear d1 f1 hok3
    have HN := Lib.hid (show Calls Tryz.prog 140 #[.pointer (some ⟨g, 0, none⟩), .int .i64 ((tag : Int) + 1), .int .i64 4] w3 _ from rfNum_any (tag + 1) 4 R3.out.is_ (by have := HL1.out.1; omega) (by omega) (by omega))
    have hnb : numS (cutB l (tag + 1) 4) < 4294967296 := numS_le (by unfold cutB; rw [List.length_take]; omega)
    generalize numS (cutB l (tag + 1) 4) = nn at *
    have hn0 : (0 : Int) ≤ (nn : Int) := by omega
    have hn1 : (nn : Int) < 4294967296 := by omega
    have hw1 : (if (nn : Int) < 2147483648 then (nn : Int) else (nn : Int) - 4294967296) = sInt nn := by unfold sInt; split <;> split <;> omega
    have hw2 : IntKind.i32.wrap (nn : Int) = sInt nn := by rw [IntKind.wrap_i32, ← hw1]; split <;> omega
    have hs0 : -2147483648 ≤ sInt nn := by unfold sInt; split <;> omega
    have hs1 : sInt nn ≤ 2147483647 := by unfold sInt; split <;> omega
    have hw3 : wrap32 (nn : Int) = sInt nn := (IntWalk.i32_left _).symm.trans hw2
    clear hw1 hnb
    generalize sInt nn = sn at *
    go_wp2_with fail
    refine HN.out.mono ?_
    rintro e _ ⟨rfl, rfl⟩
    have RZ := Lib.hid (R1.out.keep R3.out.keep HNR.out)
    go_wp2_with (refine wpList_store_blk rfl _ (.tmp 4) (.tmp 56) rfl w.heap.size 0 [.int .i64 1, .int .i64 sn, .string ⟨#[]⟩, .int .u32 0, .slice none 0 0, .slice none 0 0] (by rfl) (by rfl) (by kernel_rfl) (by simp [Value.oneCell']) 35 _ RZ.out (by show 0 + 6 ≤ 6; decide) ?_; intro wz hCz hgz; refine stop ?_)
    refine Stopped.of ?_
    have C0 : Cells wz w.heap.size 35 [.int .i64 1, .int .i64 sn, .string ⟨#[]⟩, .int .u32 0, .slice none 0 0, .slice none 0 0] := hCz
    have z0 := C0.cell 0
    have z1 := C0.cell 1
    have z2 := C0.cell 2
    have z3 := C0.cell 3
    have z4 := C0.cell 4
    have z5 := C0.cell 5
    simp only [List.getElem?_cons_zero, List.getElem?_cons_succ] at z0 z1 z2 z3 z4 z5
    have KZ := Lib.hid (show Keep (fun q => q = w.heap.size) w3 wz from (Keep.refl _ _).grown hgz (fun k hk _ => by cases hk; rfl))
    clear C0 hCz hgz
    go_wp2
    refine bodyPost_ret (v := .agg #[.int .i64 1, .int .i64 sn, .string ⟨#[]⟩, .int .u32 0, .slice none 0 0, .slice none 0 0]) (by simp [results, Tryz.results126, go_sem, z0, z1, z2, z3, z4, z5]) rfl ?_
    rw [HT2.out]
    exact ⟨_, _, _, _, _, [.int .i64 1, .int .i64 sn, .string ⟨#[]⟩, .int .u32 0, .slice none 0 0, .slice none 0 0], rfl, TmAt.leaf _ _ ⟨by decide, by decide, by omega, by omega, Nat.zero_le _, by decide, by decide⟩, (RfRes.trans HG.out HV.out RA.out R3.out).res KZ.out HBS.out (Nat.le_refl _) RZ.out, by show _ + 0 + 0 ≤ _; exact Nat.le_refl _, (fun e => by cases e), rfl, rfl, rfl, HPT.out⟩
  · rw [decide_eq_false hs1]
    have R2 := Lib.hid hr
    have HT2 := Lib.hid (HT.out.trans (if_neg hs1))
    have HS1 := Lib.hid hs1
    clear hs1 hr HH c0 hx
    go_upto_region 9 with (fail)
    have RZ := Lib.hid (R1.out.keep R2.out.keep HNR.out)
    go_wp2_with (refine wpList_store_blk rfl _ (.tmp 4) (.tmp 44) rfl w.heap.size 0 [.int .i64 0, .int .i64 0, .string ⟨#[]⟩, .int .u32 0, .slice none 0 0, .slice none 0 0] (by rfl) (by rfl) (by kernel_rfl) (by simp [Value.oneCell']) 35 _ RZ.out (by show 0 + 6 ≤ 6; decide) ?_; intro wz hCz hgz; refine stop ?_)
    refine Stopped.of ?_
    have C0 : Cells wz w.heap.size 35 [.int .i64 0, .int .i64 0, .string ⟨#[]⟩, .int .u32 0, .slice none 0 0, .slice none 0 0] := hCz
    have z0 := C0.cell 0
    have z1 := C0.cell 1
    have z2 := C0.cell 2
    have z3 := C0.cell 3
    have z4 := C0.cell 4
    have z5 := C0.cell 5
    simp only [List.getElem?_cons_zero, List.getElem?_cons_succ] at z0 z1 z2 z3 z4 z5
    have KZ := Lib.hid (show Keep (fun q => q = w.heap.size) w2 wz from (Keep.refl _ _).grown hgz (fun k hk _ => by cases hk; rfl))
    clear C0 hCz hgz
    go_wp2
    refine bodyPost_ret (v := .agg #[.int .i64 0, .int .i64 0, .string ⟨#[]⟩, .int .u32 0, .slice none 0 0, .slice none 0 0]) (by simp [results, Tryz.results126, go_sem, z0, z1, z2, z3, z4, z5]) rfl ?_
    rw [HT2.out]
    exact ⟨zeroT, _, _, _, _, termZ, rfl, zeroT_at _ _, (RfRes.trans HG.out HV.out RA.out R2.out).res KZ.out HBS.out (Nat.le_refl _) RZ.out, by show _ + 0 + 0 ≤ _; omega, (fun e => by cases e), rfl, HS1.out⟩
set_option maxHeartbeats 16000000 in
set_option maxRecDepth 100000 in
theorem rfPlain_106 {base g : Nat} {l : List UInt8} {bv av lv : Value} {st : Rd} {w : World} (rd : Rd → Res Tm) (h : RfIs base g l bv st av lv [] w) (hin : st.at_ < l.length) (hK : l.getD st.at_ 0 = 106) (hat : st.atoms.length + 1 ≤ st.part) (hpt : st.part ≤ 4096) :
    Calls Tryz.prog 126 #[.pointer (some ⟨g, 0, none⟩), .int .i64 st.at_] w (TmO base g l bv av w st 0 (bodyN l rd st.at_ 106 st.part st.atoms)) := by
  have HG := Lib.hid h.cells.lt
  have HV := Lib.hid (fun q (hq : av.ownBlock = some q) => (h.atoms.lt hq).1)
  have HBS := Lib.hid (Nat.le_trans h.hg (Nat.le_of_lt h.cells.lt))
  have HAT := Lib.hid hat
  have HPT := Lib.hid hpt
  have HOK := Lib.hid h.ok
  have HLL := Lib.hid h.buf.len_le
  have BX := Lib.hid ((Below.refl w.heap.size w).alloc (Nat.le_refl _) (.cells #[.int .i64 0, .int .i64 0, .string ⟨#[]⟩, .int .u32 0, .slice none 0 0, .slice none 0 0] 35 (0, 0)))
  have R1 := Lib.hid (show Cells (w.alloc (.cells #[.int .i64 0, .int .i64 0, .string ⟨#[]⟩, .int .u32 0, .slice none 0 0, .slice none 0 0] 35 (0, 0))) w.heap.size 35 termZ from Cells.new w 35 termZ)
  have RA := Lib.hid (RfRes.below h BX.out)
  have HG1 := Lib.hid (Nat.lt_of_lt_of_le HG.out BX.out.size)
  have HV1 := Lib.hid (fun q (hq : av.ownBlock = some q) => Nat.lt_of_lt_of_le (HV.out q hq) BX.out.size)
  have HNR := Lib.hid (show ¬ LsK g av w.heap.size from fun e => by
    rcases e with e | e
    · have := HG.out; omega
    · have := HV.out _ e; omega)
  obtain ⟨tag, part, atoms⟩ := st
  dsimp only at *
  obtain ⟨ba, bc, rfl⟩ := h.form
  obtain ⟨q, o, rfl, hx0⟩ := h.buf.get tag hin
  have hx := (BX.out.cell (p := ⟨q, o + tag, none⟩) (World.block_lt_of_cell? w _ hx0)).trans hx0
  rw [hK] at hx
  clear hx0
  have htag : tag ≤ 65536 := HOK.out.le
  have ht0 : (0 : Int) ≤ (tag : Int) := by omega
  have ht1 : (tag : Int) ≤ 65536 := by omega
  have hti : (tag : Int) < (l.length : Int) := by omega
  have hll : (l.length : Int) ≤ 9223372036854775807 := HLL.out
  have hne := run_neqLinks
  have HT := Lib.hid (bodyN_eq l rd tag 106 part atoms 1 (by decide) hin (.ok (.mk 6 0 ⟨#[]⟩ 0 [] []) ⟨tag + 1, part, atoms⟩) fun h1 => by
    unfold bodyS hasS
    rw [if_neg (by decide), if_neg (by decide), if_neg (by decide), if_neg (by decide), if_pos rfl, if_pos (by rw [if_neg (by omega), if_neg (by omega)])])
  clear h hat hpt
  go_enter Tryz.func126, Tryz.ntmps126
  go_upto_region 1 with (fail)
  generalize w.alloc (.cells #[.int .i64 0, .int .i64 0, .string ⟨#[]⟩, .int .u32 0, .slice none 0 0, .slice none 0 0] 35 (0, 0)) = w1 at *
  unfold termZ at *
  have c0 := RA.out.is_.cells.cell 0
  simp only [List.getElem?_cons_zero, List.getElem?_cons_succ] at c0
  have HH := Lib.hid (rfHas_any tag 1 RA.out.is_ (by omega) (by omega))
  go_wp2_with fail
  refine HH.out.mono ?_
  rintro e w2 ⟨rfl, lv2, hr⟩
  by_cases hs1 : hasS l tag 1 = []
  · rw [hs1] at hr
    obtain rfl := hr.is_.nil rfl
    rw [decide_eq_true hs1]
    have R2 := Lib.hid hr
    have HT2 := Lib.hid (HT.out.trans (if_pos hs1))
    have HL1 := Lib.hid (hasS_len hs1)
    clear hs1 hr HH c0 hx
    have hok3 : RfOk l ⟨tag + 1, part, atoms⟩ := ⟨by have := HL1.out.2; show tag + 1 ≤ 65536; omega, by have := HL1.out.1; show tag + 1 ≤ l.length; omega, HOK.out.part, HOK.out.atoms⟩
    have R3 := Lib.hid (RfRes.trans HG1.out HV1.out R2.out (RfRes.place R2.out.is_ (tag + 1) hok3))
    have d1 := R2.out.is_.cells.cell 1
    have f1 := R2.out.is_.cells.frozen 1
    simp only [List.getElem?_cons_zero, List.getElem?_cons_succ] at d1
    go_upto_region 16 with (fail)
    rw [show (((tag + 1 : Nat) : Int)) = (tag : Int) + 1 from rfl] at R3
    generalize w2.setCell ⟨g, 1, none⟩ (.int .i64 ((tag : Int) + 1)) = w3 at *
    clear d1 f1 hok3
    have RZ := Lib.hid (R1.out.keep R3.out.keep HNR.out)
    go_wp2_with (refine wpList_store_blk rfl _ (.tmp 4) (.tmp 69) rfl w.heap.size 0 [.int .i64 6, .int .i64 0, .string ⟨#[]⟩, .int .u32 0, .slice none 0 0, .slice none 0 0] (by rfl) (by rfl) (by kernel_rfl) (by simp [Value.oneCell']) 35 _ RZ.out (by show 0 + 6 ≤ 6; decide) ?_; intro wz hCz hgz; refine stop ?_)
    refine Stopped.of ?_
    have C0 : Cells wz w.heap.size 35 [.int .i64 6, .int .i64 0, .string ⟨#[]⟩, .int .u32 0, .slice none 0 0, .slice none 0 0] := hCz
    have z0 := C0.cell 0
    have z1 := C0.cell 1
    have z2 := C0.cell 2
    have z3 := C0.cell 3
    have z4 := C0.cell 4
    have z5 := C0.cell 5
    simp only [List.getElem?_cons_zero, List.getElem?_cons_succ] at z0 z1 z2 z3 z4 z5
    have KZ := Lib.hid (show Keep (fun q => q = w.heap.size) w3 wz from (Keep.refl _ _).grown hgz (fun k hk _ => by cases hk; rfl))
    clear C0 hCz hgz
    go_wp2
    refine bodyPost_ret (v := .agg #[.int .i64 6, .int .i64 0, .string ⟨#[]⟩, .int .u32 0, .slice none 0 0, .slice none 0 0]) (by simp [results, Tryz.results126, go_sem, z0, z1, z2, z3, z4, z5]) rfl ?_
    rw [HT2.out]
    exact ⟨_, _, _, _, _, [.int .i64 6, .int .i64 0, .string ⟨#[]⟩, .int .u32 0, .slice none 0 0, .slice none 0 0], rfl, TmAt.leaf _ _ ⟨by decide, by decide, by decide, by decide, Nat.zero_le _, by decide, by decide⟩, (RfRes.trans HG.out HV.out RA.out R3.out).res KZ.out HBS.out (Nat.le_refl _) RZ.out, by show _ + 0 + 0 ≤ _; exact Nat.le_refl _, (fun e => by cases e), rfl, rfl, rfl, HPT.out⟩
  · rw [decide_eq_false hs1]
    have R2 := Lib.hid hr
    have HT2 := Lib.hid (HT.out.trans (if_neg hs1))
    have HS1 := Lib.hid hs1
    clear hs1 hr HH c0 hx
    go_upto_region 14 with (fail)
    have RZ := Lib.hid (R1.out.keep R2.out.keep HNR.out)
    go_wp2_with (refine wpList_store_blk rfl _ (.tmp 4) (.tmp 63) rfl w.heap.size 0 [.int .i64 0, .int .i64 0, .string ⟨#[]⟩, .int .u32 0, .slice none 0 0, .slice none 0 0] (by rfl) (by rfl) (by kernel_rfl) (by simp [Value.oneCell']) 35 _ RZ.out (by show 0 + 6 ≤ 6; decide) ?_; intro wz hCz hgz; refine stop ?_)
    refine Stopped.of ?_
    have C0 : Cells wz w.heap.size 35 [.int .i64 0, .int .i64 0, .string ⟨#[]⟩, .int .u32 0, .slice none 0 0, .slice none 0 0] := hCz
    have z0 := C0.cell 0
    have z1 := C0.cell 1
    have z2 := C0.cell 2
    have z3 := C0.cell 3
    have z4 := C0.cell 4
    have z5 := C0.cell 5
    simp only [List.getElem?_cons_zero, List.getElem?_cons_succ] at z0 z1 z2 z3 z4 z5
    have KZ := Lib.hid (show Keep (fun q => q = w.heap.size) w2 wz from (Keep.refl _ _).grown hgz (fun k hk _ => by cases hk; rfl))
    clear C0 hCz hgz
    go_wp2
    refine bodyPost_ret (v := .agg #[.int .i64 0, .int .i64 0, .string ⟨#[]⟩, .int .u32 0, .slice none 0 0, .slice none 0 0]) (by simp [results, Tryz.results126, go_sem, z0, z1, z2, z3, z4, z5]) rfl ?_
    rw [HT2.out]
    exact ⟨zeroT, _, _, _, _, termZ, rfl, zeroT_at _ _, (RfRes.trans HG.out HV.out RA.out R2.out).res KZ.out HBS.out (Nat.le_refl _) RZ.out, by show _ + 0 + 0 ≤ _; omega, (fun e => by cases e), rfl, HS1.out⟩
set_option maxHeartbeats 16000000 in
set_option maxRecDepth 100000 in
theorem rfPlain_118 {base g : Nat} {l : List UInt8} {bv av lv : Value} {st : Rd} {w : World} (rd : Rd → Res Tm) (h : RfIs base g l bv st av lv [] w) (hin : st.at_ < l.length) (hK : l.getD st.at_ 0 = 118) (hat : st.atoms.length + 1 ≤ st.part) (hpt : st.part ≤ 4096) :
    Calls Tryz.prog 126 #[.pointer (some ⟨g, 0, none⟩), .int .i64 st.at_] w (TmO base g l bv av w st 0 (bodyN l rd st.at_ 118 st.part st.atoms)) := by
  have HG := Lib.hid h.cells.lt
  have HV := Lib.hid (fun q (hq : av.ownBlock = some q) => (h.atoms.lt hq).1)
  have HBS := Lib.hid (Nat.le_trans h.hg (Nat.le_of_lt h.cells.lt))
  have HAT := Lib.hid hat
  have HPT := Lib.hid hpt
  have HOK := Lib.hid h.ok
  have HLL := Lib.hid h.buf.len_le
  have BX := Lib.hid ((Below.refl w.heap.size w).alloc (Nat.le_refl _) (.cells #[.int .i64 0, .int .i64 0, .string ⟨#[]⟩, .int .u32 0, .slice none 0 0, .slice none 0 0] 35 (0, 0)))
  have R1 := Lib.hid (show Cells (w.alloc (.cells #[.int .i64 0, .int .i64 0, .string ⟨#[]⟩, .int .u32 0, .slice none 0 0, .slice none 0 0] 35 (0, 0))) w.heap.size 35 termZ from Cells.new w 35 termZ)
  have RA := Lib.hid (RfRes.below h BX.out)
  have HG1 := Lib.hid (Nat.lt_of_lt_of_le HG.out BX.out.size)
  have HV1 := Lib.hid (fun q (hq : av.ownBlock = some q) => Nat.lt_of_lt_of_le (HV.out q hq) BX.out.size)
  have HNR := Lib.hid (show ¬ LsK g av w.heap.size from fun e => by
    rcases e with e | e
    · have := HG.out; omega
    · have := HV.out _ e; omega)
  obtain ⟨tag, part, atoms⟩ := st
  dsimp only at *
  obtain ⟨ba, bc, rfl⟩ := h.form
  obtain ⟨q, o, rfl, hx0⟩ := h.buf.get tag hin
  have hx := (BX.out.cell (p := ⟨q, o + tag, none⟩) (World.block_lt_of_cell? w _ hx0)).trans hx0
  rw [hK] at hx
  clear hx0
  have htag : tag ≤ 65536 := HOK.out.le
  have ht0 : (0 : Int) ≤ (tag : Int) := by omega
  have ht1 : (tag : Int) ≤ 65536 := by omega
  have hti : (tag : Int) < (l.length : Int) := by omega
  have hll : (l.length : Int) ≤ 9223372036854775807 := HLL.out
  have hne := run_neqLinks
  have HT0 := Lib.hid (bodyN_eq l rd tag 118 part atoms 1 (by decide) hin ((txtS l tag true 0 ⟨tag + 1, part, atoms⟩).bind fun s st2 => if (quoteS s).2 ≠ [] then .bad (ofS tag (quoteS s).2) else .ok (.mk 2 0 s 0 [] []) ⟨st2.at_, st2.part, st2.atoms ++ [s]⟩) fun h1 => by
    rw [if_pos (by unfold hasS; rw [if_neg (by omega), if_neg (by omega)])]
    unfold bodyS
    rw [if_neg (by decide), if_neg (by decide), if_pos (by decide)]
    rfl)
  have HT := Lib.hid HT0.out
  clear h hat hpt
  go_enter Tryz.func126, Tryz.ntmps126
  go_upto_region 1 with (fail)
  generalize w.alloc (.cells #[.int .i64 0, .int .i64 0, .string ⟨#[]⟩, .int .u32 0, .slice none 0 0, .slice none 0 0] 35 (0, 0)) = w1 at *
  unfold termZ at *
  have c0 := RA.out.is_.cells.cell 0
  simp only [List.getElem?_cons_zero, List.getElem?_cons_succ] at c0
  have HH := Lib.hid (rfHas_any tag 1 RA.out.is_ (by omega) (by omega))
  go_wp2_with fail
  refine HH.out.mono ?_
  rintro e w2 ⟨rfl, lv2, hr⟩
  by_cases hs1 : hasS l tag 1 = []
  · rw [hs1] at hr
    obtain rfl := hr.is_.nil rfl
    rw [decide_eq_true hs1]
    have R2 := Lib.hid hr
    have HT2 := Lib.hid (HT.out.trans (if_pos hs1))
    have HL1 := Lib.hid (hasS_len hs1)
    clear hs1 hr HH c0 hx
    have HATM := Lib.hid (show Calls Tryz.prog 141 #[.pointer (some ⟨g, 0, none⟩), .int .i64 tag, .int .i64 tag, .int .i64 0] w2 _ from rfAtom_any tag 0 0 R2.out.is_ hin (by have := HL1.out.2; omega) (by decide))
    rw [show l.getD (tag + 0) 0 = 118 from hK] at HATM
    have HTX0 : Hid (bodyN l rd tag 118 part atoms = (txtS l tag ((118 : UInt8) == 118) 0 ⟨tag + 0 + 1, part, atoms⟩).bind fun s st2 => if (quoteS s).2 ≠ [] then .bad (ofS tag (quoteS s).2) else .ok (.mk 2 0 s 0 [] []) ⟨st2.at_, st2.part, st2.atoms ++ [s]⟩) := HT2
    generalize htx : txtS l tag ((118 : UInt8) == 118) 0 ⟨tag + 0 + 1, part, atoms⟩ = tx at *
    have HTX := Lib.hid htx
    clear htx HT HT0 HT2
    go_wp2_with fail
    refine HATM.out.mono ?_
    rintro e w3 ⟨s, nx, av3, lv3, st3, k3, rfl, hr, hnx, hpe, hm⟩
    have HPE := Lib.hid hpe
    clear hpe
    have R3 := Lib.hid (RfRes.trans HG1.out HV1.out R2.out hr)
    have HNX := Lib.hid hnx
    cases tx with
    | bad kk =>
      obtain ⟨rfl, hkk⟩ := hm
      have HKK := Lib.hid hkk
      have HT4 := Lib.hid (show bodyN l rd tag 118 part atoms = .bad k3 from HTX0.out)
      obtain ⟨_, q3, n3, c3, rfl⟩ := hr.is_.lform.resolve_left (fun e => hkk e.1)
      have d4 := hr.is_.cells.cell 4
      simp only [List.getElem?_cons_zero, List.getElem?_cons_succ] at d4
      clear hr hnx hkk HATM HTX0 HTX
      go_upto_region 21 with (fail)
      clear d4
      have RZ := Lib.hid (R1.out.keep R3.out.keep HNR.out)
      go_wp2_with (refine wpList_store_blk rfl _ (.tmp 4) (.tmp 87) rfl w.heap.size 0 [.int .i64 0, .int .i64 0, .string ⟨#[]⟩, .int .u32 0, .slice none 0 0, .slice none 0 0] (by rfl) (by rfl) (by kernel_rfl) (by simp [Value.oneCell']) 35 _ RZ.out (by show 0 + 6 ≤ 6; decide) ?_; intro wz hCz hgz; refine stop ?_)
      refine Stopped.of ?_
      have C0 : Cells wz w.heap.size 35 [.int .i64 0, .int .i64 0, .string ⟨#[]⟩, .int .u32 0, .slice none 0 0, .slice none 0 0] := hCz
      have z0 := C0.cell 0
      have z1 := C0.cell 1
      have z2 := C0.cell 2
      have z3 := C0.cell 3
      have z4 := C0.cell 4
      have z5 := C0.cell 5
      simp only [List.getElem?_cons_zero, List.getElem?_cons_succ] at z0 z1 z2 z3 z4 z5
      have KZ := Lib.hid (show Keep (fun q => q = w.heap.size) w3 wz from (Keep.refl _ _).grown hgz (fun k hk _ => by cases hk; rfl))
      clear C0 hCz hgz
      go_wp2
      refine bodyPost_ret (v := .agg #[.int .i64 0, .int .i64 0, .string ⟨#[]⟩, .int .u32 0, .slice none 0 0, .slice none 0 0]) (by simp [results, Tryz.results126, go_sem, z0, z1, z2, z3, z4, z5]) rfl ?_
      rw [HT4.out]
      exact ⟨zeroT, _, _, _, _, termZ, rfl, zeroT_at _ _, (RfRes.trans HG.out HV.out RA.out R3.out).res KZ.out HBS.out (Nat.le_refl _) RZ.out, by have := HPE.out; show part + 0 + 0 ≤ st3.part; omega, (fun e => by cases e), rfl, HKK.out⟩
    | ok x s2 =>
      obtain ⟨rfl, rfl, rfl, rfl⟩ := hm
      have HT4 := Lib.hid (show bodyN l rd tag 118 part atoms = if (quoteS s).2 ≠ [] then .bad (ofS tag (quoteS s).2) else .ok (.mk 2 0 s 0 [] []) ⟨s2.at_, s2.part, s2.atoms ++ [s]⟩ from HTX0.out)
      obtain rfl := hr.is_.nil rfl
      have d4 := hr.is_.cells.cell 4
      simp only [List.getElem?_cons_zero, List.getElem?_cons_succ] at d4
      have HSZ := Lib.hid (show s.size ≤ 65536 ∧ s2.atoms = atoms ∧ s2.part = part ∧ s2.at_ ≤ l.length ∧ s2.at_ ≤ 65536 from by
        rcases txtS_cases l tag ((118 : UInt8) == 118) 0 ⟨tag + 0 + 1, part, atoms⟩ with ⟨k, e⟩ | ⟨s', n, e, h1, h2, h3⟩
        · rw [HTX.out] at e; cases e
        · rw [HTX.out] at e; cases e; exact ⟨by dsimp only at *; omega, rfl, rfl, h2, h3⟩)
      have HQ := Lib.hid (fun W => quoteR_nil s W (by have := HSZ.out.1; omega))
      have hnx0 : (0 : Int) ≤ (s2.at_ : Int) := by omega
      have hnx1 : (s2.at_ : Int) ≤ 65536 := by have := HSZ.out.2.2.2.2; omega
      clear hr hnx HATM HTX0 HTX
      go_wp2_with fail
      refine (HQ.out _).mono ?_
      rintro e w4 ⟨lv4, rfl, hl4, hb4, hn4⟩
      have R4 := Lib.hid (R3.out.more hb4)
      by_cases hnn : (quoteS s).2 = []
      · obtain rfl := hn4 hnn
        have HT5 := Lib.hid (HT4.out.trans (if_neg (fun e => e hnn)))
        have hok5 : RfOk l ⟨s2.at_, part, s2.atoms⟩ := ⟨HSZ.out.2.2.2.2, HSZ.out.2.2.2.1, HOK.out.part, by rw [HSZ.out.2.1]; exact HOK.out.atoms⟩
        have R5 := Lib.hid (RfRes.trans HG1.out HV1.out R4.out (RfRes.place R4.out.is_ s2.at_ hok5))
        have d1 := R4.out.is_.cells.cell 1
        have f1 := R4.out.is_.cells.frozen 1
        simp only [List.getElem?_cons_zero, List.getElem?_cons_succ] at d1
        clear hl4 hb4 hn4 hnn HQ d4 hok5
        go_upto_region 27 with (fail)
        generalize w4.setCell ⟨g, 1, none⟩ (.int .i64 (s2.at_ : Int)) = w5 at *
        clear d1 f1
        obtain ⟨av', rfl⟩ : ∃ av', av3 = av' := ⟨_, rfl⟩
        obtain ⟨ax, ac, hav⟩ := R5.out.is_.aform
        subst hav
        obtain ⟨a', n', c', w6, hrun, hC, hB, hK6, hres⟩ := RfRes.app R5.out.is_ s (by show s2.atoms.length + 1 ≤ part; rw [HSZ.out.2.1]; exact HAT.out)
        have HR6 := Lib.hid hrun
        have R6 := Lib.hid (RfRes.trans HG1.out HV1.out R5.out hres)
        have d3 := R5.out.is_.cells.cell 3
        have e3 := hC.cell 3
        have f3 := hC.frozen 3
        simp only [List.getElem?_cons_zero, List.getElem?_cons_succ] at d3 e3
        clear hrun hC hB hK6 hres
        dsimp only at *
        generalize s2.atoms.length = sal at *
        go_wp2_with (at_builtin; refine stop ?_)
        refine Stopped.of ?_
        refine wp_app_eq rfl (.tmp 110) (.tmp 112) _ _ rfl _ _ (.slice a' n' c') w6 rfl rfl HR6.out ?_
        clear d3
        go_upto_region 28 with (fail)
        generalize w6.setCell ⟨g, 3, none⟩ (.slice a' n' c') = w7 at *
        clear e3 f3
        have RZ := Lib.hid (R1.out.keep R6.out.keep HNR.out)
        go_wp2_with (refine wpList_store_blk rfl _ (.tmp 4) (.tmp 117) rfl w.heap.size 0 [.int .i64 2, .int .i64 0, .string s, .int .u32 0, .slice none 0 0, .slice none 0 0] (by rfl) (by rfl) (by kernel_rfl) (by simp [Value.oneCell']) 35 _ RZ.out (by show 0 + 6 ≤ 6; decide) ?_; intro wz hCz hgz; refine stop ?_)
        refine Stopped.of ?_
        have C0 : Cells wz w.heap.size 35 [.int .i64 2, .int .i64 0, .string s, .int .u32 0, .slice none 0 0, .slice none 0 0] := hCz
        have z0 := C0.cell 0
        have z1 := C0.cell 1
        have z2 := C0.cell 2
        have z3 := C0.cell 3
        have z4 := C0.cell 4
        have z5 := C0.cell 5
        simp only [List.getElem?_cons_zero, List.getElem?_cons_succ] at z0 z1 z2 z3 z4 z5
        have KZ := Lib.hid (show Keep (fun q => q = w.heap.size) w7 wz from (Keep.refl _ _).grown hgz (fun k hk _ => by cases hk; rfl))
        clear C0 hCz hgz
        go_wp2
        refine bodyPost_ret (v := .agg #[.int .i64 2, .int .i64 0, .string s, .int .u32 0, .slice none 0 0, .slice none 0 0]) (by simp [results, Tryz.results126, go_sem, z0, z1, z2, z3, z4, z5]) rfl ?_
        rw [HT5.out]
        exact ⟨_, _, _, _, _, [.int .i64 2, .int .i64 0, .string s, .int .u32 0, .slice none 0 0, .slice none 0 0], rfl, TmAt.leaf _ _ ⟨by decide, by decide, by decide, by decide, by have := HSZ.out.1; omega, by decide, by decide⟩, (RfRes.trans HG.out HV.out RA.out R6.out).res KZ.out HBS.out (Nat.le_refl _) RZ.out, Nat.le_refl _, (fun e => by cases e), rfl, rfl, by rw [HSZ.out.2.2.1], by show s2.part ≤ 4096; rw [HSZ.out.2.2.1]; exact HPT.out⟩
      · obtain ⟨k4, r4, hkr⟩ : ∃ k r, (quoteS s).2 = k :: r := by
          cases hq : (quoteS s).2 with
          | nil => exact absurd hq hnn
          | cons k r => exact ⟨k, r, rfl⟩
        have HT5 := Lib.hid (HT4.out.trans (if_pos hnn))
        have HKR := Lib.hid hkr
        rw [hkr] at hl4
        have HR4 := Lib.hid (show r4.length ≤ 50 from by
          have := quoteS_len s
          rw [hkr] at this; simp at this; rw [this]; decide)
        obtain ⟨q4, n4, c4, rfl⟩ := someLk hl4
        have HO := Lib.hid (overR_any (tag : Int) _ k4 r4 _ w4 hl4 HR4.out)
        clear hl4 hb4 hn4 hnn hkr HQ d4
        go_wp2_with fail
        refine HO.out.mono ?_
        rintro e w5 ⟨lv5, rfl, hl5, hb5⟩
        obtain ⟨q5, n5, c5, rfl⟩ := someLk hl5
        have R5 := Lib.hid (R4.out.more hb5)
        have R6 := Lib.hid (RfRes.fails HG1.out HV1.out R5.out (hl5.base (show base ≤ w4.heap.size from Nat.le_trans (Nat.le_trans HBS.out BX.out.size) R4.out.keep.size)) (by simp))
        have d4 := R5.out.is_.cells.cell 4
        have f4 := R5.out.is_.cells.frozen 4
        simp only [List.getElem?_cons_zero, List.getElem?_cons_succ] at d4
        clear hl5 hb5 HO
        go_upto_region 25 with (fail)
        generalize w5.setCell ⟨g, 4, none⟩ (.slice (some ⟨q5, 0, none⟩) n5 c5) = w6 at *
        clear d4 f4
        have RZ := Lib.hid (R1.out.keep R6.out.keep HNR.out)
        go_wp2_with (refine wpList_store_blk rfl _ (.tmp 4) (.tmp 101) rfl w.heap.size 0 [.int .i64 0, .int .i64 0, .string ⟨#[]⟩, .int .u32 0, .slice none 0 0, .slice none 0 0] (by rfl) (by rfl) (by kernel_rfl) (by simp [Value.oneCell']) 35 _ RZ.out (by show 0 + 6 ≤ 6; decide) ?_; intro wz hCz hgz; refine stop ?_)
        refine Stopped.of ?_
        have C0 : Cells wz w.heap.size 35 [.int .i64 0, .int .i64 0, .string ⟨#[]⟩, .int .u32 0, .slice none 0 0, .slice none 0 0] := hCz
        have z0 := C0.cell 0
        have z1 := C0.cell 1
        have z2 := C0.cell 2
        have z3 := C0.cell 3
        have z4 := C0.cell 4
        have z5 := C0.cell 5
        simp only [List.getElem?_cons_zero, List.getElem?_cons_succ] at z0 z1 z2 z3 z4 z5
        have KZ := Lib.hid (show Keep (fun q => q = w.heap.size) w6 wz from (Keep.refl _ _).grown hgz (fun k hk _ => by cases hk; rfl))
        clear C0 hCz hgz
        go_wp2
        refine bodyPost_ret (v := .agg #[.int .i64 0, .int .i64 0, .string ⟨#[]⟩, .int .u32 0, .slice none 0 0, .slice none 0 0]) (by simp [results, Tryz.results126, go_sem, z0, z1, z2, z3, z4, z5]) rfl ?_
        rw [HT5.out, HKR.out]
        exact ⟨zeroT, _, _, _, _, termZ, rfl, zeroT_at _ _, (RfRes.trans HG.out HV.out RA.out R6.out).res KZ.out HBS.out (Nat.le_refl _) RZ.out, Nat.le_refl _, (fun e => by cases e), rfl, by simp [ofS]⟩
  · rw [decide_eq_false hs1]
    have R2 := Lib.hid hr
    have HT2 := Lib.hid (HT.out.trans (if_neg hs1))
    have HS1 := Lib.hid hs1
    clear hs1 hr HH c0 hx
    go_upto_region 18 with (fail)
    have RZ := Lib.hid (R1.out.keep R2.out.keep HNR.out)
    go_wp2_with (refine wpList_store_blk rfl _ (.tmp 4) (.tmp 74) rfl w.heap.size 0 [.int .i64 0, .int .i64 0, .string ⟨#[]⟩, .int .u32 0, .slice none 0 0, .slice none 0 0] (by rfl) (by rfl) (by kernel_rfl) (by simp [Value.oneCell']) 35 _ RZ.out (by show 0 + 6 ≤ 6; decide) ?_; intro wz hCz hgz; refine stop ?_)
    refine Stopped.of ?_
    have C0 : Cells wz w.heap.size 35 [.int .i64 0, .int .i64 0, .string ⟨#[]⟩, .int .u32 0, .slice none 0 0, .slice none 0 0] := hCz
    have z0 := C0.cell 0
    have z1 := C0.cell 1
    have z2 := C0.cell 2
    have z3 := C0.cell 3
    have z4 := C0.cell 4
    have z5 := C0.cell 5
    simp only [List.getElem?_cons_zero, List.getElem?_cons_succ] at z0 z1 z2 z3 z4 z5
    have KZ := Lib.hid (show Keep (fun q => q = w.heap.size) w2 wz from (Keep.refl _ _).grown hgz (fun k hk _ => by cases hk; rfl))
    clear C0 hCz hgz
    go_wp2
    refine bodyPost_ret (v := .agg #[.int .i64 0, .int .i64 0, .string ⟨#[]⟩, .int .u32 0, .slice none 0 0, .slice none 0 0]) (by simp [results, Tryz.results126, go_sem, z0, z1, z2, z3, z4, z5]) rfl ?_
    rw [HT2.out]
    exact ⟨zeroT, _, _, _, _, termZ, rfl, zeroT_at _ _, (RfRes.trans HG.out HV.out RA.out R2.out).res KZ.out HBS.out (Nat.le_refl _) RZ.out, by show _ + 0 + 0 ≤ _; omega, (fun e => by cases e), rfl, HS1.out⟩
set_option maxHeartbeats 16000000 in
set_option maxRecDepth 100000 in
theorem rfPlain_119 {base g : Nat} {l : List UInt8} {bv av lv : Value} {st : Rd} {w : World} (rd : Rd → Res Tm) (h : RfIs base g l bv st av lv [] w) (hin : st.at_ < l.length) (hK : l.getD st.at_ 0 = 119) (hat : st.atoms.length + 1 ≤ st.part) (hpt : st.part ≤ 4096) :
    Calls Tryz.prog 126 #[.pointer (some ⟨g, 0, none⟩), .int .i64 st.at_] w (TmO base g l bv av w st 0 (bodyN l rd st.at_ 119 st.part st.atoms)) := by
  have HG := Lib.hid h.cells.lt
  have HV := Lib.hid (fun q (hq : av.ownBlock = some q) => (h.atoms.lt hq).1)
  have HBS := Lib.hid (Nat.le_trans h.hg (Nat.le_of_lt h.cells.lt))
  have HAT := Lib.hid hat
  have HPT := Lib.hid hpt
  have HOK := Lib.hid h.ok
  have HLL := Lib.hid h.buf.len_le
  have BX := Lib.hid ((Below.refl w.heap.size w).alloc (Nat.le_refl _) (.cells #[.int .i64 0, .int .i64 0, .string ⟨#[]⟩, .int .u32 0, .slice none 0 0, .slice none 0 0] 35 (0, 0)))
  have R1 := Lib.hid (show Cells (w.alloc (.cells #[.int .i64 0, .int .i64 0, .string ⟨#[]⟩, .int .u32 0, .slice none 0 0, .slice none 0 0] 35 (0, 0))) w.heap.size 35 termZ from Cells.new w 35 termZ)
  have RA := Lib.hid (RfRes.below h BX.out)
  have HG1 := Lib.hid (Nat.lt_of_lt_of_le HG.out BX.out.size)
  have HV1 := Lib.hid (fun q (hq : av.ownBlock = some q) => Nat.lt_of_lt_of_le (HV.out q hq) BX.out.size)
  have HNR := Lib.hid (show ¬ LsK g av w.heap.size from fun e => by
    rcases e with e | e
    · have := HG.out; omega
    · have := HV.out _ e; omega)
  obtain ⟨tag, part, atoms⟩ := st
  dsimp only at *
  obtain ⟨ba, bc, rfl⟩ := h.form
  obtain ⟨q, o, rfl, hx0⟩ := h.buf.get tag hin
  have hx := (BX.out.cell (p := ⟨q, o + tag, none⟩) (World.block_lt_of_cell? w _ hx0)).trans hx0
  rw [hK] at hx
  clear hx0
  have htag : tag ≤ 65536 := HOK.out.le
  have ht0 : (0 : Int) ≤ (tag : Int) := by omega
  have ht1 : (tag : Int) ≤ 65536 := by omega
  have hti : (tag : Int) < (l.length : Int) := by omega
  have hll : (l.length : Int) ≤ 9223372036854775807 := HLL.out
  have hne := run_neqLinks
  have HT0 := Lib.hid (bodyN_eq l rd tag 119 part atoms 1 (by decide) hin ((txtS l tag false 0 ⟨tag + 1, part, atoms⟩).bind fun s st2 => if (quoteS s).2 ≠ [] then .bad (ofS tag (quoteS s).2) else .ok (.mk 2 0 s 0 [] []) ⟨st2.at_, st2.part, st2.atoms ++ [s]⟩) fun h1 => by
    rw [if_pos (by unfold hasS; rw [if_neg (by omega), if_neg (by omega)])]
    unfold bodyS
    rw [if_neg (by decide), if_neg (by decide), if_pos (by decide)]
    rfl)
  have HT := Lib.hid HT0.out
  clear h hat hpt
  go_enter Tryz.func126, Tryz.ntmps126
  go_upto_region 1 with (fail)
  generalize w.alloc (.cells #[.int .i64 0, .int .i64 0, .string ⟨#[]⟩, .int .u32 0, .slice none 0 0, .slice none 0 0] 35 (0, 0)) = w1 at *
  unfold termZ at *
  have c0 := RA.out.is_.cells.cell 0
  simp only [List.getElem?_cons_zero, List.getElem?_cons_succ] at c0
  have HH := Lib.hid (rfHas_any tag 1 RA.out.is_ (by omega) (by omega))
  go_wp2_with fail
  refine HH.out.mono ?_
  rintro e w2 ⟨rfl, lv2, hr⟩
  by_cases hs1 : hasS l tag 1 = []
  · rw [hs1] at hr
    obtain rfl := hr.is_.nil rfl
    rw [decide_eq_true hs1]
    have R2 := Lib.hid hr
    have HT2 := Lib.hid (HT.out.trans (if_pos hs1))
    have HL1 := Lib.hid (hasS_len hs1)
    clear hs1 hr HH c0 hx
    have HATM := Lib.hid (show Calls Tryz.prog 141 #[.pointer (some ⟨g, 0, none⟩), .int .i64 tag, .int .i64 tag, .int .i64 0] w2 _ from rfAtom_any tag 0 0 R2.out.is_ hin (by have := HL1.out.2; omega) (by decide))
    rw [show l.getD (tag + 0) 0 = 119 from hK] at HATM
    have HTX0 : Hid (bodyN l rd tag 119 part atoms = (txtS l tag ((119 : UInt8) == 118) 0 ⟨tag + 0 + 1, part, atoms⟩).bind fun s st2 => if (quoteS s).2 ≠ [] then .bad (ofS tag (quoteS s).2) else .ok (.mk 2 0 s 0 [] []) ⟨st2.at_, st2.part, st2.atoms ++ [s]⟩) := HT2
    generalize htx : txtS l tag ((119 : UInt8) == 118) 0 ⟨tag + 0 + 1, part, atoms⟩ = tx at *
    have HTX := Lib.hid htx
    clear htx HT HT0 HT2
    go_wp2_with fail
    refine HATM.out.mono ?_
    rintro e w3 ⟨s, nx, av3, lv3, st3, k3, rfl, hr, hnx, hpe, hm⟩
    have HPE := Lib.hid hpe
    clear hpe
    have R3 := Lib.hid (RfRes.trans HG1.out HV1.out R2.out hr)
    have HNX := Lib.hid hnx
    cases tx with
    | bad kk =>
      obtain ⟨rfl, hkk⟩ := hm
      have HKK := Lib.hid hkk
      have HT4 := Lib.hid (show bodyN l rd tag 119 part atoms = .bad k3 from HTX0.out)
      obtain ⟨_, q3, n3, c3, rfl⟩ := hr.is_.lform.resolve_left (fun e => hkk e.1)
      have d4 := hr.is_.cells.cell 4
      simp only [List.getElem?_cons_zero, List.getElem?_cons_succ] at d4
      clear hr hnx hkk HATM HTX0 HTX
      go_upto_region 21 with (fail)
      clear d4
      have RZ := Lib.hid (R1.out.keep R3.out.keep HNR.out)
      go_wp2_with (refine wpList_store_blk rfl _ (.tmp 4) (.tmp 87) rfl w.heap.size 0 [.int .i64 0, .int .i64 0, .string ⟨#[]⟩, .int .u32 0, .slice none 0 0, .slice none 0 0] (by rfl) (by rfl) (by kernel_rfl) (by simp [Value.oneCell']) 35 _ RZ.out (by show 0 + 6 ≤ 6; decide) ?_; intro wz hCz hgz; refine stop ?_)
      refine Stopped.of ?_
      have C0 : Cells wz w.heap.size 35 [.int .i64 0, .int .i64 0, .string ⟨#[]⟩, .int .u32 0, .slice none 0 0, .slice none 0 0] := hCz
      have z0 := C0.cell 0
      have z1 := C0.cell 1
      have z2 := C0.cell 2
      have z3 := C0.cell 3
      have z4 := C0.cell 4
      have z5 := C0.cell 5
      simp only [List.getElem?_cons_zero, List.getElem?_cons_succ] at z0 z1 z2 z3 z4 z5
      have KZ := Lib.hid (show Keep (fun q => q = w.heap.size) w3 wz from (Keep.refl _ _).grown hgz (fun k hk _ => by cases hk; rfl))
      clear C0 hCz hgz
      go_wp2
      refine bodyPost_ret (v := .agg #[.int .i64 0, .int .i64 0, .string ⟨#[]⟩, .int .u32 0, .slice none 0 0, .slice none 0 0]) (by simp [results, Tryz.results126, go_sem, z0, z1, z2, z3, z4, z5]) rfl ?_
      rw [HT4.out]
      exact ⟨zeroT, _, _, _, _, termZ, rfl, zeroT_at _ _, (RfRes.trans HG.out HV.out RA.out R3.out).res KZ.out HBS.out (Nat.le_refl _) RZ.out, by have := HPE.out; show part + 0 + 0 ≤ st3.part; omega, (fun e => by cases e), rfl, HKK.out⟩
    | ok x s2 =>
      obtain ⟨rfl, rfl, rfl, rfl⟩ := hm
      have HT4 := Lib.hid (show bodyN l rd tag 119 part atoms = if (quoteS s).2 ≠ [] then .bad (ofS tag (quoteS s).2) else .ok (.mk 2 0 s 0 [] []) ⟨s2.at_, s2.part, s2.atoms ++ [s]⟩ from HTX0.out)
      obtain rfl := hr.is_.nil rfl
      have d4 := hr.is_.cells.cell 4
      simp only [List.getElem?_cons_zero, List.getElem?_cons_succ] at d4
      have HSZ := Lib.hid (show s.size ≤ 65536 ∧ s2.atoms = atoms ∧ s2.part = part ∧ s2.at_ ≤ l.length ∧ s2.at_ ≤ 65536 from by
        rcases txtS_cases l tag ((119 : UInt8) == 118) 0 ⟨tag + 0 + 1, part, atoms⟩ with ⟨k, e⟩ | ⟨s', n, e, h1, h2, h3⟩
        · rw [HTX.out] at e; cases e
        · rw [HTX.out] at e; cases e; exact ⟨by dsimp only at *; omega, rfl, rfl, h2, h3⟩)
      have HQ := Lib.hid (fun W => quoteR_nil s W (by have := HSZ.out.1; omega))
      have hnx0 : (0 : Int) ≤ (s2.at_ : Int) := by omega
      have hnx1 : (s2.at_ : Int) ≤ 65536 := by have := HSZ.out.2.2.2.2; omega
      clear hr hnx HATM HTX0 HTX
      go_wp2_with fail
      refine (HQ.out _).mono ?_
      rintro e w4 ⟨lv4, rfl, hl4, hb4, hn4⟩
      have R4 := Lib.hid (R3.out.more hb4)
      by_cases hnn : (quoteS s).2 = []
      · obtain rfl := hn4 hnn
        have HT5 := Lib.hid (HT4.out.trans (if_neg (fun e => e hnn)))
        have hok5 : RfOk l ⟨s2.at_, part, s2.atoms⟩ := ⟨HSZ.out.2.2.2.2, HSZ.out.2.2.2.1, HOK.out.part, by rw [HSZ.out.2.1]; exact HOK.out.atoms⟩
        have R5 := Lib.hid (RfRes.trans HG1.out HV1.out R4.out (RfRes.place R4.out.is_ s2.at_ hok5))
        have d1 := R4.out.is_.cells.cell 1
        have f1 := R4.out.is_.cells.frozen 1
        simp only [List.getElem?_cons_zero, List.getElem?_cons_succ] at d1
        clear hl4 hb4 hn4 hnn HQ d4 hok5
        go_upto_region 27 with (fail)
        generalize w4.setCell ⟨g, 1, none⟩ (.int .i64 (s2.at_ : Int)) = w5 at *
        clear d1 f1
        obtain ⟨av', rfl⟩ : ∃ av', av3 = av' := ⟨_, rfl⟩
        obtain ⟨ax, ac, hav⟩ := R5.out.is_.aform
        subst hav
        obtain ⟨a', n', c', w6, hrun, hC, hB, hK6, hres⟩ := RfRes.app R5.out.is_ s (by show s2.atoms.length + 1 ≤ part; rw [HSZ.out.2.1]; exact HAT.out)
        have HR6 := Lib.hid hrun
        have R6 := Lib.hid (RfRes.trans HG1.out HV1.out R5.out hres)
        have d3 := R5.out.is_.cells.cell 3
        have e3 := hC.cell 3
        have f3 := hC.frozen 3
        simp only [List.getElem?_cons_zero, List.getElem?_cons_succ] at d3 e3
        clear hrun hC hB hK6 hres
        dsimp only at *
        generalize s2.atoms.length = sal at *
        go_wp2_with (at_builtin; refine stop ?_)
        refine Stopped.of ?_
        refine wp_app_eq rfl (.tmp 110) (.tmp 112) _ _ rfl _ _ (.slice a' n' c') w6 rfl rfl HR6.out ?_
        clear d3
        go_upto_region 28 with (fail)
        generalize w6.setCell ⟨g, 3, none⟩ (.slice a' n' c') = w7 at *
        clear e3 f3
        have RZ := Lib.hid (R1.out.keep R6.out.keep HNR.out)
        go_wp2_with (refine wpList_store_blk rfl _ (.tmp 4) (.tmp 117) rfl w.heap.size 0 [.int .i64 2, .int .i64 0, .string s, .int .u32 0, .slice none 0 0, .slice none 0 0] (by rfl) (by rfl) (by kernel_rfl) (by simp [Value.oneCell']) 35 _ RZ.out (by show 0 + 6 ≤ 6; decide) ?_; intro wz hCz hgz; refine stop ?_)
        refine Stopped.of ?_
        have C0 : Cells wz w.heap.size 35 [.int .i64 2, .int .i64 0, .string s, .int .u32 0, .slice none 0 0, .slice none 0 0] := hCz
        have z0 := C0.cell 0
        have z1 := C0.cell 1
        have z2 := C0.cell 2
        have z3 := C0.cell 3
        have z4 := C0.cell 4
        have z5 := C0.cell 5
        simp only [List.getElem?_cons_zero, List.getElem?_cons_succ] at z0 z1 z2 z3 z4 z5
        have KZ := Lib.hid (show Keep (fun q => q = w.heap.size) w7 wz from (Keep.refl _ _).grown hgz (fun k hk _ => by cases hk; rfl))
        clear C0 hCz hgz
        go_wp2
        refine bodyPost_ret (v := .agg #[.int .i64 2, .int .i64 0, .string s, .int .u32 0, .slice none 0 0, .slice none 0 0]) (by simp [results, Tryz.results126, go_sem, z0, z1, z2, z3, z4, z5]) rfl ?_
        rw [HT5.out]
        exact ⟨_, _, _, _, _, [.int .i64 2, .int .i64 0, .string s, .int .u32 0, .slice none 0 0, .slice none 0 0], rfl, TmAt.leaf _ _ ⟨by decide, by decide, by decide, by decide, by have := HSZ.out.1; omega, by decide, by decide⟩, (RfRes.trans HG.out HV.out RA.out R6.out).res KZ.out HBS.out (Nat.le_refl _) RZ.out, Nat.le_refl _, (fun e => by cases e), rfl, rfl, by rw [HSZ.out.2.2.1], by show s2.part ≤ 4096; rw [HSZ.out.2.2.1]; exact HPT.out⟩
      · obtain ⟨k4, r4, hkr⟩ : ∃ k r, (quoteS s).2 = k :: r := by
          cases hq : (quoteS s).2 with
          | nil => exact absurd hq hnn
          | cons k r => exact ⟨k, r, rfl⟩
        have HT5 := Lib.hid (HT4.out.trans (if_pos hnn))
        have HKR := Lib.hid hkr
        rw [hkr] at hl4
        have HR4 := Lib.hid (show r4.length ≤ 50 from by
          have := quoteS_len s
          rw [hkr] at this; simp at this; rw [this]; decide)
        obtain ⟨q4, n4, c4, rfl⟩ := someLk hl4
        have HO := Lib.hid (overR_any (tag : Int) _ k4 r4 _ w4 hl4 HR4.out)
        clear hl4 hb4 hn4 hnn hkr HQ d4
        go_wp2_with fail
        refine HO.out.mono ?_
        rintro e w5 ⟨lv5, rfl, hl5, hb5⟩
        obtain ⟨q5, n5, c5, rfl⟩ := someLk hl5
        have R5 := Lib.hid (R4.out.more hb5)
        have R6 := Lib.hid (RfRes.fails HG1.out HV1.out R5.out (hl5.base (show base ≤ w4.heap.size from Nat.le_trans (Nat.le_trans HBS.out BX.out.size) R4.out.keep.size)) (by simp))
        have d4 := R5.out.is_.cells.cell 4
        have f4 := R5.out.is_.cells.frozen 4
        simp only [List.getElem?_cons_zero, List.getElem?_cons_succ] at d4
        clear hl5 hb5 HO
        go_upto_region 25 with (fail)
        generalize w5.setCell ⟨g, 4, none⟩ (.slice (some ⟨q5, 0, none⟩) n5 c5) = w6 at *
        clear d4 f4
        have RZ := Lib.hid (R1.out.keep R6.out.keep HNR.out)
        go_wp2_with (refine wpList_store_blk rfl _ (.tmp 4) (.tmp 101) rfl w.heap.size 0 [.int .i64 0, .int .i64 0, .string ⟨#[]⟩, .int .u32 0, .slice none 0 0, .slice none 0 0] (by rfl) (by rfl) (by kernel_rfl) (by simp [Value.oneCell']) 35 _ RZ.out (by show 0 + 6 ≤ 6; decide) ?_; intro wz hCz hgz; refine stop ?_)
        refine Stopped.of ?_
        have C0 : Cells wz w.heap.size 35 [.int .i64 0, .int .i64 0, .string ⟨#[]⟩, .int .u32 0, .slice none 0 0, .slice none 0 0] := hCz
        have z0 := C0.cell 0
        have z1 := C0.cell 1
        have z2 := C0.cell 2
        have z3 := C0.cell 3
        have z4 := C0.cell 4
        have z5 := C0.cell 5
        simp only [List.getElem?_cons_zero, List.getElem?_cons_succ] at z0 z1 z2 z3 z4 z5
        have KZ := Lib.hid (show Keep (fun q => q = w.heap.size) w6 wz from (Keep.refl _ _).grown hgz (fun k hk _ => by cases hk; rfl))
        clear C0 hCz hgz
        go_wp2
        refine bodyPost_ret (v := .agg #[.int .i64 0, .int .i64 0, .string ⟨#[]⟩, .int .u32 0, .slice none 0 0, .slice none 0 0]) (by simp [results, Tryz.results126, go_sem, z0, z1, z2, z3, z4, z5]) rfl ?_
        rw [HT5.out, HKR.out]
        exact ⟨zeroT, _, _, _, _, termZ, rfl, zeroT_at _ _, (RfRes.trans HG.out HV.out RA.out R6.out).res KZ.out HBS.out (Nat.le_refl _) RZ.out, Nat.le_refl _, (fun e => by cases e), rfl, by simp [ofS]⟩
  · rw [decide_eq_false hs1]
    have R2 := Lib.hid hr
    have HT2 := Lib.hid (HT.out.trans (if_neg hs1))
    have HS1 := Lib.hid hs1
    clear hs1 hr HH c0 hx
    go_upto_region 18 with (fail)
    have RZ := Lib.hid (R1.out.keep R2.out.keep HNR.out)
    go_wp2_with (refine wpList_store_blk rfl _ (.tmp 4) (.tmp 74) rfl w.heap.size 0 [.int .i64 0, .int .i64 0, .string ⟨#[]⟩, .int .u32 0, .slice none 0 0, .slice none 0 0] (by rfl) (by rfl) (by kernel_rfl) (by simp [Value.oneCell']) 35 _ RZ.out (by show 0 + 6 ≤ 6; decide) ?_; intro wz hCz hgz; refine stop ?_)
    refine Stopped.of ?_
    have C0 : Cells wz w.heap.size 35 [.int .i64 0, .int .i64 0, .string ⟨#[]⟩, .int .u32 0, .slice none 0 0, .slice none 0 0] := hCz
    have z0 := C0.cell 0
    have z1 := C0.cell 1
    have z2 := C0.cell 2
    have z3 := C0.cell 3
    have z4 := C0.cell 4
    have z5 := C0.cell 5
    simp only [List.getElem?_cons_zero, List.getElem?_cons_succ] at z0 z1 z2 z3 z4 z5
    have KZ := Lib.hid (show Keep (fun q => q = w.heap.size) w2 wz from (Keep.refl _ _).grown hgz (fun k hk _ => by cases hk; rfl))
    clear C0 hCz hgz
    go_wp2
    refine bodyPost_ret (v := .agg #[.int .i64 0, .int .i64 0, .string ⟨#[]⟩, .int .u32 0, .slice none 0 0, .slice none 0 0]) (by simp [results, Tryz.results126, go_sem, z0, z1, z2, z3, z4, z5]) rfl ?_
    rw [HT2.out]
    exact ⟨zeroT, _, _, _, _, termZ, rfl, zeroT_at _ _, (RfRes.trans HG.out HV.out RA.out R2.out).res KZ.out HBS.out (Nat.le_refl _) RZ.out, by show _ + 0 + 0 ≤ _; omega, (fun e => by cases e), rfl, HS1.out⟩
end Go.Proofs.YtlahagabcnmdiaaGreatDoor
end
section
/- The reference of layer 4: its reader: own. Printed by wip/rfe.py. -/
open Go Go.RowKit
namespace Go.Proofs.YtlahagabcnmdiaaGreatDoor
set_option linter.unusedVariables false
set_option linter.unusedSimpArgs false

theorem nums_lit3 (w : World) (x y z : Int) (hx0 : 0 ≤ x) (hx1 : x < 4294967296) (hy0 : 0 ≤ y) (hy1 : y < 4294967296) (hz0 : 0 ≤ z) (hz1 : z < 4294967296) : NumsAt (fun q => q = w.heap.size) (.slice (some ⟨w.heap.size, 0, none⟩) 3 3) [x, y, z] (w.alloc (.cells #[.int .u32 x, .int .u32 y, .int .u32 z] 32 (0, 0))) := by
  refine ⟨_, 3, rfl, ⟨by simp, by simp⟩, by decide, fun i hi => ?_⟩
  have hC := Cells.new w 32 [.int .u32 x, .int .u32 y, .int .u32 z]
  match i, hi with
  | 0, _ => exact ⟨hx0, hx1, _, 0, rfl, rfl, hC.cell 0⟩
  | 1, _ => exact ⟨hy0, hy1, _, 0, rfl, rfl, hC.cell 1⟩
  | 2, _ => exact ⟨hz0, hz1, _, 0, rfl, rfl, hC.cell 2⟩
theorem namS_room {l : List UInt8} {tag behind : Nat} {st st2 : Rd} {s : ByteArray} (h : namS l tag behind st = .ok s st2) : st2.at_ + behind ≤ l.length ∧ st2.at_ + behind ≤ 65536 ∧ s.size ≤ 65536 ∧ st2.part = st.part ∧ st2.atoms.length = st.atoms.length + 1 := by
  unfold namS at h
  obtain ⟨x, s1, h1, h⟩ := bind_ok h
  have e1 := needS_ok h1
  subst e1
  split at h
  · cases h
  · obtain ⟨y, s2, h2, h⟩ := bind_ok h
    rcases txtS_cases l tag (l.getD st.at_ 0 == 118) behind ⟨st.at_ + 1, st.part, st.atoms⟩ with ⟨k, e⟩ | ⟨s', n, e, g1, g2, g3⟩
    · rw [e] at h2; cases h2
    · rw [e] at h2; cases h2
      split at h
      · cases h
      · cases h
        dsimp only at *
        exact ⟨g2, g3, by omega, rfl, by rw [List.length_append]; rfl⟩
theorem fourS_at {l : List UInt8} {st : Rd} (tag : Nat) (h1 : st.at_ + 4 ≤ l.length) (h2 : st.at_ + 4 ≤ 65536) : fourS l tag st = .ok (numS (cutB l st.at_ 4)) ⟨st.at_ + 4, st.part, st.atoms⟩ := by
  unfold fourS needS
  rw [if_neg (by omega), if_neg (by omega)]
  rfl
theorem pid_tail {l : List UInt8} {tag p : Nat} {s : ByteArray} {nx : Nat} {a : List ByteArray} (h1 : nx + 12 ≤ l.length) (h2 : nx + 12 ≤ 65536) :
    ((fourS l tag ⟨nx, p, a⟩).bind fun x st2 => (fourS l tag st2).bind fun y st3 => (fourS l tag st3).bind fun c st4 => .ok (Tm.mk 4 0 s (c : Int) [(x : Int), (y : Int)] []) st4) = .ok (.mk 4 0 s (numS (cutB l (nx + 8) 4)) [(numS (cutB l nx 4) : Int), (numS (cutB l (nx + 4) 4) : Int)] []) ⟨nx + 12, p, a⟩ := by
  rw [fourS_at tag (by dsimp only; omega) (by dsimp only; omega)]
  simp only [Res.bind]
  rw [fourS_at tag (by dsimp only; omega) (by dsimp only; omega)]
  dsimp only
  rw [fourS_at tag (by dsimp only; omega) (by dsimp only; omega)]
theorem ref_tail {l : List UInt8} {tag p : Nat} {s : ByteArray} {nx : Nat} {a : List ByteArray} (h1 : nx + 16 ≤ l.length) (h2 : nx + 16 ≤ 65536) :
    ((fourS l tag ⟨nx, p, a⟩).bind fun c st2 => (numsS l tag 3 st2).bind fun ns st3 => .ok (Tm.mk 3 0 s (c : Int) ns []) st3) = .ok (.mk 3 0 s (numS (cutB l nx 4)) [(numS (cutB l (nx + 4) 4) : Int), (numS (cutB l (nx + 8) 4) : Int), (numS (cutB l (nx + 12) 4) : Int)] []) ⟨nx + 16, p, a⟩ := by
  rw [fourS_at tag (by dsimp only; omega) (by dsimp only; omega)]
  simp only [Res.bind, numsS]
  rw [fourS_at tag (by dsimp only; omega) (by dsimp only; omega)]
  dsimp only
  rw [fourS_at tag (by dsimp only; omega) (by dsimp only; omega)]
  dsimp only
  rw [fourS_at tag (by dsimp only; omega) (by dsimp only; omega)]
theorem bodyN_pid (l : List UInt8) (rd : Rd → Res Tm) (tag p : Nat) (a : List ByteArray) (hin : tag < l.length) : bodyN l rd tag 88 p a = pidS l tag ⟨tag + 1, p, a⟩ := by
  unfold bodyN needS
  dsimp only
  by_cases h1 : tag + 1 ≤ 65536
  · rw [if_neg (by omega), if_neg (by omega)]
    simp only [Res.bind]
    unfold bodyS farS
    rw [if_neg (by decide), if_neg (by decide), if_neg (by decide), if_neg (by decide), if_neg (by decide), if_neg (by decide), if_pos rfl]
  · rw [if_pos (by omega)]
    unfold pidS
    rw [namS_has, hasS_long h1 (by omega), if_neg (by simp)]
    rfl
theorem bodyN_ref (l : List UInt8) (rd : Rd → Res Tm) (tag p : Nat) (a : List ByteArray) (hin : tag < l.length) : bodyN l rd tag 90 p a = refS l tag ⟨tag + 1, p, a⟩ := by
  unfold bodyN needS
  dsimp only
  by_cases h1 : tag + 1 ≤ 65536
  · rw [if_neg (by omega), if_neg (by omega)]
    simp only [Res.bind]
    unfold bodyS farS
    rw [if_neg (by decide), if_neg (by decide), if_neg (by decide), if_neg (by decide), if_neg (by decide), if_neg (by decide), if_neg (by decide)]
  · rw [if_pos (by omega)]
    unfold refS
    rw [hasS_need, hasS_long h1 (by omega), if_neg (by simp)]
    rfl
theorem refS_has (l : List UInt8) (tag p : Nat) (a : List ByteArray) : refS l tag ⟨tag + 1, p, a⟩ = if hasS l tag 3 = [] then (if l.getD (tag + 1) 0 ≠ 0 ∨ l.getD (tag + 2) 0 ≠ 3 then .bad [⟨etfL, tag, 84⟩] else (namS l tag 16 ⟨tag + 3, p, a⟩).bind fun s st1 => (fourS l tag st1).bind fun c st2 => (numsS l tag 3 st2).bind fun ns st3 => .ok (.mk 3 0 s c ns []) st3) else .bad (hasS l tag 3) := by
  unfold refS
  rw [hasS_need]
  split
  · rfl
  · rfl
set_option maxHeartbeats 16000000 in
set_option maxRecDepth 100000 in
theorem rfOwn_pid {base g : Nat} {l : List UInt8} {bv av lv : Value} {st : Rd} {w : World} (rd : Rd → Res Tm) (h : RfIs base g l bv st av lv [] w) (hin : st.at_ < l.length) (hK : l.getD st.at_ 0 = 88) (hat : st.atoms.length + 1 ≤ st.part) (hpt : st.part ≤ 4096) :
    Calls Tryz.prog 128 #[.pointer (some ⟨g, 0, none⟩), .int .i64 st.at_] w (TmO base g l bv av w st 0 (bodyN l rd st.at_ 88 st.part st.atoms)) := by
  have HG := Lib.hid h.cells.lt
  have HV := Lib.hid (fun q (hq : av.ownBlock = some q) => (h.atoms.lt hq).1)
  have HBS := Lib.hid (Nat.le_trans h.hg (Nat.le_of_lt h.cells.lt))
  have HAT := Lib.hid hat
  have HPT := Lib.hid hpt
  have HOK := Lib.hid h.ok
  have HLL := Lib.hid h.buf.len_le
  have BX := Lib.hid ((Below.refl w.heap.size w).alloc (Nat.le_refl _) (.cells #[.int .i64 0, .int .i64 0, .string ⟨#[]⟩, .int .u32 0, .slice none 0 0, .slice none 0 0] 35 (0, 0)))
  have R1 := Lib.hid (show Cells (w.alloc (.cells #[.int .i64 0, .int .i64 0, .string ⟨#[]⟩, .int .u32 0, .slice none 0 0, .slice none 0 0] 35 (0, 0))) w.heap.size 35 termZ from Cells.new w 35 termZ)
  have RA := Lib.hid (RfRes.below h BX.out)
  have HG1 := Lib.hid (Nat.lt_of_lt_of_le HG.out BX.out.size)
  have HV1 := Lib.hid (fun q (hq : av.ownBlock = some q) => Nat.lt_of_lt_of_le (HV.out q hq) BX.out.size)
  have HNR := Lib.hid (show ¬ LsK g av w.heap.size from fun e => by
    rcases e with e | e
    · have := HG.out; omega
    · have := HV.out _ e; omega)
  obtain ⟨tag, part, atoms⟩ := st
  dsimp only at *
  obtain ⟨ba, bc, rfl⟩ := h.form
  obtain ⟨q, o, rfl, hx0⟩ := h.buf.get tag hin
  have hx := (BX.out.cell (p := ⟨q, o + tag, none⟩) (World.block_lt_of_cell? w _ hx0)).trans hx0
  rw [hK] at hx
  clear hx0
  have htag : tag ≤ 65536 := HOK.out.le
  have ht0 : (0 : Int) ≤ (tag : Int) := by omega
  have ht1 : (tag : Int) ≤ 65536 := by omega
  have hti : (tag : Int) < (l.length : Int) := by omega
  have hll : (l.length : Int) ≤ 9223372036854775807 := HLL.out
  have hne := run_neqLinks
  have HT := Lib.hid (show bodyN l rd tag 88 part atoms = (namS l tag 12 ⟨tag + 1, part, atoms⟩).bind fun s st1 => (fourS l tag st1).bind fun a st2 => (fourS l tag st2).bind fun b st3 => (fourS l tag st3).bind fun c st4 => .ok (.mk 4 0 s c [(a : Int), (b : Int)] []) st4 from bodyN_pid l rd tag part atoms hin)
  clear h hat hpt
  go_enter Tryz.func128, Tryz.ntmps128
  go_upto_region 1 with (fail)
  generalize w.alloc (.cells #[.int .i64 0, .int .i64 0, .string ⟨#[]⟩, .int .u32 0, .slice none 0 0, .slice none 0 0] 35 (0, 0)) = w1 at *
  unfold termZ at *
  have c0 := RA.out.is_.cells.cell 0
  simp only [List.getElem?_cons_zero, List.getElem?_cons_succ] at c0
  have R2 := Lib.hid (RfRes.refl RA.out.is_)
  have HNM := Lib.hid (show Calls Tryz.prog 143 #[.pointer (some ⟨g, 0, none⟩), .int .i64 tag, .int .i64 ((tag : Int) + 1), .int .i64 12] w1 _ from rfNamed_any tag 1 12 R2.out.is_ (by omega) (by decide) HAT.out)
  generalize htx : namS l tag 12 ⟨tag + 1, part, atoms⟩ = tx at *
  have HTX := Lib.hid htx
  clear htx
  go_wp2_with fail
  refine HNM.out.mono ?_
  rintro e w3 ⟨s, nx, av3, lv3, st3, k3, rfl, hr, hnx, hpe, hm⟩
  have HPE := Lib.hid hpe
  have R3 := Lib.hid (RfRes.trans HG1.out HV1.out R2.out hr)
  clear hpe
  cases tx with
  | bad kk =>
    obtain ⟨rfl, hkk⟩ := hm
    have HKK := Lib.hid hkk
    have HT4 := Lib.hid (show bodyN l rd tag 88 part atoms = .bad k3 from HT.out)
    obtain ⟨_, q3, n3, c3, rfl⟩ := hr.is_.lform.resolve_left (fun e => hkk e.1)
    have d4 := hr.is_.cells.cell 4
    simp only [List.getElem?_cons_zero, List.getElem?_cons_succ] at d4
    clear hr hnx hkk HNM HTX
    go_upto_region 4 with (fail)
    clear d4
    have RZ := Lib.hid (R1.out.keep R3.out.keep HNR.out)
    go_wp2_with (refine wpList_store_blk rfl _ (.tmp 4) (.tmp 30) rfl w.heap.size 0 [.int .i64 0, .int .i64 0, .string ⟨#[]⟩, .int .u32 0, .slice none 0 0, .slice none 0 0] (by rfl) (by rfl) (by kernel_rfl) (by simp [Value.oneCell']) 35 _ RZ.out (by show 0 + 6 ≤ 6; decide) ?_; intro wz hCz hgz; refine stop ?_)
    refine Stopped.of ?_
    have C0 : Cells wz w.heap.size 35 [.int .i64 0, .int .i64 0, .string ⟨#[]⟩, .int .u32 0, .slice none 0 0, .slice none 0 0] := hCz
    have z0 := C0.cell 0
    have z1 := C0.cell 1
    have z2 := C0.cell 2
    have z3 := C0.cell 3
    have z4 := C0.cell 4
    have z5 := C0.cell 5
    simp only [List.getElem?_cons_zero, List.getElem?_cons_succ] at z0 z1 z2 z3 z4 z5
    have KZ := Lib.hid (show Keep (fun q => q = w.heap.size) w3 wz from (Keep.refl _ _).grown hgz (fun k hk _ => by cases hk; rfl))
    clear C0 hCz hgz
    go_wp2
    refine bodyPost_ret (v := .agg #[.int .i64 0, .int .i64 0, .string ⟨#[]⟩, .int .u32 0, .slice none 0 0, .slice none 0 0]) (by simp [results, Tryz.results128, go_sem, z0, z1, z2, z3, z4, z5]) rfl ?_
    rw [HT4.out]
    exact ⟨zeroT, _, _, _, _, termZ, rfl, zeroT_at _ _, (RfRes.trans HG.out HV.out RA.out R3.out).res KZ.out HBS.out (Nat.le_refl _) RZ.out, by have := HPE.out; show part + 0 + 0 ≤ st3.part; omega, (fun e => by cases e), rfl, HKK.out⟩
  | ok x s2 =>
    obtain ⟨rfl, rfl, rfl, rfl⟩ := hm
    obtain rfl := hr.is_.nil rfl
    have HRM := Lib.hid (namS_room HTX.out)
    have HT4 := Lib.hid (HT.out.trans (pid_tail HRM.out.1 HRM.out.2.1))
    have d4 := hr.is_.cells.cell 4
    simp only [List.getElem?_cons_zero, List.getElem?_cons_succ] at d4
    have hnx0 : (0 : Int) ≤ (s2.at_ : Int) := by omega
    have hnx1 : (s2.at_ : Int) ≤ 65536 := by have := HRM.out.2.1; omega
    have hok5 : RfOk l ⟨s2.at_ + 12, part, s2.atoms⟩ := ⟨HRM.out.2.1, HRM.out.1, HOK.out.part, by have h1 := HRM.out.2.2.2.2; have h2 := HAT.out; show s2.atoms.length ≤ part; dsimp only at h1; omega⟩
    have R5 := Lib.hid (RfRes.trans HG1.out HV1.out R3.out (RfRes.place R3.out.is_ (s2.at_ + 12) hok5))
    have d1 := hr.is_.cells.cell 1
    have f1 := hr.is_.cells.frozen 1
    simp only [List.getElem?_cons_zero, List.getElem?_cons_succ] at d1
    have HPS := Lib.hid (show s2.part = part from HRM.out.2.2.2.1)
    clear hr hnx HNM HTX hok5
    go_upto_region 6 with (fail)
    rw [show (((s2.at_ + 12 : Nat) : Int)) = (s2.at_ : Int) + 12 from rfl] at R5
    generalize w3.setCell ⟨g, 1, none⟩ (.int .i64 ((s2.at_ : Int) + 12)) = w5 at *
    clear d1 f1 d4
    have HN0 := Lib.hid (fun W (hR : RfIs base g l (.slice (some ⟨q, o, none⟩) l.length bc) ⟨s2.at_ + 12, part, s2.atoms⟩ av3 (.slice none 0 0) [] W) => show Calls Tryz.prog 140 #[.pointer (some ⟨g, 0, none⟩), .int .i64 (s2.at_ : Int), .int .i64 4] W _ from rfNum_any s2.at_ 4 hR (by have := HRM.out.1; omega) (by omega) (by have := HRM.out.2.1; omega))
    have hb0 : numS (cutB l s2.at_ 4) < 4294967296 := numS_le (by unfold cutB; rw [List.length_take]; omega)
    generalize numS (cutB l s2.at_ 4) = n0 at *
    have h0lo : (0 : Int) ≤ (n0 : Int) := by omega
    have h0hi : (n0 : Int) < 4294967296 := by omega
    have HN1 := Lib.hid (fun W (hR : RfIs base g l (.slice (some ⟨q, o, none⟩) l.length bc) ⟨s2.at_ + 12, part, s2.atoms⟩ av3 (.slice none 0 0) [] W) => show Calls Tryz.prog 140 #[.pointer (some ⟨g, 0, none⟩), .int .i64 ((s2.at_ : Int) + 4), .int .i64 4] W _ from rfNum_any (s2.at_ + 4) 4 hR (by have := HRM.out.1; omega) (by omega) (by have := HRM.out.2.1; omega))
    have hb1 : numS (cutB l (s2.at_ + 4) 4) < 4294967296 := numS_le (by unfold cutB; rw [List.length_take]; omega)
    generalize numS (cutB l (s2.at_ + 4) 4) = n1 at *
    have h1lo : (0 : Int) ≤ (n1 : Int) := by omega
    have h1hi : (n1 : Int) < 4294967296 := by omega
    have HN2 := Lib.hid (fun W (hR : RfIs base g l (.slice (some ⟨q, o, none⟩) l.length bc) ⟨s2.at_ + 12, part, s2.atoms⟩ av3 (.slice none 0 0) [] W) => show Calls Tryz.prog 140 #[.pointer (some ⟨g, 0, none⟩), .int .i64 ((s2.at_ : Int) + 8), .int .i64 4] W _ from rfNum_any (s2.at_ + 8) 4 hR (by have := HRM.out.1; omega) (by omega) (by have := HRM.out.2.1; omega))
    have hb2 : numS (cutB l (s2.at_ + 8) 4) < 4294967296 := numS_le (by unfold cutB; rw [List.length_take]; omega)
    generalize numS (cutB l (s2.at_ + 8) 4) = n2 at *
    have h2lo : (0 : Int) ≤ (n2 : Int) := by omega
    have h2hi : (n2 : Int) < 4294967296 := by omega
    go_wp2_with fail
    refine (HN0.out _ R5.out.is_).mono ?_
    rintro e _ ⟨rfl, rfl⟩
    go_wp2_with fail
    refine (HN1.out _ R5.out.is_).mono ?_
    rintro e _ ⟨rfl, rfl⟩
    have BA := Lib.hid ((Below.refl w5.heap.size w5).alloc (Nat.le_refl _) (.cells #[.int .u32 n0, .int .u32 n1] 32 (0, 0)))
    have HNM2 := Lib.hid (nums_lit2 w5 n0 n1 h0lo h0hi h1lo h1hi)
    have R6 := Lib.hid (R5.out.more BA.out)
    go_wp2_with fail
    refine (HN2.out _ R6.out.is_).mono ?_
    rintro e _ ⟨rfl, rfl⟩
    generalize w5.alloc (.cells #[.int .u32 n0, .int .u32 n1] 32) = w6 at *
    have RZ := Lib.hid (R1.out.keep R6.out.keep HNR.out)
    go_wp2_with (refine wpList_store_blk rfl _ (.tmp 4) (.tmp 49) rfl w.heap.size 0 [.int .i64 4, .int .i64 0, .string s, .int .u32 n2, .slice (some ⟨w5.heap.size, 0, none⟩) 2 2, .slice none 0 0] (by rfl) (by rfl) (by kernel_rfl) (by simp [Value.oneCell']) 35 _ RZ.out (by show 0 + 6 ≤ 6; decide) ?_; intro wz hCz hgz; refine stop ?_)
    refine Stopped.of ?_
    have C0 : Cells wz w.heap.size 35 [.int .i64 4, .int .i64 0, .string s, .int .u32 n2, .slice (some ⟨w5.heap.size, 0, none⟩) 2 2, .slice none 0 0] := hCz
    have z0 := C0.cell 0
    have z1 := C0.cell 1
    have z2 := C0.cell 2
    have z3 := C0.cell 3
    have z4 := C0.cell 4
    have z5 := C0.cell 5
    simp only [List.getElem?_cons_zero, List.getElem?_cons_succ] at z0 z1 z2 z3 z4 z5
    have KZ := Lib.hid (show Keep (fun q => q = w.heap.size) w6 wz from (Keep.refl _ _).grown hgz (fun k hk _ => by cases hk; rfl))
    clear C0 hCz hgz
    go_wp2
    refine bodyPost_ret (v := .agg #[.int .i64 4, .int .i64 0, .string s, .int .u32 n2, .slice (some ⟨w5.heap.size, 0, none⟩) 2 2, .slice none 0 0]) (by simp [results, Tryz.results128, go_sem, z0, z1, z2, z3, z4, z5]) rfl ?_
    rw [HT4.out]
    have hsz5 : w.heap.size < w5.heap.size := Nat.lt_of_lt_of_le R1.out.lt R5.out.keep.size
    have hown : ∀ q, av3.ownBlock = some q → q < w5.heap.size := fun q hq => (R5.out.is_.atoms.lt hq).1
    refine ⟨_, _, _, _, _, [.int .i64 4, .int .i64 0, .string s, .int .u32 n2, .slice (some ⟨w5.heap.size, 0, none⟩) 2 2, .slice none 0 0], rfl, ?_, (RfRes.trans HG.out HV.out RA.out R6.out).res KZ.out HBS.out (Nat.le_refl _) RZ.out, Nat.le_refl _, (fun e => by cases e), rfl, rfl, by rw [HPS.out], by show s2.part ≤ 4096; rw [HPS.out]; exact HPT.out⟩
    rw [TmAt]
    refine ⟨⟨by decide, by decide, by decide, by decide, by have := HRM.out.2.2.1; omega, h2lo, h2hi⟩, .slice (some ⟨w5.heap.size, 0, none⟩) 2 2, none, 0, rfl, ?_, by simp [maxLen], by simp, by rw [ArgsAt]; trivial⟩
    refine (HNM2.out.keep KZ.out (fun q _ (h1 : q = w5.heap.size) (h2 : q = w.heap.size) => by omega)).mono fun q _ (h1 : q = w5.heap.size) => ⟨by omega, fun e => by have := hown q e; omega⟩
set_option maxHeartbeats 16000000 in
set_option maxRecDepth 100000 in
theorem rfOwn_ref {base g : Nat} {l : List UInt8} {bv av lv : Value} {st : Rd} {w : World} (rd : Rd → Res Tm) (h : RfIs base g l bv st av lv [] w) (hin : st.at_ < l.length) (hK : l.getD st.at_ 0 = 90) (hat : st.atoms.length + 1 ≤ st.part) (hpt : st.part ≤ 4096) :
    Calls Tryz.prog 128 #[.pointer (some ⟨g, 0, none⟩), .int .i64 st.at_] w (TmO base g l bv av w st 0 (bodyN l rd st.at_ 90 st.part st.atoms)) := by
  have HG := Lib.hid h.cells.lt
  have HV := Lib.hid (fun q (hq : av.ownBlock = some q) => (h.atoms.lt hq).1)
  have HBS := Lib.hid (Nat.le_trans h.hg (Nat.le_of_lt h.cells.lt))
  have HAT := Lib.hid hat
  have HPT := Lib.hid hpt
  have HOK := Lib.hid h.ok
  have HLL := Lib.hid h.buf.len_le
  have BX := Lib.hid ((Below.refl w.heap.size w).alloc (Nat.le_refl _) (.cells #[.int .i64 0, .int .i64 0, .string ⟨#[]⟩, .int .u32 0, .slice none 0 0, .slice none 0 0] 35 (0, 0)))
  have R1 := Lib.hid (show Cells (w.alloc (.cells #[.int .i64 0, .int .i64 0, .string ⟨#[]⟩, .int .u32 0, .slice none 0 0, .slice none 0 0] 35 (0, 0))) w.heap.size 35 termZ from Cells.new w 35 termZ)
  have RA := Lib.hid (RfRes.below h BX.out)
  have HG1 := Lib.hid (Nat.lt_of_lt_of_le HG.out BX.out.size)
  have HV1 := Lib.hid (fun q (hq : av.ownBlock = some q) => Nat.lt_of_lt_of_le (HV.out q hq) BX.out.size)
  have HNR := Lib.hid (show ¬ LsK g av w.heap.size from fun e => by
    rcases e with e | e
    · have := HG.out; omega
    · have := HV.out _ e; omega)
  obtain ⟨tag, part, atoms⟩ := st
  dsimp only at *
  obtain ⟨ba, bc, rfl⟩ := h.form
  obtain ⟨q, o, rfl, hx0⟩ := h.buf.get tag hin
  have hx := (BX.out.cell (p := ⟨q, o + tag, none⟩) (World.block_lt_of_cell? w _ hx0)).trans hx0
  rw [hK] at hx
  clear hx0
  have htag : tag ≤ 65536 := HOK.out.le
  have ht0 : (0 : Int) ≤ (tag : Int) := by omega
  have ht1 : (tag : Int) ≤ 65536 := by omega
  have hti : (tag : Int) < (l.length : Int) := by omega
  have hll : (l.length : Int) ≤ 9223372036854775807 := HLL.out
  have hne := run_neqLinks
  have HT := Lib.hid ((bodyN_ref l rd tag part atoms hin).trans (refS_has l tag part atoms))
  clear h hat hpt
  go_enter Tryz.func128, Tryz.ntmps128
  go_upto_region 1 with (fail)
  generalize w.alloc (.cells #[.int .i64 0, .int .i64 0, .string ⟨#[]⟩, .int .u32 0, .slice none 0 0, .slice none 0 0] 35 (0, 0)) = w1 at *
  unfold termZ at *
  have c0 := RA.out.is_.cells.cell 0
  simp only [List.getElem?_cons_zero, List.getElem?_cons_succ] at c0
  have HH := Lib.hid (rfHas_any tag 3 RA.out.is_ (by omega) (by omega))
  go_wp2_with fail
  refine HH.out.mono ?_
  rintro e w2 ⟨rfl, lv2, hr⟩
  by_cases hs1 : hasS l tag 3 = []
  · rw [hs1] at hr
    obtain rfl := hr.is_.nil rfl
    rw [decide_eq_true hs1]
    have R2 := Lib.hid hr
    have HT2 := Lib.hid (HT.out.trans (if_pos hs1))
    have HL1 := Lib.hid (hasS_len hs1)
    clear hs1 hr HH c0 hx
    have d0 := R2.out.is_.cells.cell 0
    simp only [List.getElem?_cons_zero, List.getElem?_cons_succ] at d0
    obtain ⟨q1, o1, hqe, hy1⟩ := R2.out.is_.buf.get (tag + 1) (by have := HL1.out.1; omega)
    cases hqe
    obtain ⟨q1, o1, hqe, hy2⟩ := R2.out.is_.buf.get (tag + 2) (by have := HL1.out.1; omega)
    cases hqe
    have hyi1 : (tag : Int) + 1 < (l.length : Int) := by have := HL1.out.1; omega
    have hyi2 : (tag : Int) + 2 < (l.length : Int) := by have := HL1.out.1; omega
    by_cases hb : l.getD (tag + 1) 0 ≠ 0 ∨ l.getD (tag + 2) 0 ≠ 3
    · have HT3 := Lib.hid (HT2.out.trans (if_pos hb))
      have HFA := Lib.hid (show Calls Tryz.prog 125 #[.pointer (some ⟨g, 0, none⟩), .int .i64 tag, .int .i64 84] w2 _ from rfFail_any (tag : Int) 84 R2.out.is_)
      have HWAY : Hid (((((l.getD (tag + 1) 0).toNat : Nat) : Int) != 0) = true ∨ (((((l.getD (tag + 1) 0).toNat : Nat) : Int) != 0) = false ∧ ((((l.getD (tag + 2) 0).toNat : Nat) : Int) != 3) = true)) := Lib.hid (by
        by_cases h1 : l.getD (tag + 1) 0 = 0
        · refine .inr ⟨by rw [h1]; rfl, ?_⟩
          have h2 := hb.resolve_left (fun e => e h1)
          exact bne_iff_ne.2 fun e => h2 (UInt8.toNat_inj.1 (by show _ = 3; omega))
        · exact .inl (bne_iff_ne.2 fun e => h1 (UInt8.toNat_inj.1 (by show _ = 0; omega))))
      clear hb
      generalize (l.getD (tag + 1) 0).toNat = cv1 at *
      generalize (l.getD (tag + 2) 0).toNat = cv2 at *
      have hor := HWAY.out
      clear HWAY
      rcases hor with h1 | ⟨h1, h2⟩
      all_goals
        go_wp2_with fail
        refine HFA.out.mono ?_
        rintro e w3 ⟨rfl, lv3, hr⟩
        have R3 := Lib.hid (RfRes.trans HG1.out HV1.out R2.out hr)
        unfold termZ at *
        have RZ := Lib.hid (R1.out.keep R3.out.keep HNR.out)
        clear hr HFA d0 hy1 hy2
        go_wp2_with (refine wpList_store_blk rfl _ (.tmp 4) (.tmp 77) rfl w.heap.size 0 [.int .i64 0, .int .i64 0, .string ⟨#[]⟩, .int .u32 0, .slice none 0 0, .slice none 0 0] (by rfl) (by rfl) (by kernel_rfl) (by simp [Value.oneCell']) 35 _ RZ.out (by show 0 + 6 ≤ 6; decide) ?_; intro wz hCz hgz; refine stop ?_)
        refine Stopped.of ?_
        have C0 : Cells wz w.heap.size 35 [.int .i64 0, .int .i64 0, .string ⟨#[]⟩, .int .u32 0, .slice none 0 0, .slice none 0 0] := hCz
        have z0 := C0.cell 0
        have z1 := C0.cell 1
        have z2 := C0.cell 2
        have z3 := C0.cell 3
        have z4 := C0.cell 4
        have z5 := C0.cell 5
        simp only [List.getElem?_cons_zero, List.getElem?_cons_succ] at z0 z1 z2 z3 z4 z5
        have KZ := Lib.hid (show Keep (fun q => q = w.heap.size) w3 wz from (Keep.refl _ _).grown hgz (fun k hk _ => by cases hk; rfl))
        clear C0 hCz hgz
        go_wp2
        refine bodyPost_ret (v := .agg #[.int .i64 0, .int .i64 0, .string ⟨#[]⟩, .int .u32 0, .slice none 0 0, .slice none 0 0]) (by simp [results, Tryz.results128, go_sem, z0, z1, z2, z3, z4, z5]) rfl ?_
        rw [HT3.out]
        exact ⟨zeroT, _, _, _, _, termZ, rfl, zeroT_at _ _, (RfRes.trans HG.out HV.out RA.out R3.out).res KZ.out HBS.out (Nat.le_refl _) RZ.out, Nat.le_refl _, (fun e => by cases e), rfl, by simp⟩
    · have HT3 := Lib.hid (HT2.out.trans (if_neg hb))
      have h01 : (l.getD (tag + 1) 0).toNat = 0 := by rw [Classical.not_not.1 fun e => hb (.inl e)]; rfl
      have h02 : (l.getD (tag + 2) 0).toNat = 3 := by rw [Classical.not_not.1 fun e => hb (.inr e)]; rfl
      rw [h01] at hy1
      rw [h02] at hy2
      clear hb h01 h02
      have HNM := Lib.hid (show Calls Tryz.prog 143 #[.pointer (some ⟨g, 0, none⟩), .int .i64 tag, .int .i64 ((tag : Int) + 3), .int .i64 16] w2 _ from rfNamed_any tag 3 16 R2.out.is_ (by omega) (by decide) HAT.out)
      generalize htx : namS l tag 16 ⟨tag + 3, part, atoms⟩ = tx at *
      have HTX := Lib.hid htx
      clear htx
      go_wp2_with fail
      refine HNM.out.mono ?_
      rintro e w3 ⟨s, nx, av3, lv3, st3, k3, rfl, hr, hnx, hpe, hm⟩
      have HPE := Lib.hid hpe
      have R3 := Lib.hid (RfRes.trans HG1.out HV1.out R2.out hr)
      clear hpe
      cases tx with
      | bad kk =>
        obtain ⟨rfl, hkk⟩ := hm
        have HKK := Lib.hid hkk
        have HT4 := Lib.hid (show bodyN l rd tag 90 part atoms = .bad k3 from HT3.out)
        obtain ⟨_, q3, n3, c3, rfl⟩ := hr.is_.lform.resolve_left (fun e => hkk e.1)
        have d4 := hr.is_.cells.cell 4
        simp only [List.getElem?_cons_zero, List.getElem?_cons_succ] at d4
        clear hr hnx hkk HNM HTX
        go_upto_region 13 with (fail)
        clear d4
        have RZ := Lib.hid (R1.out.keep R3.out.keep HNR.out)
        go_wp2_with (refine wpList_store_blk rfl _ (.tmp 4) (.tmp 91) rfl w.heap.size 0 [.int .i64 0, .int .i64 0, .string ⟨#[]⟩, .int .u32 0, .slice none 0 0, .slice none 0 0] (by rfl) (by rfl) (by kernel_rfl) (by simp [Value.oneCell']) 35 _ RZ.out (by show 0 + 6 ≤ 6; decide) ?_; intro wz hCz hgz; refine stop ?_)
        refine Stopped.of ?_
        have C0 : Cells wz w.heap.size 35 [.int .i64 0, .int .i64 0, .string ⟨#[]⟩, .int .u32 0, .slice none 0 0, .slice none 0 0] := hCz
        have z0 := C0.cell 0
        have z1 := C0.cell 1
        have z2 := C0.cell 2
        have z3 := C0.cell 3
        have z4 := C0.cell 4
        have z5 := C0.cell 5
        simp only [List.getElem?_cons_zero, List.getElem?_cons_succ] at z0 z1 z2 z3 z4 z5
        have KZ := Lib.hid (show Keep (fun q => q = w.heap.size) w3 wz from (Keep.refl _ _).grown hgz (fun k hk _ => by cases hk; rfl))
        clear C0 hCz hgz
        go_wp2
        refine bodyPost_ret (v := .agg #[.int .i64 0, .int .i64 0, .string ⟨#[]⟩, .int .u32 0, .slice none 0 0, .slice none 0 0]) (by simp [results, Tryz.results128, go_sem, z0, z1, z2, z3, z4, z5]) rfl ?_
        rw [HT4.out]
        exact ⟨zeroT, _, _, _, _, termZ, rfl, zeroT_at _ _, (RfRes.trans HG.out HV.out RA.out R3.out).res KZ.out HBS.out (Nat.le_refl _) RZ.out, by have := HPE.out; show part + 0 + 0 ≤ st3.part; omega, (fun e => by cases e), rfl, HKK.out⟩
      | ok x s2 =>
        obtain ⟨rfl, rfl, rfl, rfl⟩ := hm
        obtain rfl := hr.is_.nil rfl
        have HRM := Lib.hid (namS_room HTX.out)
        have HT4 := Lib.hid (HT3.out.trans (ref_tail HRM.out.1 HRM.out.2.1))
        have d4 := hr.is_.cells.cell 4
        simp only [List.getElem?_cons_zero, List.getElem?_cons_succ] at d4
        have hnx0 : (0 : Int) ≤ (s2.at_ : Int) := by omega
        have hnx1 : (s2.at_ : Int) ≤ 65536 := by have := HRM.out.2.1; omega
        have hok5 : RfOk l ⟨s2.at_ + 16, part, s2.atoms⟩ := ⟨HRM.out.2.1, HRM.out.1, HOK.out.part, by have h1 := HRM.out.2.2.2.2; have h2 := HAT.out; show s2.atoms.length ≤ part; dsimp only at h1; omega⟩
        have R5 := Lib.hid (RfRes.trans HG1.out HV1.out R3.out (RfRes.place R3.out.is_ (s2.at_ + 16) hok5))
        have d1 := hr.is_.cells.cell 1
        have f1 := hr.is_.cells.frozen 1
        simp only [List.getElem?_cons_zero, List.getElem?_cons_succ] at d1
        have HPS := Lib.hid (show s2.part = part from HRM.out.2.2.2.1)
        clear hr hnx HNM HTX hok5
        go_upto_region 15 with (fail)
        rw [show (((s2.at_ + 16 : Nat) : Int)) = (s2.at_ : Int) + 16 from rfl] at R5
        generalize w3.setCell ⟨g, 1, none⟩ (.int .i64 ((s2.at_ : Int) + 16)) = w5 at *
        clear d1 f1 d4
        have HN0 := Lib.hid (fun W (hR : RfIs base g l (.slice (some ⟨q, o, none⟩) l.length bc) ⟨s2.at_ + 16, part, s2.atoms⟩ av3 (.slice none 0 0) [] W) => show Calls Tryz.prog 140 #[.pointer (some ⟨g, 0, none⟩), .int .i64 (s2.at_ : Int), .int .i64 4] W _ from rfNum_any s2.at_ 4 hR (by have := HRM.out.1; omega) (by omega) (by have := HRM.out.2.1; omega))
        have hb0 : numS (cutB l s2.at_ 4) < 4294967296 := numS_le (by unfold cutB; rw [List.length_take]; omega)
        generalize numS (cutB l s2.at_ 4) = n0 at *
        have h0lo : (0 : Int) ≤ (n0 : Int) := by omega
        have h0hi : (n0 : Int) < 4294967296 := by omega
        have HN1 := Lib.hid (fun W (hR : RfIs base g l (.slice (some ⟨q, o, none⟩) l.length bc) ⟨s2.at_ + 16, part, s2.atoms⟩ av3 (.slice none 0 0) [] W) => show Calls Tryz.prog 140 #[.pointer (some ⟨g, 0, none⟩), .int .i64 ((s2.at_ : Int) + 4), .int .i64 4] W _ from rfNum_any (s2.at_ + 4) 4 hR (by have := HRM.out.1; omega) (by omega) (by have := HRM.out.2.1; omega))
        have hb1 : numS (cutB l (s2.at_ + 4) 4) < 4294967296 := numS_le (by unfold cutB; rw [List.length_take]; omega)
        generalize numS (cutB l (s2.at_ + 4) 4) = n1 at *
        have h1lo : (0 : Int) ≤ (n1 : Int) := by omega
        have h1hi : (n1 : Int) < 4294967296 := by omega
        have HN2 := Lib.hid (fun W (hR : RfIs base g l (.slice (some ⟨q, o, none⟩) l.length bc) ⟨s2.at_ + 16, part, s2.atoms⟩ av3 (.slice none 0 0) [] W) => show Calls Tryz.prog 140 #[.pointer (some ⟨g, 0, none⟩), .int .i64 ((s2.at_ : Int) + 8), .int .i64 4] W _ from rfNum_any (s2.at_ + 8) 4 hR (by have := HRM.out.1; omega) (by omega) (by have := HRM.out.2.1; omega))
        have hb2 : numS (cutB l (s2.at_ + 8) 4) < 4294967296 := numS_le (by unfold cutB; rw [List.length_take]; omega)
        generalize numS (cutB l (s2.at_ + 8) 4) = n2 at *
        have h2lo : (0 : Int) ≤ (n2 : Int) := by omega
        have h2hi : (n2 : Int) < 4294967296 := by omega
        have HN3 := Lib.hid (fun W (hR : RfIs base g l (.slice (some ⟨q, o, none⟩) l.length bc) ⟨s2.at_ + 16, part, s2.atoms⟩ av3 (.slice none 0 0) [] W) => show Calls Tryz.prog 140 #[.pointer (some ⟨g, 0, none⟩), .int .i64 ((s2.at_ : Int) + 12), .int .i64 4] W _ from rfNum_any (s2.at_ + 12) 4 hR (by have := HRM.out.1; omega) (by omega) (by have := HRM.out.2.1; omega))
        have hb3 : numS (cutB l (s2.at_ + 12) 4) < 4294967296 := numS_le (by unfold cutB; rw [List.length_take]; omega)
        generalize numS (cutB l (s2.at_ + 12) 4) = n3 at *
        have h3lo : (0 : Int) ≤ (n3 : Int) := by omega
        have h3hi : (n3 : Int) < 4294967296 := by omega
        go_wp2_with fail
        refine (HN0.out _ R5.out.is_).mono ?_
        rintro e _ ⟨rfl, rfl⟩
        go_wp2_with fail
        refine (HN1.out _ R5.out.is_).mono ?_
        rintro e _ ⟨rfl, rfl⟩
        go_wp2_with fail
        refine (HN2.out _ R5.out.is_).mono ?_
        rintro e _ ⟨rfl, rfl⟩
        go_wp2_with fail
        refine (HN3.out _ R5.out.is_).mono ?_
        rintro e _ ⟨rfl, rfl⟩
        have BA := Lib.hid ((Below.refl w5.heap.size w5).alloc (Nat.le_refl _) (.cells #[.int .u32 n1, .int .u32 n2, .int .u32 n3] 32 (0, 0)))
        have HNM2 := Lib.hid (nums_lit3 w5 n1 n2 n3 h1lo h1hi h2lo h2hi h3lo h3hi)
        have R6 := Lib.hid (R5.out.more BA.out)
        have RZ := Lib.hid (R1.out.keep R6.out.keep HNR.out)
        go_wp2_with (refine wpList_store_blk rfl _ (.tmp 4) (.tmp 114) rfl w.heap.size 0 [.int .i64 3, .int .i64 0, .string s, .int .u32 n0, .slice (some ⟨w5.heap.size, 0, none⟩) 3 3, .slice none 0 0] (by rfl) (by rfl) (by kernel_rfl) (by simp [Value.oneCell']) 35 _ RZ.out (by show 0 + 6 ≤ 6; decide) ?_; intro wz hCz hgz; refine stop ?_)
        refine Stopped.of ?_
        have C0 : Cells wz w.heap.size 35 [.int .i64 3, .int .i64 0, .string s, .int .u32 n0, .slice (some ⟨w5.heap.size, 0, none⟩) 3 3, .slice none 0 0] := hCz
        have z0 := C0.cell 0
        have z1 := C0.cell 1
        have z2 := C0.cell 2
        have z3 := C0.cell 3
        have z4 := C0.cell 4
        have z5 := C0.cell 5
        simp only [List.getElem?_cons_zero, List.getElem?_cons_succ] at z0 z1 z2 z3 z4 z5
        have KZ := Lib.hid (show Keep (fun q => q = w.heap.size) (w5.alloc (.cells #[.int .u32 n1, .int .u32 n2, .int .u32 n3] 32 (0, 0))) wz from (Keep.refl _ _).grown hgz (fun k hk _ => by cases hk; rfl))
        clear C0 hCz hgz
        go_wp2
        refine bodyPost_ret (v := .agg #[.int .i64 3, .int .i64 0, .string s, .int .u32 n0, .slice (some ⟨w5.heap.size, 0, none⟩) 3 3, .slice none 0 0]) (by simp [results, Tryz.results128, go_sem, z0, z1, z2, z3, z4, z5]) rfl ?_
        rw [HT4.out]
        have hsz5 : w.heap.size < w5.heap.size := Nat.lt_of_lt_of_le R1.out.lt R5.out.keep.size
        have hown : ∀ q, av3.ownBlock = some q → q < w5.heap.size := fun q hq => (R5.out.is_.atoms.lt hq).1
        refine ⟨_, _, _, _, _, [.int .i64 3, .int .i64 0, .string s, .int .u32 n0, .slice (some ⟨w5.heap.size, 0, none⟩) 3 3, .slice none 0 0], rfl, ?_, (RfRes.trans HG.out HV.out RA.out R6.out).res KZ.out HBS.out (Nat.le_refl _) RZ.out, Nat.le_refl _, (fun e => by cases e), rfl, rfl, by rw [HPS.out], by show s2.part ≤ 4096; rw [HPS.out]; exact HPT.out⟩
        rw [TmAt]
        refine ⟨⟨by decide, by decide, by decide, by decide, by have := HRM.out.2.2.1; omega, h0lo, h0hi⟩, .slice (some ⟨w5.heap.size, 0, none⟩) 3 3, none, 0, rfl, ?_, by simp [maxLen], by simp, by rw [ArgsAt]; trivial⟩
        refine (HNM2.out.keep KZ.out (fun q _ (h1 : q = w5.heap.size) (h2 : q = w.heap.size) => by omega)).mono fun q _ (h1 : q = w5.heap.size) => ⟨by omega, fun e => by have := hown q e; omega⟩
  · rw [decide_eq_false hs1]
    have R2 := Lib.hid hr
    have HT2 := Lib.hid (HT.out.trans (if_neg hs1))
    have HS1 := Lib.hid hs1
    clear hs1 hr HH c0 hx
    go_upto_region 8 with (fail)
    have RZ := Lib.hid (R1.out.keep R2.out.keep HNR.out)
    go_wp2_with (refine wpList_store_blk rfl _ (.tmp 4) (.tmp 54) rfl w.heap.size 0 [.int .i64 0, .int .i64 0, .string ⟨#[]⟩, .int .u32 0, .slice none 0 0, .slice none 0 0] (by rfl) (by rfl) (by kernel_rfl) (by simp [Value.oneCell']) 35 _ RZ.out (by show 0 + 6 ≤ 6; decide) ?_; intro wz hCz hgz; refine stop ?_)
    refine Stopped.of ?_
    have C0 : Cells wz w.heap.size 35 [.int .i64 0, .int .i64 0, .string ⟨#[]⟩, .int .u32 0, .slice none 0 0, .slice none 0 0] := hCz
    have z0 := C0.cell 0
    have z1 := C0.cell 1
    have z2 := C0.cell 2
    have z3 := C0.cell 3
    have z4 := C0.cell 4
    have z5 := C0.cell 5
    simp only [List.getElem?_cons_zero, List.getElem?_cons_succ] at z0 z1 z2 z3 z4 z5
    have KZ := Lib.hid (show Keep (fun q => q = w.heap.size) w2 wz from (Keep.refl _ _).grown hgz (fun k hk _ => by cases hk; rfl))
    clear C0 hCz hgz
    go_wp2
    refine bodyPost_ret (v := .agg #[.int .i64 0, .int .i64 0, .string ⟨#[]⟩, .int .u32 0, .slice none 0 0, .slice none 0 0]) (by simp [results, Tryz.results128, go_sem, z0, z1, z2, z3, z4, z5]) rfl ?_
    rw [HT2.out]
    exact ⟨zeroT, _, _, _, _, termZ, rfl, zeroT_at _ _, (RfRes.trans HG.out HV.out RA.out R2.out).res KZ.out HBS.out (Nat.le_refl _) RZ.out, by show _ + 0 + 0 ≤ _; omega, (fun e => by cases e), rfl, HS1.out⟩
end Go.Proofs.YtlahagabcnmdiaaGreatDoor
end
section
/- The reference of layer 4: its reader: rows of terms; parts. -/
open Go Go.RowKit
namespace Go.Proofs.YtlahagabcnmdiaaGreatDoor
set_option linter.unusedVariables false
set_option linter.unusedSimpArgs false

theorem own_apart {av av1 : Value} {w : World} (ho : ∀ q, av1.ownBlock = some q → av.ownBlock = some q ∨ w.heap.size ≤ q) {B : Nat} (hB : B < w.heap.size) (hn : av.ownBlock ≠ some B) : av1.ownBlock ≠ some B := fun e => by
  rcases ho B e with h | h
  · exact hn h
  · omega
theorem RowR.resF {g B0 : Nat} {av av1 lv : Value} {w w1 : World} {rows : List Tm} (h : RowR B0 av lv rows w) (hk : Keep (LsK g av) w w1) (ho : ∀ q, av1.ownBlock = some q → av.ownBlock = some q ∨ w.heap.size ≤ q) (hg : g < B0) : RowR B0 av1 lv rows w1 := by
  refine ⟨?_, fun q hq => own_apart ho (h.ts.block hq).2.1 (h.ne q hq)⟩
  have h2 := h.ts.keep hk (fun q hq e => by
    rcases e with e | e
    · have := (h.ts.block hq).1; omega
    · exact h.ne q hq e) (fun q _ hq e => by
    rcases e with e | e
    · have := hq.1; omega
    · exact hq.2.2.1 e)
  exact h2.mono (Nat.le_refl _) fun q _ hq => ⟨hq.1, Nat.lt_of_lt_of_le hq.2.1 hk.size, own_apart ho hq.2.1 hq.2.2.1, hq.2.2.2⟩
/-- a row grows: the reader stays -/
theorem RfRes.row {base g B0 : Nat} {l : List UInt8} {bv av av' lv v : Value} {k : List Lk} {st : Rd} {w w1 w2 : World} {rows : List Tm} (h : RfRes base g l bv av w st av' lv k w1) (hr : RowR B0 av' v rows w1) (kz : Keep (fun q => v.ownBlock = some q) w1 w2) (hg : g < B0) (hb : base ≤ B0) (hw : w.heap.size ≤ B0) : RfRes base g l bv av w st av' lv k w2 := by
  refine ⟨⟨h.is_.hg, h.is_.cells.keep kz (fun e => by have := (hr.ts.block e).1; omega), ?_, h.is_.far, h.is_.atoms.frame fun q hq => kz.block q (h.is_.atoms.lt hq).1 (fun e => hr.ne q e hq), h.is_.own, h.is_.links.frame fun q hq => kz.block q (h.is_.links.block hq).2 (fun e => ?_), h.is_.nil, h.is_.ok⟩, h.keep.trans kz (fun q hq e => ?_), h.own⟩
  · by_cases hl : l = []
    · obtain ⟨a, c, e, h1, h2, _⟩ := h.is_.buf
      exact ⟨a, c, e, h1, h2, fun j hj => by rw [hl] at hj; cases hj⟩
    · obtain ⟨a, c, rfl, h1, h2, hc⟩ := h.is_.buf
      refine ⟨a, c, rfl, h1, h2, fun j hj => ?_⟩
      obtain ⟨q, o, ha, hx⟩ := hc j hj
      refine ⟨q, o, ha, ?_⟩
      have hf := h.is_.far ⟨q, o, none⟩ _ _ hl (by rw [ha])
      have hq : q < w1.heap.size := World.block_lt_of_cell? w1 _ hx
      have e := kz.block q hq (fun e => by have := (hr.ts.block e).1; have : q < base := hf; omega)
      unfold World.cell? at hx ⊢
      rw [e]; exact hx
  · obtain ⟨cur, hc⟩ := h.is_.links.etype hq
    obtain ⟨_, _, cur2, hc2⟩ := hr.ts.block e
    rw [hc] at hc2
    injection hc2 with hc2
    injection hc2 with _ h3
    exact absurd h3 (by decide)
  · have := (hr.ts.block e).1; omega
/-- behind a call that reads so many terms -/
def RowO (base g : Nat) (l : List UInt8) (bv av : Value) (w : World) (st : Rd) (r : Res (List Tm)) (e : Ending) (w' : World) : Prop :=
  ∃ (rows : List Tm) (st' : Rd) (av' lv' v : Value) (k : List Lk), e = .returned v ∧ RowR w.heap.size av' v rows w' ∧ RfRes base g l bv av w st' av' lv' k w' ∧ st.part + rows.length ≤ st'.part ∧
    match r with
    | .ok x s => k = [] ∧ rows = x ∧ st' = s ∧ s.part ≤ 4096
    | .bad kk => k = kk ∧ kk ≠ []
/-- what part answers, f deeper -/
def PartC (f : Nat) : Prop := ∀ (base g : Nat) (l : List UInt8) (bv av lv : Value) (st : Rd) (w : World), RfIs base g l bv st av lv [] w → st.part ≤ 4096 →
  Calls Tryz.prog 99 #[.pointer (some ⟨g, 0, none⟩), .int .i64 (257 - (f : Int))] w (TmO base g l bv av w st 1 (termS l f st))
theorem rowS_snoc {rd : Rd → Res Tm} {n : Nat} {st : Rd} {r : Res (List Tm)} {rows : List Tm} (h : r = (rowS rd (n + 1) st).bind fun x s => .ok (rows ++ x) s) : r = (rd st).bind fun t st2 => (rowS rd n st2).bind fun x s => .ok (rows ++ [t] ++ x) s := by
  rw [h, rowS]
  cases rd st with
  | bad k => rfl
  | ok t s1 =>
    simp only [Res.bind]
    cases rowS rd n s1 with
    | bad k => rfl
    | ok x s2 => simp
set_option maxHeartbeats 16000000 in
set_option maxRecDepth 100000 in
theorem rfParts_any (f : Nat) (hf : f ≤ 256) (hP : PartC f) {base g : Nat} {l : List UInt8} {bv av lv : Value} {st : Rd} {w : World} (n : Nat) (h : RfIs base g l bv st av lv [] w) (hpt : st.part ≤ 4096) (hn : n < 4294967296) :
    Calls Tryz.prog 142 #[.pointer (some ⟨g, 0, none⟩), .int .u32 n, .int .i64 (257 - (f : Int))] w (RowO base g l bv av w st (rowS (termS l f) n st)) := by
  have HG := Lib.hid h.cells.lt
  have HV := Lib.hid (fun q (hq : av.ownBlock = some q) => (h.atoms.lt hq).1)
  have HBS := Lib.hid (Nat.le_trans h.hg (Nat.le_of_lt h.cells.lt))
  have R0 := Lib.hid (RfRes.refl h)
  have HPT := Lib.hid hpt
  have HPC := Lib.hid hP
  have hel := run_eqlLinks
  obtain rfl := h.nil rfl
  have hn0 : (0 : Int) ≤ (n : Int) := by omega
  have hn1 : (n : Int) < 4294967296 := by omega
  generalize hdv : (257 - (f : Int)) = dv at *
  have HDV := Lib.hid hdv
  clear h hpt hP hdv
  go_enter Tryz.func142, Tryz.ntmps142
  go_wp2_with fail
  go_loopw [7, 8] (fun v i wr => ∃ (j : Nat) (rows : List Tm) (st' : Rd) (av' lv' v' : Value) (k : List Lk), j ≤ n ∧ i = .int .u32 j ∧ v = v' ∧ rows.length = j ∧ RowR w.heap.size av' v' rows wr ∧ RfRes base g l bv av w st' av' lv' k wr ∧ st.part + j ≤ st'.part ∧ (k = [] → st'.part ≤ 4096 ∧ rowS (termS l f) n st = (rowS (termS l f) (n - j) st').bind fun x s => .ok (rows ++ x) s) ∧ (k ≠ [] → rowS (termS l f) n st = .bad k)) (fun _ i _ => n - (intOf i).toNat)
  case atStart =>
    refine ⟨0, [], st, av, .slice none 0 0, .slice none 0 0, [], Nat.zero_le _, rfl, rfl, rfl, RowR.nil _ _ _, R0.out, Nat.le_refl _, fun _ => ⟨HPT.out, ?_⟩, fun h => absurd rfl h⟩
    cases rowS (termS l f) n st <;> simp [Res.bind]
  case round =>
    obtain ⟨j, rows, st', av', lv', v', k, hj, rfl, rfl, hlen, hrow, hres, hpj, hok, hbad⟩ := hrel
    have RJ := Lib.hid hres
    have ROW := Lib.hid hrow
    have HLEN := Lib.hid hlen
    have HPJ := Lib.hid hpj
    have HOKJ := Lib.hid hok
    have HBAD := Lib.hid hbad
    have hp97 : st'.part ≤ 4097 := hres.is_.ok.part
    have hj0 : (0 : Int) ≤ (j : Int) := by omega
    have hj1 : (j : Int) ≤ 4097 := by omega
    have d4 := hres.is_.cells.cell 4
    simp only [List.getElem?_cons_zero, List.getElem?_cons_succ] at d4
    obtain ⟨la, lc, rfl⟩ := hrow.shape
    have hform := hres.is_.lform
    clear hlen hrow hres hpj hok hbad R0 hp97
    rcases hform with ⟨hk, rfl⟩ | ⟨hk, q4, n4, c4, rfl⟩
    · by_cases hlt : j < n
      · have hji : (j : Int) < (n : Int) := by omega
        obtain ⟨hp', hsp⟩ := HOKJ.out hk
        subst hk
        have SP := Lib.hid (rowS_snoc (rd := termS l f) (n := n - (j + 1)) (st := st') (rows := rows) (r := rowS (termS l f) n st) (by rw [hsp, show n - j = n - (j + 1) + 1 by omega]))
        have HF := Lib.hid (HPC.out base g l bv av' (.slice none 0 0) st' wr RJ.out.is_ hp')
        rw [HDV.out] at HF
        clear hsp HOKJ HBAD hp' hlt
        go_wp2_with fail
        refine HF.out.mono ?_
        rintro e w3 ⟨t, st3, av3, lv3, k3, vs, rfl, ht, hr3, hp3, hk7, hm⟩
        have HT := Lib.hid ht
        obtain ⟨_, nv3, a3, cap3, rfl, hnn3, -⟩ := ht.parts
        obtain ⟨na3, nc3, rfl, -, -⟩ := hnn3.slice
        have R3 := Lib.hid (RfRes.trans HG.out HV.out RJ.out hr3)
        have ROW3 := Lib.hid (ROW.out.resF hr3.keep hr3.own HG.out)
        have hlv : ∀ q, (Value.slice la rows.length lc).ownBlock = some q → q < wr.heap.size := fun q hq => (ROW.out.ts.block hq).2.1
        have hwr : w.heap.size ≤ wr.heap.size := RJ.out.keep.size
        obtain ⟨a', n', c', w4, hrun, hrow4, hk4⟩ := ROW3.out.app HT.out (fun q hq hs => ⟨by have := hs.1; omega, hs.2, fun e => by have := hlv q e; have := hs.1; omega⟩) (by have h1 := HPJ.out; have h2 := HLEN.out; have := RJ.out.is_.ok.part; omega) (Nat.le_trans hwr hr3.keep.size) (fun q hq => (R3.out.is_.atoms.lt hq).1)
        have HRUN := Lib.hid hrun
        have ROW4 := Lib.hid hrow4
        have R4 := Lib.hid (R3.out.row ROW3.out hk4 HG.out HBS.out (Nat.le_refl _))
        have HPP := Lib.hid (show st.part + (j + 1) ≤ st3.part from by have := HPJ.out; omega)
        have HFIN : Hid ((k3 = [] → st3.part ≤ 4096 ∧ rowS (termS l f) n st = (rowS (termS l f) (n - (j + 1)) st3).bind fun x s => .ok (rows ++ [t] ++ x) s) ∧ (k3 ≠ [] → rowS (termS l f) n st = .bad k3)) := Lib.hid (by
          have hsp := SP.out
          cases hT : termS l f st' with
          | bad kk =>
            rw [hT] at hm hsp
            obtain ⟨rfl, hne⟩ := hm
            exact ⟨fun e => absurd e hne, fun _ => hsp⟩
          | ok x s =>
            rw [hT] at hm hsp
            obtain ⟨rfl, rfl, rfl, hle⟩ := hm
            exact ⟨fun _ => ⟨hle, hsp⟩, fun e => absurd rfl e⟩)
        have HL4 := Lib.hid (show (rows ++ [t]).length = j + 1 by rw [List.length_append, HLEN.out]; rfl)
        clear ht hnn3 hr3 hm hrun hrow4 hk4 hlv HF SP RJ ROW hp3 hk7 d4
        generalize rows ++ [t] = rows4 at *
        generalize rows.length = rl at *
        go_wp2_with (at_builtin; refine stop ?_)
        refine Stopped.of ?_
        refine wp_app_eq rfl (.tmp 21) (.tmp 25) _ _ rfl _ _ (.slice a' n' c') w4 rfl rfl HRUN.out ?_
        go_wp2
        go_roundw
        case rel => exact ⟨j + 1, rows4, st3, av3, lv3, _, k3, by omega, by go_num, rfl, HL4.out, ROW4.out, R4.out, HPP.out, HFIN.out.1, HFIN.out.2⟩
        case measure => simp [intOf]; omega
      · have hji : ¬ (j : Int) < (n : Int) := by omega
        obtain ⟨hp', hsp⟩ := HOKJ.out hk
        have HE := Lib.hid (show rowS (termS l f) n st = .ok rows st' by rw [hsp, show n - j = 0 by omega, rowS]; simp [Res.bind])
        have HP' := Lib.hid hp'
        have HK := Lib.hid hk
        have HPP := Lib.hid (show st.part + rows.length ≤ st'.part from by rw [HLEN.out]; exact HPJ.out)
        clear hsp hp' hk hlt HLEN
        generalize hrl : rows.length = rl at *
        have HRL := Lib.hid hrl
        clear hrl
        go_wp2
        go_ret
        rw [HE.out]
        exact ⟨rows, st', av', _, _, k, rfl, ROW.out, RJ.out, by rw [HRL.out]; exact HPP.out, HK.out, rfl, rfl, HP'.out⟩
    · have HE := Lib.hid (HBAD.out hk)
      have HK := Lib.hid hk
      have HPP := Lib.hid (show st.part + rows.length ≤ st'.part from by rw [HLEN.out]; exact HPJ.out)
      clear hk HLEN
      generalize hrl : rows.length = rl at *
      have HRL := Lib.hid hrl
      clear hrl
      by_cases hlt : j < n
      · have hji : (j : Int) < (n : Int) := by omega
        clear hlt
        go_wp2
        go_ret
        rw [HE.out]
        exact ⟨rows, st', av', _, _, k, rfl, ROW.out, RJ.out, by rw [HRL.out]; exact HPP.out, rfl, HK.out⟩
      · have hji : ¬ (j : Int) < (n : Int) := by omega
        clear hlt
        go_wp2
        go_ret
        rw [HE.out]
        exact ⟨rows, st', av', _, _, k, rfl, ROW.out, RJ.out, by rw [HRL.out]; exact HPP.out, rfl, HK.out⟩
end Go.Proofs.YtlahagabcnmdiaaGreatDoor
end
section
/- The reference of layer 4: its reader: row. Printed by wip/rfg.py. -/
open Go Go.RowKit
namespace Go.Proofs.YtlahagabcnmdiaaGreatDoor
set_option linter.unusedVariables false
set_option linter.unusedSimpArgs false

theorem TmAt.rowOf {S : Nat → Prop} {t : Tm} {k i s c nv : Value} {a : Option Addr} {n cap : Nat} {w : World} (h : TmAt S t [k, i, s, c, nv, .slice a n cap] w) : ArgsAt S t.args a w := by
  obtain ⟨_, nv', a', cap', e, _, _, _, hr⟩ := h.parts
  injection e with _ e
  injection e with _ e
  injection e with _ e
  injection e with _ e
  injection e with _ e
  injection e with e _
  injection e with e _ _
  rw [e]
  exact hr
theorem numS_cut1 (l : List UInt8) (i : Nat) (h : i < l.length) : numS (cutB l i 1) = (l.getD i 0).toNat := by
  unfold cutB
  rw [List.drop_eq_getElem_cons h, List.take_succ_cons, List.take_zero, List.getD_eq_getElem?_getD, List.getElem?_eq_getElem h]
  simp [numS]
theorem bodyN_tup (l : List UInt8) (rd : Rd → Res Tm) (tag p : Nat) (a : List ByteArray) (hin : tag < l.length) : bodyN l rd tag 104 p a = if hasS l tag 2 = [] then (rowS rd (numS (cutB l (tag + 1) 1)) ⟨tag + 2, p, a⟩).bind fun r st3 => .ok (.mk 5 0 ⟨#[]⟩ 0 [] r) st3 else .bad (hasS l tag 2) := by
  refine bodyN_eq l rd tag 104 p a 2 (by decide) hin _ fun h1 => ?_
  unfold bodyS countS
  rw [if_neg (by decide), if_neg (by decide), if_neg (by decide), if_pos (by decide), if_pos rfl, hasS_need]
  by_cases hs : hasS l tag 2 = []
  · have := hasS_len hs
    rw [if_pos hs, if_pos hs, numS_cut1 l (tag + 1) (by omega)]
    rfl
  · rw [if_neg hs, if_neg hs]
    rfl
theorem bodyN_big (l : List UInt8) (rd : Rd → Res Tm) (tag p : Nat) (a : List ByteArray) (hin : tag < l.length) : bodyN l rd tag 105 p a = if hasS l tag 5 = [] then (rowS rd (numS (cutB l (tag + 1) 4)) ⟨tag + 5, p, a⟩).bind fun r st3 => .ok (.mk 5 0 ⟨#[]⟩ 0 [] r) st3 else .bad (hasS l tag 5) := by
  refine bodyN_eq l rd tag 105 p a 5 (by decide) hin _ fun h1 => ?_
  unfold bodyS countS fourS
  rw [if_neg (by decide), if_neg (by decide), if_neg (by decide), if_pos (by decide), if_neg (by decide), hasS_need]
  by_cases hs : hasS l tag 5 = []
  · rw [if_pos hs, if_pos hs]
    rfl
  · rw [if_neg hs, if_neg hs]
    rfl
theorem bodyN_lst (l : List UInt8) (rd : Rd → Res Tm) (tag p : Nat) (a : List ByteArray) (hin : tag < l.length) : bodyN l rd tag 108 p a = if hasS l tag 5 = [] then (if numS (cutB l (tag + 1) 4) = 0 then .bad [⟨etfL, tag, 84⟩] else (rowS rd (numS (cutB l (tag + 1) 4)) ⟨tag + 5, p, a⟩).bind fun r st3 => (rd st3).bind fun t st4 => .ok (joinS r t) st4) else .bad (hasS l tag 5) := by
  refine bodyN_eq l rd tag 108 p a 5 (by decide) hin _ fun h1 => ?_
  unfold bodyS countS fourS
  rw [if_neg (by decide), if_neg (by decide), if_neg (by decide), if_neg (by decide), if_neg (by decide), if_pos rfl, if_neg (by decide), hasS_need]
  by_cases hs : hasS l tag 5 = []
  · rw [if_pos hs, if_pos hs]
    simp only [Res.bind]
    by_cases h0 : numS (cutB l (tag + 1) 4) = 0
    · rw [if_pos h0, if_pos (by simp [h0])]
    · rw [if_neg h0, if_neg (by simp [h0])]
  · rw [if_neg hs, if_neg hs]
    rfl
set_option maxHeartbeats 16000000 in
set_option maxRecDepth 100000 in
theorem rfRow_tup (f : Nat) (hf : f ≤ 256) (hP : PartC f) {base g : Nat} {l : List UInt8} {bv av lv : Value} {st : Rd} {w : World} (h : RfIs base g l bv st av lv [] w) (hin : st.at_ < l.length) (hK : l.getD st.at_ 0 = 104) (hpt : st.part ≤ 4096) :
    Calls Tryz.prog 127 #[.pointer (some ⟨g, 0, none⟩), .int .i64 st.at_, .int .i64 (256 - (f : Int))] w (TmO base g l bv av w st 0 (bodyN l (termS l f) st.at_ 104 st.part st.atoms)) := by
  have HG := Lib.hid h.cells.lt
  have HV := Lib.hid (fun q (hq : av.ownBlock = some q) => (h.atoms.lt hq).1)
  have HBS := Lib.hid (Nat.le_trans h.hg (Nat.le_of_lt h.cells.lt))
  have HPT := Lib.hid hpt
  have HOK := Lib.hid h.ok
  have HLL := Lib.hid h.buf.len_le
  have BX := Lib.hid ((Below.refl w.heap.size w).alloc (Nat.le_refl _) (.cells #[.int .i64 0, .int .i64 0, .string ⟨#[]⟩, .int .u32 0, .slice none 0 0, .slice none 0 0] 35 (0, 0)))
  have R1 := Lib.hid (show Cells (w.alloc (.cells #[.int .i64 0, .int .i64 0, .string ⟨#[]⟩, .int .u32 0, .slice none 0 0, .slice none 0 0] 35 (0, 0))) w.heap.size 35 termZ from Cells.new w 35 termZ)
  have RA := Lib.hid (RfRes.below h BX.out)
  have HG1 := Lib.hid (Nat.lt_of_lt_of_le HG.out BX.out.size)
  have HV1 := Lib.hid (fun q (hq : av.ownBlock = some q) => Nat.lt_of_lt_of_le (HV.out q hq) BX.out.size)
  have HNR := Lib.hid (show ¬ LsK g av w.heap.size from fun e => by
    rcases e with e | e
    · have := HG.out; omega
    · have := HV.out _ e; omega)
  obtain ⟨tag, part, atoms⟩ := st
  dsimp only at *
  obtain ⟨ba, bc, rfl⟩ := h.form
  obtain ⟨q, o, rfl, hx0⟩ := h.buf.get tag hin
  have hx := (BX.out.cell (p := ⟨q, o + tag, none⟩) (World.block_lt_of_cell? w _ hx0)).trans hx0
  rw [hK] at hx
  clear hx0
  have htag : tag ≤ 65536 := HOK.out.le
  have ht0 : (0 : Int) ≤ (tag : Int) := by omega
  have ht1 : (tag : Int) ≤ 65536 := by omega
  have hti : (tag : Int) < (l.length : Int) := by omega
  have hll : (l.length : Int) ≤ 9223372036854775807 := HLL.out
  have hne := run_neqLinks
  have HT := Lib.hid (bodyN_tup l (termS l f) tag part atoms hin)
  have hd0 : (0 : Int) ≤ 256 - (f : Int) := by omega
  have hd1 : 256 - (f : Int) ≤ 256 := by omega
  have hd2 : 256 - (f : Int) + 1 = 257 - (f : Int) := by omega
  generalize hdd1 : (257 - (f : Int)) = dv1 at *
  generalize hdd0 : (256 - (f : Int)) = dv0 at *
  have HD1 := Lib.hid hdd1
  clear hdd1 hdd0
  clear h hpt
  go_enter Tryz.func127, Tryz.ntmps127
  go_upto_region 1 with (fail)
  generalize w.alloc (.cells #[.int .i64 0, .int .i64 0, .string ⟨#[]⟩, .int .u32 0, .slice none 0 0, .slice none 0 0] 35 (0, 0)) = w1 at *
  unfold termZ at *
  have c0 := RA.out.is_.cells.cell 0
  simp only [List.getElem?_cons_zero, List.getElem?_cons_succ] at c0
  have HH := Lib.hid (rfHas_any tag 2 RA.out.is_ (by omega) (by omega))
  go_wp2_with fail
  refine HH.out.mono ?_
  rintro e w2 ⟨rfl, lv2, hr⟩
  by_cases hs1 : hasS l tag 2 = []
  · rw [hs1] at hr
    obtain rfl := hr.is_.nil rfl
    rw [decide_eq_true hs1]
    have R2 := Lib.hid hr
    have HT2 := Lib.hid (HT.out.trans (if_pos hs1))
    have HL1 := Lib.hid (hasS_len hs1)
    clear hs1 hr HH c0 hx
    have HN := Lib.hid (show Calls Tryz.prog 140 #[.pointer (some ⟨g, 0, none⟩), .int .i64 ((tag : Int) + 1), .int .i64 1] w2 _ from rfNum_any (tag + 1) 1 R2.out.is_ (by have := HL1.out.1; omega) (by omega) (by omega))
    have hnb : numS (cutB l (tag + 1) 1) < 4294967296 := numS_le (by unfold cutB; rw [List.length_take]; omega)
    generalize numS (cutB l (tag + 1) 1) = nn at *
    have hnn0 : (0 : Int) ≤ (nn : Int) := by omega
    have hnn1 : (nn : Int) < 4294967296 := by omega
    go_wp2_with fail
    refine HN.out.mono ?_
    rintro e _ ⟨rfl, rfl⟩
    clear HN
    have hok3 : RfOk l ⟨tag + 2, part, atoms⟩ := ⟨by have := HL1.out.2; show tag + 2 ≤ 65536; omega, by have := HL1.out.1; show tag + 2 ≤ l.length; omega, HOK.out.part, HOK.out.atoms⟩
    have R3 := Lib.hid (RfRes.trans HG1.out HV1.out R2.out (RfRes.place R2.out.is_ (tag + 2) hok3))
    have d1 := R2.out.is_.cells.cell 1
    have f1 := R2.out.is_.cells.frozen 1
    simp only [List.getElem?_cons_zero, List.getElem?_cons_succ] at d1
    go_upto_region 8 with (fail)
    rw [show (((tag + 2 : Nat) : Int)) = (tag : Int) + 2 from rfl] at R3
    generalize w2.setCell ⟨g, 1, none⟩ (.int .i64 ((tag : Int) + 2)) = w3 at *
    clear d1 f1 hok3
    have d0 := R3.out.is_.cells.cell 0
    simp only [List.getElem?_cons_zero, List.getElem?_cons_succ] at d0
    obtain ⟨q', o', hqe, hy⟩ := R3.out.is_.buf.get tag hin
    cases hqe
    rw [hK] at hy
    have HPA := Lib.hid (rfParts_any f hf hP (st := ⟨tag + 2, part, atoms⟩) nn R3.out.is_ HPT.out hnb)
    rw [HD1.out] at HPA
    clear hnb
    go_wp2_with fail
    refine HPA.out.mono ?_
    rintro e w4 ⟨rows, st4, av4, lv4, rv, k4, rfl, hrow, hr4, hp4, hm⟩
    have ROW := Lib.hid hrow
    obtain ⟨ra, rc, rfl⟩ := hrow.shape
    have R4 := Lib.hid (RfRes.trans HG1.out HV1.out R3.out hr4)
    have HP4 := Lib.hid hp4
    have ROWS := Lib.hid hr4.keep.size
    have HSZ := Lib.hid (show w.heap.size < w3.heap.size from Nat.lt_of_lt_of_le R1.out.lt R3.out.keep.size)
    have HM := Lib.hid hm
    clear hrow hr4 hp4 hm HPA d0 hy
    have RZ := Lib.hid (R1.out.keep R4.out.keep HNR.out)
    go_wp2_with (refine wpList_store_blk rfl _ (.tmp 6) (.tmp 50) rfl w.heap.size 0 [.int .i64 5, .int .i64 0, .string ⟨#[]⟩, .int .u32 0, .slice none 0 0, .slice ra rows.length rc] (by rfl) (by rfl) (by kernel_rfl) (by simp [Value.oneCell']) 35 _ RZ.out (by show 0 + 6 ≤ 6; decide) ?_; intro wz hCz hgz; refine stop ?_)
    refine Stopped.of ?_
    have C0 : Cells wz w.heap.size 35 [.int .i64 5, .int .i64 0, .string ⟨#[]⟩, .int .u32 0, .slice none 0 0, .slice ra rows.length rc] := hCz
    have z0 := C0.cell 0
    have z1 := C0.cell 1
    have z2 := C0.cell 2
    have z3 := C0.cell 3
    have z4 := C0.cell 4
    have z5 := C0.cell 5
    simp only [List.getElem?_cons_zero, List.getElem?_cons_succ] at z0 z1 z2 z3 z4 z5
    have KZ := Lib.hid (show Keep (fun q => q = w.heap.size) w4 wz from (Keep.refl _ _).grown hgz (fun k hk _ => by cases hk; rfl))
    clear C0 hCz hgz
    go_wp2
    refine bodyPost_ret (v := .agg #[.int .i64 5, .int .i64 0, .string ⟨#[]⟩, .int .u32 0, .slice none 0 0, .slice ra rows.length rc]) (by simp [results, Tryz.results127, go_sem, z0, z1, z2, z3, z4, z5]) rfl ?_
    have hrz := ROW.out.keep KZ.out (fun q (hq : q = w.heap.size) => .inl (by have := HSZ.out; omega))
    obtain ⟨za, zc, hze, ⟨hz1, hz2⟩, hza⟩ := hrz.args
    cases hze
    have hpp : part + rows.length ≤ st4.part := HP4.out
    have h97 := R4.out.is_.ok.part
    rw [HT2.out]
    refine ⟨.mk 5 0 ⟨#[]⟩ 0 [] rows, st4, av4, lv4, k4, [.int .i64 5, .int .i64 0, .string ⟨#[]⟩, .int .u32 0, .slice none 0 0, .slice ra rows.length rc], rfl, ?_, (RfRes.trans HG.out HV.out RA.out R4.out).res KZ.out HBS.out (Nat.le_refl _) RZ.out, by show part + 0 + rows.length ≤ st4.part; omega, (fun e => by cases e), ?_⟩
    · rw [TmAt]
      exact ⟨⟨by decide, by decide, by decide, by decide, Nat.zero_le _, by decide, by decide⟩, .slice none 0 0, ra, rc, rfl, ⟨none, 0, rfl, ⟨Nat.le_refl _, by simp⟩, by simp [maxLen], fun i hi => absurd hi (Nat.not_lt_zero _)⟩, ⟨hz1, hz2⟩, by omega, hza.mono fun q _ hq => ⟨by have := HSZ.out; have := hq.1; omega, hq.2⟩⟩
    · have hm := HM.out
      revert hm
      cases rowS (termS l f) nn ⟨tag + 2, part, atoms⟩ with
      | bad kk => exact fun hm => hm
      | ok x s =>
        rintro ⟨h1, rfl, rfl, h4⟩
        exact ⟨h1, rfl, rfl, h4⟩
  · rw [decide_eq_false hs1]
    have R2 := Lib.hid hr
    have HT2 := Lib.hid (HT.out.trans (if_neg hs1))
    have HS1 := Lib.hid hs1
    clear hs1 hr HH c0 hx
    go_upto_region 5 with (fail)
    have RZ := Lib.hid (R1.out.keep R2.out.keep HNR.out)
    go_wp2_with (refine wpList_store_blk rfl _ (.tmp 6) (.tmp 24) rfl w.heap.size 0 [.int .i64 0, .int .i64 0, .string ⟨#[]⟩, .int .u32 0, .slice none 0 0, .slice none 0 0] (by rfl) (by rfl) (by kernel_rfl) (by simp [Value.oneCell']) 35 _ RZ.out (by show 0 + 6 ≤ 6; decide) ?_; intro wz hCz hgz; refine stop ?_)
    refine Stopped.of ?_
    have C0 : Cells wz w.heap.size 35 [.int .i64 0, .int .i64 0, .string ⟨#[]⟩, .int .u32 0, .slice none 0 0, .slice none 0 0] := hCz
    have z0 := C0.cell 0
    have z1 := C0.cell 1
    have z2 := C0.cell 2
    have z3 := C0.cell 3
    have z4 := C0.cell 4
    have z5 := C0.cell 5
    simp only [List.getElem?_cons_zero, List.getElem?_cons_succ] at z0 z1 z2 z3 z4 z5
    have KZ := Lib.hid (show Keep (fun q => q = w.heap.size) w2 wz from (Keep.refl _ _).grown hgz (fun k hk _ => by cases hk; rfl))
    clear C0 hCz hgz
    go_wp2
    refine bodyPost_ret (v := .agg #[.int .i64 0, .int .i64 0, .string ⟨#[]⟩, .int .u32 0, .slice none 0 0, .slice none 0 0]) (by simp [results, Tryz.results127, go_sem, z0, z1, z2, z3, z4, z5]) rfl ?_
    rw [HT2.out]
    exact ⟨zeroT, _, _, _, _, termZ, rfl, zeroT_at _ _, (RfRes.trans HG.out HV.out RA.out R2.out).res KZ.out HBS.out (Nat.le_refl _) RZ.out, by show _ + 0 + 0 ≤ _; omega, (fun e => by cases e), rfl, HS1.out⟩
set_option maxHeartbeats 16000000 in
set_option maxRecDepth 100000 in
theorem rfRow_big (f : Nat) (hf : f ≤ 256) (hP : PartC f) {base g : Nat} {l : List UInt8} {bv av lv : Value} {st : Rd} {w : World} (h : RfIs base g l bv st av lv [] w) (hin : st.at_ < l.length) (hK : l.getD st.at_ 0 = 105) (hpt : st.part ≤ 4096) :
    Calls Tryz.prog 127 #[.pointer (some ⟨g, 0, none⟩), .int .i64 st.at_, .int .i64 (256 - (f : Int))] w (TmO base g l bv av w st 0 (bodyN l (termS l f) st.at_ 105 st.part st.atoms)) := by
  have HG := Lib.hid h.cells.lt
  have HV := Lib.hid (fun q (hq : av.ownBlock = some q) => (h.atoms.lt hq).1)
  have HBS := Lib.hid (Nat.le_trans h.hg (Nat.le_of_lt h.cells.lt))
  have HPT := Lib.hid hpt
  have HOK := Lib.hid h.ok
  have HLL := Lib.hid h.buf.len_le
  have BX := Lib.hid ((Below.refl w.heap.size w).alloc (Nat.le_refl _) (.cells #[.int .i64 0, .int .i64 0, .string ⟨#[]⟩, .int .u32 0, .slice none 0 0, .slice none 0 0] 35 (0, 0)))
  have R1 := Lib.hid (show Cells (w.alloc (.cells #[.int .i64 0, .int .i64 0, .string ⟨#[]⟩, .int .u32 0, .slice none 0 0, .slice none 0 0] 35 (0, 0))) w.heap.size 35 termZ from Cells.new w 35 termZ)
  have RA := Lib.hid (RfRes.below h BX.out)
  have HG1 := Lib.hid (Nat.lt_of_lt_of_le HG.out BX.out.size)
  have HV1 := Lib.hid (fun q (hq : av.ownBlock = some q) => Nat.lt_of_lt_of_le (HV.out q hq) BX.out.size)
  have HNR := Lib.hid (show ¬ LsK g av w.heap.size from fun e => by
    rcases e with e | e
    · have := HG.out; omega
    · have := HV.out _ e; omega)
  obtain ⟨tag, part, atoms⟩ := st
  dsimp only at *
  obtain ⟨ba, bc, rfl⟩ := h.form
  obtain ⟨q, o, rfl, hx0⟩ := h.buf.get tag hin
  have hx := (BX.out.cell (p := ⟨q, o + tag, none⟩) (World.block_lt_of_cell? w _ hx0)).trans hx0
  rw [hK] at hx
  clear hx0
  have htag : tag ≤ 65536 := HOK.out.le
  have ht0 : (0 : Int) ≤ (tag : Int) := by omega
  have ht1 : (tag : Int) ≤ 65536 := by omega
  have hti : (tag : Int) < (l.length : Int) := by omega
  have hll : (l.length : Int) ≤ 9223372036854775807 := HLL.out
  have hne := run_neqLinks
  have HT := Lib.hid (bodyN_big l (termS l f) tag part atoms hin)
  have hd0 : (0 : Int) ≤ 256 - (f : Int) := by omega
  have hd1 : 256 - (f : Int) ≤ 256 := by omega
  have hd2 : 256 - (f : Int) + 1 = 257 - (f : Int) := by omega
  generalize hdd1 : (257 - (f : Int)) = dv1 at *
  generalize hdd0 : (256 - (f : Int)) = dv0 at *
  have HD1 := Lib.hid hdd1
  clear hdd1 hdd0
  clear h hpt
  go_enter Tryz.func127, Tryz.ntmps127
  go_upto_region 1 with (fail)
  generalize w.alloc (.cells #[.int .i64 0, .int .i64 0, .string ⟨#[]⟩, .int .u32 0, .slice none 0 0, .slice none 0 0] 35 (0, 0)) = w1 at *
  unfold termZ at *
  have c0 := RA.out.is_.cells.cell 0
  simp only [List.getElem?_cons_zero, List.getElem?_cons_succ] at c0
  have HH := Lib.hid (rfHas_any tag 5 RA.out.is_ (by omega) (by omega))
  go_wp2_with fail
  refine HH.out.mono ?_
  rintro e w2 ⟨rfl, lv2, hr⟩
  by_cases hs1 : hasS l tag 5 = []
  · rw [hs1] at hr
    obtain rfl := hr.is_.nil rfl
    rw [decide_eq_true hs1]
    have R2 := Lib.hid hr
    have HT2 := Lib.hid (HT.out.trans (if_pos hs1))
    have HL1 := Lib.hid (hasS_len hs1)
    clear hs1 hr HH c0 hx
    have HN := Lib.hid (show Calls Tryz.prog 140 #[.pointer (some ⟨g, 0, none⟩), .int .i64 ((tag : Int) + 1), .int .i64 4] w2 _ from rfNum_any (tag + 1) 4 R2.out.is_ (by have := HL1.out.1; omega) (by omega) (by omega))
    have hnb : numS (cutB l (tag + 1) 4) < 4294967296 := numS_le (by unfold cutB; rw [List.length_take]; omega)
    generalize numS (cutB l (tag + 1) 4) = nn at *
    have hnn0 : (0 : Int) ≤ (nn : Int) := by omega
    have hnn1 : (nn : Int) < 4294967296 := by omega
    go_wp2_with fail
    refine HN.out.mono ?_
    rintro e _ ⟨rfl, rfl⟩
    clear HN
    have hok3 : RfOk l ⟨tag + 5, part, atoms⟩ := ⟨by have := HL1.out.2; show tag + 5 ≤ 65536; omega, by have := HL1.out.1; show tag + 5 ≤ l.length; omega, HOK.out.part, HOK.out.atoms⟩
    have R3 := Lib.hid (RfRes.trans HG1.out HV1.out R2.out (RfRes.place R2.out.is_ (tag + 5) hok3))
    have d1 := R2.out.is_.cells.cell 1
    have f1 := R2.out.is_.cells.frozen 1
    simp only [List.getElem?_cons_zero, List.getElem?_cons_succ] at d1
    go_upto_region 8 with (fail)
    rw [show (((tag + 5 : Nat) : Int)) = (tag : Int) + 5 from rfl] at R3
    generalize w2.setCell ⟨g, 1, none⟩ (.int .i64 ((tag : Int) + 5)) = w3 at *
    clear d1 f1 hok3
    have d0 := R3.out.is_.cells.cell 0
    simp only [List.getElem?_cons_zero, List.getElem?_cons_succ] at d0
    obtain ⟨q', o', hqe, hy⟩ := R3.out.is_.buf.get tag hin
    cases hqe
    rw [hK] at hy
    have HPA := Lib.hid (rfParts_any f hf hP (st := ⟨tag + 5, part, atoms⟩) nn R3.out.is_ HPT.out hnb)
    rw [HD1.out] at HPA
    clear hnb
    go_wp2_with fail
    refine HPA.out.mono ?_
    rintro e w4 ⟨rows, st4, av4, lv4, rv, k4, rfl, hrow, hr4, hp4, hm⟩
    have ROW := Lib.hid hrow
    obtain ⟨ra, rc, rfl⟩ := hrow.shape
    have R4 := Lib.hid (RfRes.trans HG1.out HV1.out R3.out hr4)
    have HP4 := Lib.hid hp4
    have ROWS := Lib.hid hr4.keep.size
    have HSZ := Lib.hid (show w.heap.size < w3.heap.size from Nat.lt_of_lt_of_le R1.out.lt R3.out.keep.size)
    have HM := Lib.hid hm
    clear hrow hr4 hp4 hm HPA d0 hy
    have RZ := Lib.hid (R1.out.keep R4.out.keep HNR.out)
    go_wp2_with (refine wpList_store_blk rfl _ (.tmp 6) (.tmp 50) rfl w.heap.size 0 [.int .i64 5, .int .i64 0, .string ⟨#[]⟩, .int .u32 0, .slice none 0 0, .slice ra rows.length rc] (by rfl) (by rfl) (by kernel_rfl) (by simp [Value.oneCell']) 35 _ RZ.out (by show 0 + 6 ≤ 6; decide) ?_; intro wz hCz hgz; refine stop ?_)
    refine Stopped.of ?_
    have C0 : Cells wz w.heap.size 35 [.int .i64 5, .int .i64 0, .string ⟨#[]⟩, .int .u32 0, .slice none 0 0, .slice ra rows.length rc] := hCz
    have z0 := C0.cell 0
    have z1 := C0.cell 1
    have z2 := C0.cell 2
    have z3 := C0.cell 3
    have z4 := C0.cell 4
    have z5 := C0.cell 5
    simp only [List.getElem?_cons_zero, List.getElem?_cons_succ] at z0 z1 z2 z3 z4 z5
    have KZ := Lib.hid (show Keep (fun q => q = w.heap.size) w4 wz from (Keep.refl _ _).grown hgz (fun k hk _ => by cases hk; rfl))
    clear C0 hCz hgz
    go_wp2
    refine bodyPost_ret (v := .agg #[.int .i64 5, .int .i64 0, .string ⟨#[]⟩, .int .u32 0, .slice none 0 0, .slice ra rows.length rc]) (by simp [results, Tryz.results127, go_sem, z0, z1, z2, z3, z4, z5]) rfl ?_
    have hrz := ROW.out.keep KZ.out (fun q (hq : q = w.heap.size) => .inl (by have := HSZ.out; omega))
    obtain ⟨za, zc, hze, ⟨hz1, hz2⟩, hza⟩ := hrz.args
    cases hze
    have hpp : part + rows.length ≤ st4.part := HP4.out
    have h97 := R4.out.is_.ok.part
    rw [HT2.out]
    refine ⟨.mk 5 0 ⟨#[]⟩ 0 [] rows, st4, av4, lv4, k4, [.int .i64 5, .int .i64 0, .string ⟨#[]⟩, .int .u32 0, .slice none 0 0, .slice ra rows.length rc], rfl, ?_, (RfRes.trans HG.out HV.out RA.out R4.out).res KZ.out HBS.out (Nat.le_refl _) RZ.out, by show part + 0 + rows.length ≤ st4.part; omega, (fun e => by cases e), ?_⟩
    · rw [TmAt]
      exact ⟨⟨by decide, by decide, by decide, by decide, Nat.zero_le _, by decide, by decide⟩, .slice none 0 0, ra, rc, rfl, ⟨none, 0, rfl, ⟨Nat.le_refl _, by simp⟩, by simp [maxLen], fun i hi => absurd hi (Nat.not_lt_zero _)⟩, ⟨hz1, hz2⟩, by omega, hza.mono fun q _ hq => ⟨by have := HSZ.out; have := hq.1; omega, hq.2⟩⟩
    · have hm := HM.out
      revert hm
      cases rowS (termS l f) nn ⟨tag + 5, part, atoms⟩ with
      | bad kk => exact fun hm => hm
      | ok x s =>
        rintro ⟨h1, rfl, rfl, h4⟩
        exact ⟨h1, rfl, rfl, h4⟩
  · rw [decide_eq_false hs1]
    have R2 := Lib.hid hr
    have HT2 := Lib.hid (HT.out.trans (if_neg hs1))
    have HS1 := Lib.hid hs1
    clear hs1 hr HH c0 hx
    go_upto_region 5 with (fail)
    have RZ := Lib.hid (R1.out.keep R2.out.keep HNR.out)
    go_wp2_with (refine wpList_store_blk rfl _ (.tmp 6) (.tmp 24) rfl w.heap.size 0 [.int .i64 0, .int .i64 0, .string ⟨#[]⟩, .int .u32 0, .slice none 0 0, .slice none 0 0] (by rfl) (by rfl) (by kernel_rfl) (by simp [Value.oneCell']) 35 _ RZ.out (by show 0 + 6 ≤ 6; decide) ?_; intro wz hCz hgz; refine stop ?_)
    refine Stopped.of ?_
    have C0 : Cells wz w.heap.size 35 [.int .i64 0, .int .i64 0, .string ⟨#[]⟩, .int .u32 0, .slice none 0 0, .slice none 0 0] := hCz
    have z0 := C0.cell 0
    have z1 := C0.cell 1
    have z2 := C0.cell 2
    have z3 := C0.cell 3
    have z4 := C0.cell 4
    have z5 := C0.cell 5
    simp only [List.getElem?_cons_zero, List.getElem?_cons_succ] at z0 z1 z2 z3 z4 z5
    have KZ := Lib.hid (show Keep (fun q => q = w.heap.size) w2 wz from (Keep.refl _ _).grown hgz (fun k hk _ => by cases hk; rfl))
    clear C0 hCz hgz
    go_wp2
    refine bodyPost_ret (v := .agg #[.int .i64 0, .int .i64 0, .string ⟨#[]⟩, .int .u32 0, .slice none 0 0, .slice none 0 0]) (by simp [results, Tryz.results127, go_sem, z0, z1, z2, z3, z4, z5]) rfl ?_
    rw [HT2.out]
    exact ⟨zeroT, _, _, _, _, termZ, rfl, zeroT_at _ _, (RfRes.trans HG.out HV.out RA.out R2.out).res KZ.out HBS.out (Nat.le_refl _) RZ.out, by show _ + 0 + 0 ≤ _; omega, (fun e => by cases e), rfl, HS1.out⟩
set_option maxHeartbeats 16000000 in
set_option maxRecDepth 100000 in
theorem rfRow_lst (f : Nat) (hf : f ≤ 256) (hP : PartC f) {base g : Nat} {l : List UInt8} {bv av lv : Value} {st : Rd} {w : World} (h : RfIs base g l bv st av lv [] w) (hin : st.at_ < l.length) (hK : l.getD st.at_ 0 = 108) (hpt : st.part ≤ 4096) :
    Calls Tryz.prog 127 #[.pointer (some ⟨g, 0, none⟩), .int .i64 st.at_, .int .i64 (256 - (f : Int))] w (TmO base g l bv av w st 0 (bodyN l (termS l f) st.at_ 108 st.part st.atoms)) := by
  have HG := Lib.hid h.cells.lt
  have HV := Lib.hid (fun q (hq : av.ownBlock = some q) => (h.atoms.lt hq).1)
  have HBS := Lib.hid (Nat.le_trans h.hg (Nat.le_of_lt h.cells.lt))
  have HPT := Lib.hid hpt
  have HOK := Lib.hid h.ok
  have HLL := Lib.hid h.buf.len_le
  have BX := Lib.hid ((Below.refl w.heap.size w).alloc (Nat.le_refl _) (.cells #[.int .i64 0, .int .i64 0, .string ⟨#[]⟩, .int .u32 0, .slice none 0 0, .slice none 0 0] 35 (0, 0)))
  have R1 := Lib.hid (show Cells (w.alloc (.cells #[.int .i64 0, .int .i64 0, .string ⟨#[]⟩, .int .u32 0, .slice none 0 0, .slice none 0 0] 35 (0, 0))) w.heap.size 35 termZ from Cells.new w 35 termZ)
  have RA := Lib.hid (RfRes.below h BX.out)
  have HG1 := Lib.hid (Nat.lt_of_lt_of_le HG.out BX.out.size)
  have HV1 := Lib.hid (fun q (hq : av.ownBlock = some q) => Nat.lt_of_lt_of_le (HV.out q hq) BX.out.size)
  have HNR := Lib.hid (show ¬ LsK g av w.heap.size from fun e => by
    rcases e with e | e
    · have := HG.out; omega
    · have := HV.out _ e; omega)
  obtain ⟨tag, part, atoms⟩ := st
  dsimp only at *
  obtain ⟨ba, bc, rfl⟩ := h.form
  obtain ⟨q, o, rfl, hx0⟩ := h.buf.get tag hin
  have hx := (BX.out.cell (p := ⟨q, o + tag, none⟩) (World.block_lt_of_cell? w _ hx0)).trans hx0
  rw [hK] at hx
  clear hx0
  have htag : tag ≤ 65536 := HOK.out.le
  have ht0 : (0 : Int) ≤ (tag : Int) := by omega
  have ht1 : (tag : Int) ≤ 65536 := by omega
  have hti : (tag : Int) < (l.length : Int) := by omega
  have hll : (l.length : Int) ≤ 9223372036854775807 := HLL.out
  have hne := run_neqLinks
  have HT := Lib.hid (bodyN_lst l (termS l f) tag part atoms hin)
  have hd0 : (0 : Int) ≤ 256 - (f : Int) := by omega
  have hd1 : 256 - (f : Int) ≤ 256 := by omega
  have hd2 : 256 - (f : Int) + 1 = 257 - (f : Int) := by omega
  generalize hdd1 : (257 - (f : Int)) = dv1 at *
  generalize hdd0 : (256 - (f : Int)) = dv0 at *
  have HD1 := Lib.hid hdd1
  clear hdd1 hdd0
  clear h hpt
  go_enter Tryz.func127, Tryz.ntmps127
  go_upto_region 1 with (fail)
  generalize w.alloc (.cells #[.int .i64 0, .int .i64 0, .string ⟨#[]⟩, .int .u32 0, .slice none 0 0, .slice none 0 0] 35 (0, 0)) = w1 at *
  unfold termZ at *
  have c0 := RA.out.is_.cells.cell 0
  simp only [List.getElem?_cons_zero, List.getElem?_cons_succ] at c0
  have HH := Lib.hid (rfHas_any tag 5 RA.out.is_ (by omega) (by omega))
  go_wp2_with fail
  refine HH.out.mono ?_
  rintro e w2 ⟨rfl, lv2, hr⟩
  by_cases hs1 : hasS l tag 5 = []
  · rw [hs1] at hr
    obtain rfl := hr.is_.nil rfl
    rw [decide_eq_true hs1]
    have R2 := Lib.hid hr
    have HT2 := Lib.hid (HT.out.trans (if_pos hs1))
    have HL1 := Lib.hid (hasS_len hs1)
    clear hs1 hr HH c0 hx
    have HN := Lib.hid (show Calls Tryz.prog 140 #[.pointer (some ⟨g, 0, none⟩), .int .i64 ((tag : Int) + 1), .int .i64 4] w2 _ from rfNum_any (tag + 1) 4 R2.out.is_ (by have := HL1.out.1; omega) (by omega) (by omega))
    have hnb : numS (cutB l (tag + 1) 4) < 4294967296 := numS_le (by unfold cutB; rw [List.length_take]; omega)
    generalize numS (cutB l (tag + 1) 4) = nn at *
    have hnn0 : (0 : Int) ≤ (nn : Int) := by omega
    have hnn1 : (nn : Int) < 4294967296 := by omega
    go_wp2_with fail
    refine HN.out.mono ?_
    rintro e _ ⟨rfl, rfl⟩
    clear HN
    have hok3 : RfOk l ⟨tag + 5, part, atoms⟩ := ⟨by have := HL1.out.2; show tag + 5 ≤ 65536; omega, by have := HL1.out.1; show tag + 5 ≤ l.length; omega, HOK.out.part, HOK.out.atoms⟩
    have R3 := Lib.hid (RfRes.trans HG1.out HV1.out R2.out (RfRes.place R2.out.is_ (tag + 5) hok3))
    have d1 := R2.out.is_.cells.cell 1
    have f1 := R2.out.is_.cells.frozen 1
    simp only [List.getElem?_cons_zero, List.getElem?_cons_succ] at d1
    go_upto_region 8 with (fail)
    rw [show (((tag + 5 : Nat) : Int)) = (tag : Int) + 5 from rfl] at R3
    generalize w2.setCell ⟨g, 1, none⟩ (.int .i64 ((tag : Int) + 5)) = w3 at *
    clear d1 f1 hok3
    have d0 := R3.out.is_.cells.cell 0
    simp only [List.getElem?_cons_zero, List.getElem?_cons_succ] at d0
    obtain ⟨q', o', hqe, hy⟩ := R3.out.is_.buf.get tag hin
    cases hqe
    rw [hK] at hy
    have HPA := Lib.hid (rfParts_any f hf hP (st := ⟨tag + 5, part, atoms⟩) nn R3.out.is_ HPT.out hnb)
    rw [HD1.out] at HPA
    clear hnb
    by_cases h0 : nn = 0
    · have HT3 := Lib.hid (HT2.out.trans (if_pos h0))
      have h0i : ((nn : Int) == 0) = true := by rw [h0]; rfl
      have HFA := Lib.hid (show Calls Tryz.prog 125 #[.pointer (some ⟨g, 0, none⟩), .int .i64 tag, .int .i64 84] w3 _ from rfFail_any (tag : Int) 84 R3.out.is_)
      clear h0 HPA
      go_wp2_with fail
      refine HFA.out.mono ?_
      rintro e w4 ⟨rfl, lv4, hr⟩
      have R4 := Lib.hid (RfRes.trans HG1.out HV1.out R3.out hr)
      unfold termZ at *
      have RZ := Lib.hid (R1.out.keep R4.out.keep HNR.out)
      clear hr HFA d0 hy
      go_wp2_with (refine wpList_store_blk rfl _ (.tmp 6) (.tmp 55) rfl w.heap.size 0 [.int .i64 0, .int .i64 0, .string ⟨#[]⟩, .int .u32 0, .slice none 0 0, .slice none 0 0] (by rfl) (by rfl) (by kernel_rfl) (by simp [Value.oneCell']) 35 _ RZ.out (by show 0 + 6 ≤ 6; decide) ?_; intro wz hCz hgz; refine stop ?_)
      refine Stopped.of ?_
      have C0 : Cells wz w.heap.size 35 [.int .i64 0, .int .i64 0, .string ⟨#[]⟩, .int .u32 0, .slice none 0 0, .slice none 0 0] := hCz
      have z0 := C0.cell 0
      have z1 := C0.cell 1
      have z2 := C0.cell 2
      have z3 := C0.cell 3
      have z4 := C0.cell 4
      have z5 := C0.cell 5
      simp only [List.getElem?_cons_zero, List.getElem?_cons_succ] at z0 z1 z2 z3 z4 z5
      have KZ := Lib.hid (show Keep (fun q => q = w.heap.size) w4 wz from (Keep.refl _ _).grown hgz (fun k hk _ => by cases hk; rfl))
      clear C0 hCz hgz
      go_wp2
      refine bodyPost_ret (v := .agg #[.int .i64 0, .int .i64 0, .string ⟨#[]⟩, .int .u32 0, .slice none 0 0, .slice none 0 0]) (by simp [results, Tryz.results127, go_sem, z0, z1, z2, z3, z4, z5]) rfl ?_
      rw [HT3.out]
      exact ⟨zeroT, _, _, _, _, termZ, rfl, zeroT_at _ _, (RfRes.trans HG.out HV.out RA.out R4.out).res KZ.out HBS.out (Nat.le_refl _) RZ.out, Nat.le_refl _, (fun e => by cases e), rfl, by simp⟩
    · have HT3 := Lib.hid (HT2.out.trans (if_neg h0))
      have h0i : ((nn : Int) == 0) = false := beq_eq_false_iff_ne.2 (by omega)
      clear h0
      go_wp2_with fail
      refine HPA.out.mono ?_
      rintro e w4 ⟨rows, st4, av4, lv4, rv, k4, rfl, hrow, hr4, hp4, hm⟩
      have ROW := Lib.hid hrow
      obtain ⟨ra, rc, rfl⟩ := hrow.shape
      have R4 := Lib.hid (RfRes.trans HG1.out HV1.out R3.out hr4)
      have HP4 := Lib.hid hp4
      have ROWS := Lib.hid hr4.keep.size
      have HSZ := Lib.hid (show w.heap.size < w3.heap.size from Nat.lt_of_lt_of_le R1.out.lt R3.out.keep.size)
      generalize hrs : rowS (termS l f) nn ⟨tag + 5, part, atoms⟩ = rs at *
      have d4 := hr4.is_.cells.cell 4
      simp only [List.getElem?_cons_zero, List.getElem?_cons_succ] at d4
      cases rs with
      | bad kk =>
        obtain ⟨rfl, hkk⟩ := hm
        have HKK := Lib.hid hkk
        have HT4 := Lib.hid (show bodyN l (termS l f) tag 108 part atoms = .bad k4 from HT3.out)
        obtain ⟨_, q4, n4, c4, rfl⟩ := hr4.is_.lform.resolve_left (fun e => hkk e.1)
        have hpp : part + rows.length ≤ st4.part := hp4
        clear hrow hr4 hp4 hrs hkk HPA d0 hy
        generalize rows.length = rl at *
        go_upto_region 14 with (fail)
        clear d4
        have RZ := Lib.hid (R1.out.keep R4.out.keep HNR.out)
        go_wp2_with (refine wpList_store_blk rfl _ (.tmp 6) (.tmp 66) rfl w.heap.size 0 [.int .i64 0, .int .i64 0, .string ⟨#[]⟩, .int .u32 0, .slice none 0 0, .slice none 0 0] (by rfl) (by rfl) (by kernel_rfl) (by simp [Value.oneCell']) 35 _ RZ.out (by show 0 + 6 ≤ 6; decide) ?_; intro wz hCz hgz; refine stop ?_)
        refine Stopped.of ?_
        have C0 : Cells wz w.heap.size 35 [.int .i64 0, .int .i64 0, .string ⟨#[]⟩, .int .u32 0, .slice none 0 0, .slice none 0 0] := hCz
        have z0 := C0.cell 0
        have z1 := C0.cell 1
        have z2 := C0.cell 2
        have z3 := C0.cell 3
        have z4 := C0.cell 4
        have z5 := C0.cell 5
        simp only [List.getElem?_cons_zero, List.getElem?_cons_succ] at z0 z1 z2 z3 z4 z5
        have KZ := Lib.hid (show Keep (fun q => q = w.heap.size) w4 wz from (Keep.refl _ _).grown hgz (fun k hk _ => by cases hk; rfl))
        clear C0 hCz hgz
        go_wp2
        refine bodyPost_ret (v := .agg #[.int .i64 0, .int .i64 0, .string ⟨#[]⟩, .int .u32 0, .slice none 0 0, .slice none 0 0]) (by simp [results, Tryz.results127, go_sem, z0, z1, z2, z3, z4, z5]) rfl ?_
        rw [HT4.out]
        exact ⟨zeroT, _, _, _, _, termZ, rfl, zeroT_at _ _, (RfRes.trans HG.out HV.out RA.out R4.out).res KZ.out HBS.out (Nat.le_refl _) RZ.out, by show part + 0 + 0 ≤ st4.part; omega, (fun e => by cases e), rfl, HKK.out⟩
      | ok x s =>
        obtain ⟨rfl, rfl, rfl, hle⟩ := hm
        have HT4 := Lib.hid (show bodyN l (termS l f) tag 108 part atoms = (termS l f st4).bind fun t st4 => .ok (joinS rows t) st4 from HT3.out)
        obtain rfl := hr4.is_.nil rfl
        have HCALL := Lib.hid (hP base g l _ av4 (.slice none 0 0) st4 w4 R4.out.is_ hle)
        rw [HD1.out] at HCALL
        have hpp : part + rows.length ≤ st4.part := hp4
        have h97 := R4.out.is_.ok.part
        clear hrow hr4 hp4 hrs HPA d0 hy hle
        go_wp2_with fail
        refine HCALL.out.mono ?_
        rintro e w5 ⟨t, st5, av5, lv5, k5, vs, rfl, ht, hr5, hp5, hk7, hm⟩
        have HK7 := Lib.hid hk7
        have HM := Lib.hid hm
        have HT0 := Lib.hid ht
        obtain ⟨_, nv5, a5, cap5, rfl, hnn5, -⟩ := ht.parts
        obtain ⟨na5, nc5, rfl, -, -⟩ := hnn5.slice
        have R5 := Lib.hid (RfRes.trans HG1.out HV1.out R4.out hr5)
        have HSZ4 := Lib.hid (Nat.lt_of_lt_of_le HSZ.out ROWS.out)
        have h45 := hr5.keep.size
        have h34 : w3.heap.size ≤ w4.heap.size := ROWS.out
        have BT := Lib.hid ((Below.refl w5.heap.size w5).alloc (Nat.le_refl _) (.cells #[.int .i64 t.kind, .int .i64 t.int, .string t.text, .int .u32 t.cr, .slice na5 t.nums.length nc5, .slice a5 t.args.length cap5] 35 (0, 0)))
        have M6 := Lib.hid (Cells.new w5 35 [.int .i64 t.kind, .int .i64 t.int, .string t.text, .int .u32 t.cr, .slice na5 t.nums.length nc5, .slice a5 t.args.length cap5])
        have ROW5 := Lib.hid (ROW.out.resF hr5.keep hr5.own (Nat.lt_of_lt_of_le HG1.out (R3.out.keep.size)))
        have HLV := Lib.hid (fun q (hq : (Value.slice ra rows.length rc).ownBlock = some q) => (ROW.out.ts.block hq).2.1)
        have ROW6 := Lib.hid (ROW5.out.below BT.out)
        have R6 := Lib.hid (R5.out.more BT.out)
        have HT6 := Lib.hid (HT0.out.below BT.out)
        have hp5' : st4.part + 1 + t.args.length ≤ st5.part := hp5
        have h597 := R5.out.is_.ok.part
        clear ht hnn5 hr5 hp5 hk7 hm HCALL d4
        go_upto_region 16 with (fail)
        generalize w5.alloc (.cells #[.int .i64 t.kind, .int .i64 t.int, .string t.text, .int .u32 t.cr, .slice na5 t.nums.length nc5, .slice a5 t.args.length cap5] 35) = w6 at *
        have m0 := M6.out.cell 0
        have m5 := M6.out.cell 5
        simp only [List.getElem?_cons_zero, List.getElem?_cons_succ] at m0 m5
        have h56 := BT.out.size
        by_cases hk : t.kind = 7
        · have hki : (t.kind == 7) = true := beq_iff_eq.2 hk
          have HNE := Lib.hid (HK7.out hk)
          have HJ := Lib.hid (show joinS rows t = .mk 7 0 ⟨#[]⟩ 0 [] (rows ++ t.args) by unfold joinS; rw [if_pos hk])
          obtain ⟨ja, jn, jc, w7, hrun, hrow7, hk7⟩ := ROW6.out.appRow (c := cap5) HT6.out.rowOf HNE.out (fun q hq hs => ⟨by have := hs.1; omega, hs.2, fun e => by have := HLV.out q e; have := hs.1; omega⟩) (by omega) (by omega) (fun q hq => (R6.out.is_.atoms.lt hq).1)
          have HRUN := Lib.hid hrun
          have ROW7 := Lib.hid hrow7
          have HB0 := Lib.hid (show g < w3.heap.size ∧ base ≤ w3.heap.size ∧ w1.heap.size ≤ w3.heap.size from ⟨Nat.lt_of_lt_of_le HG1.out (R3.out.keep.size), Nat.le_trans HBS.out (Nat.le_of_lt HSZ.out), R3.out.keep.size⟩)
          have R7 := Lib.hid (R6.out.row ROW6.out hk7 HB0.out.1 HB0.out.2.1 HB0.out.2.2)
          have HJL := Lib.hid (show part + (rows ++ t.args).length ≤ st5.part by rw [List.length_append]; omega)
          have HNN := Lib.hid (show rows ++ t.args ≠ [] from fun e => HNE.out (List.append_eq_nil_iff.1 e).2)
          clear hk hrun hrow7 hk7 HK7
          generalize rows.length = rl at *
          go_wp2_with (at_builtin; refine stop ?_)
          refine Stopped.of ?_
          refine wp_app_eq rfl (.tmp 74) (.tmp 76) _ _ rfl _ _ (.slice ja jn jc) w7 rfl rfl HRUN.out ?_
          clear m0 m5
          have RZ := Lib.hid (R1.out.keep R7.out.keep HNR.out)
          go_wp2_with (refine wpList_store_blk rfl _ (.tmp 6) (.tmp 78) rfl w.heap.size 0 [.int .i64 7, .int .i64 0, .string ⟨#[]⟩, .int .u32 0, .slice none 0 0, .slice ja jn jc] (by rfl) (by rfl) (by kernel_rfl) (by simp [Value.oneCell']) 35 _ RZ.out (by show 0 + 6 ≤ 6; decide) ?_; intro wz hCz hgz; refine stop ?_)
          refine Stopped.of ?_
          have C0 : Cells wz w.heap.size 35 [.int .i64 7, .int .i64 0, .string ⟨#[]⟩, .int .u32 0, .slice none 0 0, .slice ja jn jc] := hCz
          have z0 := C0.cell 0
          have z1 := C0.cell 1
          have z2 := C0.cell 2
          have z3 := C0.cell 3
          have z4 := C0.cell 4
          have z5 := C0.cell 5
          simp only [List.getElem?_cons_zero, List.getElem?_cons_succ] at z0 z1 z2 z3 z4 z5
          have KZ := Lib.hid (show Keep (fun q => q = w.heap.size) w7 wz from (Keep.refl _ _).grown hgz (fun k hk _ => by cases hk; rfl))
          clear C0 hCz hgz
          go_wp2
          refine bodyPost_ret (v := .agg #[.int .i64 7, .int .i64 0, .string ⟨#[]⟩, .int .u32 0, .slice none 0 0, .slice ja jn jc]) (by simp [results, Tryz.results127, go_sem, z0, z1, z2, z3, z4, z5]) rfl ?_
          have hrz := ROW7.out.keep KZ.out (fun q (hq : q = w.heap.size) => .inl (by have := HSZ.out; omega))
          obtain ⟨za, zc, hze, ⟨hz1, hz2⟩, hza⟩ := hrz.args
          cases hze
          have hjl := HJL.out
          rw [HT4.out]
          refine ⟨.mk 7 0 ⟨#[]⟩ 0 [] (rows ++ t.args), st5, av5, lv5, k5, [.int .i64 7, .int .i64 0, .string ⟨#[]⟩, .int .u32 0, .slice none 0 0, .slice ja (rows ++ t.args).length jc], rfl, ?_, (RfRes.trans HG.out HV.out RA.out R7.out).res KZ.out HBS.out (Nat.le_refl _) RZ.out, by show part + 0 + (rows ++ t.args).length ≤ st5.part; omega, fun _ => HNN.out, ?_⟩
          · rw [TmAt]
            exact ⟨⟨by decide, by decide, by decide, by decide, Nat.zero_le _, by decide, by decide⟩, .slice none 0 0, ja, jc, rfl, ⟨none, 0, rfl, ⟨Nat.le_refl _, by simp⟩, by simp [maxLen], fun i hi => absurd hi (Nat.not_lt_zero _)⟩, ⟨hz1, hz2⟩, by omega, hza.mono fun q _ hq => ⟨by have := HSZ.out; have := hq.1; omega, hq.2⟩⟩
          · have hm := HM.out
            revert hm
            cases termS l f st4 with
            | bad kk => exact fun hm => hm
            | ok x s =>
              rintro ⟨h1, rfl, rfl, h4⟩
              exact ⟨h1, HJ.out.symm, rfl, h4⟩
        · have hki : (t.kind == 7) = false := beq_eq_false_iff_ne.2 hk
          have HJ := Lib.hid (show joinS rows t = .mk 7 0 ⟨#[]⟩ 0 [] (rows ++ [t]) by unfold joinS; rw [if_neg hk])
          obtain ⟨ja, jn, jc, w7, hrun, hrow7, hk7⟩ := ROW6.out.app HT6.out (fun q hq hs => ⟨by have := hs.1; omega, hs.2, fun e => by have := HLV.out q e; have := hs.1; omega⟩) (by omega) (by omega) (fun q hq => (R6.out.is_.atoms.lt hq).1)
          have HRUN := Lib.hid hrun
          have ROW7 := Lib.hid hrow7
          have HB0 := Lib.hid (show g < w3.heap.size ∧ base ≤ w3.heap.size ∧ w1.heap.size ≤ w3.heap.size from ⟨Nat.lt_of_lt_of_le HG1.out (R3.out.keep.size), Nat.le_trans HBS.out (Nat.le_of_lt HSZ.out), R3.out.keep.size⟩)
          have R7 := Lib.hid (R6.out.row ROW6.out hk7 HB0.out.1 HB0.out.2.1 HB0.out.2.2)
          have HJL := Lib.hid (show part + (rows ++ [t]).length ≤ st5.part by rw [List.length_append]; simp; omega)
          have HNN := Lib.hid (show rows ++ [t] ≠ [] from by simp)
          have m1 := M6.out.cell 1
          have m2 := M6.out.cell 2
          have m3 := M6.out.cell 3
          have m4 := M6.out.cell 4
          simp only [List.getElem?_cons_zero, List.getElem?_cons_succ] at m1 m2 m3 m4
          clear hk hrun hrow7 hk7 HK7
          generalize rows.length = rl at *
          go_wp2_with (at_builtin; refine stop ?_)
          refine Stopped.of ?_
          refine wp_app_eq rfl (.tmp 79) (.tmp 81) _ _ rfl _ _ (.slice ja jn jc) w7 rfl rfl HRUN.out ?_
          clear m0 m1 m2 m3 m4 m5
          have RZ := Lib.hid (R1.out.keep R7.out.keep HNR.out)
          go_wp2_with (refine wpList_store_blk rfl _ (.tmp 6) (.tmp 83) rfl w.heap.size 0 [.int .i64 7, .int .i64 0, .string ⟨#[]⟩, .int .u32 0, .slice none 0 0, .slice ja jn jc] (by rfl) (by rfl) (by kernel_rfl) (by simp [Value.oneCell']) 35 _ RZ.out (by show 0 + 6 ≤ 6; decide) ?_; intro wz hCz hgz; refine stop ?_)
          refine Stopped.of ?_
          have C0 : Cells wz w.heap.size 35 [.int .i64 7, .int .i64 0, .string ⟨#[]⟩, .int .u32 0, .slice none 0 0, .slice ja jn jc] := hCz
          have z0 := C0.cell 0
          have z1 := C0.cell 1
          have z2 := C0.cell 2
          have z3 := C0.cell 3
          have z4 := C0.cell 4
          have z5 := C0.cell 5
          simp only [List.getElem?_cons_zero, List.getElem?_cons_succ] at z0 z1 z2 z3 z4 z5
          have KZ := Lib.hid (show Keep (fun q => q = w.heap.size) w7 wz from (Keep.refl _ _).grown hgz (fun k hk _ => by cases hk; rfl))
          clear C0 hCz hgz
          go_wp2
          refine bodyPost_ret (v := .agg #[.int .i64 7, .int .i64 0, .string ⟨#[]⟩, .int .u32 0, .slice none 0 0, .slice ja jn jc]) (by simp [results, Tryz.results127, go_sem, z0, z1, z2, z3, z4, z5]) rfl ?_
          have hrz := ROW7.out.keep KZ.out (fun q (hq : q = w.heap.size) => .inl (by have := HSZ.out; omega))
          obtain ⟨za, zc, hze, ⟨hz1, hz2⟩, hza⟩ := hrz.args
          cases hze
          have hjl := HJL.out
          rw [HT4.out]
          refine ⟨.mk 7 0 ⟨#[]⟩ 0 [] (rows ++ [t]), st5, av5, lv5, k5, [.int .i64 7, .int .i64 0, .string ⟨#[]⟩, .int .u32 0, .slice none 0 0, .slice ja (rows ++ [t]).length jc], rfl, ?_, (RfRes.trans HG.out HV.out RA.out R7.out).res KZ.out HBS.out (Nat.le_refl _) RZ.out, by show part + 0 + (rows ++ [t]).length ≤ st5.part; omega, fun _ => HNN.out, ?_⟩
          · rw [TmAt]
            exact ⟨⟨by decide, by decide, by decide, by decide, Nat.zero_le _, by decide, by decide⟩, .slice none 0 0, ja, jc, rfl, ⟨none, 0, rfl, ⟨Nat.le_refl _, by simp⟩, by simp [maxLen], fun i hi => absurd hi (Nat.not_lt_zero _)⟩, ⟨hz1, hz2⟩, by omega, hza.mono fun q _ hq => ⟨by have := HSZ.out; have := hq.1; omega, hq.2⟩⟩
          · have hm := HM.out
            revert hm
            cases termS l f st4 with
            | bad kk => exact fun hm => hm
            | ok x s =>
              rintro ⟨h1, rfl, rfl, h4⟩
              exact ⟨h1, HJ.out.symm, rfl, h4⟩
  · rw [decide_eq_false hs1]
    have R2 := Lib.hid hr
    have HT2 := Lib.hid (HT.out.trans (if_neg hs1))
    have HS1 := Lib.hid hs1
    clear hs1 hr HH c0 hx
    go_upto_region 5 with (fail)
    have RZ := Lib.hid (R1.out.keep R2.out.keep HNR.out)
    go_wp2_with (refine wpList_store_blk rfl _ (.tmp 6) (.tmp 24) rfl w.heap.size 0 [.int .i64 0, .int .i64 0, .string ⟨#[]⟩, .int .u32 0, .slice none 0 0, .slice none 0 0] (by rfl) (by rfl) (by kernel_rfl) (by simp [Value.oneCell']) 35 _ RZ.out (by show 0 + 6 ≤ 6; decide) ?_; intro wz hCz hgz; refine stop ?_)
    refine Stopped.of ?_
    have C0 : Cells wz w.heap.size 35 [.int .i64 0, .int .i64 0, .string ⟨#[]⟩, .int .u32 0, .slice none 0 0, .slice none 0 0] := hCz
    have z0 := C0.cell 0
    have z1 := C0.cell 1
    have z2 := C0.cell 2
    have z3 := C0.cell 3
    have z4 := C0.cell 4
    have z5 := C0.cell 5
    simp only [List.getElem?_cons_zero, List.getElem?_cons_succ] at z0 z1 z2 z3 z4 z5
    have KZ := Lib.hid (show Keep (fun q => q = w.heap.size) w2 wz from (Keep.refl _ _).grown hgz (fun k hk _ => by cases hk; rfl))
    clear C0 hCz hgz
    go_wp2
    refine bodyPost_ret (v := .agg #[.int .i64 0, .int .i64 0, .string ⟨#[]⟩, .int .u32 0, .slice none 0 0, .slice none 0 0]) (by simp [results, Tryz.results127, go_sem, z0, z1, z2, z3, z4, z5]) rfl ?_
    rw [HT2.out]
    exact ⟨zeroT, _, _, _, _, termZ, rfl, zeroT_at _ _, (RfRes.trans HG.out HV.out RA.out R2.out).res KZ.out HBS.out (Nat.le_refl _) RZ.out, by show _ + 0 + 0 ≤ _; omega, (fun e => by cases e), rfl, HS1.out⟩
end Go.Proofs.YtlahagabcnmdiaaGreatDoor
end
