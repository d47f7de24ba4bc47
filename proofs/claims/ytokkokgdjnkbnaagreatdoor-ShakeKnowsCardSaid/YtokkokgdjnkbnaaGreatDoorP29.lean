/- Texts laid together: SidR, SidT, ShkMeets. -/
import Derived.Test.YtokkokgdjnkbnaaGreatDoorP26
import Derived.Test.YtokkokgdjnkbnaaGreatDoorP24
import Derived.Test.YtokkokgdjnkbnaaGreatDoorP28
import Derived.WalkSpells
section
/- Package heddleref08: made, Begin, Wait. Printed by wip/sidr.py. -/
open Go Go.RowKit
namespace Go.Proofs.YtokkokgdjnkbnaaGreatDoor

/-- what making a side of the reference hands back -/
def MadeR (t : TypeId) (w : World) (r : List Lk) (s : Sd) (w' : World) (pv lv : Value) : Prop :=
  LinksIs w.heap.size lv r w' ∧ Below w.heap.size w w' ∧ ((r = [] ∧ lv = .slice none 0 0 ∧ ∃ g, pv = .pointer (some ⟨g, 0, none⟩) ∧ w.heap.size ≤ g ∧ Cells w' g t s.cells) ∨ (r ≠ [] ∧ pv = .pointer none))
theorem MadeR.bad {t : TypeId} {w w2 w3 : World} {r : List Lk} {s : Sd} {lv : Value} (hB : Below w.heap.size w w2) (hb : Below w2.heap.size w2 w3) (hl : LinksIs w2.heap.size lv r w3) (hne : r ≠ []) : MadeR t w r s w3 (.pointer none) lv :=
  ⟨hl.base hB.size, hB.trans (hb.mono hB.size), .inr ⟨hne, rfl⟩⟩
theorem lacksR_any (f : Int) (w : World) : Calls Tryz.prog 53 #[.int .u64 f] w fun e w' => e = .returned (.bool (lackS f)) ∧ w = w' := by
  go_enter Tryz.func53, Tryz.ntmps53
  go_wp2
  go_ret
  exact ⟨rfl, rfl⟩
theorem some_links {base : Nat} {v : Value} {k : Lk} {l : List Lk} {w : World} (h : LinksIs base v (k :: l) w) : ∃ g n c, v = .slice (some ⟨g, 0, none⟩) n c := by
  rcases h.shape with ⟨_, hn⟩ | ⟨g, c, rfl, _⟩
  · cases hn
  · exact ⟨g, _, c, rfl⟩

set_option maxHeartbeats 8000000 in
set_option maxRecDepth 100000 in
theorem madeR_any (mn : ByteArray) (mf mc : Int) (peer : ByteArray) (begins : Bool) (cookie : ByteArray) (ch : Nat) (w : World) (hz : mn.size ≤ 140737488351232) (hpz : peer.size ≤ 140737488351232) :
    Calls Tryz.prog 58 #[peerV mn mf mc, .string peer, .bool begins, .string cookie, .int .u32 ch] w fun e w' => ∃ pv lv, e = .returned (.tuple #[pv, lv]) ∧ MadeR 68 w (madeS mn mf mc peer begins cookie) ((newS mn mf mc peer begins cookie ch).now 0 ⟨#[]⟩ 0 0 false) w' pv lv := by
  have HN1 := Lib.hid (fun W => nodeR_nil mn W hz)
  have HN2 := Lib.hid (fun W => nodeR_nil peer W hpz)
  rw [nodeRS_eq] at HN1 HN2
  have C0 := Lib.hid (Cells.new w 45 [.string mn, .int .u64 mf, .int .u32 mc])
  have HL := Lib.hid (fun W => lacksR_any mf W)
  have HF := Lib.hid (fun c W => no08_any 0 c W)
  have HO := Lib.hid (fun lv k l base W (h : LinksIs base lv (k :: l) W) (hn : l.length ≤ 50) => over08_any 0 lv k l base W h hn)
  have HCN := Lib.hid (fun W h => cookieR_ok cookie W h)
  have HC := Lib.hid (fun W => cookieR_any cookie W)
  have HCL : (cookieS cookie).length ≤ 1 := by
    unfold cookieS
    split
    · exact Nat.le_refl 1
    · split
      · exact Nat.le_refl 1
      · exact Nat.zero_le 1
  replace HCL := Lib.hid HCL
  have hnq := fun (w : World) (a : Option Addr) (n c : Nat) => run_neq_slice_nil_any (P := Tryz.prog) w 32 98 a n c 0 0 Tryz.underlying32
  have hqq := fun (w : World) (a : Option Addr) (n c : Nat) => Lib.run_eql_slice_nil (P := Tryz.prog) w 32 98 a n c 0 0 Tryz.underlying32
  clear hz hpz
  unfold peerV at *
  go_enter Tryz.func58, Tryz.ntmps58
  go_wp2_with fail
  refine (HN1.out _).mono ?_
  rintro e w1 ⟨lv1, rfl, hl1, hb1, hnil1⟩
  have HB1 := Lib.hid (((Below.refl _ w).alloc (Nat.le_refl _) _).trans (hb1.mono (B' := w.heap.size) (by simp)))
  have C1 := Lib.hid (C0.out.below hb1)
  clear hb1 C0 HN1
  have c0 := C1.out.cell 0
  have c1 := C1.out.cell 1
  have c2 := C1.out.cell 2
  have hlt := C1.out.lt
  simp only [List.getElem?_cons_zero, List.getElem?_cons_succ] at c0 c1 c2
  rcases nodeS_two mn with hn | hn
  · obtain rfl : lv1 = .slice none 0 0 := hnil1 hn
    clear hl1 hnil1
    have HM1 := Lib.hid (show ∀ r, (if begins = true ∧ (nodeS peer).2.2 ≠ [] then overS (nodeS peer).2.2 else if lackS mf = true then errK 162 else if mc = 0 then errK 1 else if begins = true ∧ peer = mn then errK 6 else overS (cookieS cookie)) = r → madeS mn mf mc peer begins cookie = r from fun r h => by unfold madeS; rw [if_neg (by simp [hn])]; exact h)
    clear hn
    cases begins with
    | false =>
      have HM2 := Lib.hid (show ∀ r, (if lackS mf = true then errK 162 else if mc = 0 then errK 1 else overS (cookieS cookie)) = r → madeS mn mf mc peer false cookie = r from fun r h => HM1.out r (by rw [if_neg (by simp)]; simp only [Bool.false_eq_true, false_and, if_false]; exact h))
      clear HM1 HN2
      go_wp2_with fail
      refine (HL.out _).mono ?_
      rintro e x1 ⟨rfl, rfl⟩
      cases hlk : lackS mf with
      | true =>
        go_wp2_with fail
        refine (HF.out 162 _).mono ?_
        rintro e w9 ⟨lv9, rfl, hl9, hb9⟩
        go_wp2
        go_ret2
        rw [HM2.out (errK 162) (by rw [if_pos hlk])]
        exact ⟨_, _, rfl, MadeR.bad HB1.out hb9 hl9 (by simp [errK])⟩
      | false =>
        by_cases hmc : mc = 0
        · have hmcb : (mc == 0) = true := by simp [hmc]
          go_wp2_with fail
          refine (HF.out 1 _).mono ?_
          rintro e w9 ⟨lv9, rfl, hl9, hb9⟩
          go_wp2
          go_ret2
          rw [HM2.out (errK 1) (by rw [if_neg (by simp [hlk]), if_pos hmc])]
          exact ⟨_, _, rfl, MadeR.bad HB1.out hb9 hl9 (by simp [errK])⟩
        have hmcb : (mc == 0) = false := beq_eq_false_iff_ne.2 hmc
        have HM3 := Lib.hid (HM2.out (overS (cookieS cookie)) (by rw [if_neg (by simp [hlk]), if_neg hmc]))
        clear HM2 hmc
        cases hck : cookieS cookie with
        | nil =>
          have HM4 := Lib.hid (HM3.out.trans (congrArg overS hck))
          go_wp2_with fail
          refine (HCN.out _ hck).mono ?_
          rintro e x2 ⟨rfl, rfl⟩
          clear HM3 hck
          go_wp2
          go_ret2
          rw [HM4.out]
          exact ⟨_, _, rfl, LinksIs.nil _ _, HB1.out.alloc HB1.out.size _, .inl ⟨rfl, rfl, _, rfl, HB1.out.size, Cells.new _ 68 ((newS mn mf mc peer false cookie ch).now 0 ⟨#[]⟩ 0 0 false).cells⟩⟩
        | cons k r =>
          have HM4 := Lib.hid (HM3.out.trans (congrArg overS hck))
          have hcl := HCL.out
          rw [hck] at hcl
          have hrl : r.length ≤ 50 := by simp at hcl; simp [hcl]
          have HC2 := HC.out
          rw [hck] at HC2
          replace HC2 := Lib.hid HC2
          clear HM3 hck hcl
          go_wp2_with fail
          refine (HC2.out _).mono ?_
          rintro e x2 ⟨cv, rfl, hcv, hb2⟩
          have HB7 := Lib.hid (HB1.out.trans (hb2.mono HB1.out.size))
          have HO2 := Lib.hid (HO.out _ k r _ _ hcv hrl)
          obtain ⟨sg, sn, sc, rfl⟩ := some_links hcv
          clear hcv hb2
          go_wp2_with fail
          refine (HO2.out).mono ?_
          rintro e w9 ⟨lv9, rfl, hl9, hb9⟩
          go_wp2
          go_ret2
          rw [HM4.out]
          exact ⟨_, _, rfl, MadeR.bad HB7.out hb9 hl9 (by simp [overS])⟩
    | true =>
      have HM2 := Lib.hid (show ∀ r, (if (nodeS peer).2.2 ≠ [] then overS (nodeS peer).2.2 else if lackS mf = true then errK 162 else if mc = 0 then errK 1 else if peer = mn then errK 6 else overS (cookieS cookie)) = r → madeS mn mf mc peer true cookie = r from fun r h => HM1.out r (by simp only [true_and]; exact h))
      clear HM1
      go_wp2_with fail
      refine (HN2.out _).mono ?_
      rintro e w2 ⟨lv2, rfl, hl2, hb2, hnil2⟩
      have HB2 := Lib.hid (HB1.out.trans (hb2.mono HB1.out.size))
      have C2 := Lib.hid (C1.out.below hb2)
      clear hb2 hlt c0 c1 c2
      have c0 := C2.out.cell 0
      have c1 := C2.out.cell 1
      have c2 := C2.out.cell 2
      have hlt := C2.out.lt
      simp only [List.getElem?_cons_zero, List.getElem?_cons_succ] at c0 c1 c2
      rcases nodeS_two peer with hn | hn
      · obtain rfl : lv2 = .slice none 0 0 := hnil2 hn
        clear hl2 hnil2
        have HM3 := Lib.hid (show ∀ r, (if lackS mf = true then errK 162 else if mc = 0 then errK 1 else if peer = mn then errK 6 else overS (cookieS cookie)) = r → madeS mn mf mc peer true cookie = r from fun r h => HM2.out r (by rw [if_neg (by simp [hn])]; exact h))
        clear HM2 hn
        have HM2 := HM3
        clear HM3
        go_wp2_with fail
        refine (HL.out _).mono ?_
        rintro e x1 ⟨rfl, rfl⟩
        cases hlk : lackS mf with
        | true =>
          go_wp2_with fail
          refine (HF.out 162 _).mono ?_
          rintro e w9 ⟨lv9, rfl, hl9, hb9⟩
          go_wp2
          go_ret2
          rw [HM2.out (errK 162) (by rw [if_pos hlk])]
          exact ⟨_, _, rfl, MadeR.bad HB2.out hb9 hl9 (by simp [errK])⟩
        | false =>
          by_cases hmc : mc = 0
          · have hmcb : (mc == 0) = true := by simp [hmc]
            go_wp2_with fail
            refine (HF.out 1 _).mono ?_
            rintro e w9 ⟨lv9, rfl, hl9, hb9⟩
            go_wp2
            go_ret2
            rw [HM2.out (errK 1) (by rw [if_neg (by simp [hlk]), if_pos hmc])]
            exact ⟨_, _, rfl, MadeR.bad HB2.out hb9 hl9 (by simp [errK])⟩
          have hmcb : (mc == 0) = false := beq_eq_false_iff_ne.2 hmc
          by_cases hpe : peer = mn
          · have hpeb : (peer.toList == mn.toList) = true := beqL_eq hpe
            go_wp2_with fail
            refine (HF.out 6 _).mono ?_
            rintro e w9 ⟨lv9, rfl, hl9, hb9⟩
            go_wp2
            go_ret2
            rw [HM2.out (errK 6) (by rw [if_neg (by simp [hlk]), if_neg hmc, if_pos hpe])]
            exact ⟨_, _, rfl, MadeR.bad HB2.out hb9 hl9 (by simp [errK])⟩
          have hpeb : (peer.toList == mn.toList) = false := beqL_ne hpe
          have HM3 := Lib.hid (HM2.out (overS (cookieS cookie)) (by rw [if_neg (by simp [hlk]), if_neg hmc, if_neg hpe]))
          clear HM2 hmc
          cases hck : cookieS cookie with
          | nil =>
            have HM4 := Lib.hid (HM3.out.trans (congrArg overS hck))
            go_wp2_with fail
            refine (HCN.out _ hck).mono ?_
            rintro e x2 ⟨rfl, rfl⟩
            clear HM3 hck
            go_wp2
            go_ret2
            rw [HM4.out]
            exact ⟨_, _, rfl, LinksIs.nil _ _, HB2.out.alloc HB2.out.size _, .inl ⟨rfl, rfl, _, rfl, HB2.out.size, Cells.new _ 68 ((newS mn mf mc peer true cookie ch).now 0 ⟨#[]⟩ 0 0 false).cells⟩⟩
          | cons k r =>
            have HM4 := Lib.hid (HM3.out.trans (congrArg overS hck))
            have hcl := HCL.out
            rw [hck] at hcl
            have hrl : r.length ≤ 50 := by simp at hcl; simp [hcl]
            have HC2 := HC.out
            rw [hck] at HC2
            replace HC2 := Lib.hid HC2
            clear HM3 hck hcl
            go_wp2_with fail
            refine (HC2.out _).mono ?_
            rintro e x2 ⟨cv, rfl, hcv, hb2⟩
            have HB7 := Lib.hid (HB2.out.trans (hb2.mono HB2.out.size))
            have HO2 := Lib.hid (HO.out _ k r _ _ hcv hrl)
            obtain ⟨sg, sn, sc, rfl⟩ := some_links hcv
            clear hcv hb2
            go_wp2_with fail
            refine (HO2.out).mono ?_
            rintro e w9 ⟨lv9, rfl, hl9, hb9⟩
            go_wp2
            go_ret2
            rw [HM4.out]
            exact ⟨_, _, rfl, MadeR.bad HB7.out hb9 hl9 (by simp [overS])⟩
      · rw [hn] at hl2
        have HM3 := Lib.hid (show madeS mn mf mc peer true cookie = [⟨shakeL, 0, 24⟩, ⟨atomL, 0, 24⟩] from HM2.out _ (by rw [if_pos (by simp [hn]), overS_two hn]))
        have HO2 := Lib.hid (HO.out _ _ _ _ _ hl2 (Nat.zero_le _))
        obtain ⟨sg, sn, sc, rfl⟩ := some_links hl2
        clear hn HM2 hl2 hnil2
        go_wp2_with fail
        refine (HO2.out).mono ?_
        rintro e w9 ⟨lv9, rfl, hl9, hb9⟩
        go_wp2
        go_ret2
        rw [HM3.out]
        exact ⟨_, _, rfl, MadeR.bad HB2.out hb9 hl9 (by simp)⟩
  · rw [hn] at hl1
    have HM2 := Lib.hid (show madeS mn mf mc peer begins cookie = [⟨shakeL, 0, 24⟩, ⟨atomL, 0, 24⟩] by unfold madeS; rw [if_pos (by simp [hn]), overS_two hn])
    have HO2 := Lib.hid (HO.out _ _ _ _ _ hl1 (Nat.zero_le _))
    obtain ⟨sg, sn, sc, rfl⟩ := some_links hl1
    clear hn hl1 hnil1
    go_wp2_with fail
    refine (HO2.out).mono ?_
    rintro e w9 ⟨lv9, rfl, hl9, hb9⟩
    go_wp2
    go_ret2
    rw [HM2.out]
    exact ⟨_, _, rfl, MadeR.bad HB1.out hb9 hl9 (by simp)⟩
end Go.Proofs.YtokkokgdjnkbnaaGreatDoor
end
section
/- Package heddleref08: Begin, Wait. -/
open Go Go.RowKit
namespace Go.Proofs.YtokkokgdjnkbnaaGreatDoor

def BeginRE (t : TypeId) (w : World) (r : List Lk) (s : Sd) (m : List UInt8) (e : Ending) (w' : World) : Prop :=
  ∃ pv bv lv, e = .returned (.tuple #[pv, bv, lv]) ∧ MadeR t w r s w' pv lv ∧ BufIs w.heap.size bv (if r = [] then m else []) w'
def WaitRE (t : TypeId) (w : World) (r : List Lk) (s : Sd) (e : Ending) (w' : World) : Prop :=
  ∃ pv lv, e = .returned (.tuple #[pv, lv]) ∧ MadeR t w r s w' pv lv

set_option maxHeartbeats 8000000 in
set_option maxRecDepth 100000 in
theorem beginR_any (mn : ByteArray) (mf mc : Int) (peer cookie : ByteArray) (ch : Nat) (w : World) (hz : mn.size ≤ 140737488351232) (hpz : peer.size ≤ 140737488351232) (f0 : 0 ≤ mf) (f1 : mf < 18446744073709551616) (r0 : 0 ≤ mc) (r1 : mc < 4294967296) :
    Calls Tryz.prog 23 #[peerV mn mf mc, .string peer, .string cookie, .int .u32 ch] w (BeginRE 68 w (madeS mn mf mc peer true cookie) (newS mn mf mc peer true cookie ch) (writeS (nameM mf mc mn)).1) := by
  have HM := Lib.hid (fun W => madeR_any mn mf mc peer true cookie ch W hz hpz)
  have HN := Lib.hid (name_ok (mn := mn) hz f0 f1 r0 r1)
  have C0 := Lib.hid (Cells.new w 45 [.string mn, .int .u64 mf, .int .u32 mc])
  have HB0 := Lib.hid ((Below.refl _ w).alloc (Nat.le_refl _) (.cells #[.string mn, .int .u64 mf, .int .u32 mc] 45 (0, 0)))
  have hnq := fun (w : World) (a : Option Addr) (n c : Nat) => run_neq_slice_nil_any (P := Tryz.prog) w 32 98 a n c 0 0 Tryz.underlying32
  clear hz hpz f0 f1 r0 r1
  unfold peerV at *
  go_enter Tryz.func23, Tryz.ntmps23
  go_wp2_with fail
  refine (HM.out _).mono ?_
  rintro e w2 ⟨pv, lv, rfl, hl, hb, hcase⟩
  have C2 := Lib.hid (C0.out.below hb)
  have HB2 := Lib.hid (HB0.out.trans (hb.mono HB0.out.size))
  clear hb HM
  rcases hcase with ⟨hr, rfl, g, rfl, hg, hC⟩ | ⟨hr, rfl⟩
  · have HR := Lib.hid hr
    have hgw : w.heap.size ≠ g := by have : w.heap.size + 1 ≤ g := by simpa using hg
                                     omega
    have c0 := hC.cell 0
    have k0 := hC.frozen 0
    have K3 := Lib.hid (show Cells _ g 68 (newS mn mf mc peer true cookie ch).cells from hC.set_ 0 (.int .i64 1))
    have C3 := Lib.hid (C2.out.far (p := ⟨g, 0, none⟩) hgw (.int .i64 1))
    have HB3 := Lib.hid (HB2.out.setCell (p := ⟨g, 0, none⟩) (Nat.le_trans HB0.out.size hg) (.int .i64 1))
    have HGG := Lib.hid (show w.heap.size ≤ g from Nat.le_trans HB0.out.size hg)
    have d0 := C3.out.cell 0
    have d1 := C3.out.cell 1
    have d2 := C3.out.cell 2
    simp only [Sd.cells, Sd.now, List.getElem?_cons_zero, List.getElem?_cons_succ] at c0 d0 d1 d2
    have HW := Lib.hid (show Calls Tryz.prog 10 #[(nameM mf mc mn).val (.slice none 0 0)] (w2.setCell ⟨g, 0, none⟩ (.int .i64 1)) _ from writeR_any (nameM mf mc mn) (.slice none 0 0) _ (RSl.nil _) HN.out)
    unfold Msg.val nameM at HW
    clear hr hC hg hl hgw
    go_wp2_with fail
    refine HW.out.mono ?_
    rintro e w4 ⟨bv, l2, rfl, hv, _, hb4⟩
    have HB4 := Lib.hid (HB3.out.trans (hb4.mono HB3.out.size))
    have K4 := Lib.hid (K3.out.below hb4)
    have HV := Lib.hid (hv.base HB3.out.size)
    clear hv hb4 HW d0 d1 d2 c0 k0
    go_wp2
    refine bodyPost_ret (v := .tuple #[.pointer (some ⟨g, 0, none⟩), bv, .slice none 0 0]) (by simp [results, Tryz.results23, go_sem]) rfl ?_
    refine ⟨_, _, _, rfl, ⟨by rw [HR.out]; exact LinksIs.nil _ _, HB4.out, .inl ⟨HR.out, rfl, g, rfl, HGG.out, K4.out⟩⟩, ?_⟩
    rw [if_pos HR.out]
    exact HV.out
  · cases hrr : madeS mn mf mc peer true cookie with
    | nil => exact absurd hrr hr
    | cons k r =>
      rw [hrr] at hl
      have HL := Lib.hid (hl.base HB0.out.size)
      obtain ⟨sg, sn, sc, rfl⟩ := some_links hl
      clear hl hr
      go_wp2
      refine bodyPost_ret (v := .tuple #[.pointer none, .slice none 0 0, .slice (some ⟨sg, 0, none⟩) sn sc]) (by simp [results, Tryz.results23, go_sem]) rfl ?_
      exact ⟨_, _, _, rfl, ⟨by rw [hrr]; exact HL.out, HB2.out, .inr ⟨by rw [hrr]; exact List.cons_ne_nil _ _, rfl⟩⟩, by rw [hrr]; exact BufIs.nil _ _⟩

set_option maxHeartbeats 8000000 in
set_option maxRecDepth 100000 in
theorem waitR_any (mn : ByteArray) (mf mc : Int) (cookie : ByteArray) (ch : Nat) (w : World) (hz : mn.size ≤ 140737488351232) :
    Calls Tryz.prog 24 #[peerV mn mf mc, .string cookie, .int .u32 ch] w (WaitRE 68 w (madeS mn mf mc ⟨#[]⟩ false cookie) (newS mn mf mc ⟨#[]⟩ false cookie ch)) := by
  have HM := Lib.hid (fun W => madeR_any mn mf mc ⟨#[]⟩ false cookie ch W hz (Nat.zero_le _))
  have HB0 := Lib.hid ((Below.refl _ w).alloc (Nat.le_refl _) (.cells #[.string mn, .int .u64 mf, .int .u32 mc] 45 (0, 0)))
  have hnq := fun (w : World) (a : Option Addr) (n c : Nat) => run_neq_slice_nil_any (P := Tryz.prog) w 32 98 a n c 0 0 Tryz.underlying32
  clear hz
  unfold peerV at *
  go_enter Tryz.func24, Tryz.ntmps24
  go_wp2_with fail
  refine (HM.out _).mono ?_
  rintro e w2 ⟨pv, lv, rfl, hl, hb, hcase⟩
  have HB2 := Lib.hid (HB0.out.trans (hb.mono HB0.out.size))
  clear hb HM
  rcases hcase with ⟨hr, rfl, g, rfl, hg, hC⟩ | ⟨hr, rfl⟩
  · have HR := Lib.hid hr
    have c0 := hC.cell 0
    have k0 := hC.frozen 0
    have K3 := Lib.hid (show Cells _ g 68 (newS mn mf mc ⟨#[]⟩ false cookie ch).cells from hC.set_ 0 (.int .i64 4))
    have HB3 := Lib.hid (HB2.out.setCell (p := ⟨g, 0, none⟩) (Nat.le_trans HB0.out.size hg) (.int .i64 4))
    have HGG := Lib.hid (show w.heap.size ≤ g from Nat.le_trans HB0.out.size hg)
    simp only [Sd.cells, Sd.now, List.getElem?_cons_zero] at c0
    clear hr hC hg hl
    go_wp2
    go_ret2
    exact ⟨_, _, rfl, by rw [HR.out]; exact LinksIs.nil _ _, HB3.out, .inl ⟨HR.out, rfl, g, rfl, HGG.out, K3.out⟩⟩
  · cases hrr : madeS mn mf mc ⟨#[]⟩ false cookie with
    | nil => exact absurd hrr hr
    | cons k r =>
      rw [hrr] at hl
      have HL := Lib.hid (hl.base HB0.out.size)
      obtain ⟨sg, sn, sc, rfl⟩ := some_links hl
      clear hl hr
      go_wp2
      go_ret2
      exact ⟨_, _, rfl, by rw [hrr]; exact HL.out, HB2.out, .inr ⟨by rw [hrr]; exact List.cons_ne_nil _ _, rfl⟩⟩
end Go.Proofs.YtokkokgdjnkbnaaGreatDoor
end
section
/- Law ShakeMeets: the walk. Printed by wip/meets.py. -/
open Go Go.RowKit
namespace Go.Proofs.YtokkokgdjnkbnaaGreatDoor

def pairV (an : ByteArray) (af ac : Int) (bn : ByteArray) (bf bc : Int) (c0 c1 : ByteArray) (n0 n1 : Nat) : Value := .agg #[.string an, .int .u64 af, .int .u32 ac, .string bn, .int .u64 bf, .int .u32 bc, .string c0, .string c1, .int .u32 n0, .int .u32 n1]

set_option maxHeartbeats 8000000 in
set_option maxRecDepth 100000 in
theorem meets_walk (an : ByteArray) (af ac : Int) (bn : ByteArray) (bf bc : Int) (c0 c1 : ByteArray) (n0 n1 : Nat) (w : World) (haz : an.size ≤ 140737488351232) (hbz : bn.size ≤ 140737488351232)
    (af0 : 0 ≤ af) (af1 : af < 18446744073709551616) (ac0 : 0 ≤ ac) (ac1 : ac < 4294967296) (bf0 : 0 ≤ bf) (bf1 : bf < 18446744073709551616) (bc0 : 0 ≤ bc) (bc1 : bc < 4294967296) (hn0 : n0 < 4294967296) (hn1 : n1 < 4294967296) (hG : Gl w) :
    Calls Tryz.prog 6 #[pairV an af ac bn bf bc c0 c1 n0 n1] w fun e w' => e = .returned (.bool true) ∧ Below w.heap.size w w' := by
  have HBG := Lib.hid (fun W => beginR_any an af ac bn c0 n0 W haz hbz af0 af1 ac0 ac1)
  have HWT := Lib.hid (fun W => waitR_any bn bf bc c1 n1 W hbz)
  have HMT := Lib.hid (fun W h => met_any an af ac bn bf bc c0 c1 n0 n1 W haz hbz af0 af1 ac0 ac1 bf0 bf1 bc0 bc1 hn0 hn1 h)
  have HUP := Lib.hid (show c0 = c1 → madeS an af ac bn true c0 = [] → madeS bn bf bc ⟨#[]⟩ false c1 = [] → roundN 4 (meet0 an af ac bn bf bc c0 c1 n0 n1) = ((newS an af ac bn true c0 n0).now 7 bn bf bc false, (newS bn bf bc ⟨#[]⟩ false c1 n1).now 7 an af ac false, []) from by
    intro hc hA hB
    subst hc
    exact meet_up hA hB af0 af1 ac0 ac1 bf0 bf1 bc0 bc1 hn0 hn1)
  have HNO := Lib.hid (fun hA hB hd => meet_no (an := an) (bn := bn) (c0 := c0) (c1 := c1) (n0 := n0) (n1 := n1) hA hB af0 af1 ac0 ac1 bf0 bf1 bc0 bc1 hn0 hn1 hd)
  have HD0 := Lib.hid (fun W => digestR_any c0 n1 hn1 W)
  have HD1 := Lib.hid (fun W => digestR_any c1 n1 hn1 W)
  have HG := Lib.hid hG
  have HB0 := Lib.hid ((Below.refl _ w).alloc (Nat.le_refl _) (.cells #[.string an, .int .u64 af, .int .u32 ac, .string bn, .int .u64 bf, .int .u32 bc, .string c0, .string c1, .int .u32 n0, .int .u32 n1] 73 (0, 0)))
  have C0 := Lib.hid (Cells.new w 73 [.string an, .int .u64 af, .int .u32 ac, .string bn, .int .u64 bf, .int .u32 bc, .string c0, .string c1, .int .u32 n0, .int .u32 n1])
  have HAW := Lib.hid (awake_any _ (hG.below HB0.out))
  have hnq := fun (w : World) (a : Option Addr) (n c : Nat) => run_neq_slice_nil_any (P := Tryz.prog) w 32 98 a n c 0 0 Tryz.underlying32
  clear haz hbz af0 af1 ac0 ac1 bf0 bf1 bc0 bc1 hn0 hn1 hG
  unfold peerV pairV at *
  go_enter Tryz.func6, Tryz.ntmps6
  go_wp2_with fail
  refine HAW.out.mono ?_
  rintro e w1 ⟨rfl, hb1⟩
  have HB1 := Lib.hid (HB0.out.trans (hb1.mono HB0.out.size))
  have C1 := Lib.hid (C0.out.below hb1)
  clear hb1 C0 HAW
  have d0 := C1.out.cell 0
  have d1 := C1.out.cell 1
  have d2 := C1.out.cell 2
  have d3 := C1.out.cell 3
  have d4 := C1.out.cell 4
  have d5 := C1.out.cell 5
  have d6 := C1.out.cell 6
  have d7 := C1.out.cell 7
  have d8 := C1.out.cell 8
  have d9 := C1.out.cell 9
  have dlt := C1.out.lt
  simp only [List.getElem?_cons_zero, List.getElem?_cons_succ] at d0 d1 d2 d3 d4 d5 d6 d7 d8 d9
  go_wp2_with fail
  refine (HBG.out _).mono ?_
  rintro e w2 ⟨pv, bv, lv, rfl, ⟨hl, hb2, hcase⟩, _⟩
  have HB2 := Lib.hid (HB1.out.trans (hb2.mono HB1.out.size))
  have C2 := Lib.hid (C1.out.below hb2)
  clear d0 d1 d2 d3 d4 d5 d6 d7 d8 d9 dlt hb2 C1 HBG
  have d0 := C2.out.cell 0
  have d1 := C2.out.cell 1
  have d2 := C2.out.cell 2
  have d3 := C2.out.cell 3
  have d4 := C2.out.cell 4
  have d5 := C2.out.cell 5
  have d6 := C2.out.cell 6
  have d7 := C2.out.cell 7
  have d8 := C2.out.cell 8
  have d9 := C2.out.cell 9
  have dlt := C2.out.lt
  simp only [List.getElem?_cons_zero, List.getElem?_cons_succ] at d0 d1 d2 d3 d4 d5 d6 d7 d8 d9
  go_wp2_with fail
  refine (HWT.out _).mono ?_
  rintro e w3 ⟨qv, mv, rfl, hl2, hb3, hcase2⟩
  have HB3 := Lib.hid (HB2.out.trans (hb3.mono HB2.out.size))
  have C3 := Lib.hid (C2.out.below hb3)
  clear d0 d1 d2 d3 d4 d5 d6 d7 d8 d9 dlt hb3 C2 HWT
  have d0 := C3.out.cell 0
  have d1 := C3.out.cell 1
  have d2 := C3.out.cell 2
  have d3 := C3.out.cell 3
  have d4 := C3.out.cell 4
  have d5 := C3.out.cell 5
  have d6 := C3.out.cell 6
  have d7 := C3.out.cell 7
  have d8 := C3.out.cell 8
  have d9 := C3.out.cell 9
  have dlt := C3.out.lt
  simp only [List.getElem?_cons_zero, List.getElem?_cons_succ] at d0 d1 d2 d3 d4 d5 d6 d7 d8 d9
  go_wp2_with fail
  refine (HMT.out _ (HG.out.below HB3.out)).mono ?_
  rintro e w4 ⟨hb4, hm⟩
  have HB4 := Lib.hid (HB3.out.trans (hb4.mono HB3.out.size))
  have C4 := Lib.hid (C3.out.below hb4)
  clear d0 d1 d2 d3 d4 d5 d6 d7 d8 d9 dlt hb4 C3 HMT
  rcases hm with ⟨hA, hB, gx, gy, rfl, hx, hy⟩ | ⟨hAB, rfl⟩
  · obtain rfl : lv = .slice none 0 0 := by
      rcases hcase with ⟨_, h, _⟩ | ⟨h, _⟩
      · exact h
      · exact absurd hA h
    obtain rfl : mv = .slice none 0 0 := by
      rcases hcase2 with ⟨_, h, _⟩ | ⟨h, _⟩
      · exact h
      · exact absurd hB h
    clear hl hl2 hcase hcase2
    have d0 := C4.out.cell 0
    have d1 := C4.out.cell 1
    have d2 := C4.out.cell 2
    have d3 := C4.out.cell 3
    have d4 := C4.out.cell 4
    have d5 := C4.out.cell 5
    have d6 := C4.out.cell 6
    have d7 := C4.out.cell 7
    have d8 := C4.out.cell 8
    have d9 := C4.out.cell 9
    have dlt := C4.out.lt
    simp only [List.getElem?_cons_zero, List.getElem?_cons_succ] at d0 d1 d2 d3 d4 d5 d6 d7 d8 d9
    by_cases hc : c0 = c1
    · rw [HUP.out hc hA hB] at hx hy
      subst hc
      clear hA hB
      have hcb : (c0.toList == c0.toList) = true := by simp
      have HX := Lib.hid (show Calls Tryz.prog 22 #[.pointer (some ⟨gx, 0, none⟩)] w4 fun e w' => e = .returned (.agg #[.int .i64 7, .string bn, .int .u64 bf, .int .u32 bc, .bool false]) ∧ Below w4.heap.size w4 w' from now_any gx _ w4 hx)
      have HY := Lib.hid (fun w5 (h : Below w4.heap.size w4 w5) => show Calls Tryz.prog 22 #[.pointer (some ⟨gy, 0, none⟩)] w5 fun e w' => e = .returned (.agg #[.int .i64 7, .string an, .int .u64 af, .int .u32 ac, .bool false]) ∧ Below w5.heap.size w5 w' from now_any gy _ w5 (hy.below h))
      clear hx hy HUP HNO
      go_wp2_with fail
      refine HX.out.mono ?_
      rintro e w5 ⟨rfl, hb5⟩
      go_wp2_with fail
      refine (HY.out _ hb5).mono ?_
      rintro e w6 ⟨rfl, hb6⟩
      have hb56 := hb5.trans (hb6.mono hb5.size)
      have HB6 := Lib.hid (HB4.out.trans (hb56.mono HB4.out.size))
      have C6 := Lib.hid (C4.out.below hb56)
      clear d0 d1 d2 d3 d4 d5 d6 d7 d8 d9 dlt hb5 hb6 hb56 HX HY C4
      have d0 := C6.out.cell 0
      have d1 := C6.out.cell 1
      have d2 := C6.out.cell 2
      have d3 := C6.out.cell 3
      have d4 := C6.out.cell 4
      have d5 := C6.out.cell 5
      have d6 := C6.out.cell 6
      have d7 := C6.out.cell 7
      have d8 := C6.out.cell 8
      have d9 := C6.out.cell 9
      have dlt := C6.out.lt
      simp only [List.getElem?_cons_zero, List.getElem?_cons_succ] at d0 d1 d2 d3 d4 d5 d6 d7 d8 d9
      go_wp2
      go_ret
      exact ⟨rfl, (HB6.out.alloc HB6.out.size _).alloc (Nat.le_trans HB6.out.size (by simp)) _⟩
    · have hcb : (c0.toList == c1.toList) = false := beqL_ne hc
      by_cases hd : (digestS c0 n1).1 = (digestS c1 n1).1
      · generalize roundN 4 (meet0 an af ac bn bf bc c0 c1 n0 n1) = mm at hx hy
        obtain ⟨s1, s2, ll⟩ := mm
        simp only at hx hy
        have HDD := Lib.hid hd
        clear hA hB hc hd
        have HX := Lib.hid (show Calls Tryz.prog 22 #[.pointer (some ⟨gx, 0, none⟩)] w4 fun e w' => e = .returned (.agg #[.int .i64 s1.st, .string s1.pn, .int .u64 s1.pf, .int .u32 s1.pc, .bool s1.sim]) ∧ Below w4.heap.size w4 w' from now_any gx _ w4 hx)
        have HY := Lib.hid (fun w5 (h : Below w4.heap.size w4 w5) => show Calls Tryz.prog 22 #[.pointer (some ⟨gy, 0, none⟩)] w5 fun e w' => e = .returned (.agg #[.int .i64 s2.st, .string s2.pn, .int .u64 s2.pf, .int .u32 s2.pc, .bool s2.sim]) ∧ Below w5.heap.size w5 w' from now_any gy _ w5 (hy.below h))
        clear hx hy HUP HNO
        go_wp2_with fail
        refine HX.out.mono ?_
        rintro e w5 ⟨rfl, hb5⟩
        go_wp2_with fail
        refine (HY.out _ hb5).mono ?_
        rintro e w6 ⟨rfl, hb6⟩
        have hb56 := hb5.trans (hb6.mono hb5.size)
        have HB6 := Lib.hid (HB4.out.trans (hb56.mono HB4.out.size))
        have C6 := Lib.hid (C4.out.below hb56)
        clear d0 d1 d2 d3 d4 d5 d6 d7 d8 d9 dlt hb5 hb6 hb56 HX HY C4
        have d0 := C6.out.cell 0
        have d1 := C6.out.cell 1
        have d2 := C6.out.cell 2
        have d3 := C6.out.cell 3
        have d4 := C6.out.cell 4
        have d5 := C6.out.cell 5
        have d6 := C6.out.cell 6
        have d7 := C6.out.cell 7
        have d8 := C6.out.cell 8
        have d9 := C6.out.cell 9
        have dlt := C6.out.lt
        simp only [List.getElem?_cons_zero, List.getElem?_cons_succ] at d0 d1 d2 d3 d4 d5 d6 d7 d8 d9
        have HB7 := Lib.hid ((HB6.out.alloc HB6.out.size (.cells #[.int .i64 s1.st, .string s1.pn, .int .u64 s1.pf, .int .u32 s1.pc, .bool s1.sim] 65 (0, 0))).alloc (Nat.le_trans HB6.out.size (by simp)) (.cells #[.int .i64 s2.st, .string s2.pn, .int .u64 s2.pf, .int .u32 s2.pc, .bool s2.sim] 65 (0, 0)))
        have C7 := Lib.hid ((C6.out.alloc (.cells #[.int .i64 s1.st, .string s1.pn, .int .u64 s1.pf, .int .u32 s1.pc, .bool s1.sim] 65 (0, 0))).alloc (.cells #[.int .i64 s2.st, .string s2.pn, .int .u64 s2.pf, .int .u32 s2.pc, .bool s2.sim] 65 (0, 0)))
        have X7 := Lib.hid ((Cells.new w6 65 [.int .i64 s1.st, .string s1.pn, .int .u64 s1.pf, .int .u32 s1.pc, .bool s1.sim]).alloc (.cells #[.int .i64 s2.st, .string s2.pn, .int .u64 s2.pf, .int .u32 s2.pc, .bool s2.sim] 65 (0, 0)))
        have Y7 := Lib.hid (show Cells ((w6.alloc (.cells #[.int .i64 s1.st, .string s1.pn, .int .u64 s1.pf, .int .u32 s1.pc, .bool s1.sim] 65 (0, 0))).alloc (.cells #[.int .i64 s2.st, .string s2.pn, .int .u64 s2.pf, .int .u32 s2.pc, .bool s2.sim] 65 (0, 0))) (w6.heap.size + 1) 65 [.int .i64 s2.st, .string s2.pn, .int .u64 s2.pf, .int .u32 s2.pc, .bool s2.sim] by have := Cells.new (w6.alloc (.cells #[.int .i64 s1.st, .string s1.pn, .int .u64 s1.pf, .int .u32 s1.pc, .bool s1.sim] 65 (0, 0))) 65 [.int .i64 s2.st, .string s2.pn, .int .u64 s2.pf, .int .u32 s2.pc, .bool s2.sim]; rwa [World.size_alloc] at this)
        go_wp2_with fail
        refine (HD0.out _).mono ?_
        rintro e w8 ⟨v8, l8, rfl, hv8, _, hb8⟩
        have HB8 := Lib.hid (HB7.out.trans (hb8.mono HB7.out.size))
        have C8 := Lib.hid (C7.out.below hb8)
        have X8 := Lib.hid (X7.out.below hb8)
        have Y8 := Lib.hid (Y7.out.below hb8)
        have V8 := Lib.hid hv8
        clear d0 d1 d2 d3 d4 d5 d6 d7 d8 d9 dlt hb8 hv8 C6 C7 X7 Y7 HD0
        have d0 := C8.out.cell 0
        have d1 := C8.out.cell 1
        have d2 := C8.out.cell 2
        have d3 := C8.out.cell 3
        have d4 := C8.out.cell 4
        have d5 := C8.out.cell 5
        have d6 := C8.out.cell 6
        have d7 := C8.out.cell 7
        have d8 := C8.out.cell 8
        have d9 := C8.out.cell 9
        have dlt := C8.out.lt
        simp only [List.getElem?_cons_zero, List.getElem?_cons_succ] at d0 d1 d2 d3 d4 d5 d6 d7 d8 d9
        go_wp2_with fail
        refine (HD1.out _).mono ?_
        rintro e w9 ⟨v9, l9, rfl, hv9, _, hb9⟩
        have HB9 := Lib.hid (HB8.out.trans (hb9.mono HB8.out.size))
        have x0 := (X8.out.below hb9).cell 0
        have y0 := (Y8.out.below hb9).cell 0
        have xlt := (X8.out.below hb9).lt
        have ylt := (Y8.out.below hb9).lt
        have s1c := run_slice_string (V8.out.below hb9 (Nat.le_refl _)).rsl.slice
        have s2c := run_slice_string hv9.rsl.slice
        simp only [List.getElem?_cons_zero] at x0 y0
        clear d0 d1 d2 d3 d4 d5 d6 d7 d8 d9 dlt hb9 hv9 V8 C8 X8 Y8 HD1
        rw [HDD.out] at s1c
        go_wp2
        go_ret
        exact ⟨rfl, HB9.out⟩
      · rw [HNO.out hA hB hd] at hx hy
        have HDD := Lib.hid (show ((digestS c0 n1).1 == (digestS c1 n1).1) = false from beq_eq_false_iff_ne.2 hd)
        clear hA hB hc hd
        have HX := Lib.hid (show Calls Tryz.prog 22 #[.pointer (some ⟨gx, 0, none⟩)] w4 fun e w' => e = .returned (.agg #[.int .i64 3, .string bn, .int .u64 bf, .int .u32 bc, .bool false]) ∧ Below w4.heap.size w4 w' from now_any gx _ w4 hx)
        have HY := Lib.hid (fun w5 (h : Below w4.heap.size w4 w5) => show Calls Tryz.prog 22 #[.pointer (some ⟨gy, 0, none⟩)] w5 fun e w' => e = .returned (.agg #[.int .i64 8, .string ⟨#[]⟩, .int .u64 0, .int .u32 0, .bool false]) ∧ Below w5.heap.size w5 w' from now_any gy _ w5 (hy.below h))
        clear hx hy HUP HNO
        go_wp2_with fail
        refine HX.out.mono ?_
        rintro e w5 ⟨rfl, hb5⟩
        go_wp2_with fail
        refine (HY.out _ hb5).mono ?_
        rintro e w6 ⟨rfl, hb6⟩
        have hb56 := hb5.trans (hb6.mono hb5.size)
        have HB6 := Lib.hid (HB4.out.trans (hb56.mono HB4.out.size))
        have C6 := Lib.hid (C4.out.below hb56)
        clear d0 d1 d2 d3 d4 d5 d6 d7 d8 d9 dlt hb5 hb6 hb56 HX HY C4
        have d0 := C6.out.cell 0
        have d1 := C6.out.cell 1
        have d2 := C6.out.cell 2
        have d3 := C6.out.cell 3
        have d4 := C6.out.cell 4
        have d5 := C6.out.cell 5
        have d6 := C6.out.cell 6
        have d7 := C6.out.cell 7
        have d8 := C6.out.cell 8
        have d9 := C6.out.cell 9
        have dlt := C6.out.lt
        simp only [List.getElem?_cons_zero, List.getElem?_cons_succ] at d0 d1 d2 d3 d4 d5 d6 d7 d8 d9
        have HB7 := Lib.hid ((HB6.out.alloc HB6.out.size (.cells #[.int .i64 3, .string bn, .int .u64 bf, .int .u32 bc, .bool false] 65 (0, 0))).alloc (Nat.le_trans HB6.out.size (by simp)) (.cells #[.int .i64 8, .string ⟨#[]⟩, .int .u64 0, .int .u32 0, .bool false] 65 (0, 0)))
        have C7 := Lib.hid ((C6.out.alloc (.cells #[.int .i64 3, .string bn, .int .u64 bf, .int .u32 bc, .bool false] 65 (0, 0))).alloc (.cells #[.int .i64 8, .string ⟨#[]⟩, .int .u64 0, .int .u32 0, .bool false] 65 (0, 0)))
        have X7 := Lib.hid ((Cells.new w6 65 [.int .i64 3, .string bn, .int .u64 bf, .int .u32 bc, .bool false]).alloc (.cells #[.int .i64 8, .string ⟨#[]⟩, .int .u64 0, .int .u32 0, .bool false] 65 (0, 0)))
        have Y7 := Lib.hid (show Cells ((w6.alloc (.cells #[.int .i64 3, .string bn, .int .u64 bf, .int .u32 bc, .bool false] 65 (0, 0))).alloc (.cells #[.int .i64 8, .string ⟨#[]⟩, .int .u64 0, .int .u32 0, .bool false] 65 (0, 0))) (w6.heap.size + 1) 65 [.int .i64 8, .string ⟨#[]⟩, .int .u64 0, .int .u32 0, .bool false] by have := Cells.new (w6.alloc (.cells #[.int .i64 3, .string bn, .int .u64 bf, .int .u32 bc, .bool false] 65 (0, 0))) 65 [.int .i64 8, .string ⟨#[]⟩, .int .u64 0, .int .u32 0, .bool false]; rwa [World.size_alloc] at this)
        go_wp2_with fail
        refine (HD0.out _).mono ?_
        rintro e w8 ⟨v8, l8, rfl, hv8, _, hb8⟩
        have HB8 := Lib.hid (HB7.out.trans (hb8.mono HB7.out.size))
        have C8 := Lib.hid (C7.out.below hb8)
        have X8 := Lib.hid (X7.out.below hb8)
        have Y8 := Lib.hid (Y7.out.below hb8)
        have V8 := Lib.hid hv8
        clear d0 d1 d2 d3 d4 d5 d6 d7 d8 d9 dlt hb8 hv8 C6 C7 X7 Y7 HD0
        have d0 := C8.out.cell 0
        have d1 := C8.out.cell 1
        have d2 := C8.out.cell 2
        have d3 := C8.out.cell 3
        have d4 := C8.out.cell 4
        have d5 := C8.out.cell 5
        have d6 := C8.out.cell 6
        have d7 := C8.out.cell 7
        have d8 := C8.out.cell 8
        have d9 := C8.out.cell 9
        have dlt := C8.out.lt
        simp only [List.getElem?_cons_zero, List.getElem?_cons_succ] at d0 d1 d2 d3 d4 d5 d6 d7 d8 d9
        go_wp2_with fail
        refine (HD1.out _).mono ?_
        rintro e w9 ⟨v9, l9, rfl, hv9, _, hb9⟩
        have HB9 := Lib.hid (HB8.out.trans (hb9.mono HB8.out.size))
        have x0 := (X8.out.below hb9).cell 0
        have y0 := (Y8.out.below hb9).cell 0
        have xlt := (X8.out.below hb9).lt
        have ylt := (Y8.out.below hb9).lt
        have s1c := run_slice_string (V8.out.below hb9 (Nat.le_refl _)).rsl.slice
        have s2c := run_slice_string hv9.rsl.slice
        simp only [List.getElem?_cons_zero] at x0 y0
        clear d0 d1 d2 d3 d4 d5 d6 d7 d8 d9 dlt hb9 hv9 V8 C8 X8 Y8 HD1
        have hdd := HDD.out
        go_wp2
        go_ret
        exact ⟨rfl, HB9.out⟩
  · clear HUP HNO HD0 HD1
    by_cases hA : madeS an af ac bn true c0 = []
    · have hB : madeS bn bf bc ⟨#[]⟩ false c1 ≠ [] := by
        rcases hAB with h | h
        · exact absurd hA h
        · exact h
      obtain rfl : lv = .slice none 0 0 := by
        rcases hcase with ⟨_, h, _⟩ | ⟨h, _⟩
        · exact h
        · exact absurd hA h
      cases hrr : madeS bn bf bc ⟨#[]⟩ false c1 with
      | nil => exact absurd hrr hB
      | cons k r =>
        rw [hrr] at hl2
        obtain ⟨sg, sn, sc, rfl⟩ := some_links hl2
        clear hl hl2 hcase hcase2 hrr hA hB hAB
        go_wp2
        go_ret
        exact ⟨rfl, HB4.out⟩
    · cases hrr : madeS an af ac bn true c0 with
      | nil => exact absurd hrr hA
      | cons k r =>
        rw [hrr] at hl
        obtain ⟨sg, sn, sc, rfl⟩ := some_links hl
        clear hl hl2 hcase hcase2 hrr hA hAB
        go_wp2
        go_ret
        exact ⟨rfl, HB4.out⟩
end Go.Proofs.YtokkokgdjnkbnaaGreatDoor
end
