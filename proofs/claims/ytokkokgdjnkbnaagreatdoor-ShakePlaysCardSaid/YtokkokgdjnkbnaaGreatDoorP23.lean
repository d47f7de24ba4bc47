/- Texts laid together: ShkD, SidA, SidB, SidC, SidD, SidE, SidF, ShkE. -/
import Derived.Test.YtokkokgdjnkbnaaGreatDoorP18
import Derived.Test.YtokkokgdjnkbnaaGreatDoorP21
import Derived.Test.YtokkokgdjnkbnaaGreatDoorP22
import Derived.Test.YtokkokgdjnkbnaaGreatDoorP16
import Derived.Test.YtokkokgdjnkbnaaGreatDoorP20
section
/- Package shake: Read. -/
open Go Go.RowKit
namespace Go.Proofs.YtokkokgdjnkbnaaGreatDoor

/-- A call that hands back a message and an error. -/
def RetME (B : Nat) (w : World) (r : Msg × List Lk) (e : Ending) (w' : World) : Prop := ∃ dv ev, e = .returned (.tuple #[r.1.val dv, ev]) ∧ RSl dv r.1.digest w' ∧ ErrIs w' ev r.2 ∧ Below B w w'
def msgZ : List Value := [.int .i64 0, .int .u64 0, .int .u32 0, .int .u32 0, .string ⟨#[]⟩, .string ⟨#[]⟩, .slice none 0 0]

set_option maxHeartbeats 4000000 in
set_option maxRecDepth 100000 in
theorem read_bad (k : Int) (bv : Value) (b : List UInt8) (w : World) (hb : RSl bv b w) (hk : k < 1 ∨ 5 < k) :
    Calls Tryz.prog 13 #[.int .i64 k, bv] w (RetME w.heap.size w (readS k b)) := by
  have HR := Lib.hid (show readS k b = (Msg.none, [⟨shakeL, 0, 1⟩]) by unfold readS; rw [if_pos hk])
  obtain ⟨a, c, rfl, _, _⟩ := hb.shape
  clear hb
  rcases (show k < 1 ∨ (¬ k < 1 ∧ 5 < k) by omega) with hk | ⟨hk, hk2⟩
  all_goals
    go_enter Tryz.func13, Tryz.ntmps13
    go_wp2_with fail
    refine (fault_nil _ _ _).mono ?_
    rintro e w2 ⟨ev, rfl, her, hb2⟩
    have C2 := Lib.hid (show Cells w2 w.heap.size 27 msgZ from (Cells.new w 27 msgZ).below hb2)
    have HER := Lib.hid her
    have HB := Lib.hid (((Below.refl _ w).alloc (Nat.le_refl _) _).trans (hb2.mono (B' := w.heap.size) (by simp)))
    clear her hb2
    go_wp2_with (refine wpList_store_blk rfl _ (.tmp 4) (.tmp 19) rfl w.heap.size 0 msgZ rfl rfl (by kernel_rfl) (by simp [msgZ, Value.oneCell']) 27 _ C2.out (by decide) ?_; intro w3 hC3 hg3)
    have C3 := Lib.hid (show Cells w3 w.heap.size 27 msgZ from hC3)
    have c0 := C3.out.cell 0
    have c1 := C3.out.cell 1
    have c2 := C3.out.cell 2
    have c3 := C3.out.cell 3
    have c4 := C3.out.cell 4
    have c5 := C3.out.cell 5
    have c6 := C3.out.cell 6
    simp only [msgZ, List.getElem?_cons_zero, List.getElem?_cons_succ] at c0 c1 c2 c3 c4 c5 c6
    have HG := Lib.hid hg3
    clear hC3 hg3
    go_wp2
    refine bodyPost_ret (v := .tuple #[Msg.none.val (.slice none 0 0), ev]) (by simp [results, Tryz.results13, go_sem, c0, c1, c2, c3, c4, c5, c6, Msg.none, Msg.val]) rfl ?_
    rw [HR.out]
    exact ⟨_, _, rfl, RSl.nil _, HER.out.keep ((Keep.refl (Blk1 w.heap.size) _).grown HG.out (fun j hj _ => (Option.some.inj hj).symm)) (fun j hj => by rw [hj]; exact NF.cells C2.out (by decide)), HB.out.grown HG.out HB.out.size (fun j hj => by rw [← Option.some.inj hj]; exact Nat.le_refl _)⟩

theorem read_res {wf : World} {tmps : Array Value} {g : Nat} {m : Msg} {dv ev : Value} (hC : Cells wf g 27 [.int .i64 m.kind, .int .u64 m.flags, .int .u32 m.creation, .int .u32 m.challenge, .string m.name, .string m.status, dv])
    (h4 : tmps[4]?.getD undef = .pointer (some ⟨g, 0, none⟩)) (h5 : tmps[5]?.getD undef = ev) : (results Tryz.f13 tmps).run Tryz.prog wf = .ok (.tuple #[m.val dv, ev]) wf := by
  have c0 := hC.cell 0
  have c1 := hC.cell 1
  have c2 := hC.cell 2
  have c3 := hC.cell 3
  have c4 := hC.cell 4
  have c5 := hC.cell 5
  have c6 := hC.cell 6
  simp only [List.getElem?_cons_zero, List.getElem?_cons_succ] at c0 c1 c2 c3 c4 c5 c6
  simp [results, Tryz.results13, go_sem, h4, h5, c0, c1, c2, c3, c4, c5, c6, Msg.val]

/-- a call that hands back no message and an error -/
def RetMN (B : Nat) (w : World) (l : List Lk) (e : Ending) (w' : World) : Prop := ∃ ev, e = .returned (.tuple #[Msg.none.val (.slice none 0 0), ev]) ∧ ErrIs w' ev l ∧ Below B w w'
set_option maxHeartbeats 4000000 in
set_option maxRecDepth 100000 in
theorem wrong_any (at_ : Int) (w : World) : Calls Tryz.prog 42 #[.int .i64 at_] w (RetMN w.heap.size w [⟨shakeL, at_, 160⟩]) := by
  go_enter Tryz.func42, Tryz.ntmps42
  go_wp2_with fail
  refine (fault_nil _ _ _).mono ?_
  rintro e w2 ⟨ev, rfl, her, hb2⟩
  have C2 := Lib.hid (show Cells w2 w.heap.size 27 msgZ from (Cells.new w 27 msgZ).below hb2)
  have HER := Lib.hid her
  have HB := Lib.hid (((Below.refl _ w).alloc (Nat.le_refl _) _).trans (hb2.mono (B' := w.heap.size) (by simp)))
  clear her hb2
  go_wp2_with (refine wpList_store_blk rfl _ (.tmp 2) (.tmp 4) rfl w.heap.size 0 msgZ rfl rfl (by kernel_rfl) (by simp [msgZ, Value.oneCell']) 27 _ C2.out (by decide) ?_; intro w3 hC3 hg3)
  have C3 := Lib.hid (show Cells w3 w.heap.size 27 msgZ from hC3)
  have c0 := C3.out.cell 0
  have c1 := C3.out.cell 1
  have c2 := C3.out.cell 2
  have c3 := C3.out.cell 3
  have c4 := C3.out.cell 4
  have c5 := C3.out.cell 5
  have c6 := C3.out.cell 6
  simp only [msgZ, List.getElem?_cons_zero, List.getElem?_cons_succ] at c0 c1 c2 c3 c4 c5 c6
  have HG := Lib.hid hg3
  clear hC3 hg3
  go_wp2
  refine bodyPost_ret (v := .tuple #[Msg.none.val (.slice none 0 0), ev]) (by simp [results, Tryz.results42, go_sem, c0, c1, c2, c3, c4, c5, c6, Msg.none, Msg.val]) rfl ?_
  exact ⟨_, rfl, HER.out.keep ((Keep.refl (Blk1 w.heap.size) _).grown HG.out (fun j hj _ => (Option.some.inj hj).symm)) (fun j hj => by rw [hj]; exact NF.cells C2.out (by decide)), HB.out.grown HG.out HB.out.size (fun j hj => by rw [← Option.some.inj hj]; exact Nat.le_refl _)⟩

theorem letter_quiet (k : Int) (w : World) (h1 : 1 ≤ k) (h5 : k ≤ 5) : Calls Tryz.prog 29 #[.int .i64 k] w fun e w' => e = .returned (.int .u8 (letS k).toNat) ∧ w' = w :=
  (letter_any k w h1 h5).mono fun _ _ h => ⟨h.1, h.2.symm⟩

/-- the end of a way that refuses -/
theorem read_fin {w w2 w3 : World} {ev : Value} {l : List Lk} {m : Msg} {dv : Value} {cs : List Value} (hB : Below w.heap.size w w2) (her : ErrIs w2 ev l) (hC : Cells w2 w.heap.size 27 cs) (hg : w2.grownBy w3 (some w.heap.size)) (hd : RSl dv m.digest w3) :
    RetME w.heap.size w (m, l) (.returned (.tuple #[m.val dv, ev])) w3 :=
  ⟨_, _, rfl, hd, her.keep ((Keep.refl (Blk1 w.heap.size) _).grown hg (fun j hj _ => (Option.some.inj hj).symm)) (fun j hj => by rw [hj]; exact NF.cells hC (by decide)), hB.grown hg hB.size (fun j hj => by rw [← Option.some.inj hj]; exact Nat.le_refl _)⟩
theorem read_z {w w1 : World} (h : Below (w.alloc (.cells msgZ.toArray 27)).heap.size (w.alloc (.cells msgZ.toArray 27)) w1) : Cells w1 w.heap.size 27 msgZ ∧ Below w.heap.size w w1 :=
  ⟨(Cells.new w 27 msgZ).below h, ((Below.refl _ w).alloc (Nat.le_refl _) _).trans (h.mono (B' := w.heap.size) (by simp))⟩

set_option maxHeartbeats 4000000 in
set_option maxRecDepth 100000 in
theorem read_head (k : Int) (bv : Value) (b : List UInt8) (w : World) (hb : RSl bv b w) (h1 : 1 ≤ k) (h5 : k ≤ 5) (hh : b.head? ≠ some (letS k)) :
    Calls Tryz.prog 13 #[.int .i64 k, bv] w (RetME w.heap.size w (readS k b)) := by
  have HR := Lib.hid (show readS k b = (Msg.none, [⟨shakeL, 0, 160⟩]) by unfold readS; rw [if_neg (by omega), if_pos hh])
  have n1 : ¬ k < 1 := by omega
  have n5 : ¬ 5 < k := by omega
  have HW := fun w => Lib.hid (wrong_any 0 w)
  by_cases hn : b = []
  · subst hn
    obtain ⟨a, c, rfl, _, _⟩ := hb.shape
    clear hb hh
    go_enter Tryz.func13, Tryz.ntmps13
    go_wp2
    go_quiet (fail)
    go_wp2_with fail
    refine (HW _).out.mono ?_
    rintro e w2 ⟨ev, rfl, her, hb2⟩
    have hcb := read_z (w := w) (show _ from below_drewN (Below.refl _ _) _ |>.trans hb2)
    have C2 := Lib.hid hcb.1
    have HB := Lib.hid hcb.2
    have HER := Lib.hid her
    clear hb2 hcb her
    go_wp2_with (refine wpList_store_blk rfl _ (.tmp 4) (.tmp 34) rfl w.heap.size 0 msgZ (by rfl) (by rfl) (by kernel_rfl) (by simp [msgZ, Value.oneCell']) 27 _ C2.out (by decide) ?_; intro w3 hC3 hg3)
    refine bodyPost_ret (read_res (m := Msg.none) (dv := .slice none 0 0) (ev := ev) hC3 (by rfl) (by rfl)) rfl ?_
    rw [HR.out]
    exact read_fin HB.out HER.out C2.out hg3 (RSl.nil _)
  · have hpos : 0 < b.length := List.length_pos_iff.2 hn
    have hne0 : ((b.length : Int) == 0) = false := beq_eq_false_iff_ne.2 (by omega)
    have hposI : (0 : Int) < (b.length : Int) := by omega
    have hcc := fun w1 (h : Below w.heap.size w w1) => hb.below h
    obtain ⟨a, c, rfl, hc1, hc2, hc⟩ := hb
    obtain ⟨g, o, rfl, hx⟩ := hc 0 hpos
    rw [Nat.add_zero] at hx
    have hx0 : (w.alloc (.cells msgZ.toArray 27)).cell? ⟨g, o, none⟩ = some (.int .u8 b[0].toNat) := by
      rw [World.cell?_alloc_lt w _ _ (World.block_lt_of_cell? w _ hx)]; exact hx
    simp only [msgZ] at hx0
    have hne : ((b[0].toNat : Int) != ((letS k).toNat : Int)) = true := by
      have h3 : b[0] ≠ letS k := fun e => hh (by rw [← e]; cases b with | nil => exact absurd rfl hn | cons x r => rfl)
      have := byte_neb h3
      simpa [bne] using this
    clear hc hcc hx hh hn
    go_enter Tryz.func13, Tryz.ntmps13
    go_wp2
    go_quiet ((go_at_call 29; exact Calls.quiet_of_same (letter_quiet _ _ h1 h5)))
    go_wp2_with fail
    refine (HW _).out.mono ?_
    rintro e w2 ⟨ev, rfl, her, hb2⟩
    have hcb := read_z (w := w) (show _ from below_drewN (Below.refl _ _) _ |>.trans hb2)
    have C2 := Lib.hid hcb.1
    have HB := Lib.hid hcb.2
    have HER := Lib.hid her
    clear hb2 hcb her
    go_wp2_with (refine wpList_store_blk rfl _ (.tmp 4) (.tmp 34) rfl w.heap.size 0 msgZ (by rfl) (by rfl) (by kernel_rfl) (by simp [msgZ, Value.oneCell']) 27 _ C2.out (by decide) ?_; intro w3 hC3 hg3)
    refine bodyPost_ret (read_res (m := Msg.none) (dv := .slice none 0 0) (ev := ev) hC3 (by rfl) (by rfl)) rfl ?_
    rw [HR.out]
    exact read_fin HB.out HER.out C2.out hg3 (RSl.nil _)
end Go.Proofs.YtokkokgdjnkbnaaGreatDoor
end
section
/- Package shake: small functions of sides. -/
open Go Go.RowKit
namespace Go.Proofs.YtokkokgdjnkbnaaGreatDoor

def peerV (n : ByteArray) (f c : Int) : Value := .agg #[.string n, .int .u64 f, .int .u32 c]
theorem lacks_any (n : ByteArray) (f c : Int) (w : World) : Calls Tryz.prog 51 #[peerV n f c] w fun e w' => e = .returned (.bool (lackS f)) ∧ Below w.heap.size w w' := by
  unfold peerV
  go_enter Tryz.func51, Tryz.ntmps51
  go_wp2
  go_ret
  exact ⟨rfl, (Below.refl _ w).alloc (Nat.le_refl _) _⟩
theorem peerOf_any (m : Msg) (dv : Value) (w : World) : Calls Tryz.prog 88 #[m.val dv] w fun e w' => e = .returned (peerV m.name m.flags m.creation) ∧ Below w.heap.size w w' := by
  unfold Msg.val
  go_enter Tryz.func88, Tryz.ntmps88
  go_wp2
  refine bodyPost_ret (v := peerV m.name m.flags m.creation) (by simp [results, Tryz.results88, go_sem, peerV]) rfl ?_
  exact ⟨rfl, ((Below.refl _ w).alloc (Nat.le_refl _) _).alloc (by simp) _⟩
theorem sent_any (m : Msg) (dv : Value) (w : World) (hm : m.Ok) (hd : RSl dv m.digest w) (hE : ErrT w) :
    Calls Tryz.prog 52 #[m.val dv] w fun e w' => ∃ v, e = .returned v ∧ BBs w.heap.size v [(writeS m).1] w' ∧ Below w.heap.size w w' := by
  have HW := fun w1 (h : Below w.heap.size w w1) => Lib.hid (write_any m dv w1 (hd.below h) hm (hE.below h))
  unfold Msg.val at *
  go_enter Tryz.func52, Tryz.ntmps52
  go_wp2_with fail
  refine (HW _ ((Below.refl _ w).alloc (Nat.le_refl _) _)).out.mono ?_
  rintro e w1 ⟨v, ev, rfl, hv, her, hb⟩
  have hb1 := ((Below.refl _ w).alloc (Nat.le_refl _) _).trans (hb.mono (B' := w.heap.size) (by simp))
  have HV := Lib.hid hv
  clear hb her
  rcases hv.shape with ⟨rfl, _⟩ | ⟨g, c, rfl, _⟩
  all_goals
    clear hv
    go_wp2
    go_ret
    exact ⟨_, rfl, BBs.lit (HV.out.base (Nat.zero_le _)) hb1.size, hb1.alloc hb1.size _⟩
theorem digestM_any (g : Nat) (s : Sd) (u : Nat) (w : World) (hu : u < 4294967296) (hC : Cells w g 113 s.cells) (hP : Pow10 w) :
    Calls Tryz.prog 89 #[.pointer (some ⟨g, 0, none⟩), .int .u32 u] w fun e w' => ∃ v, e = .returned v ∧ BufIs w.heap.size v (digestS s.cookie u).1 w' ∧ Below w.heap.size w w' := by
  have HD := Lib.hid (digest_any s.cookie u hu w hP)
  have c9 := hC.cell 9
  simp only [Sd.cells, List.getElem?_cons_zero, List.getElem?_cons_succ] at c9
  clear hC hP
  go_enter Tryz.func89, Tryz.ntmps89
  go_wp2_with fail
  refine HD.out.mono ?_
  rintro e w1 ⟨v, ev, rfl, hv, her, hb⟩
  go_wp2
  go_ret
  exact ⟨_, rfl, hv, hb⟩
def nowV (s : Sd) : Value := .agg #[.int .i64 s.st, .string s.pn, .int .u64 s.pf, .int .u32 s.pc, .bool s.sim]
theorem now_any (g : Nat) (s : Sd) (w : World) (hC : Cells w g 113 s.cells) :
    Calls Tryz.prog 22 #[.pointer (some ⟨g, 0, none⟩)] w fun e w' => e = .returned (nowV s) ∧ Below w.heap.size w w' := by
  have c0 := hC.cell 0
  have c1 := hC.cell 1
  have c2 := hC.cell 2
  have c3 := hC.cell 3
  have c4 := hC.cell 4
  have hlt := hC.lt
  simp only [Sd.cells, List.getElem?_cons_zero, List.getElem?_cons_succ] at c0 c1 c2 c3 c4
  clear hC
  go_enter Tryz.func22, Tryz.ntmps22
  go_wp2
  refine bodyPost_ret (v := nowV s) (by simp [results, Tryz.results22, go_sem, nowV]) rfl ?_
  exact ⟨rfl, (Below.refl _ w).alloc (Nat.le_refl _) _⟩
end Go.Proofs.YtokkokgdjnkbnaaGreatDoor
end
section
/- Package shake: made. Printed by wip/sidb.py. -/
open Go Go.RowKit
namespace Go.Proofs.YtokkokgdjnkbnaaGreatDoor

/-- what making a side hands back -/
def MadeE (t : TypeId) (w : World) (r : List Lk) (s : Sd) (w' : World) (pv ev : Value) : Prop :=
  ErrIs w' ev r ∧ Below w.heap.size w w' ∧ ((r = [] ∧ ∃ g, pv = .pointer (some ⟨g, 0, none⟩) ∧ w.heap.size ≤ g ∧ Cells w' g t s.cells) ∨ (r ≠ [] ∧ pv = .pointer none))
theorem MadeE.bad {t : TypeId} {w w2 w3 : World} {r : List Lk} {s : Sd} {ev : Value} (hB : Below w.heap.size w w2) (hb : Below w2.heap.size w2 w3) (her : ErrIs w3 ev r) (hne : r ≠ []) : MadeE t w r s w3 (.pointer none) ev :=
  ⟨her, hB.trans (hb.mono hB.size), .inr ⟨hne, rfl⟩⟩
theorem overS_two {l : List Lk} (h : l = [⟨atomL, 0, 24⟩]) : overS l = [⟨shakeL, 0, 24⟩, ⟨atomL, 0, 24⟩] := by subst h; rfl

set_option maxHeartbeats 8000000 in
set_option maxRecDepth 100000 in
theorem made_any (mn : ByteArray) (mf mc : Int) (peer : ByteArray) (begins : Bool) (cookie : ByteArray) (ch : Nat) (w : World) (hz : mn.size ≤ 140737488351232) (hpz : peer.size ≤ 140737488351232) (hE : ErrT w) :
    Calls Tryz.prog 72 #[peerV mn mf mc, .string peer, .bool begins, .string cookie, .int .u32 ch] w fun e w' => ∃ pv ev, e = .returned (.tuple #[pv, ev]) ∧ MadeE 113 w (madeS mn mf mc peer begins cookie) (newS mn mf mc peer begins cookie ch) w' pv ev := by
  have HN1 := Lib.hid (fun W => node_any mn W hz)
  have HN2 := Lib.hid (fun W => node_any peer W hpz)
  have HE := Lib.hid hE
  have C0 := Lib.hid (Cells.new w 45 [.string mn, .int .u64 mf, .int .u32 mc])
  have HL := Lib.hid (fun W => lacks_any mn mf mc W)
  have HF := Lib.hid (fun c W => fault_nil 0 c W)
  have HC := Lib.hid (fun W => cookie_any cookie W)
  clear hz hpz hE
  unfold peerV at *
  go_enter Tryz.func72, Tryz.ntmps72
  go_wp2_with fail
  refine (HN1.out _).mono ?_
  rintro e w1 ⟨ev1, rfl, her1, hb1⟩
  have HB1 := Lib.hid (((Below.refl _ w).alloc (Nat.le_refl _) _).trans (hb1.mono (B' := w.heap.size) (by simp)))
  have C1 := Lib.hid (C0.out.below hb1)
  clear hb1 C0 HN1
  have c0 := C1.out.cell 0
  have c1 := C1.out.cell 1
  have c2 := C1.out.cell 2
  have hlt := C1.out.lt
  simp only [List.getElem?_cons_zero, List.getElem?_cons_succ] at c0 c1 c2
  rcases nodeS_two mn with hn | hn
  · rw [hn] at her1
    obtain rfl : ev1 = .nilIface := her1
    have HM1 := Lib.hid (show ∀ r, (if begins = true ∧ (nodeS peer).2.2 ≠ [] then overS (nodeS peer).2.2 else if lackS mf = true then errK 162 else if mc = 0 then errK 1 else if begins = true ∧ peer = mn then errK 6 else overS (cookieS cookie)) = r → madeS mn mf mc peer begins cookie = r from fun r h => by unfold madeS; rw [if_neg (by simp [hn])]; exact h)
    clear hn
    cases begins with
    | false =>
      have HM2 := Lib.hid (show ∀ r, (if lackS mf = true then errK 162 else if mc = 0 then errK 1 else overS (cookieS cookie)) = r → madeS mn mf mc peer false cookie = r from fun r h => HM1.out r (by rw [if_neg (by simp)]; simp only [Bool.false_eq_true, false_and, if_false]; exact h))
      clear HM1 HN2
      go_wp2_with fail
      refine (HL.out _).mono ?_
      rintro e w2 ⟨rfl, hb2⟩
      have HB2 := Lib.hid (HB1.out.trans (hb2.mono HB1.out.size))
      have C2 := Lib.hid (C1.out.below hb2)
      clear hb2 hlt c0 c1 c2
      have c0 := C2.out.cell 0
      have c1 := C2.out.cell 1
      have c2 := C2.out.cell 2
      have hlt := C2.out.lt
      simp only [List.getElem?_cons_zero, List.getElem?_cons_succ] at c0 c1 c2
      cases hlk : lackS mf with
      | true =>
        go_wp2_with fail
        refine (HF.out 162 _).mono ?_
        rintro e w9 ⟨ev9, rfl, her9, hb9⟩
        go_wp2
        go_ret2
        rw [HM2.out (errK 162) (by rw [if_pos hlk])]
        exact ⟨_, _, rfl, MadeE.bad HB2.out hb9 her9 (by simp [errK])⟩
      | false =>
        by_cases hmc : mc = 0
        · have hmcb : (mc == 0) = true := by simp [hmc]
          go_wp2_with fail
          refine (HF.out 1 _).mono ?_
          rintro e w9 ⟨ev9, rfl, her9, hb9⟩
          go_wp2
          go_ret2
          rw [HM2.out (errK 1) (by rw [if_neg (by simp [hlk]), if_pos hmc])]
          exact ⟨_, _, rfl, MadeE.bad HB2.out hb9 her9 (by simp [errK])⟩
        have hmcb : (mc == 0) = false := beq_eq_false_iff_ne.2 hmc
        have HM3 := Lib.hid (HM2.out (overS (cookieS cookie)) (by rw [if_neg (by simp [hlk]), if_neg hmc]))
        clear HM2 hmc
        go_wp2_with fail
        refine (HC.out _).mono ?_
        rintro e w3 ⟨ev3, rfl, her3, hb3⟩
        have HB3 := Lib.hid (HB2.out.trans (hb3.mono HB2.out.size))
        have C3 := Lib.hid (C2.out.below hb3)
        clear hb3 hlt c0 c1 c2
        have c0 := C3.out.cell 0
        have c1 := C3.out.cell 1
        have c2 := C3.out.cell 2
        have hlt := C3.out.lt
        simp only [List.getElem?_cons_zero, List.getElem?_cons_succ] at c0 c1 c2
        cases hck : cookieS cookie with
        | nil =>
          rw [hck] at her3
          obtain rfl : ev3 = .nilIface := her3
          have HM4 := Lib.hid (HM3.out.trans (congrArg overS hck))
          clear HM3 hck
          go_wp2
          go_ret2
          rw [HM4.out]
          exact ⟨_, _, rfl, rfl, HB3.out.alloc HB3.out.size _, .inl ⟨rfl, w3.heap.size, rfl, HB3.out.size, Cells.new w3 113 (newS mn mf mc peer false cookie ch).cells⟩⟩
        | cons k r =>
          rw [hck] at her3
          have HM4 := Lib.hid (HM3.out.trans (congrArg overS hck))
          have HO := Lib.hid (over_any 0 ev3 k r w3 her3 (HE.out.below HB3.out))
          obtain ⟨eb, eu, rfl, _, _⟩ := her3
          clear HM3 hck
          go_wp2_with fail
          refine (HO.out).mono ?_
          rintro e w9 ⟨ev9, rfl, her9, hb9⟩
          go_wp2
          go_ret2
          rw [HM4.out]
          exact ⟨_, _, rfl, MadeE.bad HB3.out hb9 her9 (by simp [overS])⟩
    | true =>
      have HM2 := Lib.hid (show ∀ r, (if (nodeS peer).2.2 ≠ [] then overS (nodeS peer).2.2 else if lackS mf = true then errK 162 else if mc = 0 then errK 1 else if peer = mn then errK 6 else overS (cookieS cookie)) = r → madeS mn mf mc peer true cookie = r from fun r h => HM1.out r (by simp only [true_and]; exact h))
      clear HM1
      go_wp2_with fail
      refine (HN2.out _).mono ?_
      rintro e w2 ⟨ev2, rfl, her2, hb2⟩
      have HB2 := Lib.hid (HB1.out.trans (hb2.mono HB1.out.size))
      have C2 := Lib.hid (C1.out.below hb2)
      clear hb2 hlt c0 c1 c2
      have c0 := C2.out.cell 0
      have c1 := C2.out.cell 1
      have c2 := C2.out.cell 2
      have hlt := C2.out.lt
      simp only [List.getElem?_cons_zero, List.getElem?_cons_succ] at c0 c1 c2
      rcases nodeS_two peer with hn | hn
      · rw [hn] at her2
        obtain rfl : ev2 = .nilIface := her2
        have HM3 := Lib.hid (show ∀ r, (if lackS mf = true then errK 162 else if mc = 0 then errK 1 else if peer = mn then errK 6 else overS (cookieS cookie)) = r → madeS mn mf mc peer true cookie = r from fun r h => HM2.out r (by rw [if_neg (by simp [hn])]; exact h))
        clear HM2 hn
        have HM2 := HM3
        clear HM3
        go_wp2_with fail
        refine (HL.out _).mono ?_
        rintro e w3 ⟨rfl, hb3⟩
        have HB3 := Lib.hid (HB2.out.trans (hb3.mono HB2.out.size))
        have C3 := Lib.hid (C2.out.below hb3)
        clear hb3 hlt c0 c1 c2
        have c0 := C3.out.cell 0
        have c1 := C3.out.cell 1
        have c2 := C3.out.cell 2
        have hlt := C3.out.lt
        simp only [List.getElem?_cons_zero, List.getElem?_cons_succ] at c0 c1 c2
        cases hlk : lackS mf with
        | true =>
          go_wp2_with fail
          refine (HF.out 162 _).mono ?_
          rintro e w9 ⟨ev9, rfl, her9, hb9⟩
          go_wp2
          go_ret2
          rw [HM2.out (errK 162) (by rw [if_pos hlk])]
          exact ⟨_, _, rfl, MadeE.bad HB3.out hb9 her9 (by simp [errK])⟩
        | false =>
          by_cases hmc : mc = 0
          · have hmcb : (mc == 0) = true := by simp [hmc]
            go_wp2_with fail
            refine (HF.out 1 _).mono ?_
            rintro e w9 ⟨ev9, rfl, her9, hb9⟩
            go_wp2
            go_ret2
            rw [HM2.out (errK 1) (by rw [if_neg (by simp [hlk]), if_pos hmc])]
            exact ⟨_, _, rfl, MadeE.bad HB3.out hb9 her9 (by simp [errK])⟩
          have hmcb : (mc == 0) = false := beq_eq_false_iff_ne.2 hmc
          by_cases hpe : peer = mn
          · have hpeb : (peer.toList == mn.toList) = true := beqL_eq hpe
            go_wp2_with fail
            refine (HF.out 6 _).mono ?_
            rintro e w9 ⟨ev9, rfl, her9, hb9⟩
            go_wp2
            go_ret2
            rw [HM2.out (errK 6) (by rw [if_neg (by simp [hlk]), if_neg hmc, if_pos hpe])]
            exact ⟨_, _, rfl, MadeE.bad HB3.out hb9 her9 (by simp [errK])⟩
          have hpeb : (peer.toList == mn.toList) = false := beqL_ne hpe
          have HM3 := Lib.hid (HM2.out (overS (cookieS cookie)) (by rw [if_neg (by simp [hlk]), if_neg hmc, if_neg hpe]))
          clear HM2 hmc
          go_wp2_with fail
          refine (HC.out _).mono ?_
          rintro e w4 ⟨ev4, rfl, her4, hb4⟩
          have HB4 := Lib.hid (HB3.out.trans (hb4.mono HB3.out.size))
          have C4 := Lib.hid (C3.out.below hb4)
          clear hb4 hlt c0 c1 c2
          have c0 := C4.out.cell 0
          have c1 := C4.out.cell 1
          have c2 := C4.out.cell 2
          have hlt := C4.out.lt
          simp only [List.getElem?_cons_zero, List.getElem?_cons_succ] at c0 c1 c2
          cases hck : cookieS cookie with
          | nil =>
            rw [hck] at her4
            obtain rfl : ev4 = .nilIface := her4
            have HM4 := Lib.hid (HM3.out.trans (congrArg overS hck))
            clear HM3 hck
            go_wp2
            go_ret2
            rw [HM4.out]
            exact ⟨_, _, rfl, rfl, HB4.out.alloc HB4.out.size _, .inl ⟨rfl, w4.heap.size, rfl, HB4.out.size, Cells.new w4 113 (newS mn mf mc peer true cookie ch).cells⟩⟩
          | cons k r =>
            rw [hck] at her4
            have HM4 := Lib.hid (HM3.out.trans (congrArg overS hck))
            have HO := Lib.hid (over_any 0 ev4 k r w4 her4 (HE.out.below HB4.out))
            obtain ⟨eb, eu, rfl, _, _⟩ := her4
            clear HM3 hck
            go_wp2_with fail
            refine (HO.out).mono ?_
            rintro e w9 ⟨ev9, rfl, her9, hb9⟩
            go_wp2
            go_ret2
            rw [HM4.out]
            exact ⟨_, _, rfl, MadeE.bad HB4.out hb9 her9 (by simp [overS])⟩
      · rw [hn] at her2
        have HM3 := Lib.hid (show madeS mn mf mc peer true cookie = [⟨shakeL, 0, 24⟩, ⟨atomL, 0, 24⟩] from HM2.out _ (by rw [if_pos (by simp [hn]), overS_two hn]))
        have HO := Lib.hid (over_any 0 ev2 ⟨atomL, 0, 24⟩ [] w2 her2 (HE.out.below HB2.out))
        obtain ⟨eb, eu, rfl, _, _⟩ := her2
        clear hn HM2
        go_wp2_with fail
        refine (HO.out).mono ?_
        rintro e w9 ⟨ev9, rfl, her9, hb9⟩
        go_wp2
        go_ret2
        rw [HM3.out]
        exact ⟨_, _, rfl, MadeE.bad HB2.out hb9 her9 (by simp)⟩
  · rw [hn] at her1
    have HM2 := Lib.hid (show madeS mn mf mc peer begins cookie = [⟨shakeL, 0, 24⟩, ⟨atomL, 0, 24⟩] by unfold madeS; rw [if_pos (by simp [hn]), overS_two hn])
    have HO := Lib.hid (over_any 0 ev1 ⟨atomL, 0, 24⟩ [] w1 her1 (HE.out.below HB1.out))
    obtain ⟨eb, eu, rfl, _, _⟩ := her1
    clear hn
    go_wp2_with fail
    refine (HO.out).mono ?_
    rintro e w9 ⟨ev9, rfl, her9, hb9⟩
    go_wp2
    go_ret2
    rw [HM2.out]
    exact ⟨_, _, rfl, MadeE.bad HB1.out hb9 her9 (by simp)⟩
end Go.Proofs.YtokkokgdjnkbnaaGreatDoor
end
section
/- Package shake: what a side does with a message that is one. Printed by wip/sidc.py. -/
open Go Go.RowKit
namespace Go.Proofs.YtokkokgdjnkbnaaGreatDoor

/-- what a call of the side in block g hands back -/
def RetT (t : TypeId) (g : Nat) (w : World) (r : Took) (e : Ending) (w' : World) : Prop :=
  ∃ v ev, e = .returned (.tuple #[v, ev]) ∧ BBs w.heap.size v r.2.1 w' ∧ ErrIs w' ev r.2.2 ∧ Keep (Blk1 g) w w' ∧ Cells w' g t r.1.cells
theorem Keep.ofB {S : Nat → Prop} {w w' : World} (h : Below w.heap.size w w') : Keep S w w' := Keep.of_below h (Nat.le_refl _) S
theorem Keep.grownB {g : Nat} {a w w' : World} (h : Keep (Blk1 g) a w) (hg : w.grownBy w' (some g)) : Keep (Blk1 g) a w' := h.grown hg (fun _ hk _ => (Option.some.inj hk).symm)
theorem Keep.setB {g : Nat} {a w : World} (h : Keep (Blk1 g) a w) (i : Nat) (u : Value) : Keep (Blk1 g) a (w.setCell ⟨g, i, none⟩ u) := h.setCell (p := ⟨g, i, none⟩) (fun _ => rfl) u

/-- what the program's errors and texts of digits lean on -/
structure Gl (w : World) : Prop where
  e : ErrT w
  p : Pow10 w
theorem Gl.below {w w' : World} (h : Gl w) (hb : Below w.heap.size w w') : Gl w' := ⟨h.e.below hb, h.p.below hb⟩
theorem Gl.keepC {g : Nat} {t : TypeId} {w w' : World} {s : Sd} (h : Gl w) (hC : Cells w g t s.cells) (k : Keep (Blk1 g) w w') : Gl w' := by
  have hc0 : w.cell? ⟨g, 0, none⟩ = some (.int .i64 s.st) := by rw [hC.cell 0]; rfl
  refine ⟨?_, ?_⟩
  · have hE := h.e
    have hlt := ErrT.lt hE
    have hne : 0 ≠ g := by
      intro e; unfold ErrT at hE; subst e; rw [hc0] at hE; cases hE
    unfold ErrT at *
    rw [← hE]
    unfold World.cell?
    rw [k.block _ hlt (show ¬ Blk1 g _ from hne)]
  · have hP := h.p
    have hg : Tryz.prog.globalNamed "internal/strconv.uint64pow10" = some 2 := by kernel_rfl
    have hcell := World.var?_cell hg hP 0
    have hlt : 2 < w.heap.size := by
      refine World.block_lt_of_cell? w ⟨2, 0, none⟩ (u := .int .u64 1) ?_
      rw [hcell]; rfl
    have hne : 2 ≠ g := by
      intro e; subst e; rw [hc0] at hcell; cases hcell
    unfold Pow10 Lib.TabIs at *
    rw [← hP]
    simp only [World.var?, hg, Option.bind_some]
    rw [k.block _ hlt (show ¬ Blk1 g _ from hne)]

theorem status_ok {s : Sd} {m : Msg} (hk : m.kind = 2) (h : okQ m.status = true) : tookS s m = (s.now 2 s.pn s.pf s.pc (decide (m.status = simB)), [], []) := by unfold tookS; rw [if_pos hk, if_pos h]
theorem status_no {s : Sd} {m : Msg} (hk : m.kind = 2) (h : okQ m.status = false) : tookS s m = (s, [], errK 164) := by unfold tookS; rw [if_pos hk, if_neg (by simp [h])]
theorem lit_ne {s : ByteArray} {l : List UInt8} (h : s ≠ ⟨l.toArray⟩) : (s.toList == l) = false := by
  refine beq_eq_false_iff_ne.2 fun e => h ?_
  rw [toList_data] at e
  subst e
  rfl

set_option maxHeartbeats 4000000 in
set_option maxRecDepth 100000 in
theorem status_any (g : Nat) (s : Sd) (m : Msg) (dv : Value) (w : World) (hC : Cells w g 113 s.cells) (hk : m.kind = 2) :
    Calls Tryz.prog 73 #[.pointer (some ⟨g, 0, none⟩), m.val dv] w (RetT 113 g w (tookS s m)) := by
  have HF := Lib.hid (fun W => fault_nil 0 164 W)
  have HC := Lib.hid hC
  have hlt := hC.lt
  have hS := Lib.hid (fun h => status_ok (s := s) hk h)
  have hN := Lib.hid (fun h => status_no (s := s) hk h)
  clear hC hk
  obtain ⟨kd, fl, cr, chn, nm, st, dg⟩ := m
  unfold Msg.val
  by_cases h1 : st = okB
  · subst h1
    have HR := Lib.hid (hS.out (show okQ okB = true by decide))
    clear hS hN HF
    unfold okB at *
    go_enter Tryz.func73, Tryz.ntmps73
    go_wp2
    have HB := Lib.hid ((Below.refl w.heap.size w).alloc (Nat.le_refl _) (.cells #[.int .i64 kd, .int .u64 fl, .int .u32 cr, .int .u32 chn, .string nm, .string ⟨#[111, 107]⟩, dv] 27 (0, 0)))
    have K1 := Lib.hid (HC.out.alloc (.cells #[.int .i64 kd, .int .u64 fl, .int .u32 cr, .int .u32 chn, .string nm, .string ⟨#[111, 107]⟩, dv] 27 (0, 0)))
    have M1 := Lib.hid (Cells.new w 27 [.int .i64 kd, .int .u64 fl, .int .u32 cr, .int .u32 chn, .string nm, .string ⟨#[111, 107]⟩, dv])
    have hgb : w.heap.size ≠ g := Nat.ne_of_gt hlt
    generalize hW : World.alloc w _ = W1 at *
    clear hW hlt
    have c0 := K1.out.cell 0
    have d5 := M1.out.cell 5
    have K2 := Lib.hid (K1.out.set_ 0 (.int .i64 2))
    have k4 := K2.out.cell 4
    have e5 := (M1.out.far (p := ⟨g, 0, none⟩) hgb (.int .i64 2)).cell 5
    have K3 := Lib.hid (K2.out.set_ 4 (.bool false))
    have e5' := ((M1.out.far (p := ⟨g, 0, none⟩) hgb (.int .i64 2)).far (p := ⟨g, 4, none⟩) hgb (.bool false)).cell 5
    have f0 := K1.out.drew.frozen 0
    have f4 := K2.out.drew.frozen 4
    simp only [Sd.cells, List.set_cons_zero, List.getElem?_cons_zero, List.getElem?_cons_succ] at c0 d5 k4 e5 e5'
    clear hgb
    go_region_held3 (fun w' => w'.cell? ⟨w.heap.size, 5, none⟩ = some (.string ⟨#[111, 107]⟩)) (go_keep) (fail)
    go_wp2
    go_ret2
    rw [HR.out]
    exact ⟨_, _, rfl, BBs.nil _ _, rfl, (((Keep.ofB HB.out).setB 0 (.int .i64 2)).setB 4 (.bool false)).drew, K3.out.drew⟩
  by_cases h2 : st = simB
  · subst h2
    have HR := Lib.hid (hS.out (show okQ simB = true by decide))
    clear hS hN HF
    unfold simB at *
    go_enter Tryz.func73, Tryz.ntmps73
    go_wp2
    have HB := Lib.hid ((Below.refl w.heap.size w).alloc (Nat.le_refl _) (.cells #[.int .i64 kd, .int .u64 fl, .int .u32 cr, .int .u32 chn, .string nm, .string ⟨#[111, 107, 95, 115, 105, 109, 117, 108, 116, 97, 110, 101, 111, 117, 115]⟩, dv] 27 (0, 0)))
    have K1 := Lib.hid (HC.out.alloc (.cells #[.int .i64 kd, .int .u64 fl, .int .u32 cr, .int .u32 chn, .string nm, .string ⟨#[111, 107, 95, 115, 105, 109, 117, 108, 116, 97, 110, 101, 111, 117, 115]⟩, dv] 27 (0, 0)))
    have M1 := Lib.hid (Cells.new w 27 [.int .i64 kd, .int .u64 fl, .int .u32 cr, .int .u32 chn, .string nm, .string ⟨#[111, 107, 95, 115, 105, 109, 117, 108, 116, 97, 110, 101, 111, 117, 115]⟩, dv])
    have hgb : w.heap.size ≠ g := Nat.ne_of_gt hlt
    generalize hW : World.alloc w _ = W1 at *
    clear hW hlt
    have c0 := K1.out.cell 0
    have d5 := M1.out.cell 5
    have K2 := Lib.hid (K1.out.set_ 0 (.int .i64 2))
    have k4 := K2.out.cell 4
    have e5 := (M1.out.far (p := ⟨g, 0, none⟩) hgb (.int .i64 2)).cell 5
    have K3 := Lib.hid (K2.out.set_ 4 (.bool true))
    have e5' := ((M1.out.far (p := ⟨g, 0, none⟩) hgb (.int .i64 2)).far (p := ⟨g, 4, none⟩) hgb (.bool true)).cell 5
    have f0 := K1.out.drew.frozen 0
    have f4 := K2.out.drew.frozen 4
    simp only [Sd.cells, List.set_cons_zero, List.getElem?_cons_zero, List.getElem?_cons_succ] at c0 d5 k4 e5 e5'
    clear hgb
    go_region_held3 (fun w' => w'.cell? ⟨w.heap.size, 5, none⟩ = some (.string ⟨#[111, 107, 95, 115, 105, 109, 117, 108, 116, 97, 110, 101, 111, 117, 115]⟩)) (go_keep) (fail)
    go_wp2
    go_ret2
    rw [HR.out]
    exact ⟨_, _, rfl, BBs.nil _ _, rfl, (((Keep.ofB HB.out).setB 0 (.int .i64 2)).setB 4 (.bool true)).drew, K3.out.drew⟩
  have HR := Lib.hid (hN.out (show okQ st = false by simp [okQ, h1, h2]))
  have hq1 : (st.toList == [111, 107]) = false := lit_ne h1
  have hq2 : (st.toList == [111, 107, 95, 115, 105, 109, 117, 108, 116, 97, 110, 101, 111, 117, 115]) = false := lit_ne h2
  clear hS hN h1 h2
  go_enter Tryz.func73, Tryz.ntmps73
  go_wp2_with fail
  refine (HF.out _).mono ?_
  rintro e w2 ⟨ev, rfl, her, hb⟩
  have hb1 := ((Below.refl _ w).alloc (Nat.le_refl _) _).trans (hb.mono (B' := w.heap.size) (by simp))
  go_wp2
  go_ret2
  rw [HR.out]
  exact ⟨_, _, rfl, BBs.nil _ _, her, Keep.ofB hb1, HC.out.below hb1⟩

set_option maxHeartbeats 4000000 in
set_option maxRecDepth 100000 in
theorem named_any (g : Nat) (s : Sd) (m : Msg) (dv : Value) (w : World) (hC : Cells w g 113 s.cells) (hk : m.kind = 1) :
    Calls Tryz.prog 76 #[.pointer (some ⟨g, 0, none⟩), m.val dv] w (RetT 113 g w (tookS s m)) := by
  have HR := Lib.hid (show tookS s m = (s.now 5 m.name m.flags m.creation s.sim, [], []) by unfold tookS; rw [if_neg (by omega), if_neg (by omega), if_pos hk])
  have HP := Lib.hid (fun W => peerOf_any m dv W)
  have HC := Lib.hid hC
  clear hC hk
  obtain ⟨kd, fl, cr, chn, nm, st, dg⟩ := m
  unfold Msg.val peerV at *
  go_enter Tryz.func76, Tryz.ntmps76
  go_wp2_with fail
  refine (HP.out _).mono ?_
  rintro e w2 ⟨rfl, hb⟩
  have hb1 := ((Below.refl _ w).alloc (Nat.le_refl _) _).trans (hb.mono (B' := w.heap.size) (by simp))
  have K2 := Lib.hid (HC.out.below hb1)
  have HB := Lib.hid hb1
  clear hb hb1
  have c0 := K2.out.cell 0
  have f0 := K2.out.frozen 0
  have P1 := Lib.hid (K2.out.set_ 0 (.int .i64 5))
  have c1 := P1.out.cell 1
  have f1 := P1.out.frozen 1
  have P2 := Lib.hid (P1.out.set_ 1 (.string nm))
  have c2 := P2.out.cell 2
  have f2 := P2.out.frozen 2
  have P3 := Lib.hid (P2.out.set_ 2 (.int .u64 fl))
  have c3 := P3.out.cell 3
  have f3 := P3.out.frozen 3
  have P4 := Lib.hid (P3.out.set_ 3 (.int .u32 cr))
  simp only [Sd.cells, List.set_cons_zero, List.set_cons_succ, List.getElem?_cons_zero, List.getElem?_cons_succ] at c0 c1 c2 c3
  go_wp2
  go_ret2
  rw [HR.out]
  exact ⟨_, _, rfl, BBs.nil _ _, rfl, ((((Keep.ofB HB.out).setB 0 (.int .i64 5)).setB 1 (.string nm)).setB 2 (.int .u64 fl)).setB 3 (.int .u32 cr), P4.out⟩
end Go.Proofs.YtokkokgdjnkbnaaGreatDoor
end
section
/- Package shake: what a side does with a challenge. Printed by wip/sidd.py. -/
open Go Go.RowKit
namespace Go.Proofs.YtokkokgdjnkbnaaGreatDoor

theorem digestS_len {s : ByteArray} (u : Nat) (h : cookieS s = []) : (digestS s u).1.length = 16 := by
  unfold digestS; rw [if_pos h]; simp [digS, be8]
theorem dig_shape {base : Nat} {v : Value} {l : List UInt8} {w : World} (h : BufIs base v l w) (hl : l.length = 16) : ∃ a c, v = .slice (some ⟨a, 0, none⟩) 16 c := by
  rcases h.shape with ⟨_, rfl⟩ | ⟨g, c, hv, _⟩
  · cases hl
  · exact ⟨g, c, by rw [hv, hl]⟩
theorem chal_no {s : Sd} {m : Msg} (hk : m.kind = 3) (h : m.name ≠ s.want ∨ lackS m.flags = true) : tookS s m = (s, [], errK 162) := by unfold tookS; rw [if_neg (by omega), if_pos hk, if_pos h]
theorem chal_ok {s : Sd} {m : Msg} (hk : m.kind = 3) (h : m.name = s.want) (h2 : lackS m.flags = false) : tookS s m = (s.now 3 m.name m.flags m.creation s.sim, [(writeS (replyM s.ch (digestS s.cookie m.challenge.toNat).1)).1], []) := by
  unfold tookS; rw [if_neg (by omega), if_pos hk, if_neg (by simp [h, h2])]
theorem reply_ok {ch : Nat} {d : List UInt8} (hc : ch < 4294967296) (hd : d.length = 16) : (replyM ch d).Ok := by
  unfold replyM
  exact ⟨Int.le_refl 0, by show (0 : Int) < _; decide, Int.le_refl 0, by show (0 : Int) < _; decide, by show (0 : Int) ≤ (ch : Int); omega, by show (ch : Int) < _; omega, Nat.zero_le _, Nat.zero_le _, by show d.length ≤ _; omega⟩

set_option maxHeartbeats 8000000 in
set_option maxRecDepth 100000 in
theorem challenged_any (g : Nat) (s : Sd) (m : Msg) (dv : Value) (w : World) (hC : Cells w g 113 s.cells) (hs : s.Ok) (hc0 : 0 ≤ m.challenge) (hc1 : m.challenge < 4294967296) (hG : Gl w) (hk : m.kind = 3) :
    Calls Tryz.prog 74 #[.pointer (some ⟨g, 0, none⟩), m.val dv] w (RetT 113 g w (tookS s m)) := by
  have HN := Lib.hid (fun h => chal_no (s := s) hk h)
  have HY := Lib.hid (fun h h2 => chal_ok (s := s) hk h h2)
  have HF := Lib.hid (fun W => fault_nil 0 162 W)
  have HP := Lib.hid (fun W => peerOf_any m dv W)
  have HC := Lib.hid hC
  have HG := Lib.hid hG
  have HS := Lib.hid hs
  have hlt := hC.lt
  clear hC hk hG hs
  obtain ⟨kd, fl, cr, chn, nm, st, dg⟩ := m
  obtain ⟨u, hu⟩ : ∃ u : Nat, chn = u := ⟨chn.toNat, by simp only at hc0; omega⟩
  have hu1 : u < 4294967296 := by simp only at hc1; omega
  subst hu
  clear hc0 hc1
  have HL := Lib.hid (fun W => lacks_any nm fl cr W)
  unfold Msg.val peerV at *
  go_enter Tryz.func74, Tryz.ntmps74
  go_wp2
  have HB := Lib.hid ((Below.refl w.heap.size w).alloc (Nat.le_refl _) (.cells #[.int .i64 kd, .int .u64 fl, .int .u32 cr, .int .u32 (u : Int), .string nm, .string st, dv] 27 (0, 0)))
  have K1 := Lib.hid (HC.out.alloc (.cells #[.int .i64 kd, .int .u64 fl, .int .u32 cr, .int .u32 (u : Int), .string nm, .string st, dv] 27 (0, 0)))
  have M1 := Lib.hid (Cells.new w 27 [.int .i64 kd, .int .u64 fl, .int .u32 cr, .int .u32 (u : Int), .string nm, .string st, dv])
  have hgb : w.heap.size ≠ g := Nat.ne_of_gt hlt
  generalize hW : World.alloc w _ = W1 at *
  clear hW hlt
  have c8 := K1.out.cell 8
  have d0 := M1.out.cell 0
  have d1 := M1.out.cell 1
  have d2 := M1.out.cell 2
  have d3 := M1.out.cell 3
  have d4 := M1.out.cell 4
  have d5 := M1.out.cell 5
  have d6 := M1.out.cell 6
  simp only [Sd.cells, List.getElem?_cons_zero, List.getElem?_cons_succ] at c8 d0 d1 d2 d3 d4 d5 d6
  by_cases hn : nm = s.want
  · have hq : (nm.toList == s.want.toList) = true := beqL_eq hn
    have HN2 := Lib.hid (fun h => HN.out (.inr h))
    have HY2 := Lib.hid (fun h => HY.out hn h)
    clear HN HY hn
    go_region_held3 (fun w' => w'.cell? ⟨w.heap.size, 0, none⟩ = some (.int .i64 kd) ∧ w'.cell? ⟨w.heap.size, 1, none⟩ = some (.int .u64 fl) ∧ w'.cell? ⟨w.heap.size, 2, none⟩ = some (.int .u32 cr) ∧ w'.cell? ⟨w.heap.size, 3, none⟩ = some (.int .u32 u) ∧ w'.cell? ⟨w.heap.size, 4, none⟩ = some (.string nm) ∧ w'.cell? ⟨w.heap.size, 5, none⟩ = some (.string st) ∧ w'.cell? ⟨w.heap.size, 6, none⟩ = some dv ∧ w'.cell? ⟨g, 8, none⟩ = some (.string s.want)) (go_keep)
      (first
        | (go_at_call 88; refine (HP.out _).mono ?_; rintro e w2 ⟨rfl, hb⟩
           have hb2 : Below W1.heap.size W1 w2 := (Below.drew (Below.refl W1.heap.size W1)).trans hb
           have K2 := Lib.hid (K1.out.below hb2)
           have M2 := Lib.hid (M1.out.below hb2)
           have HB2 := Lib.hid (HB.out.trans (hb2.mono HB.out.size))
           have e8 := K2.out.cell 8
           have e0 := M2.out.cell 0
           have e1 := M2.out.cell 1
           have e2 := M2.out.cell 2
           have e3 := M2.out.cell 3
           have e4 := M2.out.cell 4
           have e5 := M2.out.cell 5
           have e6 := M2.out.cell 6
           simp only [Sd.cells, List.getElem?_cons_zero, List.getElem?_cons_succ] at e8 e0 e1 e2 e3 e4 e5 e6
           clear hb hb2)
        | (go_at_call 51; refine (HL.out _).mono ?_; rintro e w3 ⟨rfl, hb3⟩
           have K3 := Lib.hid (K2.out.below hb3)
           have M3 := Lib.hid (M2.out.below hb3)
           have HB3 := Lib.hid (HB2.out.trans (hb3.mono HB2.out.size))
           have i8 := K3.out.cell 8
           have i0 := M3.out.cell 0
           have i1 := M3.out.cell 1
           have i2 := M3.out.cell 2
           have i3 := M3.out.cell 3
           have i4 := M3.out.cell 4
           have i5 := M3.out.cell 5
           have i6 := M3.out.cell 6
           simp only [Sd.cells, List.getElem?_cons_zero, List.getElem?_cons_succ] at i8 i0 i1 i2 i3 i4 i5 i6
           clear hb3))
    clear c8 d0 d1 d2 d3 d4 d5 d6 e8 e0 e1 e2 e3 e4 e5 e6 i8 K1 M1 HB K2 M2 HB2
    cases hlk : lackS fl with
    | true =>
      have HR := Lib.hid (HN2.out hlk)
      clear HN2 HY2 hlk
      go_wp2_with fail
      refine (HF.out _).mono ?_
      rintro e w4 ⟨ev, rfl, her, hb⟩
      have hb1 := HB3.out.trans (hb.mono HB3.out.size)
      go_wp2
      go_ret2
      rw [HR.out]
      exact ⟨_, _, rfl, BBs.nil _ _, her, Keep.ofB hb1, HC.out.below hb1⟩
    | false =>
      have HR := Lib.hid (HY2.out hlk)
      clear HN2 HY2 hlk HF HL
      go_wp2_with fail
      refine (HP.out _).mono ?_
      rintro e w4 ⟨rfl, hb⟩
      have K4 := Lib.hid (K3.out.below hb)
      have M4 := Lib.hid (M3.out.below hb)
      have HB4 := Lib.hid (HB3.out.trans (hb.mono HB3.out.size))
      clear hb i0 i1 i2 i3 i4 i5 i6 K3 M3 HB3
      have c0 := K4.out.cell 0
      have f0 := K4.out.frozen 0
      have P1 := Lib.hid (K4.out.set_ 0 (.int .i64 3))
      have c1 := P1.out.cell 1
      have f1 := P1.out.frozen 1
      have P2 := Lib.hid (P1.out.set_ 1 (.string nm))
      have c2 := P2.out.cell 2
      have f2 := P2.out.frozen 2
      have P3 := Lib.hid (P2.out.set_ 2 (.int .u64 fl))
      have c3 := P3.out.cell 3
      have f3 := P3.out.frozen 3
      have P4 := Lib.hid (P3.out.set_ 3 (.int .u32 cr))
      simp only [Sd.cells, List.set_cons_zero, List.set_cons_succ, List.getElem?_cons_zero, List.getElem?_cons_succ] at c0 c1 c2 c3
      have KP := Lib.hid (((((Keep.ofB (S := Blk1 g) HB4.out).setB 0 (.int .i64 3)).setB 1 (.string nm)).setB 2 (.int .u64 fl)).setB 3 (.int .u32 cr))
      have M5 := Lib.hid ((((M4.out.far (p := ⟨g, 0, none⟩) hgb (.int .i64 3)).far (p := ⟨g, 1, none⟩) hgb (.string nm)).far (p := ⟨g, 2, none⟩) hgb (.int .u64 fl)).far (p := ⟨g, 3, none⟩) hgb (.int .u32 cr))
      have P5 := Lib.hid (show Cells _ g 113 (s.now 3 nm fl cr s.sim).cells from P4.out)
      clear P4
      go_wp2
      clear c0 c1 c2 c3 f0 f1 f2 f3 P1 P2 P3 M4 K4
      generalize hW : World.setCell _ ⟨g, 3, none⟩ _ = W5 at *
      clear hW
      have G5 := Lib.hid (HG.out.keepC HC.out KP.out)
      have c10 := P5.out.cell 10
      have d3 := M5.out.cell 3
      simp only [Sd.cells, Sd.now, List.getElem?_cons_zero, List.getElem?_cons_succ] at c10 d3
      have HD := Lib.hid (digestM_any g (s.now 3 nm fl cr s.sim) u W5.drew hu1 P5.out.drew (G5.out.below (Below.drew (Below.refl W5.heap.size W5))).p)
      clear HP hgb
      go_region_held3 (fun w' => w'.cell? ⟨g, 10, none⟩ = some (.int .u32 s.ch) ∧ w'.cell? ⟨w.heap.size, 3, none⟩ = some (.int .u32 u)) (go_keep)
        (first
          | (go_at_call 89; refine HD.out.mono ?_; rintro e w6 ⟨v, rfl, hv, hb⟩
             have hb6 : Below W5.heap.size W5 w6 := (Below.drew (Below.refl W5.heap.size W5)).trans hb
             have K6 := Lib.hid (P5.out.below hb6)
             have M6 := Lib.hid (M5.out.below hb6)
             have G6 := Lib.hid (G5.out.below hb6)
             have KP6 := Lib.hid (KP.out.below hb6)
             have e10 := K6.out.cell 10
             have e3 := M6.out.cell 3
             simp only [Sd.cells, Sd.now, List.getElem?_cons_zero, List.getElem?_cons_succ] at e10 e3
             have hl := digestS_len u HS.out.ck
             have HSE := Lib.hid (show Calls Tryz.prog 52 #[(replyM s.ch (digestS s.cookie u).1).val v] w6 _ from sent_any (replyM s.ch (digestS s.cookie u).1) v w6 (reply_ok HS.out.ch1 hl) hv.rsl G6.out.e)
             obtain ⟨va, vc, rfl⟩ := dig_shape hv hl
             clear hb hb6 hv hl HD
             unfold Msg.val replyM at HSE)
          | (go_at_call 52; refine HSE.out.mono ?_; rintro e w7 ⟨v7, rfl, hv7, hb7⟩
             have K7 := Lib.hid (K6.out.below hb7)
             have KP7 := Lib.hid (KP6.out.below hb7)
             have M7 := Lib.hid (M6.out.below hb7)
             have V7 := Lib.hid hv7
             have j10 := K7.out.cell 10
             have j3 := M7.out.cell 3
             simp only [Sd.cells, Sd.now, List.getElem?_cons_zero, List.getElem?_cons_succ] at j10 j3
             clear hb7 hv7 HSE))
      go_wp2
      go_ret2
      rw [HR.out]
      exact ⟨_, _, rfl, V7.out.base KP6.out.size, rfl, KP7.out, K7.out⟩
  · have hq : (nm.toList == s.want.toList) = false := beqL_ne hn
    have HR := Lib.hid (HN.out (.inl hn))
    clear HN HY hn
    go_quiet (fail)
    go_wp2_with fail
    refine (HF.out _).mono ?_
    rintro e w2 ⟨ev, rfl, her, hb⟩
    have hb1 := HB.out.trans (((below_drewN (Below.refl W1.heap.size W1) _).trans hb).mono HB.out.size)
    go_wp2
    go_ret2
    rw [HR.out]
    exact ⟨_, _, rfl, BBs.nil _ _, her, Keep.ofB hb1, HC.out.below hb1⟩
end Go.Proofs.YtokkokgdjnkbnaaGreatDoor
end
section
/- Package shake: what a side does with a digest. Printed by wip/side.py. -/
open Go Go.RowKit
namespace Go.Proofs.YtokkokgdjnkbnaaGreatDoor

theorem done_no {s : Sd} {m : Msg} (hk : m.kind = 4 ∨ m.kind = 5) (h : sameS s.cookie s.ch m.digest = false) : tookS s m = (s, [], errK 163) := by
  unfold tookS; rw [if_neg (by omega), if_neg (by omega), if_neg (by omega), if_pos h]
theorem done_4 {s : Sd} {m : Msg} (hk : m.kind = 4) (h : sameS s.cookie s.ch m.digest = true) : tookS s m = (s.now 7 s.pn s.pf s.pc s.sim, [(writeS (ackM (digestS s.cookie m.challenge.toNat).1)).1], []) := by
  unfold tookS; rw [if_neg (by omega), if_neg (by omega), if_neg (by omega), if_neg (by simp [h]), if_neg (by omega)]
theorem done_5 {s : Sd} {m : Msg} (hk : m.kind = 5) (h : sameS s.cookie s.ch m.digest = true) : tookS s m = (s.now 7 s.pn s.pf s.pc s.sim, [], []) := by
  unfold tookS; rw [if_neg (by omega), if_neg (by omega), if_neg (by omega), if_neg (by simp [h]), if_pos hk]
theorem ack_ok {d : List UInt8} (hd : d.length = 16) : (ackM d).Ok := by
  unfold ackM
  exact ⟨Int.le_refl 0, by show (0 : Int) < _; decide, Int.le_refl 0, by show (0 : Int) < _; decide, Int.le_refl 0, by show (0 : Int) < _; decide, Nat.zero_le _, Nat.zero_le _, by show d.length ≤ _; omega⟩

set_option maxHeartbeats 8000000 in
set_option maxRecDepth 100000 in
theorem done4_any (g : Nat) (s : Sd) (m : Msg) (dv : Value) (w : World) (hC : Cells w g 113 s.cells) (hs : s.Ok) (hd : RSl dv m.digest w) (hc0 : 0 ≤ m.challenge) (hc1 : m.challenge < 4294967296) (hG : Gl w) (hk : m.kind = 4) :
    Calls Tryz.prog 75 #[.pointer (some ⟨g, 0, none⟩), m.val dv] w (RetT 113 g w (tookS s m)) := by
  have HN := Lib.hid (fun h => done_no (s := s) (by omega : m.kind = 4 ∨ m.kind = 5) h)
  have HY := Lib.hid (fun h => done_4 (s := s) hk h)
  have HF := Lib.hid (fun W => fault_nil 0 163 W)
  have HC := Lib.hid hC
  have HG := Lib.hid hG
  have HS := Lib.hid hs
  have hlt := hC.lt
  have HDV := Lib.hid hd
  clear hC hG hs hd
  obtain ⟨kd, fl, cr, chn, nm, st, dg⟩ := m
  obtain rfl : kd = 4 := hk
  obtain ⟨u, hu⟩ : ∃ u : Nat, chn = u := ⟨chn.toNat, by simp only at hc0; omega⟩
  have hu1 : u < 4294967296 := by simp only at hc1; omega
  subst hu
  clear hc0 hc1
  unfold Msg.val at *
  go_enter Tryz.func75, Tryz.ntmps75
  go_wp2
  have HB := Lib.hid ((Below.refl w.heap.size w).alloc (Nat.le_refl _) (.cells #[.int .i64 4, .int .u64 fl, .int .u32 cr, .int .u32 (u : Int), .string nm, .string st, dv] 27 (0, 0)))
  have K1 := Lib.hid (HC.out.alloc (.cells #[.int .i64 4, .int .u64 fl, .int .u32 cr, .int .u32 (u : Int), .string nm, .string st, dv] 27 (0, 0)))
  have M1 := Lib.hid (Cells.new w 27 [.int .i64 4, .int .u64 fl, .int .u32 cr, .int .u32 (u : Int), .string nm, .string st, dv])
  have D1 := Lib.hid (HDV.out.below (HB.out.mono (Nat.le_refl _)))
  have hgb : w.heap.size ≠ g := Nat.ne_of_gt hlt
  generalize hW : World.alloc w _ = W1 at *
  clear hW hlt
  have c9 := K1.out.cell 9
  have c10 := K1.out.cell 10
  have d0 := M1.out.cell 0
  have d6 := M1.out.cell 6
  simp only [Sd.cells, List.getElem?_cons_zero, List.getElem?_cons_succ] at c9 c10 d0 d6
  have HSM := Lib.hid (same_any s.cookie s.ch dv dg W1.drew HS.out.ch1 D1.out.drew.slice (HG.out.below (HB.out.trans ((Below.drew (Below.refl W1.heap.size W1)).mono HB.out.size))).p)
  go_region_held3 (fun w' => w'.cell? ⟨w.heap.size, 6, none⟩ = some dv ∧ w'.cell? ⟨g, 9, none⟩ = some (.string s.cookie) ∧ w'.cell? ⟨g, 10, none⟩ = some (.int .u32 s.ch)) (go_keep)
    (first
      | (go_at_call 90; refine HSM.out.mono ?_; rintro e w2 ⟨rfl, hb⟩
         have hb2 : Below W1.heap.size W1 w2 := (Below.drew (Below.refl W1.heap.size W1)).trans hb
         have K2 := Lib.hid (K1.out.below hb2)
         have M2 := Lib.hid (M1.out.below hb2)
         have HB2 := Lib.hid (HB.out.trans (hb2.mono HB.out.size))
         have e9 := K2.out.cell 9
         have e10 := K2.out.cell 10
         have e6 := M2.out.cell 6
         simp only [Sd.cells, List.getElem?_cons_zero, List.getElem?_cons_succ] at e9 e10 e6
         clear hb hb2 HSM))
  clear c9 c10 d0 d6 e9 e10 e6 K1 M1 HB D1
  cases hsm : sameS s.cookie s.ch dg with
  | false =>
    have HR := Lib.hid (HN.out hsm)
    clear HN HY hsm
    go_wp2_with fail
    refine (HF.out _).mono ?_
    rintro e w4 ⟨ev, rfl, her, hb⟩
    have hb1 := HB2.out.trans (hb.mono HB2.out.size)
    go_wp2
    go_ret2
    rw [HR.out]
    exact ⟨_, _, rfl, BBs.nil _ _, her, Keep.ofB hb1, HC.out.below hb1⟩
  | true =>
    have HR := Lib.hid (HY.out hsm)
    clear HN HY hsm HF
    have c0 := K2.out.cell 0
    have f0 := K2.out.frozen 0
    simp only [Sd.cells, List.getElem?_cons_zero] at c0
    have KP := Lib.hid ((Keep.ofB (S := Blk1 g) HB2.out).setB 0 (.int .i64 7))
    have P5 := Lib.hid (show Cells _ g 113 (s.now 7 s.pn s.pf s.pc s.sim).cells from K2.out.set_ 0 (.int .i64 7))
    have M5 := Lib.hid (M2.out.far (p := ⟨g, 0, none⟩) hgb (.int .i64 7))
    have d0 := M5.out.cell 0
    have d3 := M5.out.cell 3
    simp only [List.getElem?_cons_zero, List.getElem?_cons_succ] at d0 d3
    clear hgb M2
    have G5 := Lib.hid (HG.out.keepC HC.out KP.out)
    have HD := Lib.hid (digestM_any g (s.now 7 s.pn s.pf s.pc s.sim) u _ hu1 P5.out G5.out.p)
    go_wp2_with fail
    refine HD.out.mono ?_
    rintro e w6 ⟨v, rfl, hv, hb6⟩
    have K6 := Lib.hid (P5.out.below hb6)
    have G6 := Lib.hid (G5.out.below hb6)
    have KP6 := Lib.hid (KP.out.below hb6)
    have hl := digestS_len u HS.out.ck
    have HSE := Lib.hid (show Calls Tryz.prog 52 #[(ackM (digestS s.cookie u).1).val v] w6 _ from sent_any (ackM (digestS s.cookie u).1) v w6 (ack_ok hl) hv.rsl G6.out.e)
    obtain ⟨va, vc, rfl⟩ := dig_shape hv hl
    clear hb6 hv hl HD
    unfold Msg.val ackM at HSE
    go_wp2_with fail
    refine HSE.out.mono ?_
    rintro e w7 ⟨v7, rfl, hv7, hb7⟩
    have K7 := Lib.hid (K6.out.below hb7)
    have KP7 := Lib.hid (KP6.out.below hb7)
    have V7 := Lib.hid hv7
    clear hb7 hv7 HSE
    go_wp2
    go_ret2
    rw [HR.out]
    exact ⟨_, _, rfl, V7.out.base KP6.out.size, rfl, KP7.out, K7.out⟩

set_option maxHeartbeats 8000000 in
set_option maxRecDepth 100000 in
theorem done5_any (g : Nat) (s : Sd) (m : Msg) (dv : Value) (w : World) (hC : Cells w g 113 s.cells) (hs : s.Ok) (hd : RSl dv m.digest w) (hc0 : 0 ≤ m.challenge) (hc1 : m.challenge < 4294967296) (hG : Gl w) (hk : m.kind = 5) :
    Calls Tryz.prog 75 #[.pointer (some ⟨g, 0, none⟩), m.val dv] w (RetT 113 g w (tookS s m)) := by
  have HN := Lib.hid (fun h => done_no (s := s) (by omega : m.kind = 4 ∨ m.kind = 5) h)
  have HY := Lib.hid (fun h => done_5 (s := s) hk h)
  have HF := Lib.hid (fun W => fault_nil 0 163 W)
  have HC := Lib.hid hC
  have HG := Lib.hid hG
  have HS := Lib.hid hs
  have hlt := hC.lt
  have HDV := Lib.hid hd
  clear hC hG hs hd
  obtain ⟨kd, fl, cr, chn, nm, st, dg⟩ := m
  obtain rfl : kd = 5 := hk
  obtain ⟨u, hu⟩ : ∃ u : Nat, chn = u := ⟨chn.toNat, by simp only at hc0; omega⟩
  have hu1 : u < 4294967296 := by simp only at hc1; omega
  subst hu
  clear hc0 hc1
  unfold Msg.val at *
  go_enter Tryz.func75, Tryz.ntmps75
  go_wp2
  have HB := Lib.hid ((Below.refl w.heap.size w).alloc (Nat.le_refl _) (.cells #[.int .i64 5, .int .u64 fl, .int .u32 cr, .int .u32 (u : Int), .string nm, .string st, dv] 27 (0, 0)))
  have K1 := Lib.hid (HC.out.alloc (.cells #[.int .i64 5, .int .u64 fl, .int .u32 cr, .int .u32 (u : Int), .string nm, .string st, dv] 27 (0, 0)))
  have M1 := Lib.hid (Cells.new w 27 [.int .i64 5, .int .u64 fl, .int .u32 cr, .int .u32 (u : Int), .string nm, .string st, dv])
  have D1 := Lib.hid (HDV.out.below (HB.out.mono (Nat.le_refl _)))
  have hgb : w.heap.size ≠ g := Nat.ne_of_gt hlt
  generalize hW : World.alloc w _ = W1 at *
  clear hW hlt
  have c9 := K1.out.cell 9
  have c10 := K1.out.cell 10
  have d0 := M1.out.cell 0
  have d6 := M1.out.cell 6
  simp only [Sd.cells, List.getElem?_cons_zero, List.getElem?_cons_succ] at c9 c10 d0 d6
  have HSM := Lib.hid (same_any s.cookie s.ch dv dg W1.drew HS.out.ch1 D1.out.drew.slice (HG.out.below (HB.out.trans ((Below.drew (Below.refl W1.heap.size W1)).mono HB.out.size))).p)
  go_region_held3 (fun w' => w'.cell? ⟨w.heap.size, 6, none⟩ = some dv ∧ w'.cell? ⟨g, 9, none⟩ = some (.string s.cookie) ∧ w'.cell? ⟨g, 10, none⟩ = some (.int .u32 s.ch)) (go_keep)
    (first
      | (go_at_call 90; refine HSM.out.mono ?_; rintro e w2 ⟨rfl, hb⟩
         have hb2 : Below W1.heap.size W1 w2 := (Below.drew (Below.refl W1.heap.size W1)).trans hb
         have K2 := Lib.hid (K1.out.below hb2)
         have M2 := Lib.hid (M1.out.below hb2)
         have HB2 := Lib.hid (HB.out.trans (hb2.mono HB.out.size))
         have e9 := K2.out.cell 9
         have e10 := K2.out.cell 10
         have e6 := M2.out.cell 6
         simp only [Sd.cells, List.getElem?_cons_zero, List.getElem?_cons_succ] at e9 e10 e6
         clear hb hb2 HSM))
  clear c9 c10 d0 d6 e9 e10 e6 K1 M1 HB D1
  cases hsm : sameS s.cookie s.ch dg with
  | false =>
    have HR := Lib.hid (HN.out hsm)
    clear HN HY hsm
    go_wp2_with fail
    refine (HF.out _).mono ?_
    rintro e w4 ⟨ev, rfl, her, hb⟩
    have hb1 := HB2.out.trans (hb.mono HB2.out.size)
    go_wp2
    go_ret2
    rw [HR.out]
    exact ⟨_, _, rfl, BBs.nil _ _, her, Keep.ofB hb1, HC.out.below hb1⟩
  | true =>
    have HR := Lib.hid (HY.out hsm)
    clear HN HY hsm HF
    have c0 := K2.out.cell 0
    have f0 := K2.out.frozen 0
    simp only [Sd.cells, List.getElem?_cons_zero] at c0
    have KP := Lib.hid ((Keep.ofB (S := Blk1 g) HB2.out).setB 0 (.int .i64 7))
    have P5 := Lib.hid (show Cells _ g 113 (s.now 7 s.pn s.pf s.pc s.sim).cells from K2.out.set_ 0 (.int .i64 7))
    have M5 := Lib.hid (M2.out.far (p := ⟨g, 0, none⟩) hgb (.int .i64 7))
    have d0 := M5.out.cell 0
    have d3 := M5.out.cell 3
    simp only [List.getElem?_cons_zero, List.getElem?_cons_succ] at d0 d3
    clear hgb M2
    go_wp2
    go_ret2
    rw [HR.out]
    exact ⟨_, _, rfl, BBs.nil _ _, rfl, KP.out, P5.out⟩
end Go.Proofs.YtokkokgdjnkbnaaGreatDoor
end
section
/- Package shake: the table of steps. Printed by wip/sidf.py. -/
open Go Go.RowKit
namespace Go.Proofs.YtokkokgdjnkbnaaGreatDoor

def stepV (f : Nat) (k : Int) (g : Nat) : Value := .agg #[.int .i64 k, .func (.func f) #[.pointer (some ⟨g, 0, none⟩)] #[]]
def stepM (g : Nat) : Int → Option Value :=
  mapPut (mapPut (mapPut (mapPut (mapPut (fun _ => none) 1 (stepV 73 2 g)) 2 (stepV 74 3 g)) 3 (stepV 75 5 g)) 4 (stepV 76 1 g)) 6 (stepV 75 4 g)
set_option maxHeartbeats 8000000 in
set_option maxRecDepth 100000 in
theorem steps_any (g : Nat) (w : World) : Calls Tryz.prog 55 #[.pointer (some ⟨g, 0, none⟩)] w fun e w' => ∃ b, e = .returned (.map (some b)) ∧ MapV 63 b 5 (stepM g) w' ∧ Below w.heap.size w w' := by
  have hmm := @run_makeMap Tryz.prog
  have HB0 := Lib.hid ((Below.refl w.heap.size w).alloc (Nat.le_refl _) (.map #[] 0))
  go_enter Tryz.func55, Tryz.ntmps55
  go_wp2_with (with_reducible refine stopIns _ _ _ _ rfl ?_)
  refine Stopped.of ?_
  refine wpList_mapV_ins rfl _ _ _ rfl Tryz.underlying121 Tryz.underlying63 _ 0 (fun _ => none) (by rfl) (MapV.made_at _ _ _ (by simp)) (by unfold maxLen; omega) 1 (by decide) (by rfl) (stepV 73 2 g) (by rfl) ?_
  intro w1 M1 g1
  have HB1 := Lib.hid (HB0.out.grown g1 HB0.out.size (fun j hj => by cases hj; exact Nat.le_refl _))
  clear g1
  replace M1 := Lib.hid M1
  go_wp2_with (with_reducible refine stopIns _ _ _ _ rfl ?_)
  refine Stopped.of ?_
  refine wpList_mapV_ins rfl _ _ _ rfl Tryz.underlying121 Tryz.underlying63 _ 1 _ (by rfl) M1.out (by unfold maxLen; omega) 2 (by decide) (by rfl) (stepV 74 3 g) (by rfl) ?_
  intro w2 M2 g2
  have HB2 := Lib.hid (HB1.out.grown g2 HB1.out.size (fun j hj => by cases hj; exact Nat.le_refl _))
  clear g2
  replace M2 := Lib.hid M2
  go_wp2_with (with_reducible refine stopIns _ _ _ _ rfl ?_)
  refine Stopped.of ?_
  refine wpList_mapV_ins rfl _ _ _ rfl Tryz.underlying121 Tryz.underlying63 _ 2 _ (by rfl) M2.out (by unfold maxLen; omega) 3 (by decide) (by rfl) (stepV 75 5 g) (by rfl) ?_
  intro w3 M3 g3
  have HB3 := Lib.hid (HB2.out.grown g3 HB2.out.size (fun j hj => by cases hj; exact Nat.le_refl _))
  clear g3
  replace M3 := Lib.hid M3
  go_wp2_with (with_reducible refine stopIns _ _ _ _ rfl ?_)
  refine Stopped.of ?_
  refine wpList_mapV_ins rfl _ _ _ rfl Tryz.underlying121 Tryz.underlying63 _ 3 _ (by rfl) M3.out (by unfold maxLen; omega) 4 (by decide) (by rfl) (stepV 76 1 g) (by rfl) ?_
  intro w4 M4 g4
  have HB4 := Lib.hid (HB3.out.grown g4 HB3.out.size (fun j hj => by cases hj; exact Nat.le_refl _))
  clear g4
  replace M4 := Lib.hid M4
  go_wp2_with (with_reducible refine stopIns _ _ _ _ rfl ?_)
  refine Stopped.of ?_
  refine wpList_mapV_ins rfl _ _ _ rfl Tryz.underlying121 Tryz.underlying63 _ 4 _ (by rfl) M4.out (by unfold maxLen; omega) 6 (by decide) (by rfl) (stepV 75 4 g) (by rfl) ?_
  intro w5 M5 g5
  have HB5 := Lib.hid (HB4.out.grown g5 HB4.out.size (fun j hj => by cases hj; exact Nat.le_refl _))
  clear g5
  replace M5 := Lib.hid M5
  go_wp2
  go_ret
  exact ⟨_, rfl, M5.out, HB5.out⟩
theorem Tryz.zeroStep (w : World) : (zeroValue 119).run Tryz.prog w = .ok (.agg #[.int .i64 0, .nilFunc]) w := by kernel_rfl
end Go.Proofs.YtokkokgdjnkbnaaGreatDoor
end
section
/- Package shake: Read of a status. -/
open Go Go.RowKit
namespace Go.Proofs.YtokkokgdjnkbnaaGreatDoor

theorem Tryz.zeroW (w : World) : (zeroValue 3).run Tryz.prog w = .ok (.int .i64 0) w := by kernel_rfl
def wantM : Int → Option Value := mapPut (mapPut (mapPut (mapPut (fun _ => none) 1 (.int .i64 15)) 3 (.int .i64 19)) 4 (.int .i64 21)) 5 (.int .i64 17)
theorem wantM_get (k : Int) (h1 : 1 ≤ k) (h5 : k ≤ 5) : (wantM k).getD (.int .i64 0) = .int .i64 (wantS k : Int) := by
  have hk : k = 1 ∨ k = 2 ∨ k = 3 ∨ k = 4 ∨ k = 5 := by omega
  rcases hk with rfl | rfl | rfl | rfl | rfl <;> rfl

def msgK (k : Int) : List Value := [.int .i64 k, .int .u64 0, .int .u32 0, .int .u32 0, .string ⟨#[]⟩, .string ⟨#[]⟩, .slice none 0 0]
/-- behind the table of lengths: the result's block, the message's -/
structure RdInv (k : Int) (w w4 : World) : Prop where
  cr : Cells w4 w.heap.size 27 msgZ
  cm : Cells w4 (w.heap.size + 1) 27 (msgK k)
  hb : Below w.heap.size w w4
  sz : w.heap.size + 2 < w4.heap.size
theorem RdInv.first {k : Int} {w w1 : World} {n : Nat} (g : World.grownBy ((((w.alloc (.cells msgZ.toArray 27)).drewN n).alloc (.cells (msgK k).toArray 27)).alloc (.map #[] 0)) w1 (some (w.heap.size + 1 + 1))) : RdInv k w w1 := by
  have h1 := ((((Cells.new w 27 msgZ).drewN n).alloc (.cells (msgK k).toArray 27)).alloc (.map #[] 0)).of_grown g (by omega)
  have h2 := (((Cells.new ((w.alloc (.cells msgZ.toArray 27)).drewN n) 27 (msgK k))).alloc (.map #[] 0)).of_grown g (by simp)
  refine ⟨h1, by simpa using h2, ?_, by have := g.size; simp at this; omega⟩
  exact ((((below_drewN ((Below.refl _ w).alloc (Nat.le_refl _) _) n).alloc (by simp) _).alloc (by simp; omega) _)).grown g (by simp; omega) (fun j hj => by cases hj; omega)
theorem RdInv.next {k : Int} {w w1 w2 : World} (h : RdInv k w w1) (g : w1.grownBy w2 (some (w.heap.size + 1 + 1))) : RdInv k w w2 :=
  ⟨h.cr.of_grown g (by omega), h.cm.of_grown g (by omega), h.hb.grown g h.hb.size (fun j hj => by cases hj; omega), by have := g.size; have := h.sz; omega⟩

set_option maxHeartbeats 4000000 in
set_option maxRecDepth 100000 in
theorem read_2 (bv : Value) (b : List UInt8) (w : World) (hb : RSl bv b w) (hz : b.length ≤ 140737488351232) (hh : b.head? = some (letS 2)) :
    Calls Tryz.prog 13 #[.int .i64 2, bv] w (RetME w.heap.size w (readS 2 b)) := by
  have HR := Lib.hid (show readS 2 b = if isSt ⟨(b.drop 1).toArray⟩ then (⟨2, 0, 0, 0, ⟨#[]⟩, ⟨(b.drop 1).toArray⟩, []⟩, []) else (Msg.none, [⟨shakeL, 1, 160⟩]) by unfold readS; rw [if_neg (by omega), if_neg (by rw [hh]; simp), if_pos rfl])
  have hpos : 0 < b.length := by cases b with | nil => cases hh | cons => simp
  have hne0 : ((b.length : Int) == 0) = false := beq_eq_false_iff_ne.2 (by omega)
  have hposI : (0 : Int) < (b.length : Int) := by omega
  have hb0 : b[0] = letS 2 := by cases b with | nil => cases hh | cons x r => simpa using hh
  have HBV := Lib.hid hb
  obtain ⟨a, c, rfl, hc1, hc2, hc⟩ := hb
  obtain ⟨g, o, rfl, hx⟩ := hc 0 hpos
  rw [Nat.add_zero] at hx
  have hx0 : (w.alloc (.cells msgZ.toArray 27)).cell? ⟨g, o, none⟩ = some (.int .u8 (letS 2).toNat) := by
    rw [World.cell?_alloc_lt w _ _ (World.block_lt_of_cell? w _ hx), ← hb0]; exact hx
  simp only [msgZ] at hx0
  have hne : (((letS 2).toNat : Int) != ((letS 2).toNat : Int)) = false := by simp
  clear hc hx hh hb0
  have hmm := @run_makeMap Tryz.prog
  go_enter Tryz.func13, Tryz.ntmps13
  go_wp2
  go_quiet ((go_at_call 29; exact Calls.quiet_of_same (letter_quiet _ _ (by decide) (by decide))))
  clear hx0
  generalize hbv : (Value.slice (some ⟨g, o, none⟩) b.length c) = bv at *
  clear hbv
  go_wp2_with (with_reducible refine stopIns _ _ _ _ rfl ?_)
  refine Stopped.of ?_
  refine wpList_mapV_ins rfl _ _ _ rfl Tryz.underlying103 Tryz.underlying22 _ 0 (fun _ => none) (by rfl) (MapV.made_at _ _ _ (by simp)) (by unfold maxLen; omega) 1 (by decide) (by rfl) (.int .i64 15) (by rfl) ?_
  intro w1 M1 g1
  refine wpList_mapV_ins rfl _ _ _ rfl Tryz.underlying103 Tryz.underlying22 _ 1 _ (by rfl) M1 (by unfold maxLen; omega) 3 (by decide) (by rfl) (.int .i64 19) (by rfl) ?_
  intro w2 M2 g2
  refine wpList_mapV_ins rfl _ _ _ rfl Tryz.underlying103 Tryz.underlying22 _ 2 _ (by rfl) M2 (by unfold maxLen; omega) 4 (by decide) (by rfl) (.int .i64 21) (by rfl) ?_
  intro w3 M3 g3
  refine wpList_mapV_ins rfl _ _ _ rfl Tryz.underlying103 Tryz.underlying22 _ 3 _ (by rfl) M3 (by unfold maxLen; omega) 5 (by decide) (by rfl) (.int .i64 17) (by rfl) ?_
  intro w4 M4 g4
  have I4 := Lib.hid ((((RdInv.first (k := 2) g1).next g2).next g3).next g4)
  have hlook := (MapV.look (m := wantM) M4 Tryz.underlying103 Tryz.underlying22 (Tryz.zeroW w4) 2 (by decide)).2
  rw [wantM_get 2 (by decide) (by decide)] at hlook
  clear M1 M2 M3 M4 g1 g2 g3 g4
  have R4 := Lib.hid (HBV.out.below I4.out.hb)
  obtain ⟨v1, hv1, _, hs1, _⟩ := R4.out.sub 1 b.length (by omega) (Nat.le_refl _)
  have hs1 : ∀ w', (Instr.slice 25 bv (some (.int .i64 1)) none none).run Tryz.prog w' = .ok v1 w' := hs1 rfl
  have hv1 : RSl v1 (b.drop 1) w4 := by rw [List.take_of_length_le (by simp)] at hv1; exact hv1
  have hconv := run_slice_string hv1.slice
  have c5 := I4.out.cm.cell 5
  have f5 := I4.out.cm.frozen 5
  simp only [msgK, List.getElem?_cons_zero, List.getElem?_cons_succ] at c5
  have HIS := Lib.hid (isStatus_any ⟨(b.drop 1).toArray⟩ (w4.setCell ⟨w.heap.size + 1, 5, none⟩ (.string ⟨(b.drop 1).toArray⟩)))
  have I4s := Lib.hid (I4.out.cm.set_ 5 (.string ⟨(b.drop 1).toArray⟩))
  have I4r := Lib.hid (I4.out.cr.far (p := ⟨w.heap.size + 1, 5, none⟩) (by simp) (.string ⟨(b.drop 1).toArray⟩))
  have HB4 := Lib.hid (I4.out.hb.setCell (p := ⟨w.heap.size + 1, 5, none⟩) (by simp) (.string ⟨(b.drop 1).toArray⟩))
  generalize hST : (⟨(b.drop 1).toArray⟩ : ByteArray) = S at *
  clear hv1
  go_wp2_with fail
  refine HIS.out.mono ?_
  rintro e w5 ⟨rfl, hb5⟩
  have HB5 := Lib.hid (HB4.out.trans (hb5.mono HB4.out.size))
  have CR5 := Lib.hid (I4r.out.below hb5)
  have CM5 := Lib.hid (I4s.out.below hb5)
  clear hb5 c5 f5 hlook hconv hs1
  by_cases hst : isSt S = true
  · have HR2 := Lib.hid (show readS 2 b = (⟨2, 0, 0, 0, ⟨#[]⟩, S, []⟩, []) by rw [HR.out, if_pos hst])
    clear HR
    have c0 := CM5.out.cell 0
    have c1 := CM5.out.cell 1
    have c2 := CM5.out.cell 2
    have c3 := CM5.out.cell 3
    have c4 := CM5.out.cell 4
    have c5 := CM5.out.cell 5
    have c6 := CM5.out.cell 6
    simp only [msgK, List.set_cons_succ, List.set_cons_zero, List.getElem?_cons_zero, List.getElem?_cons_succ] at c0 c1 c2 c3 c4 c5 c6
    go_wp2_with (refine wpList_store_blk rfl _ (.tmp 4) (.tmp 56) rfl w.heap.size 0 [.int .i64 2, .int .u64 0, .int .u32 0, .int .u32 0, .string ⟨#[]⟩, .string S, .slice none 0 0] (by rfl) (by rfl) (by kernel_rfl) (by simp [Value.oneCell']) 27 _ CR5.out (by simp [msgZ]) ?_; intro w6 hC6 hg6)
    refine bodyPost_ret (read_res (m := ⟨2, 0, 0, 0, ⟨#[]⟩, S, []⟩) (dv := .slice none 0 0) (ev := .nilIface) hC6 (by rfl) (by rfl)) rfl ?_
    rw [HR2.out]
    exact read_fin HB5.out rfl CR5.out hg6 (RSl.nil _)
  · have hst' : isSt S = false := by simpa using hst
    have HR2 := Lib.hid (show readS 2 b = (Msg.none, [⟨shakeL, 1, 160⟩]) by rw [HR.out, if_neg hst])
    clear HR hst
    go_wp2_with fail
    refine (wrong_any 1 _).mono ?_
    rintro e w6 ⟨ev, rfl, her, hb6⟩
    have HB6 := Lib.hid (HB5.out.trans (hb6.mono HB5.out.size))
    have CR6 := Lib.hid (CR5.out.below hb6)
    have HER := Lib.hid her
    clear hb6 her
    go_wp2_with (refine wpList_store_blk rfl _ (.tmp 4) (.tmp 54) rfl w.heap.size 0 msgZ (by rfl) (by rfl) (by kernel_rfl) (by simp [msgZ, Value.oneCell']) 27 _ CR6.out (by decide) ?_; intro w7 hC7 hg7)
    refine bodyPost_ret (read_res (m := Msg.none) (dv := .slice none 0 0) (ev := ev) hC7 (by rfl) (by rfl)) rfl ?_
    rw [HR2.out]
    exact read_fin HB6.out HER.out CR6.out hg7 (RSl.nil _)
end Go.Proofs.YtokkokgdjnkbnaaGreatDoor
end
