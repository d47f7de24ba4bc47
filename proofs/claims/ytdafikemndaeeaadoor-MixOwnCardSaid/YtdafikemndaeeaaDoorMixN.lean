/- The law MixOwn: the walk. -/
import Derived.Test.YtdafikemndaeeaaDoorMixM
import Derived.Test.YtdafikemndaeeaaDoorMixJ
import Derived.Lib.SmallJoins
open Go Go.RowKit
namespace Go.Proofs.YtdafikemndaeeaaDoor

/-- a generator that nobody made -/
def DeadG (w : World) (t : Value) : Prop := t = .pointer none ∨ ∃ b, t = .pointer (some ⟨b, 0, none⟩) ∧ w.heap[b]? = some (.cells #[.bool false, .int .u64 0, .int .i64 0] 86 (0, 0))
theorem DeadG.below {w w' : World} {t : Value} (h : DeadG w t) (hb : Below w.heap.size w w') : DeadG w' t := by
  rcases h with h | ⟨b, h, hc⟩
  · exact .inl h
  · exact .inr ⟨b, h, (hb.block b (Array.getElem?_eq_some_iff.1 hc).1).trans hc⟩
theorem next_dead (t : Value) (w : World) (h : DeadG w t) : Calls Tryd.prog 28 #[t] w fun e w' => ∃ ev, e = .returned (.tuple #[.int .u32 0, ev]) ∧ ErrIs w' ev [⟨mixL, 0, 3⟩] ∧ Below w.heap.size w w' := by
  rcases h with rfl | ⟨b, rfl, hc⟩
  · go_enter Tryd.func28, Tryd.ntmps28
    go_wp2_with (go_at_call 62; refine (refusedM_any _ _ _).mono ?_; rintro e w' ⟨ev, rfl, her, hb⟩)
    go_ret2
    exact ⟨_, rfl, her, hb⟩
  · have c0 : w.cell? ⟨b, 0, none⟩ = some (.bool false) := cell_of_block hc 0
    go_enter Tryd.func28, Tryd.ntmps28
    go_wp2_with (go_at_call 62; refine (refusedM_any _ _ _).mono ?_; rintro e w' ⟨ev, rfl, her, hb⟩)
    go_ret2
    exact ⟨_, rfl, her, hb⟩
theorem count_dead (t : Value) (w : World) (h : DeadG w t) : Calls Tryd.prog 30 #[t] w fun e w' => e = .returned (.int .i64 0) ∧ w' = w := by
  rcases h with rfl | ⟨b, rfl, hc⟩
  · go_enter Tryd.func30, Tryd.ntmps30
    go_wp2
    go_ret
    exact ⟨rfl, rfl⟩
  · have c0 : w.cell? ⟨b, 2, none⟩ = some (.int .i64 0) := cell_of_block hc 2
    go_enter Tryd.func30, Tryd.ntmps30
    go_wp2
    go_ret
    exact ⟨rfl, rfl⟩
/-- the row [nil, &Gen{}] -/
def ArrG (w : World) (n : Nat) : Prop := w.heap[n + 1]? = some (.cells #[.pointer none, .pointer (some ⟨n, 0, none⟩)] 44 (0, 0))
theorem ArrG.below {w w' : World} {n : Nat} (h : ArrG w n) (hb : Below w.heap.size w w') : ArrG w' n := by
  unfold ArrG at *
  rw [hb.block _ (Array.getElem?_eq_some_iff.1 h).1]
  exact h
def deadW (w : World) : World := (w.alloc (.cells #[.bool false, .int .u64 0, .int .i64 0] 86 (0, 0))).alloc (.cells #[.pointer none, .pointer (some ⟨w.heap.size, 0, none⟩)] 44 (0, 0))
theorem deadW_arr (w : World) : ArrG (deadW w) w.heap.size := by
  have := alloc_get (w.alloc (.cells #[.bool false, .int .u64 0, .int .i64 0] 86 (0, 0))) (.cells #[.pointer none, .pointer (some ⟨w.heap.size, 0, none⟩)] 44 (0, 0))
  simpa [ArrG, deadW] using this
theorem deadW_dead (w : World) : DeadG (deadW w) (.pointer (some ⟨w.heap.size, 0, none⟩)) := by
  refine .inr ⟨_, rfl, ?_⟩
  unfold deadW
  rw [Below.heap_alloc _ _ w.heap.size (by simp)]
  exact alloc_get w _
theorem deadW_below {B : Nat} {a w : World} (h : Below B a w) (hB : B ≤ w.heap.size) : Below B a (deadW w) := (h.alloc hB _).alloc (by simp; omega) _
theorem digestS_one (s : ByteArray) (u : Nat) : (digestS s u).1 = [] ∨ (digestS s u).2 = [] := by
  unfold digestS; split
  · exact .inr rfl
  · exact .inl rfl

theorem digestS_16 (s : ByteArray) (u : Nat) : (digestS s u).1.length ≤ 16 := by
  unfold digestS; split
  · exact Nat.le_of_eq (digS_length _)
  · exact Nat.zero_le _
theorem refused_self (ev : Value) (l : List Lk) (lv : Value) (base : Nat) (w : World) (her : ErrIs w ev l) (hl : l.length ≤ 1) (hlk : LinksIs base lv l w) (hE : ErrT w) :
    Calls Tryd.prog 32 #[ev, lv] w fun e w' => e = .returned (.bool true) ∧ Below w.heap.size w w' := by
  have h := refused_links ev l l lv base w her (by omega) (by omega) hlk hE
  rw [show decide (l = l) = true by simp] at h
  exact h

set_option maxHeartbeats 16000000 in
set_option maxRecDepth 100000 in
theorem own_walk (s : ByteArray) (u : Nat) (w : World) (hu : u < 4294967296) (hP : Pow10 w) (hE : ErrT w) :
    Calls Tryd.prog 13 #[.string s, .int .u32 u] w fun e w' => e = .returned (.bool true) ∧ Below w.heap.size w w' := by
  have H1 := fun w1 (h : Below w.heap.size w w1) => Lib.hid (digest_any s u hu w1 (hP.below h))
  have H2 := fun w1 => Lib.hid (digestR_any s u hu w1)
  have HF := fun ev l lv base w1 (her : ErrIs w1 ev l) (hlk : LinksIs base lv l w1) (h : Below w.heap.size w w1) (hl : l.length ≤ 1) =>
    Lib.hid (refused_self ev l lv base w1 her hl hlk (hE.below h))
  have HA := fun w1 (h : Below w.heap.size w w1) => Lib.hid (alive07 w1 (hP.below h))
  have hone := digestS_one s u
  have h16 := digestS_16 s u
  have hl1 := digestS_len s u
  generalize digestS s u = D at *
  obtain ⟨d, l⟩ := D
  simp only at *
  have HONE := Lib.hid hone
  have HL1 := Lib.hid hl1
  clear hone hl1
  go_enter Tryd.func13, Tryd.ntmps13
  go_wp2_with fail
  refine (H1 w (Below.refl _ _)).out.mono ?_
  rintro e w1 ⟨v1, ev1, rfl, hv1, her1, hb1⟩
  have hlen := run_buf_len hv1
  have HV1 := Lib.hid hv1
  clear hv1
  go_wp2_with fail
  clear hlen
  go_loopw [25] (fun i wr => ∃ (k : Nat) (d' : List UInt8), k ≤ d.length ∧ d'.length = d.length ∧ i = .int .i64 k ∧ BufIs w.heap.size v1 d' wr ∧ ErrIs wr ev1 l ∧ Below w.heap.size w wr) (fun i _ => d.length - (intOf i).toNat)
  case atStart => exact ⟨0, d, Nat.zero_le _, rfl, rfl, HV1.out, her1, hb1⟩
  case round =>
    obtain ⟨k, d', hk, hd', rfl, hv, her, hbw⟩ := hrel
    by_cases hlt : k < d.length
    · have hki : (k : Int) < (d.length : Int) := by omega
      rcases hv.shape with ⟨_, rfl⟩ | ⟨g, c, rfl, hg1, hg2, _⟩
      · simp at hd'; omega
      have hl : l = [] := HONE.out.resolve_left (fun h => by rw [h] at hlt; simp at hlt)
      have hki2 : (k : Int) < (d'.length : Int) := by omega
      have hfr : wr.frozen? ⟨g, k, none⟩ = false := World.ownsRow.frozenAt (show wr.ownsRow _ 5 1 _ d'.length (bytesV d') from hv) k
      have hcl : wr.cell? ⟨g, k, none⟩ = some (.int .u8 (d'[k]'(by omega)).toNat) := hv.cell k (by omega)
      have hst := Lib.hid (hv.stored k (by omega) 0)
      have HB := Lib.hid (Below.grown hbw hst.out.2 hbw.size (fun j hj => by cases hj; exact hg1))
      have HE2 := Lib.hid (show ErrIs (wr.setCell ⟨g, k, none⟩ (.int .u8 ((0 : UInt8).toNat : Nat))) ev1 l by rw [hl] at her ⊢; exact her)
      clear hv her hbw
      go_wp2
      go_roundw
      case rel => exact ⟨k + 1, d'.set k 0, by omega, by simp [hd'], by go_num, hst.out.1, HE2.out, HB.out⟩
      case measure => simp [intOf]; omega
    · have hki : ¬ (k : Int) < (d.length : Int) := by omega
      have HE1 := Lib.hid her
      have HB := Lib.hid hbw
      clear her hv hbw
      go_wp2_with fail
      refine (H1 wr HB.out).out.mono ?_
      rintro e w2 ⟨v2, ev2, rfl, hv2, her2, hb2⟩
      have he1 := HE1.out.below hb2
      have hb2 := HB.out.trans (hb2.mono HB.out.size)
      go_wp2_with fail
      refine (H2 w2).out.mono ?_
      rintro e w3 ⟨v3, lv, rfl, hv3, hlk, hb3⟩
      have he1 := he1.below hb3
      have her2 := her2.below hb3
      have hs2 := run_buf_string (hv2.below hb3 (Nat.le_refl _))
      have hs3 := run_buf_string hv3
      have hv2' := Lib.hid (hv2.below hb3 (Nat.le_refl _))
      have hv3' := Lib.hid hv3
      have hb3 := hb2.trans (hb3.mono hb2.size)
      have HF1 := HF ev1 l lv _ w3 he1 hlk hb3 HL1.out
      clear he1 hv2 hv3
      go_wp2_with fail
      refine HF1.out.mono ?_
      rintro e w4 ⟨rfl, hb4⟩
      have HF2 := HF ev2 l lv _ w4 (her2.below hb4) (hlk.below hb4 (Nat.le_refl _)) (hb3.trans (hb4.mono hb3.size)) HL1.out
      have hv2'' := Lib.hid ((hv2'.out.below hb4 (Nat.le_refl _)))
      have hv3'' := Lib.hid ((hv3'.out.below hb4 (Nat.le_refl _)))
      have hb4 := hb3.trans (hb4.mono hb3.size)
      clear hs2 hs3 HF1 her2 hlk hv2' hv3'
      go_wp2_with fail
      refine HF2.out.mono ?_
      rintro e w5 ⟨rfl, hb5⟩
      have hs2 := run_buf_string (hv2''.out.below hb5 (Nat.le_refl _))
      have hs3 := run_buf_string (hv3''.out.below hb5 (Nat.le_refl _))
      have hb5 := hb4.trans (hb5.mono hb4.size)
      have hne : ((⟨d.toArray⟩ : ByteArray).toList != (⟨d.toArray⟩ : ByteArray).toList) = false := by simp
      have hcur := deadW_below hb5 hb5.size
      have hD := deadW_dead w5
      have hA := deadW_arr w5
      unfold deadW at hcur hD hA
      clear HF2 hv2'' hv3''
      go_wp2_with fail
      clear hs2 hs3 hne
      refine wp_loop_rounds 3 ?_
      rw [rounds_succ]
      go_wp2_with fail
      generalize hW : (w5.alloc (.cells #[.bool false, .int .u64 0, .int .i64 0] 86 (0, 0))).alloc (.cells #[.pointer none, .pointer (some ⟨w5.heap.size, 0, none⟩)] 44 (0, 0)) = W0 at *
      clear hW
      refine (next_dead _ _ (.inl rfl)).mono ?_
      rintro e wa1 ⟨ev, rfl, her, hba⟩
      have hc := hcur.trans (hba.mono hcur.size)
      have hd := hD.below hba
      have ha := hA.below hba
      clear hcur hD hA; have hcur := hc; have hD := hd; have hA := ha; clear hc hd ha
      go_wp2_with fail
      refine (one_any _ _ _ _).mono ?_
      rintro e wd1 ⟨rfl, rfl⟩
      have hbd := (Below.refl wa1.heap.size wa1).alloc (Nat.le_refl _) (.cells #[.string ⟨#[109, 105, 120]⟩, .int .i64 0, .int .i64 3] 104 (0, 0))
      have her3 := her.below hbd; clear her
      have HL := LinksIs.lit (base := wa1.heap.size) (w := wa1) ⟨mixL, 0, 3⟩ (Nat.le_refl _)
      have hc := hcur.trans (hbd.mono hcur.size)
      have hd := hD.below hbd
      have ha := hA.below hbd
      clear hcur hD hA; have hcur := hc; have hD := hd; have hA := ha; clear hc hd ha
      have HF3 := HF ev [⟨mixL, 0, 3⟩] _ _ _ her3 HL hcur (by simp); clear her3 HL
      go_wp2_with fail
      refine HF3.out.mono ?_; clear HF3
      rintro e we1 ⟨rfl, hbe⟩
      have hc := hcur.trans (hbe.mono hcur.size)
      have hd := hD.below hbe
      have ha := hA.below hbe
      clear hcur hD hA; have hcur := hc; have hD := hd; have hA := ha; clear hc hd ha
      go_wp2_with fail
      refine (count_dead _ _ (.inl rfl)).mono ?_
      rintro e wf1 ⟨rfl, rfl⟩
      go_wp2_with fail
      have hcl : wf1.cell? ⟨w5.heap.size + 1, 1, none⟩ = some (.pointer (some ⟨w5.heap.size, 0, none⟩)) := cell_of_block hA 1
      rw [rounds_succ]
      go_wp2_with fail
      clear hcl
      refine (next_dead _ _ hD).mono ?_
      rintro e wa2 ⟨ev, rfl, her, hba⟩
      have hc := hcur.trans (hba.mono hcur.size)
      have hd := hD.below hba
      have ha := hA.below hba
      clear hcur hD hA; have hcur := hc; have hD := hd; have hA := ha; clear hc hd ha
      go_wp2_with fail
      refine (one_any _ _ _ _).mono ?_
      rintro e wd2 ⟨rfl, rfl⟩
      have hbd := (Below.refl wa2.heap.size wa2).alloc (Nat.le_refl _) (.cells #[.string ⟨#[109, 105, 120]⟩, .int .i64 0, .int .i64 3] 104 (0, 0))
      have her3 := her.below hbd; clear her
      have HL := LinksIs.lit (base := wa2.heap.size) (w := wa2) ⟨mixL, 0, 3⟩ (Nat.le_refl _)
      have hc := hcur.trans (hbd.mono hcur.size)
      have hd := hD.below hbd
      have ha := hA.below hbd
      clear hcur hD hA; have hcur := hc; have hD := hd; have hA := ha; clear hc hd ha
      have HF3 := HF ev [⟨mixL, 0, 3⟩] _ _ _ her3 HL hcur (by simp); clear her3 HL
      go_wp2_with fail
      refine HF3.out.mono ?_; clear HF3
      rintro e we2 ⟨rfl, hbe⟩
      have hc := hcur.trans (hbe.mono hcur.size)
      have hd := hD.below hbe
      have ha := hA.below hbe
      clear hcur hD hA; have hcur := hc; have hD := hd; have hA := ha; clear hc hd ha
      go_wp2_with fail
      refine (count_dead _ _ hD).mono ?_
      rintro e wf2 ⟨rfl, rfl⟩
      go_wp2_with fail
      rw [rounds_succ]
      go_wp2_with fail
      refine (HA _ hcur).out.mono ?_
      rintro e w6 ⟨rfl, hb6⟩
      go_wp2
      go_ret
      exact ⟨rfl, hcur.trans (hb6.mono hcur.size)⟩
end Go.Proofs.YtdafikemndaeeaaDoor
