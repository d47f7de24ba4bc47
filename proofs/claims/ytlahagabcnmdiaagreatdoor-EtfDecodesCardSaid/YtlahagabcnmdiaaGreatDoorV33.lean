/- Texts laid together: LtA, LtB, LtC, LtD, LtE, LtF. -/
import Derived.Test.YtlahagabcnmdiaaGreatDoorV31
import Derived.Test.YtlahagabcnmdiaaGreatDoorV32
import Derived.BigQuiet
import Derived.Deep.QuietTactic
import Derived.Test.YtlahagabcnmdiaaGreatDoorV28
section
/- heddlelaw04: two tables that have the same atoms; tables. -/
open Go Go.RowKit
namespace Go.Proofs.YtlahagabcnmdiaaGreatDoor
set_option linter.unusedVariables false
set_option linter.unusedSimpArgs false

theorem refusedE (ev : Value) (l : List Lk) (lv : Value) (base : Nat) (w : World) (her : ErrIs w ev l) (h1 : l.length ≤ 16) (hlk : LinksIs base lv l w) (hE : ErrT w) :
    Calls Tryz.prog 15 #[ev, lv] w fun e w' => e = .returned (.bool true) ∧ Below w.heap.size w w' :=
  (refused_links ev l l lv base w her h1 h1 hlk hE).mono fun e w' h => ⟨by rw [h.1, decide_eq_true rfl], h.2⟩
/-- both tables, apart from one another, above a base -/
def Both (limit : Int) (g h : Nat) (l : List ByteArray) (B : Nat) (w : World) : Prop :=
  ∃ F G, TabIs limit g l F w ∧ RTabIs limit h l G w ∧ (∀ b, F b → ¬ G b) ∧ (∀ b, F b → B ≤ b) ∧ ∀ b, G b → B ≤ b
theorem Both.below {limit : Int} {g h : Nat} {l : List ByteArray} {B : Nat} {w w' : World} (hh : Both limit g h l B w) (hb : Below w.heap.size w w') : Both limit g h l B w' := by
  obtain ⟨F, G, h1, h2, h3, h4, h5⟩ := hh
  exact ⟨F, G, h1.below hb, h2.below hb, h3, h4, h5⟩
theorem tblS_in (l : List ByteArray) (k : Nat) (hk : k < l.length) : tblS l k = (l[k], []) := by unfold tblS; rw [if_neg (by omega)]; simp [hk]
set_option maxHeartbeats 8000000 in
set_option maxRecDepth 100000 in
theorem same_tabs {limit : Int} {g h B : Nat} {l : List ByteArray} {w : World} (hh : Both limit g h l B w) :
    Calls Tryz.prog 23 #[.pointer (some ⟨g, 0, none⟩), .pointer (some ⟨h, 0, none⟩)] w fun e w' => e = .returned (.bool true) ∧ Below w.heap.size w w' := by
  obtain ⟨F, G, h1, h2, -, -, -⟩ := hh
  have HL := Lib.hid (fun n => (len_live (h1.below (below_drewN (Below.refl _ _) n))).mono fun e w' h => (⟨h.1, h.2.symm⟩ : e = .returned (.int .i64 l.length) ∧ w' = w.drewN n))
  have HP := Lib.hid h1
  have HR := Lib.hid h2
  obtain ⟨⟨sv, hC, hS, -, -⟩, ⟨a1, a2, a3⟩, -⟩ := h2
  have t1 := hC.cell 1
  simp only [List.getElem?_cons_zero, List.getElem?_cons_succ] at t1
  have hlt := run_strs_len hS
  have HC := Lib.hid hC
  have HS := Lib.hid hS
  obtain ⟨sa, sc, rfl, -⟩ := hS.get
  have hll : (l.length : Int) ≤ 1048576 := by omega
  have hne : (((l.length : Int) != (l.length : Int)) = false) := by simp
  clear h1 hC hS a1 a2 a3
  go_enter Tryz.func23, Tryz.ntmps23
  go_wp2
  go_quiet ((go_at_call 63; with_reducible refine Calls.quiet_of_same (HL.out _)))
  generalize hW : World.drewN _ _ = w1 at *
  have B1 := Lib.hid (show Below w.heap.size w w1 from by rw [← hW]; exact below_drewN (Below.refl _ _) _)
  clear hW t1
  go_wp2
  go_loopw [5] (fun i wr => ∃ k : Nat, k ≤ l.length ∧ i = .int .i64 k ∧ Below w.heap.size w wr) (fun i _ => l.length - (intOf i).toNat)
  case atStart => exact ⟨0, Nat.zero_le _, rfl, B1.out⟩
  case round =>
    obtain ⟨k, hk, rfl, hbr⟩ := hrel
    have HB := Lib.hid hbr
    have t1 := (HC.out.below hbr).cell 1
    simp only [List.getElem?_cons_zero, List.getElem?_cons_succ] at t1
    clear hbr
    by_cases hlt2 : k < l.length
    · have hki : (k : Int) < (l.length : Int) := by omega
      have hk0 : (0 : Int) ≤ (k : Int) := by omega
      have HTX := text_live (HP.out.below HB.out) (k : Int)
      rw [tblS_in l k hlt2] at HTX
      have HT := Lib.hid HTX
      obtain ⟨a', c', e', hget⟩ := (HS.out.below HB.out).get
      cases e'
      obtain ⟨q, rfl, hx⟩ := hget k hlt2
      have hss : (l[k].toList == l[k].toList) = true := by simp
      generalize l[k] = s at *
      clear hget HTX
      go_wp2_with fail
      refine HT.out.mono ?_
      rintro e w2 ⟨ev, rfl, her, hb⟩
      obtain rfl : ev = .nilIface := her
      have t2 := ((HC.out.below HB.out).below hb).cell 1
      have hx2 := (hb.cell (p := ⟨q, k, none⟩) (World.block_lt_of_cell? _ _ hx)).trans hx
      have B2 := Lib.hid (HB.out.trans (hb.mono HB.out.size))
      simp only [List.getElem?_cons_zero, List.getElem?_cons_succ] at t2
      clear t1 hx hb
      go_wp2
      go_roundw
      case rel => exact ⟨k + 1, by omega, by go_num, B2.out⟩
      case measure => simp [intOf]; omega
    · have hki : ¬ (k : Int) < (l.length : Int) := by omega
      go_wp2
      go_ret
      exact ⟨rfl, HB.out⟩
/-- what tables hands back -/
def TabsR (limit : Int) (l : List ByteArray) (w : World) (e : Ending) (w' : World) : Prop :=
  (e = .returned (.tuple #[.pointer none, .pointer none, .bool true]) ∨ ∃ g h, e = .returned (.tuple #[.pointer (some ⟨g, 0, none⟩), .pointer (some ⟨h, 0, none⟩), .bool true]) ∧ Both limit g h (putAll limit [] l) w.heap.size w') ∧ Below w.heap.size w w'
set_option maxHeartbeats 8000000 in
set_option maxRecDepth 100000 in
theorem tables4_bad (limit : Int) (bv hv : Value) (l : List ByteArray) (w : World) (hl : limit < 0 ∨ 1048576 < limit) :
    Calls Tryz.prog 22 #[.agg #[bv, .int .i64 limit, hv]] w (TabsR limit l w) := by
  have BX := Lib.hid ((Below.refl w.heap.size w).alloc (Nat.le_refl _) (.cells #[bv, .int .i64 limit, hv] 58 (0, 0)))
  have M1 := Lib.hid (show Cells (w.alloc (.cells #[bv, .int .i64 limit, hv] 58 (0, 0))) w.heap.size 58 [bv, .int .i64 limit, hv] from Cells.new w 58 [bv, .int .i64 limit, hv])
  have HN := Lib.hid (fun W => new_bad limit W hl)
  have HR := Lib.hid (fun W => newR_bad limit W hl)
  have hel := run_neqLinks
  clear hl
  go_enter Tryz.func22, Tryz.ntmps22
  go_upto_region 1 with (fail)
  generalize w.alloc (.cells #[bv, .int .i64 limit, hv] 58) = w1 at *
  have m1 := M1.out.cell 1
  simp only [List.getElem?_cons_zero, List.getElem?_cons_succ] at m1
  go_wp2_with fail
  refine (HR.out _).mono ?_
  rintro e w2 ⟨lv, rfl, hlk, hb2⟩
  have m1' := (M1.out.below hb2).cell 1
  simp only [List.getElem?_cons_zero, List.getElem?_cons_succ] at m1'
  have B2 := Lib.hid (BX.out.trans (hb2.mono BX.out.size))
  obtain ⟨s0, n0, c0, rfl⟩ : ∃ g n c, lv = .slice (some ⟨g, 0, none⟩) n c := by
    rcases hlk.shape with ⟨_, e⟩ | ⟨q, c, rfl, _⟩
    · cases e
    · exact ⟨q, _, c, rfl⟩
  clear m1 hlk hb2
  go_wp2_with fail
  refine (HN.out _).mono ?_
  rintro e w3 ⟨ev, rfl, her, hb3⟩
  have B3 := Lib.hid (B2.out.trans (hb3.mono B2.out.size))
  obtain ⟨b, u, rfl, -⟩ := her
  clear m1' hb3
  go_wp2
  go_quiet (fail)
  go_wp2
  refine bodyPost_ret (v := .tuple #[.pointer none, .pointer none, .bool true]) (by simp [results, Tryz.results22, go_sem]) rfl ?_
  exact ⟨.inl rfl, below_drewN B3.out _⟩
set_option maxHeartbeats 16000000 in
set_option maxRecDepth 100000 in
theorem tables4_good (limit : Int) (bv hv : Value) (l : List ByteArray) (w : World) (h0 : 0 ≤ limit) (h1 : limit ≤ 1048576) (hlv : SArgIs hv l w) (hll : l.length ≤ 140737488351232) (hls : ∀ s ∈ l, s.size ≤ 140737488351232) (hG : Gt w) :
    Calls Tryz.prog 22 #[.agg #[bv, .int .i64 limit, hv]] w (TabsR limit l w) := by
  have BX := Lib.hid ((Below.refl w.heap.size w).alloc (Nat.le_refl _) (.cells #[bv, .int .i64 limit, hv] 58 (0, 0)))
  have M1 := Lib.hid (show Cells (w.alloc (.cells #[bv, .int .i64 limit, hv] 58 (0, 0))) w.heap.size 58 [bv, .int .i64 limit, hv] from Cells.new w 58 [bv, .int .i64 limit, hv])
  have HN := Lib.hid (fun W => new_good limit W h0 h1)
  have HR := Lib.hid (fun W => newR_good limit W h0 h1)
  have hel := run_neqLinks
  have HT := Lib.hid (fun w1 (h : Below w.heap.size w w1) => (hG.below h).t)
  have HE := Lib.hid (fun w1 (h : Below w.heap.size w w1) => (hG.below h).e)
  have HLS := Lib.hid hls
  have HW := Lib.hid M1.out.lt
  obtain ⟨A, c, rfl, hcell⟩ := hlv
  have HC := Lib.hid hcell
  have hll1 : (l.length : Int) ≤ 140737488351232 := by omega
  clear hcell hG hls
  go_enter Tryz.func22, Tryz.ntmps22
  go_upto_region 1 with (fail)
  generalize w.alloc (.cells #[bv, .int .i64 limit, .slice A l.length c] 58) = w1 at *
  have m1 := M1.out.cell 1
  simp only [List.getElem?_cons_zero, List.getElem?_cons_succ] at m1
  go_wp2_with fail
  refine (HR.out _).mono ?_
  rintro e w2 ⟨h, rfl, hr2, hb2⟩
  have m1' := (M1.out.below hb2).cell 1
  simp only [List.getElem?_cons_zero, List.getElem?_cons_succ] at m1'
  have B2 := Lib.hid (BX.out.trans (hb2.mono BX.out.size))
  have M2 := Lib.hid (M1.out.below hb2)
  have hw12 := hb2.size
  clear m1 hb2
  go_wp2_with fail
  refine (HN.out _).mono ?_
  rintro e w3 ⟨g, rfl, ht3, hb3⟩
  have B3 := Lib.hid (B2.out.trans (hb3.mono B2.out.size))
  have M3 := Lib.hid (M2.out.below hb3)
  have HBO := Lib.hid (show Both limit g h [] (w.heap.size + 1) w3 from ⟨_, _, ht3, hr2.below hb3, (fun b x y => by omega), (fun b x => by have := HW.out; omega), (fun b x => by have := HW.out; omega)⟩)
  clear m1' hb3 ht3 hr2 hw12
  go_wp2_with fail
  go_loopw [9] (fun i wr => ∃ k : Nat, k ≤ l.length ∧ i = .int .i64 k ∧ Both limit g h (putAll limit [] (l.take k)) (w.heap.size + 1) wr ∧ Below w.heap.size w wr ∧ Cells wr w.heap.size 58 [bv, .int .i64 limit, .slice A l.length c]) (fun i _ => l.length - (intOf i).toNat)
  case atStart => exact ⟨0, Nat.zero_le _, rfl, HBO.out, B3.out, M3.out⟩
  case round =>
    obtain ⟨k, hk, rfl, hbo, hbr, hmr⟩ := hrel
    have HB := Lib.hid hbo
    have HBW := Lib.hid hbr
    have HM := Lib.hid hmr
    have m2 := hmr.cell 2
    simp only [List.getElem?_cons_zero, List.getElem?_cons_succ] at m2
    clear hbo hbr hmr
    by_cases hlt : k < l.length
    · have hki : (k : Int) < (l.length : Int) := by omega
      have hk0 : (0 : Int) ≤ (k : Int) := by omega
      have HNX := Lib.hid (show putAll limit [] (l.take (k + 1)) = (putS limit (putAll limit [] (l.take k)) l[k]).2.2 from by rw [List.take_succ_eq_append_getElem hlt, putAll_snoc])
      obtain ⟨F, G, ht, hr, hfg, hfB, hgB⟩ := HB.out
      obtain ⟨q, o, rfl, hx⟩ := HC.out k hlt
      have hq := World.block_lt_of_cell? w _ hx
      have hx1 := (HBW.out.cell (p := ⟨q, o + k, none⟩) hq).trans hx
      have HX := Lib.hid hx
      have HQ := Lib.hid hq
      have HSZ := Lib.hid (HLS.out _ (List.getElem_mem hlt))
      have HP := Lib.hid (put_live ht l[k] HSZ.out (HT.out _ HBW.out) (HE.out _ HBW.out))
      have HRR := Lib.hid hr
      have HFG := Lib.hid hfg
      have HFB := Lib.hid hfB
      have HGB := Lib.hid hgB
      generalize l[k] = s at *
      generalize putAll limit [] (l.take k) = L at *
      clear hx hq ht hr hfg hfB hgB
      go_wp2_with fail
      refine HP.out.mono ?_
      rintro e w5 ⟨ev5, F5, rfl, -, h5, k5, f5⟩
      have B5 := Lib.hid (below_keep HBW.out k5 HBW.out.size (fun b hb => by have := HFB.out b hb; omega))
      have R5 := Lib.hid (HRR.out.keep k5 (fun b x y => HFG.out b x y))
      have M5 := Lib.hid (HM.out.keep k5 (fun e => by have := HFB.out _ e; omega))
      have H5 := Lib.hid h5
      have F5' := Lib.hid f5
      have W5 := Lib.hid k5.size
      have hx5 := (B5.out.cell (p := ⟨q, o + k, none⟩) HQ.out).trans HX.out
      have m5 := M5.out.cell 2
      have HPR := Lib.hid (putR_live R5.out s HSZ.out)
      simp only [List.getElem?_cons_zero, List.getElem?_cons_succ] at m5
      clear m2 hx1 h5 k5 f5
      go_wp2_with fail
      refine HPR.out.mono ?_
      rintro e w6 ⟨lv6, G6, rfl, -, h6, k6, g6⟩
      have hdj : ∀ b, G b → ¬ F5 b := fun b hg hf => by
        rcases F5'.out b hf with x | x
        · exact HFG.out b x hg
        · have := (HRR.out.nf b hg).1; omega
      have B6 := Lib.hid (below_keep B5.out k6 B5.out.size (fun b hb => by have := HGB.out b hb; omega))
      have M6 := Lib.hid (M5.out.keep k6 (fun e => by have := HGB.out _ e; omega))
      have HB6 := Lib.hid (show Both limit g h (putS limit L s).2.2 (w.heap.size + 1) w6 from ⟨F5, G6, H5.out.keep k6 (fun b x y => hdj b x y), h6, (fun b x y => by
        rcases g6 b y with z | z
        · exact hdj b z x
        · have := (H5.out.nf b x).1; omega), (fun b x => by
        rcases F5'.out b x with z | z
        · exact HFB.out b z
        · have := HM.out.lt; omega), (fun b x => by
        rcases g6 b x with z | z
        · exact HGB.out b z
        · have := M5.out.lt; omega)⟩)
      clear hx5 m5 h6 k6 g6 hdj
      go_wp2
      go_roundw
      case rel => exact ⟨k + 1, by omega, by go_num, by rw [HNX.out]; exact HB6.out, B6.out, M6.out⟩
      case measure => simp [intOf]; omega
    · have hki : ¬ (k : Int) < (l.length : Int) := by omega
      rw [List.take_of_length_le (by omega)] at HB
      have HS := Lib.hid (same_tabs HB.out)
      go_wp2_with fail
      refine HS.out.mono ?_
      rintro e w7 ⟨rfl, hb7⟩
      have B7 := Lib.hid (HBW.out.trans (hb7.mono HBW.out.size))
      have H7 := Lib.hid (HB.out.below hb7)
      clear hb7
      go_wp2
      refine bodyPost_ret (v := .tuple #[.pointer (some ⟨g, 0, none⟩), .pointer (some ⟨h, 0, none⟩), .bool true]) (by simp [results, Tryz.results22, go_sem]) rfl ?_
      obtain ⟨F, G, x1, x2, x3, x4, x5⟩ := H7.out
      exact ⟨.inr ⟨g, h, rfl, F, G, x1, x2, x3, fun b hb => Nat.le_of_succ_le (x4 b hb), fun b hb => Nat.le_of_succ_le (x5 b hb)⟩, B7.out⟩
theorem tables4_any (limit : Int) (bv hv : Value) (l : List ByteArray) (w : World) (hlv : SArgIs hv l w) (hll : l.length ≤ 140737488351232) (hls : ∀ s ∈ l, s.size ≤ 140737488351232) (hG : Gt w) :
    Calls Tryz.prog 22 #[.agg #[bv, .int .i64 limit, hv]] w (TabsR limit l w) := by
  by_cases h : limit < 0 ∨ 1048576 < limit
  · exact tables4_bad limit bv hv l w h
  · exact tables4_good limit bv hv l w (by omega) (by omega) hlv hll hls hG
end Go.Proofs.YtlahagabcnmdiaaGreatDoor
end
section
/- Layer 4: faults are short; what decoding comes to, in one form. No function of the program is looked at here. -/
open Go Go.RowKit
namespace Go.Proofs.YtlahagabcnmdiaaGreatDoor
set_option linter.unusedVariables false
set_option linter.unusedSimpArgs false

def Short {α : Type} (f : Rd → Res α) : Prop := ∀ st k, f st = .bad k → k.length ≤ 2
theorem Short.bind {α β : Type} {f : Rd → Res α} {g : α → Rd → Res β} (hf : Short f) (hg : ∀ x, Short (g x)) : Short fun st => (f st).bind fun x s => g x s := by
  intro st k h
  replace h : (f st).bind (fun x s => g x s) = .bad k := h
  cases hx : f st with
  | bad k2 => rw [hx] at h; injection h with h; rw [← h]; exact hf st k2 hx
  | ok x s1 => rw [hx] at h; exact hg x s1 k h
theorem Short.ok {α : Type} (x : Rd → α) (y : Rd → Rd) : Short fun st => .ok (x st) (y st) := fun st k h => by cases h
theorem Short.one {α : Type} (a : Rd → Lk) : Short fun st => (.bad [a st] : Res α) := fun st k h => by injection h with h; rw [← h]; simp
theorem Short.ite {α : Type} {c : Rd → Prop} [∀ s, Decidable (c s)] {f g : Rd → Res α} (hf : Short f) (hg : Short g) : Short fun st => if c st then f st else g st := fun st k h => by
  by_cases hc : c st
  · simp only [if_pos hc] at h; exact hf _ _ h
  · simp only [if_neg hc] at h; exact hg _ _ h
theorem Short.iteD {α : Type} {c : Prop} [Decidable c] {f g : Rd → Res α} (hf : Short f) (hg : Short g) : Short fun st => if c then f st else g st := Short.ite (c := fun _ => c) hf hg
theorem ofS_len (at_ : Nat) (k : List Lk) : (ofS at_ k).length ≤ k.length + 1 := by cases k <;> simp [ofS]
theorem nodeS_len (s : ByteArray) : (nodeS s).2.2.length ≤ 1 := by unfold nodeS; split <;> simp
theorem short_need (l : List UInt8) (tag n : Nat) : Short (needS l tag n) := by
  unfold needS
  exact Short.ite (c := fun st => 65536 < st.at_ + n) (Short.one fun _ => ⟨etfL, tag, 4⟩) (Short.ite (c := fun st => l.length < st.at_ + n) (Short.one fun _ => ⟨etfL, tag, 82⟩) (Short.ok (fun _ => ()) fun st => ⟨st.at_ + n, st.part, st.atoms⟩))
theorem short_four (l : List UInt8) (tag : Nat) : Short (fourS l tag) := fun st k h => by
  unfold fourS at h
  cases hx : needS l tag 4 st with
  | bad k2 => rw [hx] at h; injection h with h; rw [← h]; exact short_need l tag 4 st k2 hx
  | ok y s1 => rw [hx] at h; cases h
theorem short_txt (l : List UInt8) (tag behind : Nat) (wide : Bool) : Short (txtS l tag wide behind) := fun st k h => by
  unfold txtS at h
  cases hx : needS l tag (if wide then 2 else 1) st with
  | bad k2 => rw [hx] at h; injection h with h; rw [← h]; exact short_need l tag _ st k2 hx
  | ok y s1 =>
    rw [hx] at h
    simp only [Res.bind] at h
    cases hy : needS l tag (numS (cutB l st.at_ (if wide then 2 else 1)) + behind) s1 with
    | bad k2 => rw [hy] at h; injection h with h; rw [← h]; exact short_need l tag _ s1 k2 hy
    | ok z s2 => rw [hy] at h; cases h
theorem short_nam (l : List UInt8) (tag behind : Nat) : Short (namS l tag behind) := fun st k h => by
  unfold namS at h
  cases hx : needS l tag 1 st with
  | bad k2 => rw [hx] at h; injection h with h; rw [← h]; exact short_need l tag 1 st k2 hx
  | ok y s1 =>
    rw [hx] at h
    simp only [Res.bind] at h
    split at h
    · injection h with h; rw [← h]; simp
    · cases hy : txtS l tag (l.getD st.at_ 0 == 118) behind s1 with
      | bad k2 => rw [hy] at h; injection h with h; rw [← h]; exact short_txt l tag behind _ s1 k2 hy
      | ok z s2 =>
        rw [hy] at h
        simp only at h
        split at h
        · injection h with h
          rw [← h]
          have h1 := ofS_len tag (nodeS z).2.2
          have h2 := nodeS_len z
          omega
        · cases h
theorem short_nums (l : List UInt8) (tag : Nat) : ∀ n, Short (numsS l tag n)
  | 0 => fun st k h => by unfold numsS at h; cases h
  | n + 1 => fun st k h => by
    unfold numsS at h
    exact (Short.bind (short_four l tag) fun x => Short.bind (short_nums l tag n) fun r => Short.ok (fun _ => ((x : Int) :: r)) fun st => st) st k h
theorem short_row {rd : Rd → Res Tm} (hr : Short rd) : ∀ n, Short (rowS rd n)
  | 0 => fun st k h => by unfold rowS at h; cases h
  | n + 1 => fun st k h => by
    unfold rowS at h
    exact (Short.bind hr fun x => Short.bind (short_row hr n) fun r => Short.ok (fun _ => (x :: r)) fun st => st) st k h
theorem short_count (l : List UInt8) (tag : Nat) (k0 : UInt8) : Short (countS l tag k0) := fun st k h => by
  unfold countS at h
  split at h
  · cases hx : needS l tag 1 st with
    | bad k2 => rw [hx] at h; injection h with h; rw [← h]; exact short_need l tag 1 st k2 hx
    | ok y s1 => rw [hx] at h; cases h
  · exact (Short.bind (short_four l tag) fun n => Short.iteD (c := k0 = 108 ∧ n = 0) (Short.one fun _ => ⟨etfL, tag, 84⟩) (Short.ok (fun _ => n) fun st => st)) st k h
theorem short_far (l : List UInt8) (tag : Nat) (k0 : UInt8) : Short (farS l tag k0) := fun st k h => by
  unfold farS at h
  split at h
  · unfold pidS at h
    exact (Short.bind (short_nam l tag 12) fun s => Short.bind (short_four l tag) fun a => Short.bind (short_four l tag) fun b => Short.bind (short_four l tag) fun c => Short.ok (fun _ => (.mk 4 0 s c [(a : Int), (b : Int)] [] : Tm)) fun st => st) st k h
  · unfold refS at h
    cases hx : needS l tag 2 st with
    | bad k2 => rw [hx] at h; injection h with h; rw [← h]; exact short_need l tag 2 st k2 hx
    | ok y s1 =>
      rw [hx] at h
      simp only [Res.bind] at h
      split at h
      · injection h with h; rw [← h]; simp
      · exact (Short.bind (short_nam l tag 16) fun s => Short.bind (short_four l tag) fun c => Short.bind (short_nums l tag 3) fun ns => Short.ok (fun _ => (.mk 3 0 s c ns [] : Tm)) fun st => st) s1 k h
theorem short_body (l : List UInt8) {rd : Rd → Res Tm} (hr : Short rd) (tag : Nat) (k0 : UInt8) : Short (bodyS l rd tag k0) := fun st k h => by
  unfold bodyS at h
  split at h
  · cases hx : needS l tag 1 st with
    | bad k2 => rw [hx] at h; injection h with h; rw [← h]; exact short_need l tag 1 st k2 hx
    | ok y s1 => rw [hx] at h; cases h
  · split at h
    · exact (Short.bind (short_four l tag) fun n => Short.ok (fun _ => (.mk 1 (sInt n) ⟨#[]⟩ 0 [] [] : Tm)) fun st => st) st k h
    · split at h
      · cases hy : txtS l tag (k0 == 118) 0 st with
        | bad k2 => rw [hy] at h; injection h with h; rw [← h]; exact short_txt l tag 0 _ st k2 hy
        | ok z s2 =>
          rw [hy] at h
          simp only [Res.bind] at h
          split at h
          · injection h with h
            rw [← h]
            have h1 := ofS_len tag (quoteS z).2
            have h2 := quoteS_len z
            omega
          · cases h
      · split at h
        · exact (Short.bind (short_count l tag k0) fun n => Short.bind (short_row hr n) fun r => Short.ok (fun _ => (.mk 5 0 ⟨#[]⟩ 0 [] r : Tm)) fun st => st) st k h
        · split at h
          · cases h
          · split at h
            · exact (Short.bind (short_count l tag k0) fun n => Short.bind (short_row hr n) fun r => Short.bind hr fun t => Short.ok (fun _ => joinS r t) fun st => st) st k h
            · exact short_far l tag k0 st k h
theorem short_term (l : List UInt8) : ∀ f, Short (termS l f)
  | 0 => fun st k h => by unfold termS at h; split at h <;> (injection h with h; rw [← h]; simp)
  | f + 1 => fun st k h => by
    rw [termS] at h
    split at h
    · injection h with h; rw [← h]; simp
    · split at h
      · injection h with h; rw [← h]; simp
      · split at h
        · injection h with h; rw [← h]; simp
        · exact (Short.bind (short_need l st.at_ 1) fun _ => short_body l (short_term l f) st.at_ (l.getD st.at_ 0)) ⟨st.at_, st.part + 1, st.atoms⟩ k h
theorem read_short {l : List UInt8} {k : List Lk} (h : readS l = .bad k) : k.length ≤ 2 := by
  unfold readS at h
  split at h
  · exact short_term l 256 _ k h
  · injection h with h; rw [← h]; simp
theorem decP_short {l : List UInt8} {tb : Option (Int × List ByteArray)} {k : List Lk} (h : (decP (readS l) tb).1 = .bad k) : k.length ≤ 2 := by
  cases hr : readS l with
  | bad k2 => rw [hr] at h; injection h with h; rw [← h]; exact read_short hr
  | ok t st =>
    rw [hr] at h
    unfold decP at h
    cases tb with
    | none => cases h
    | some p =>
      simp only at h
      split at h
      · injection h with h; rw [← h]; simp
      · cases h
theorem whoP_short {l : List UInt8} {n : Nat} {tb : Option (Int × List ByteArray)} {k : List Lk} (h : (whoP n (decP (readS l) tb)).1 = .bad k) : k.length ≤ 2 := by
  unfold whoP at h
  cases hr : (decP (readS l) tb).1 with
  | bad k2 => rw [hr] at h; injection h with h; rw [← h]; exact decP_short hr
  | ok t st =>
    rw [hr] at h
    simp only at h
    split at h
    · injection h with h; rw [← h]; simp
    · rw [hr] at h; cases h
def tmOf : Res Tm → Tm
  | .ok t _ => t
  | .bad _ => zeroT
def atOf : Res Tm → Nat
  | .ok _ st => st.at_
  | .bad _ => 0
def kOf : Res Tm → List Lk
  | .ok _ _ => []
  | .bad k => k
theorem kOf_len {r : Res Tm} (h : ∀ k, r = .bad k → k.length ≤ 2) : (kOf r).length ≤ 16 := by
  cases r with
  | ok t st => exact Nat.zero_le _
  | bad k => have := h k rfl; show k.length ≤ 16; omega
theorem docP_all {w w' : World} {r : Res Tm} {e : Ending} (h : DocP w r e w') : ∃ vs ev, e = .returned (.tuple #[.agg vs.toArray, .int .i64 (atOf r), ev]) ∧ TmAt (fun q => w.heap.size ≤ q) (tmOf r) vs w' ∧ ErrIs w' ev (kOf r) := by
  cases r with
  | ok t st => obtain ⟨vs, rfl, ht⟩ := h; exact ⟨vs, .nilIface, rfl, ht, rfl⟩
  | bad k => obtain ⟨b, rfl, he, _⟩ := h; exact ⟨termZ, _, rfl, zeroT_at _ _, he⟩
theorem docR_all {w w' : World} {r : Res Tm} {e : Ending} (h : DocR w r e w') : ∃ vs lv, e = .returned (.tuple #[.agg vs.toArray, .int .i64 (atOf r), lv]) ∧ TmAt (fun q => w.heap.size ≤ q) (tmOf r) vs w' ∧ LinksIs w.heap.size lv (kOf r) w' := by
  cases r with
  | ok t st => obtain ⟨vs, rfl, ht⟩ := h; exact ⟨vs, _, rfl, ht, LinksIs.nil _ _⟩
  | bad k => obtain ⟨lv, rfl, he, _⟩ := h; exact ⟨termZ, lv, rfl, zeroT_at _ _, he⟩
theorem whoP_all {w w' : World} {r : Res Tm} {e : Ending} (h : WhoP w r e w') : ∃ vs ev, e = .returned (.tuple #[.agg vs.toArray, ev]) ∧ TmAt (fun q => w.heap.size ≤ q) (tmOf r) vs w' ∧ ErrIs w' ev (kOf r) := by
  cases r with
  | ok t st => obtain ⟨vs, rfl, ht⟩ := h; exact ⟨vs, .nilIface, rfl, ht, rfl⟩
  | bad k => obtain ⟨b, rfl, he, _⟩ := h; exact ⟨termZ, _, rfl, zeroT_at _ _, he⟩
theorem whoR_all {w w' : World} {r : Res Tm} {e : Ending} (h : WhoR w r e w') : ∃ vs lv, e = .returned (.tuple #[.agg vs.toArray, lv]) ∧ TmAt (fun q => w.heap.size ≤ q) (tmOf r) vs w' ∧ LinksIs w.heap.size lv (kOf r) w' := by
  cases r with
  | ok t st => obtain ⟨vs, rfl, ht⟩ := h; exact ⟨vs, _, rfl, ht, LinksIs.nil _ _⟩
  | bad k => obtain ⟨lv, rfl, he, _⟩ := h; exact ⟨termZ, lv, rfl, zeroT_at _ _, he⟩
theorem decR_docP {w w' : World} {r : Res Tm} {e : Ending} (h : DecR w r e w') : DocP w r e w' ∧ Below w.heap.size w w' := by
  cases r with
  | ok t st => obtain ⟨vs, h1, h2, h3⟩ := h; exact ⟨⟨vs, h1, h2⟩, h3⟩
  | bad k => obtain ⟨b, h1, h2, h3, h4⟩ := h; exact ⟨⟨b, h1, h2, h3⟩, h4⟩
theorem wholeR_whoP {w w' : World} {r : Res Tm} {e : Ending} (h : WholeR w r e w') : WhoP w r e w' ∧ Below w.heap.size w w' := by
  cases r with
  | ok t st => obtain ⟨vs, h1, h2, h3⟩ := h; exact ⟨⟨vs, h1, h2⟩, h3⟩
  | bad k => obtain ⟨b, h1, h2, h3, h4⟩ := h; exact ⟨⟨b, h1, h2, h3⟩, h4⟩
theorem wholeS_whoP (l : List UInt8) : (whoP l.length (readS l, [])).1 = wholeS l := by
  unfold whoP wholeS
  cases readS l with
  | ok t st => dsimp only; split <;> rfl
  | bad k => rfl
end Go.Proofs.YtlahagabcnmdiaaGreatDoor
end
section
/- heddlelaw04: what Decode and Whole come to, in one form. Printed by wip/ltc.py. -/
open Go Go.RowKit
namespace Go.Proofs.YtlahagabcnmdiaaGreatDoor
set_option linter.unusedVariables false
set_option linter.unusedSimpArgs false

theorem decode_nil4 (l : List UInt8) (v : Value) (w : World) (hv : RSl v l w) (hG : Gt w) : Calls Tryz.prog 19 #[v, .pointer none] w fun e w' => ∃ vs ev, e = .returned (.tuple #[.agg vs.toArray, .int .i64 (atOf (readS l)), ev]) ∧ TmAt (fun q => w.heap.size ≤ q) (tmOf (readS l)) vs w' ∧ ErrIs w' ev (kOf (readS l)) ∧ Below w.heap.size w w' :=
  (decode_nil l v w hv hG).mono fun e w' h => by
    obtain ⟨h1, h2⟩ := decR_docP h
    obtain ⟨vs, ev, a, b, c⟩ := docP_all h1
    exact ⟨vs, ev, a, b, c, h2⟩
theorem docR_nil4 (l : List UInt8) (v : Value) (w : World) (hv : RSl v l w) : Calls Tryz.prog 20 #[v, .pointer none] w fun e w' => ∃ vs lv, e = .returned (.tuple #[.agg vs.toArray, .int .i64 (atOf (readS l)), lv]) ∧ TmAt (fun q => w.heap.size ≤ q) (tmOf (readS l)) vs w' ∧ LinksIs w.heap.size lv (kOf (readS l)) w' ∧ Below w.heap.size w w' :=
  (docR_nil l v w hv).mono fun e w' h => by
    obtain ⟨vs, ev, a, b, c⟩ := docR_all h.1
    exact ⟨vs, ev, a, b, c, h.2⟩
theorem decode_tab4 {limit : Int} {gt : Nat} {tl : List ByteArray} {F : Nat → Prop} {w0 : World} (l : List UInt8) (v : Value) (w : World) (hv : RSl v l w) (hG : Gt w) (htb : TabIs limit gt tl F w) (hw : Below w0.heap.size w0 w) (hF : ∀ b, F b → w0.heap.size ≤ b) (hG0 : Gt w0) :
    Calls Tryz.prog 19 #[v, .pointer (some ⟨gt, 0, none⟩)] w fun e w' => ∃ vs ev, e = .returned (.tuple #[.agg vs.toArray, .int .i64 (atOf (decP (readS l) (some (limit, tl))).1), ev]) ∧ TmAt (fun q => w.heap.size ≤ q) (tmOf (decP (readS l) (some (limit, tl))).1) vs w' ∧ ErrIs w' ev (kOf (decP (readS l) (some (limit, tl))).1) ∧ PutP limit gt (putAll limit tl (decP (readS l) (some (limit, tl))).2) F w w' :=
  (decode_tab l v w hv hG htb hw hF hG0).mono fun e w' h => by
    obtain ⟨vs, ev, a, b, c⟩ := docP_all h.1
    exact ⟨vs, ev, a, b, c, h.2⟩
theorem docR_tab4 {limit : Int} {gt : Nat} {tl : List ByteArray} {F : Nat → Prop} (l : List UInt8) (v : Value) (w : World) (hv : RSl v l w) (htb : RTabIs limit gt tl F w) :
    Calls Tryz.prog 20 #[v, .pointer (some ⟨gt, 0, none⟩)] w fun e w' => ∃ vs lv, e = .returned (.tuple #[.agg vs.toArray, .int .i64 (atOf (decP (readS l) (some (limit, tl))).1), lv]) ∧ TmAt (fun q => w.heap.size ≤ q) (tmOf (decP (readS l) (some (limit, tl))).1) vs w' ∧ LinksIs w.heap.size lv (kOf (decP (readS l) (some (limit, tl))).1) w' ∧ PutT limit gt (putAll limit tl (decP (readS l) (some (limit, tl))).2) F w w' :=
  (docR_tab l v w hv htb).mono fun e w' h => by
    obtain ⟨vs, ev, a, b, c⟩ := docR_all h.1
    exact ⟨vs, ev, a, b, c, h.2⟩
end Go.Proofs.YtlahagabcnmdiaaGreatDoor
end
section
/- heddlelaw04: EtfDecodes. Printed by wip/ltc.py. -/
open Go Go.RowKit
namespace Go.Proofs.YtlahagabcnmdiaaGreatDoor
set_option linter.unusedVariables false
set_option linter.unusedSimpArgs false

set_option maxHeartbeats 32000000 in
set_option maxRecDepth 100000 in
theorem etfDecodes_any (bl : List UInt8) (bv : Value) (limit : Int) (sl : List ByteArray) (hv : Value) (w : World) (hrb : RSl bv bl w) (hs : SArgIs hv sl w) (hll : sl.length ≤ 140737488351232) (hls : ∀ s ∈ sl, s.size ≤ 140737488351232) (hG : Gt w) :
    Calls Tryz.prog 6 #[.agg #[bv, .int .i64 limit, hv]] w fun e w' => e = .returned (.bool true) ∧ Below w.heap.size w w' := by
  have HV := Lib.hid hrb
  have HG := Lib.hid hG
  have HS := Lib.hid hs
  have HLL := Lib.hid hll
  have HLS := Lib.hid hls
  have B1 := Lib.hid ((Below.refl w.heap.size w).alloc (Nat.le_refl _) (.cells #[bv, .int .i64 limit, hv] 58 (0, 0)))
  have M1 := Lib.hid (show Cells (w.alloc (.cells #[bv, .int .i64 limit, hv] 58 (0, 0))) w.heap.size 58 [bv, .int .i64 limit, hv] from Cells.new w 58 [bv, .int .i64 limit, hv])
  have HAW := Lib.hid (fun W h => awake_any W h)
  have HD1 := Lib.hid (fun W h g => decode_nil4 bl bv W h g)
  have HD2 := Lib.hid (fun W h => docR_nil4 bl bv W h)
  have HK1 := Lib.hid (show (kOf (readS bl)).length ≤ 16 from kOf_len (fun k h => read_short h))
  generalize tmOf (readS bl) = t1 at *
  generalize atOf (readS bl) = n1 at *
  have hnn : (((n1 : Int) != (n1 : Int)) = false) := by simp
  generalize kOf (readS bl) = k1 at *
  clear hrb hG hs hll hls
  go_enter Tryz.func6, Tryz.ntmps6
  go_upto_region 1 with (fail)
  generalize w.alloc (.cells #[bv, .int .i64 limit, hv] 58) = w1 at *
  have c0 := M1.out.cell 0
  simp only [List.getElem?_cons_zero, List.getElem?_cons_succ] at c0
  have HX := Lib.hid (HD1.out _ (HV.out.below B1.out) (HG.out.below B1.out))
  go_wp2_with fail
  refine HX.out.mono ?_
  rintro e w2 ⟨vs, ev1, rfl, ht, he, hb⟩
  obtain ⟨na1, nc1, a1, cap1, rfl⟩ := ht.nums5
  have B2 := Lib.hid (B1.out.trans (hb.mono B1.out.size))
  have BT := Lib.hid ((Below.refl w2.heap.size w2).alloc (Nat.le_refl _) (.cells #[.int .i64 t1.kind, .int .i64 t1.int, .string t1.text, .int .u32 t1.cr, .slice na1 t1.nums.length nc1, .slice a1 t1.args.length cap1] 35 (0, 0)))
  have A3 := Lib.hid (Cells.new w2 35 [.int .i64 t1.kind, .int .i64 t1.int, .string t1.text, .int .u32 t1.cr, .slice na1 t1.nums.length nc1, .slice a1 t1.args.length cap1])
  have B3 := Lib.hid (B2.out.trans (BT.out.mono B2.out.size))
  have M3 := Lib.hid ((M1.out.below hb).below BT.out)
  have T3 := Lib.hid (ht.below BT.out)
  have SZ2 := Lib.hid (M1.out.below hb).lt
  have E3 := Lib.hid (he.below BT.out)
  clear c0 hb ht he HX M1 HD1
  go_upto_region 2 with (fail)
  generalize w2.alloc (.cells #[.int .i64 t1.kind, .int .i64 t1.int, .string t1.text, .int .u32 t1.cr, .slice na1 t1.nums.length nc1, .slice a1 t1.args.length cap1] 35) = w3 at *
  have c0 := M3.out.cell 0
  simp only [List.getElem?_cons_zero, List.getElem?_cons_succ] at c0
  have HX := Lib.hid (HD2.out _ (HV.out.below B3.out))
  have SZ3 := Lib.hid A3.out.lt
  go_wp2_with fail
  refine HX.out.mono ?_
  rintro e w4 ⟨vs, lv1, rfl, ht, hl, hb⟩
  obtain ⟨na2, nc2, a2, cap2, rfl⟩ := ht.nums5
  have B4 := Lib.hid (B3.out.trans (hb.mono B3.out.size))
  have BU := Lib.hid ((Below.refl w4.heap.size w4).alloc (Nat.le_refl _) (.cells #[.int .i64 t1.kind, .int .i64 t1.int, .string t1.text, .int .u32 t1.cr, .slice na2 t1.nums.length nc2, .slice a2 t1.args.length cap2] 35 (0, 0)))
  have C5 := Lib.hid (Cells.new w4 35 [.int .i64 t1.kind, .int .i64 t1.int, .string t1.text, .int .u32 t1.cr, .slice na2 t1.nums.length nc2, .slice a2 t1.args.length cap2])
  have B5 := Lib.hid (B4.out.trans (BU.out.mono B4.out.size))
  have M5 := Lib.hid ((M3.out.below hb).below BU.out)
  have A5 := Lib.hid ((A3.out.below hb).below BU.out)
  have T5 := Lib.hid ((T3.out.below hb).below BU.out)
  have U5 := Lib.hid (ht.below BU.out)
  have E5 := Lib.hid ((E3.out.below hb).below BU.out)
  have L5 := Lib.hid (hl.below BU.out (Nat.le_refl _))
  have SZ4 := Lib.hid hb.size
  clear c0 hb ht hl HX M3 A3 T3 E3 HD2
  go_upto_region 3 with (fail)
  generalize w4.alloc (.cells #[.int .i64 t1.kind, .int .i64 t1.int, .string t1.text, .int .u32 t1.cr, .slice na2 t1.nums.length nc2, .slice a2 t1.args.length cap2] 35) = w5 at *
  have x0 := A5.out.cell 0
  have x1 := A5.out.cell 1
  have x2 := A5.out.cell 2
  have x3 := A5.out.cell 3
  have x4 := A5.out.cell 4
  have x5 := A5.out.cell 5
  simp only [List.getElem?_cons_zero, List.getElem?_cons_succ] at x0 x1 x2 x3 x4 x5
  have y0 := C5.out.cell 0
  have y1 := C5.out.cell 1
  have y2 := C5.out.cell 2
  have y3 := C5.out.cell 3
  have y4 := C5.out.cell 4
  have y5 := C5.out.cell 5
  simp only [List.getElem?_cons_zero, List.getElem?_cons_succ] at y0 y1 y2 y3 y4 y5
  have HSM := Lib.hid (sameTm_any _ _ t1 _ _ _ T5.out U5.out)
  go_wp2_with fail
  clear x0 x1 x2 x3 x4 x5 y0 y1 y2 y3 y4 y5
  refine HSM.out.mono ?_
  rintro e w6 ⟨rfl, hb⟩
  have B6 := Lib.hid (B5.out.trans (hb.mono B5.out.size))
  have M6 := Lib.hid (M5.out.below hb)
  have A6 := Lib.hid (A5.out.below hb)
  have C6 := Lib.hid (C5.out.below hb)
  have HRF := Lib.hid (refusedE _ _ _ _ _ (E5.out.below hb) HK1.out (L5.out.below hb (Nat.le_refl _)) (HG.out.below B6.out).e)
  clear hb HSM M5 A5 C5 T5 U5 E5 L5
  go_wp2_with fail
  refine HRF.out.mono ?_
  rintro e w7 ⟨rfl, hb⟩
  have B7 := Lib.hid (B6.out.trans (hb.mono B6.out.size))
  have M7 := Lib.hid (M6.out.below hb)
  have A7 := Lib.hid (A6.out.below hb)
  have C7 := Lib.hid (C6.out.below hb)
  clear hb HRF M6 A6 C6
  go_wp2_with fail
  refine (HAW.out _ (HG.out.below B7.out)).mono ?_
  rintro e w8 ⟨rfl, hb⟩
  have B8 := Lib.hid (B7.out.trans (hb.mono B7.out.size))
  have M8 := Lib.hid (M7.out.below hb)
  have A8 := Lib.hid (A7.out.below hb)
  have C8 := Lib.hid (C7.out.below hb)
  clear hb M7 A7 C7
  have c0 := M8.out.cell 0
  have c1 := M8.out.cell 1
  have c2 := M8.out.cell 2
  simp only [List.getElem?_cons_zero, List.getElem?_cons_succ] at c0 c1 c2
  have HTB := Lib.hid (tables4_any limit bv hv sl w8 (HS.out.below B8.out) HLL.out HLS.out (HG.out.below B8.out))
  go_wp2_with fail
  clear c0 c1 c2
  refine HTB.out.mono ?_
  rintro e w9 ⟨htr, hb⟩
  have B9 := Lib.hid (B8.out.trans (hb.mono B8.out.size))
  rcases htr with rfl | ⟨g, h, rfl, hbo⟩
  · go_wp2
    go_ret
    exact ⟨rfl, B9.out⟩
  · generalize putAll limit [] sl = L at *
    obtain ⟨F, G, htab, hrt, hfg, hfB, hgB⟩ := hbo
    have HX := Lib.hid (decode_tab4 (w0 := w8) bl bv w9 (HV.out.below B9.out) (HG.out.below B9.out) htab hb hfB (HG.out.below B8.out))
    have HK2 := Lib.hid (show (kOf (decP (readS bl) (some (limit, L))).1).length ≤ 16 from kOf_len (fun k h => decP_short h))
    have HY := Lib.hid (fun W a b => docR_tab4 (limit := limit) (gt := h) (tl := L) (F := G) bl bv W a b)
    generalize tmOf (decP (readS bl) (some (limit, L))).1 = t2 at *
    generalize atOf (decP (readS bl) (some (limit, L))).1 = n2 at *
    have hn2 : (((n2 : Int) == (n2 : Int)) = true) := by simp
    generalize kOf (decP (readS bl) (some (limit, L))).1 = k2 at *
    generalize putAll limit L (decP (readS bl) (some (limit, L))).2 = L2 at *
    have HRT := Lib.hid hrt
    have HFG := Lib.hid hfg
    have HFB := Lib.hid hfB
    have HGB := Lib.hid hgB
    have HB9 := Lib.hid hb
    have SZ9 := Lib.hid (show w2.heap.size < w8.heap.size ∧ w4.heap.size < w8.heap.size ∧ w.heap.size ≤ w8.heap.size ∧ w8.heap.size ≤ w9.heap.size ∧ w2.heap.size < w4.heap.size from ⟨A8.out.lt, C8.out.lt, B8.out.size, hb.size, by have := SZ3.out; have := SZ4.out; omega⟩)
    have c0 := (M8.out.below hb).cell 0
    simp only [List.getElem?_cons_zero, List.getElem?_cons_succ] at c0
    clear htab hrt hfg hfB hgB hb
    go_wp2_with fail
    clear c0
    refine HX.out.mono ?_
    rintro e w10 ⟨vs, ev2, rfl, ht, he, F2, htb2, hk2, hf2⟩
    obtain ⟨na3, nc3, a3, cap3, rfl⟩ := ht.nums5
    have B10 := Lib.hid (below_keep HB9.out hk2 HB9.out.size HFB.out)
    have A10 := Lib.hid (A8.out.below B10.out)
    have C10 := Lib.hid (C8.out.below B10.out)
    have M10 := Lib.hid (M8.out.below B10.out)
    have RT10 := Lib.hid (HRT.out.keep hk2 (fun b x y => HFG.out b x y))
    have T10 := Lib.hid ht
    have E10 := Lib.hid he
    have TB10 := Lib.hid htb2
    have F10 := Lib.hid hf2
    have BW10 := Lib.hid (B8.out.trans (B10.out.mono B8.out.size))
    have SZ10 := Lib.hid hk2.size
    clear ht he htb2 hk2 hf2 HX A8 C8 M8
    go_wp2_with (refine wpList_store_blk rfl _ (.tmp 3) (.tmp 63) rfl w2.heap.size 0 [.int .i64 t2.kind, .int .i64 t2.int, .string t2.text, .int .u32 t2.cr, .slice na3 t2.nums.length nc3, .slice a3 t2.args.length cap3] (by rfl) (by rfl) (by kernel_rfl) (by simp [Value.oneCell']) 35 _ A10.out (by show 0 + 6 ≤ 6; decide) ?_; intro w11 hCz hgz; refine stop ?_)
    refine Stopped.of ?_
    have A11 := Lib.hid (show Cells w11 w2.heap.size 35 [.int .i64 t2.kind, .int .i64 t2.int, .string t2.text, .int .u32 t2.cr, .slice na3 t2.nums.length nc3, .slice a3 t2.args.length cap3] from hCz)
    have KA := Lib.hid (show Keep (fun q => q = w2.heap.size) w10 w11 from (Keep.refl _ _).grown hgz (fun k hk _ => by cases hk; rfl))
    clear hCz hgz
    have C11 := Lib.hid (C10.out.keep KA.out (show w4.heap.size ≠ w2.heap.size by have := SZ9.out; omega))
    have M11 := Lib.hid (M10.out.keep KA.out (show w.heap.size ≠ w2.heap.size by have := SZ2.out; omega))
    have T11 := Lib.hid (T10.out.keep KA.out (fun q _ hq (e : q = w2.heap.size) => by have := SZ9.out; omega))
    have E11 := Lib.hid (E10.out.keepT KA.out (fun q (hq : q = w2.heap.size) => by rw [hq]; exact ⟨_, _, A10.out, by decide⟩))
    have TB11 := Lib.hid (TB10.out.keep KA.out (fun b (e : b = w2.heap.size) hF => (F10.out b hF).elim (fun x => by have := HFB.out b x; have := SZ9.out; omega) (fun x => by have := SZ9.out; omega)))
    have RT11 := Lib.hid (RT10.out.keep KA.out (fun b (e : b = w2.heap.size) x => by have := HGB.out b x; have := SZ9.out; omega))
    have B11 := Lib.hid (BW10.out.trans (KA.out.toBelow BW10.out.size (fun q (hq : q = w2.heap.size) => by have := SZ2.out; omega)))
    have SZ11 := Lib.hid KA.out.size
    have HGS := Lib.hid (show ∀ b, G b → b < w9.heap.size from fun b hb => (HRT.out.nf b hb).1)
    have HFS := Lib.hid (show ∀ b, F2 b → b < w11.heap.size from fun b hb => (TB11.out.nf b hb).1)
    have HZ := Lib.hid (HY.out w11 (HV.out.below B11.out) RT11.out)
    have c0 := M11.out.cell 0
    simp only [List.getElem?_cons_zero, List.getElem?_cons_succ] at c0
    clear A10 C10 M10 T10 E10 TB10 RT10 KA
    go_wp2_with fail
    clear c0
    refine HZ.out.mono ?_
    rintro e w12 ⟨vs, lv2, rfl, ht, hl, G2, hrt2, hk2, hg2⟩
    obtain ⟨na4, nc4, a4, cap4, rfl⟩ := ht.nums5
    have B12 := Lib.hid (below_keep B11.out hk2 B11.out.size (fun b hb => by have := HGB.out b hb; have := SZ9.out; omega))
    have A12 := Lib.hid (A11.out.keep hk2 (fun e => by have := HGB.out _ e; have := SZ9.out; omega))
    have C12 := Lib.hid (C11.out.keep hk2 (fun e => by have := HGB.out _ e; have := SZ9.out; omega))
    have T12 := Lib.hid (T11.out.keep hk2 (fun q _ hq e => by have := HGS.out _ e; omega))
    have E12 := Lib.hid (E11.out.keep hk2 (fun b hb => (RT11.out.nf b hb).2))
    have TB12 := Lib.hid (TB11.out.keep hk2 (fun b x y => (F10.out b y).elim (fun z => HFG.out b z x) (fun z => by have := HGS.out b x; omega)))
    have U12 := Lib.hid ht
    have L12 := Lib.hid hl
    have RT12 := Lib.hid hrt2
    have G12 := Lib.hid hg2
    clear ht hl hrt2 hk2 hg2 HZ A11 C11 M11 T11 E11
    go_wp2_with (refine wpList_store_blk rfl _ (.tmp 6) (.tmp 71) rfl w4.heap.size 0 [.int .i64 t2.kind, .int .i64 t2.int, .string t2.text, .int .u32 t2.cr, .slice na4 t2.nums.length nc4, .slice a4 t2.args.length cap4] (by rfl) (by rfl) (by kernel_rfl) (by simp [Value.oneCell']) 35 _ C12.out (by show 0 + 6 ≤ 6; decide) ?_; intro w13 hCz hgz; refine stop ?_)
    refine Stopped.of ?_
    have C13 := Lib.hid (show Cells w13 w4.heap.size 35 [.int .i64 t2.kind, .int .i64 t2.int, .string t2.text, .int .u32 t2.cr, .slice na4 t2.nums.length nc4, .slice a4 t2.args.length cap4] from hCz)
    have KC := Lib.hid (show Keep (fun q => q = w4.heap.size) w12 w13 from (Keep.refl _ _).grown hgz (fun k hk _ => by cases hk; rfl))
    clear hCz hgz
    have A13 := Lib.hid (A12.out.keep KC.out (show w2.heap.size ≠ w4.heap.size by have := SZ9.out; omega))
    have T13 := Lib.hid (T12.out.keep KC.out (fun q _ hq (e : q = w4.heap.size) => by have := SZ9.out; omega))
    have U13 := Lib.hid (U12.out.keep KC.out (fun q _ hq (e : q = w4.heap.size) => by have := SZ9.out; have := SZ10.out; have := SZ11.out; omega))
    have E13 := Lib.hid (E12.out.keepT KC.out (fun q (hq : q = w4.heap.size) => by rw [hq]; exact ⟨_, _, C12.out, by decide⟩))
    have L13 := Lib.hid (L12.out.frame (fun q hq => KC.out.block q (L12.out.block hq).2 (fun e => by have := (L12.out.block hq).1; have := SZ9.out; have := SZ10.out; have := SZ11.out; omega)))
    have TB13 := Lib.hid (TB12.out.keep KC.out (fun b (e : b = w4.heap.size) hF => (F10.out b hF).elim (fun x => by have := HFB.out b x; have := SZ9.out; omega) (fun x => by have := SZ9.out; omega)))
    have RT13 := Lib.hid (RT12.out.keep KC.out (fun b (e : b = w4.heap.size) x => (G12.out b x).elim (fun y => by have := HGB.out b y; have := SZ9.out; omega) (fun y => by have := SZ9.out; have := SZ10.out; have := SZ11.out; omega)))
    have BO13 := Lib.hid (show Both limit g h L2 0 w13 from ⟨F2, G2, TB13.out, RT13.out, (fun b x y => (G12.out b y).elim (fun z => (F10.out b x).elim (fun u => HFG.out b u z) (fun u => by have := HGS.out b z; omega)) (fun z => by have := HFS.out b x; omega)), fun b _ => Nat.zero_le b, fun b _ => Nat.zero_le b⟩)
    have B13 := Lib.hid (B12.out.trans (KC.out.toBelow B12.out.size (fun q (hq : q = w4.heap.size) => by have := SZ9.out; have := SZ2.out; omega)))
    clear A12 C12 T12 U12 E12 L12 TB12 RT12 KC TB11 RT11
    have x0 := A13.out.cell 0
    have x1 := A13.out.cell 1
    have x2 := A13.out.cell 2
    have x3 := A13.out.cell 3
    have x4 := A13.out.cell 4
    have x5 := A13.out.cell 5
    simp only [List.getElem?_cons_zero, List.getElem?_cons_succ] at x0 x1 x2 x3 x4 x5
    have y0 := C13.out.cell 0
    have y1 := C13.out.cell 1
    have y2 := C13.out.cell 2
    have y3 := C13.out.cell 3
    have y4 := C13.out.cell 4
    have y5 := C13.out.cell 5
    simp only [List.getElem?_cons_zero, List.getElem?_cons_succ] at y0 y1 y2 y3 y4 y5
    have HSM := Lib.hid (sameTm_any _ _ t2 _ _ _ T13.out U13.out)
    go_wp2_with fail
    clear x0 x1 x2 x3 x4 x5 y0 y1 y2 y3 y4 y5
    refine HSM.out.mono ?_
    rintro e w14 ⟨rfl, hb⟩
    have B14 := Lib.hid (B13.out.trans (hb.mono B13.out.size))
    have BO14 := Lib.hid (BO13.out.below hb)
    have HRF := Lib.hid (refusedE _ _ _ _ _ (E13.out.below hb) HK2.out (L13.out.below hb (Nat.le_refl _)) (HG.out.below B14.out).e)
    clear hb HSM
    go_wp2_with fail
    refine HRF.out.mono ?_
    rintro e w15 ⟨rfl, hb⟩
    have B15 := Lib.hid (B14.out.trans (hb.mono B14.out.size))
    have HSA := Lib.hid (same_tabs (BO14.out.below hb))
    clear hb HRF
    go_wp2_with fail
    refine HSA.out.mono ?_
    rintro e w16 ⟨rfl, hb⟩
    have B16 := Lib.hid (B15.out.trans (hb.mono B15.out.size))
    clear hb
    go_wp2
    go_ret
    exact ⟨rfl, B16.out⟩

end Go.Proofs.YtlahagabcnmdiaaGreatDoor
end
section
/- heddlelaw04: what Whole comes to, in one form. Printed by wip/ltc.py. -/
open Go Go.RowKit
namespace Go.Proofs.YtlahagabcnmdiaaGreatDoor
set_option linter.unusedVariables false
set_option linter.unusedSimpArgs false

theorem wholeS_short {l : List UInt8} {k : List Lk} (h : wholeS l = .bad k) : k.length ≤ 2 := by
  rw [← wholeS_whoP] at h
  have e : decP (readS l) none = (readS l, []) := by cases readS l <;> rfl
  rw [← e] at h
  exact whoP_short h
theorem whole_nil4 (l : List UInt8) (v : Value) (w : World) (hv : RSl v l w) (hG : Gt w) : Calls Tryz.prog 24 #[v, .pointer none] w fun e w' => ∃ vs ev, e = .returned (.tuple #[.agg vs.toArray, ev]) ∧ TmAt (fun q => w.heap.size ≤ q) (tmOf (wholeS l)) vs w' ∧ ErrIs w' ev (kOf (wholeS l)) ∧ Below w.heap.size w w' :=
  (whole_nil l v w hv hG (fun t st h => read_at h)).mono fun e w' h => by
    obtain ⟨h1, h2⟩ := wholeR_whoP h
    obtain ⟨vs, ev, a, b, c⟩ := whoP_all h1
    exact ⟨vs, ev, a, b, c, h2⟩
theorem whoR_nil4 (l : List UInt8) (v : Value) (w : World) (hv : RSl v l w) : Calls Tryz.prog 25 #[v, .pointer none] w fun e w' => ∃ vs lv, e = .returned (.tuple #[.agg vs.toArray, lv]) ∧ TmAt (fun q => w.heap.size ≤ q) (tmOf (wholeS l)) vs w' ∧ LinksIs w.heap.size lv (kOf (wholeS l)) w' ∧ Below w.heap.size w w' := by
  have h0 := whoR_nil l v w hv
  rw [wholeS_whoP] at h0
  refine h0.mono fun e w' h => ?_
  obtain ⟨vs, ev, a, b, c⟩ := whoR_all h.1
  exact ⟨vs, ev, a, b, c, h.2⟩
theorem whole_tab4 {limit : Int} {gt : Nat} {tl : List ByteArray} {F : Nat → Prop} {w0 : World} (l : List UInt8) (v : Value) (w : World) (hv : RSl v l w) (hG : Gt w) (htb : TabIs limit gt tl F w) (hw : Below w0.heap.size w0 w) (hF : ∀ b, F b → w0.heap.size ≤ b) (hG0 : Gt w0) :
    Calls Tryz.prog 24 #[v, .pointer (some ⟨gt, 0, none⟩)] w fun e w' => ∃ vs ev, e = .returned (.tuple #[.agg vs.toArray, ev]) ∧ TmAt (fun q => w.heap.size ≤ q) (tmOf (whoP l.length (decP (readS l) (some (limit, tl)))).1) vs w' ∧ ErrIs w' ev (kOf (whoP l.length (decP (readS l) (some (limit, tl)))).1) ∧ PutP limit gt (putAll limit tl (whoP l.length (decP (readS l) (some (limit, tl)))).2) F w w' :=
  (whole_tab l v w hv hG htb hw hF hG0).mono fun e w' h => by
    obtain ⟨vs, ev, a, b, c⟩ := whoP_all h.1
    exact ⟨vs, ev, a, b, c, h.2⟩
theorem whoR_tab4 {limit : Int} {gt : Nat} {tl : List ByteArray} {F : Nat → Prop} (l : List UInt8) (v : Value) (w : World) (hv : RSl v l w) (htb : RTabIs limit gt tl F w) :
    Calls Tryz.prog 25 #[v, .pointer (some ⟨gt, 0, none⟩)] w fun e w' => ∃ vs lv, e = .returned (.tuple #[.agg vs.toArray, lv]) ∧ TmAt (fun q => w.heap.size ≤ q) (tmOf (whoP l.length (decP (readS l) (some (limit, tl)))).1) vs w' ∧ LinksIs w.heap.size lv (kOf (whoP l.length (decP (readS l) (some (limit, tl)))).1) w' ∧ PutT limit gt (putAll limit tl (whoP l.length (decP (readS l) (some (limit, tl)))).2) F w w' :=
  (whoR_tab l v w hv htb).mono fun e w' h => by
    obtain ⟨vs, ev, a, b, c⟩ := whoR_all h.1
    exact ⟨vs, ev, a, b, c, h.2⟩
end Go.Proofs.YtlahagabcnmdiaaGreatDoor
end
section
/- heddlelaw04: EtfWhole. Printed by wip/ltc.py. -/
open Go Go.RowKit
namespace Go.Proofs.YtlahagabcnmdiaaGreatDoor
set_option linter.unusedVariables false
set_option linter.unusedSimpArgs false

set_option maxHeartbeats 32000000 in
set_option maxRecDepth 100000 in
theorem etfWhole_any (bl : List UInt8) (bv : Value) (limit : Int) (sl : List ByteArray) (hv : Value) (w : World) (hrb : RSl bv bl w) (hs : SArgIs hv sl w) (hll : sl.length ≤ 140737488351232) (hls : ∀ s ∈ sl, s.size ≤ 140737488351232) (hG : Gt w) :
    Calls Tryz.prog 7 #[.agg #[bv, .int .i64 limit, hv]] w fun e w' => e = .returned (.bool true) ∧ Below w.heap.size w w' := by
  have HV := Lib.hid hrb
  have HG := Lib.hid hG
  have HS := Lib.hid hs
  have HLL := Lib.hid hll
  have HLS := Lib.hid hls
  have B1 := Lib.hid ((Below.refl w.heap.size w).alloc (Nat.le_refl _) (.cells #[bv, .int .i64 limit, hv] 58 (0, 0)))
  have M1 := Lib.hid (show Cells (w.alloc (.cells #[bv, .int .i64 limit, hv] 58 (0, 0))) w.heap.size 58 [bv, .int .i64 limit, hv] from Cells.new w 58 [bv, .int .i64 limit, hv])
  have HAW := Lib.hid (fun W h => awake_any W h)
  have HD1 := Lib.hid (fun W h g => whole_nil4 bl bv W h g)
  have HD2 := Lib.hid (fun W h => whoR_nil4 bl bv W h)
  have HK1 := Lib.hid (show (kOf (wholeS bl)).length ≤ 16 from kOf_len (fun k h => wholeS_short h))
  generalize tmOf (wholeS bl) = t1 at *
  generalize kOf (wholeS bl) = k1 at *
  clear hrb hG hs hll hls
  go_enter Tryz.func7, Tryz.ntmps7
  go_upto_region 1 with (fail)
  generalize w.alloc (.cells #[bv, .int .i64 limit, hv] 58) = w1 at *
  have c0 := M1.out.cell 0
  simp only [List.getElem?_cons_zero, List.getElem?_cons_succ] at c0
  have HX := Lib.hid (HD1.out _ (HV.out.below B1.out) (HG.out.below B1.out))
  go_wp2_with fail
  refine HX.out.mono ?_
  rintro e w2 ⟨vs, ev1, rfl, ht, he, hb⟩
  obtain ⟨na1, nc1, a1, cap1, rfl⟩ := ht.nums5
  have B2 := Lib.hid (B1.out.trans (hb.mono B1.out.size))
  have BT := Lib.hid ((Below.refl w2.heap.size w2).alloc (Nat.le_refl _) (.cells #[.int .i64 t1.kind, .int .i64 t1.int, .string t1.text, .int .u32 t1.cr, .slice na1 t1.nums.length nc1, .slice a1 t1.args.length cap1] 35 (0, 0)))
  have A3 := Lib.hid (Cells.new w2 35 [.int .i64 t1.kind, .int .i64 t1.int, .string t1.text, .int .u32 t1.cr, .slice na1 t1.nums.length nc1, .slice a1 t1.args.length cap1])
  have B3 := Lib.hid (B2.out.trans (BT.out.mono B2.out.size))
  have M3 := Lib.hid ((M1.out.below hb).below BT.out)
  have T3 := Lib.hid (ht.below BT.out)
  have SZ2 := Lib.hid (M1.out.below hb).lt
  have E3 := Lib.hid (he.below BT.out)
  clear c0 hb ht he HX M1 HD1
  go_upto_region 2 with (fail)
  generalize w2.alloc (.cells #[.int .i64 t1.kind, .int .i64 t1.int, .string t1.text, .int .u32 t1.cr, .slice na1 t1.nums.length nc1, .slice a1 t1.args.length cap1] 35) = w3 at *
  have c0 := M3.out.cell 0
  simp only [List.getElem?_cons_zero, List.getElem?_cons_succ] at c0
  have HX := Lib.hid (HD2.out _ (HV.out.below B3.out))
  have SZ3 := Lib.hid A3.out.lt
  go_wp2_with fail
  refine HX.out.mono ?_
  rintro e w4 ⟨vs, lv1, rfl, ht, hl, hb⟩
  obtain ⟨na2, nc2, a2, cap2, rfl⟩ := ht.nums5
  have B4 := Lib.hid (B3.out.trans (hb.mono B3.out.size))
  have BU := Lib.hid ((Below.refl w4.heap.size w4).alloc (Nat.le_refl _) (.cells #[.int .i64 t1.kind, .int .i64 t1.int, .string t1.text, .int .u32 t1.cr, .slice na2 t1.nums.length nc2, .slice a2 t1.args.length cap2] 35 (0, 0)))
  have C5 := Lib.hid (Cells.new w4 35 [.int .i64 t1.kind, .int .i64 t1.int, .string t1.text, .int .u32 t1.cr, .slice na2 t1.nums.length nc2, .slice a2 t1.args.length cap2])
  have B5 := Lib.hid (B4.out.trans (BU.out.mono B4.out.size))
  have M5 := Lib.hid ((M3.out.below hb).below BU.out)
  have A5 := Lib.hid ((A3.out.below hb).below BU.out)
  have T5 := Lib.hid ((T3.out.below hb).below BU.out)
  have U5 := Lib.hid (ht.below BU.out)
  have E5 := Lib.hid ((E3.out.below hb).below BU.out)
  have L5 := Lib.hid (hl.below BU.out (Nat.le_refl _))
  have SZ4 := Lib.hid hb.size
  clear c0 hb ht hl HX M3 A3 T3 E3 HD2
  go_upto_region 3 with (fail)
  generalize w4.alloc (.cells #[.int .i64 t1.kind, .int .i64 t1.int, .string t1.text, .int .u32 t1.cr, .slice na2 t1.nums.length nc2, .slice a2 t1.args.length cap2] 35) = w5 at *
  have x0 := A5.out.cell 0
  have x1 := A5.out.cell 1
  have x2 := A5.out.cell 2
  have x3 := A5.out.cell 3
  have x4 := A5.out.cell 4
  have x5 := A5.out.cell 5
  simp only [List.getElem?_cons_zero, List.getElem?_cons_succ] at x0 x1 x2 x3 x4 x5
  have y0 := C5.out.cell 0
  have y1 := C5.out.cell 1
  have y2 := C5.out.cell 2
  have y3 := C5.out.cell 3
  have y4 := C5.out.cell 4
  have y5 := C5.out.cell 5
  simp only [List.getElem?_cons_zero, List.getElem?_cons_succ] at y0 y1 y2 y3 y4 y5
  have HSM := Lib.hid (sameTm_any _ _ t1 _ _ _ T5.out U5.out)
  go_wp2_with fail
  clear x0 x1 x2 x3 x4 x5 y0 y1 y2 y3 y4 y5
  refine HSM.out.mono ?_
  rintro e w6 ⟨rfl, hb⟩
  have B6 := Lib.hid (B5.out.trans (hb.mono B5.out.size))
  have M6 := Lib.hid (M5.out.below hb)
  have A6 := Lib.hid (A5.out.below hb)
  have C6 := Lib.hid (C5.out.below hb)
  have HRF := Lib.hid (refusedE _ _ _ _ _ (E5.out.below hb) HK1.out (L5.out.below hb (Nat.le_refl _)) (HG.out.below B6.out).e)
  clear hb HSM M5 A5 C5 T5 U5 E5 L5
  go_wp2_with fail
  refine HRF.out.mono ?_
  rintro e w7 ⟨rfl, hb⟩
  have B7 := Lib.hid (B6.out.trans (hb.mono B6.out.size))
  have M7 := Lib.hid (M6.out.below hb)
  have A7 := Lib.hid (A6.out.below hb)
  have C7 := Lib.hid (C6.out.below hb)
  clear hb HRF M6 A6 C6
  go_wp2_with fail
  refine (HAW.out _ (HG.out.below B7.out)).mono ?_
  rintro e w8 ⟨rfl, hb⟩
  have B8 := Lib.hid (B7.out.trans (hb.mono B7.out.size))
  have M8 := Lib.hid (M7.out.below hb)
  have A8 := Lib.hid (A7.out.below hb)
  have C8 := Lib.hid (C7.out.below hb)
  clear hb M7 A7 C7
  have c0 := M8.out.cell 0
  have c1 := M8.out.cell 1
  have c2 := M8.out.cell 2
  simp only [List.getElem?_cons_zero, List.getElem?_cons_succ] at c0 c1 c2
  have HTB := Lib.hid (tables4_any limit bv hv sl w8 (HS.out.below B8.out) HLL.out HLS.out (HG.out.below B8.out))
  go_wp2_with fail
  clear c0 c1 c2
  refine HTB.out.mono ?_
  rintro e w9 ⟨htr, hb⟩
  have B9 := Lib.hid (B8.out.trans (hb.mono B8.out.size))
  rcases htr with rfl | ⟨g, h, rfl, hbo⟩
  · go_wp2
    go_ret
    exact ⟨rfl, B9.out⟩
  · generalize putAll limit [] sl = L at *
    obtain ⟨F, G, htab, hrt, hfg, hfB, hgB⟩ := hbo
    have HX := Lib.hid (whole_tab4 (w0 := w8) bl bv w9 (HV.out.below B9.out) (HG.out.below B9.out) htab hb hfB (HG.out.below B8.out))
    have HK2 := Lib.hid (show (kOf (whoP bl.length (decP (readS bl) (some (limit, L)))).1).length ≤ 16 from kOf_len (fun k h => whoP_short h))
    have HY := Lib.hid (fun W a b => whoR_tab4 (limit := limit) (gt := h) (tl := L) (F := G) bl bv W a b)
    generalize tmOf (whoP bl.length (decP (readS bl) (some (limit, L)))).1 = t2 at *
    generalize kOf (whoP bl.length (decP (readS bl) (some (limit, L)))).1 = k2 at *
    generalize putAll limit L (whoP bl.length (decP (readS bl) (some (limit, L)))).2 = L2 at *
    have HRT := Lib.hid hrt
    have HFG := Lib.hid hfg
    have HFB := Lib.hid hfB
    have HGB := Lib.hid hgB
    have HB9 := Lib.hid hb
    have SZ9 := Lib.hid (show w2.heap.size < w8.heap.size ∧ w4.heap.size < w8.heap.size ∧ w.heap.size ≤ w8.heap.size ∧ w8.heap.size ≤ w9.heap.size ∧ w2.heap.size < w4.heap.size from ⟨A8.out.lt, C8.out.lt, B8.out.size, hb.size, by have := SZ3.out; have := SZ4.out; omega⟩)
    have c0 := (M8.out.below hb).cell 0
    simp only [List.getElem?_cons_zero, List.getElem?_cons_succ] at c0
    clear htab hrt hfg hfB hgB hb
    go_wp2_with fail
    clear c0
    refine HX.out.mono ?_
    rintro e w10 ⟨vs, ev2, rfl, ht, he, F2, htb2, hk2, hf2⟩
    obtain ⟨na3, nc3, a3, cap3, rfl⟩ := ht.nums5
    have B10 := Lib.hid (below_keep HB9.out hk2 HB9.out.size HFB.out)
    have A10 := Lib.hid (A8.out.below B10.out)
    have C10 := Lib.hid (C8.out.below B10.out)
    have M10 := Lib.hid (M8.out.below B10.out)
    have RT10 := Lib.hid (HRT.out.keep hk2 (fun b x y => HFG.out b x y))
    have T10 := Lib.hid ht
    have E10 := Lib.hid he
    have TB10 := Lib.hid htb2
    have F10 := Lib.hid hf2
    have BW10 := Lib.hid (B8.out.trans (B10.out.mono B8.out.size))
    have SZ10 := Lib.hid hk2.size
    clear ht he htb2 hk2 hf2 HX A8 C8 M8
    go_wp2_with (refine wpList_store_blk rfl _ (.tmp 3) (.tmp 54) rfl w2.heap.size 0 [.int .i64 t2.kind, .int .i64 t2.int, .string t2.text, .int .u32 t2.cr, .slice na3 t2.nums.length nc3, .slice a3 t2.args.length cap3] (by rfl) (by rfl) (by kernel_rfl) (by simp [Value.oneCell']) 35 _ A10.out (by show 0 + 6 ≤ 6; decide) ?_; intro w11 hCz hgz; refine stop ?_)
    refine Stopped.of ?_
    have A11 := Lib.hid (show Cells w11 w2.heap.size 35 [.int .i64 t2.kind, .int .i64 t2.int, .string t2.text, .int .u32 t2.cr, .slice na3 t2.nums.length nc3, .slice a3 t2.args.length cap3] from hCz)
    have KA := Lib.hid (show Keep (fun q => q = w2.heap.size) w10 w11 from (Keep.refl _ _).grown hgz (fun k hk _ => by cases hk; rfl))
    clear hCz hgz
    have C11 := Lib.hid (C10.out.keep KA.out (show w4.heap.size ≠ w2.heap.size by have := SZ9.out; omega))
    have M11 := Lib.hid (M10.out.keep KA.out (show w.heap.size ≠ w2.heap.size by have := SZ2.out; omega))
    have T11 := Lib.hid (T10.out.keep KA.out (fun q _ hq (e : q = w2.heap.size) => by have := SZ9.out; omega))
    have E11 := Lib.hid (E10.out.keepT KA.out (fun q (hq : q = w2.heap.size) => by rw [hq]; exact ⟨_, _, A10.out, by decide⟩))
    have TB11 := Lib.hid (TB10.out.keep KA.out (fun b (e : b = w2.heap.size) hF => (F10.out b hF).elim (fun x => by have := HFB.out b x; have := SZ9.out; omega) (fun x => by have := SZ9.out; omega)))
    have RT11 := Lib.hid (RT10.out.keep KA.out (fun b (e : b = w2.heap.size) x => by have := HGB.out b x; have := SZ9.out; omega))
    have B11 := Lib.hid (BW10.out.trans (KA.out.toBelow BW10.out.size (fun q (hq : q = w2.heap.size) => by have := SZ2.out; omega)))
    have SZ11 := Lib.hid KA.out.size
    have HGS := Lib.hid (show ∀ b, G b → b < w9.heap.size from fun b hb => (HRT.out.nf b hb).1)
    have HFS := Lib.hid (show ∀ b, F2 b → b < w11.heap.size from fun b hb => (TB11.out.nf b hb).1)
    have HZ := Lib.hid (HY.out w11 (HV.out.below B11.out) RT11.out)
    have c0 := M11.out.cell 0
    simp only [List.getElem?_cons_zero, List.getElem?_cons_succ] at c0
    clear A10 C10 M10 T10 E10 TB10 RT10 KA
    go_wp2_with fail
    clear c0
    refine HZ.out.mono ?_
    rintro e w12 ⟨vs, lv2, rfl, ht, hl, G2, hrt2, hk2, hg2⟩
    obtain ⟨na4, nc4, a4, cap4, rfl⟩ := ht.nums5
    have B12 := Lib.hid (below_keep B11.out hk2 B11.out.size (fun b hb => by have := HGB.out b hb; have := SZ9.out; omega))
    have A12 := Lib.hid (A11.out.keep hk2 (fun e => by have := HGB.out _ e; have := SZ9.out; omega))
    have C12 := Lib.hid (C11.out.keep hk2 (fun e => by have := HGB.out _ e; have := SZ9.out; omega))
    have T12 := Lib.hid (T11.out.keep hk2 (fun q _ hq e => by have := HGS.out _ e; omega))
    have E12 := Lib.hid (E11.out.keep hk2 (fun b hb => (RT11.out.nf b hb).2))
    have TB12 := Lib.hid (TB11.out.keep hk2 (fun b x y => (F10.out b y).elim (fun z => HFG.out b z x) (fun z => by have := HGS.out b x; omega)))
    have U12 := Lib.hid ht
    have L12 := Lib.hid hl
    have RT12 := Lib.hid hrt2
    have G12 := Lib.hid hg2
    clear ht hl hrt2 hk2 hg2 HZ A11 C11 M11 T11 E11
    go_wp2_with (refine wpList_store_blk rfl _ (.tmp 5) (.tmp 61) rfl w4.heap.size 0 [.int .i64 t2.kind, .int .i64 t2.int, .string t2.text, .int .u32 t2.cr, .slice na4 t2.nums.length nc4, .slice a4 t2.args.length cap4] (by rfl) (by rfl) (by kernel_rfl) (by simp [Value.oneCell']) 35 _ C12.out (by show 0 + 6 ≤ 6; decide) ?_; intro w13 hCz hgz; refine stop ?_)
    refine Stopped.of ?_
    have C13 := Lib.hid (show Cells w13 w4.heap.size 35 [.int .i64 t2.kind, .int .i64 t2.int, .string t2.text, .int .u32 t2.cr, .slice na4 t2.nums.length nc4, .slice a4 t2.args.length cap4] from hCz)
    have KC := Lib.hid (show Keep (fun q => q = w4.heap.size) w12 w13 from (Keep.refl _ _).grown hgz (fun k hk _ => by cases hk; rfl))
    clear hCz hgz
    have A13 := Lib.hid (A12.out.keep KC.out (show w2.heap.size ≠ w4.heap.size by have := SZ9.out; omega))
    have T13 := Lib.hid (T12.out.keep KC.out (fun q _ hq (e : q = w4.heap.size) => by have := SZ9.out; omega))
    have U13 := Lib.hid (U12.out.keep KC.out (fun q _ hq (e : q = w4.heap.size) => by have := SZ9.out; have := SZ10.out; have := SZ11.out; omega))
    have E13 := Lib.hid (E12.out.keepT KC.out (fun q (hq : q = w4.heap.size) => by rw [hq]; exact ⟨_, _, C12.out, by decide⟩))
    have L13 := Lib.hid (L12.out.frame (fun q hq => KC.out.block q (L12.out.block hq).2 (fun e => by have := (L12.out.block hq).1; have := SZ9.out; have := SZ10.out; have := SZ11.out; omega)))
    have TB13 := Lib.hid (TB12.out.keep KC.out (fun b (e : b = w4.heap.size) hF => (F10.out b hF).elim (fun x => by have := HFB.out b x; have := SZ9.out; omega) (fun x => by have := SZ9.out; omega)))
    have RT13 := Lib.hid (RT12.out.keep KC.out (fun b (e : b = w4.heap.size) x => (G12.out b x).elim (fun y => by have := HGB.out b y; have := SZ9.out; omega) (fun y => by have := SZ9.out; have := SZ10.out; have := SZ11.out; omega)))
    have BO13 := Lib.hid (show Both limit g h L2 0 w13 from ⟨F2, G2, TB13.out, RT13.out, (fun b x y => (G12.out b y).elim (fun z => (F10.out b x).elim (fun u => HFG.out b u z) (fun u => by have := HGS.out b z; omega)) (fun z => by have := HFS.out b x; omega)), fun b _ => Nat.zero_le b, fun b _ => Nat.zero_le b⟩)
    have B13 := Lib.hid (B12.out.trans (KC.out.toBelow B12.out.size (fun q (hq : q = w4.heap.size) => by have := SZ9.out; have := SZ2.out; omega)))
    clear A12 C12 T12 U12 E12 L12 TB12 RT12 KC TB11 RT11
    have x0 := A13.out.cell 0
    have x1 := A13.out.cell 1
    have x2 := A13.out.cell 2
    have x3 := A13.out.cell 3
    have x4 := A13.out.cell 4
    have x5 := A13.out.cell 5
    simp only [List.getElem?_cons_zero, List.getElem?_cons_succ] at x0 x1 x2 x3 x4 x5
    have y0 := C13.out.cell 0
    have y1 := C13.out.cell 1
    have y2 := C13.out.cell 2
    have y3 := C13.out.cell 3
    have y4 := C13.out.cell 4
    have y5 := C13.out.cell 5
    simp only [List.getElem?_cons_zero, List.getElem?_cons_succ] at y0 y1 y2 y3 y4 y5
    have HSM := Lib.hid (sameTm_any _ _ t2 _ _ _ T13.out U13.out)
    go_wp2_with fail
    clear x0 x1 x2 x3 x4 x5 y0 y1 y2 y3 y4 y5
    refine HSM.out.mono ?_
    rintro e w14 ⟨rfl, hb⟩
    have B14 := Lib.hid (B13.out.trans (hb.mono B13.out.size))
    have BO14 := Lib.hid (BO13.out.below hb)
    have HRF := Lib.hid (refusedE _ _ _ _ _ (E13.out.below hb) HK2.out (L13.out.below hb (Nat.le_refl _)) (HG.out.below B14.out).e)
    clear hb HSM
    go_wp2_with fail
    refine HRF.out.mono ?_
    rintro e w15 ⟨rfl, hb⟩
    have B15 := Lib.hid (B14.out.trans (hb.mono B14.out.size))
    have HSA := Lib.hid (same_tabs (BO14.out.below hb))
    clear hb HRF
    go_wp2_with fail
    refine HSA.out.mono ?_
    rintro e w16 ⟨rfl, hb⟩
    have B16 := Lib.hid (B15.out.trans (hb.mono B15.out.size))
    clear hb
    go_wp2
    go_ret
    exact ⟨rfl, B16.out⟩

end Go.Proofs.YtlahagabcnmdiaaGreatDoor
end
