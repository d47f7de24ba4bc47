/- Texts laid together: Chain, Refused. -/
import Derived.Test.YtkipjbmckpmmfaaDoorV6
import Derived.Deep.RegionHeld3
import Derived.Deep.AppendLies
import Derived.BigQuiet
import Derived.Deep.QuietTactic
section
/- heddlemem.Chain, Refused. -/
open Go Go.RowKit Go.Extern.Stop Go.Stop Go.Extern
namespace Go.Proofs.YtkipjbmckpmmfaaDoor

def ErrT (w : World) : Prop := w.cell? ⟨0, 0, none⟩ = some (.iface 131 (.agg #[.pointer (some ⟨4, 30, none⟩)]))
theorem ErrT.lt {w : World} (h : ErrT w) : 0 < w.heap.size := by
  rcases Nat.lt_or_ge 0 w.heap.size with h' | h'
  · exact h'
  · simp [ErrT, World.cell?, Array.getElem?_eq_none h'] at h
theorem ErrT.below {w w' : World} (h : ErrT w) (hb : Below w.heap.size w w') : ErrT w' := by
  unfold ErrT at *
  rw [hb.cell (p := ⟨0, 0, none⟩) (ErrT.lt h)]
  exact h

theorem below_grownBy {B : Nat} {a w w' : World} {t : Nat} (h : Below B a w) (hg : w.grownBy w' (some t)) (hB : B ≤ w.heap.size) (ht : B ≤ t) : Below B a w' :=
  h.grown hg hB fun k hk => by cases hk; exact ht

theorem below_links {B : Nat} {base : Nat} {v : Value} {l : List Lk} {a w w' : World} (h : Below B a w) (hv : LinksIs base v l w) (hB : B ≤ base ∧ B ≤ w.heap.size) (hg : w.grownBy w' v.ownBlock) : Below B a w' :=
  h.grown hg hB.2 fun _ hk => Nat.le_trans hB.1 (hv.block hk).1
theorem cell_of_block {w : World} {b : Nat} {cs : Array Value} {e : TypeId} {f : Nat × Nat} (h : w.heap[b]? = some (.cells cs e f)) (i : Nat) : w.cell? ⟨b, i, none⟩ = cs[i]? := by
  simp [World.cell?, h]

set_option maxHeartbeats 8000000 in
set_option maxRecDepth 100000 in
theorem chain_any (ev : Value) (l : List Lk) (w : World) (her : ErrIs w ev l) (hl : l.length ≤ 16) (hE : ErrT w) :
    Calls Tryd.prog 33 #[ev] w fun e w' => ∃ v, e = .returned v ∧ LinksIs w.heap.size v l w' ∧ Below w.heap.size w w' := by
  go_enter Tryd.func33, Tryd.ntmps33
  go_wp2
  go_loopw [0, 3, 4] (fun ev v i wr => ∃ done rest : List Lk, l = done ++ rest ∧ i = .int .i64 done.length ∧ LinksIs w.heap.size v done wr ∧ ErrIs w ev rest ∧ Below w.heap.size w wr) (fun _ _ i _ => 16 - (intOf i).toNat)
  case atStart => exact ⟨[], l, rfl, rfl, LinksIs.nil _ _, her, Below.refl _ _⟩
  case round =>
    clear her
    obtain ⟨done, rest, hdr, rfl, hlk, her, hbl⟩ := hrel
    have hwz := hbl.size
    have HL := Lib.hid hlk
    have HB := Lib.hid hbl
    have HD := Lib.hid hdr
    have hdl : done.length + rest.length ≤ 16 := by rw [← List.length_append, ← hdr]; exact hl
    clear hlk hdr
    cases rest with
    | nil =>
      obtain rfl : u0 = .nilIface := her
      clear hbl
      go_wp2
      all_goals
        go_ret
        exact ⟨_, rfl, by have := HD.out; simp at this; rw [this]; exact HL.out, HB.out⟩
    | cons k rest =>
      obtain ⟨b, u, rfl, hc, hr⟩ := her
      have hd16 : (done.length : Int) < 16 := by simp at hdl; omega
      have hbw := (Array.getElem?_eq_some_iff.1 hc).1
      have hcr := (hbl.block b hbw).trans hc
      have HC := Lib.hid hc
      have HR := Lib.hid hr
      have hE2 : ErrT (wr.alloc (.cells #[.pointer none] 91 (0, 0))) := hE.below (hbl.alloc hwz _)
      have HAs := Lib.hid (as_hit2 b wr.heap.size (wr.alloc (.cells #[.pointer none] 91 (0, 0))) hE2 (alloc_get _ _))
      have HCR := Lib.hid (show (wr.alloc (.cells #[.pointer none] 91 (0, 0))).heap[b]? = _ from (Below.heap_alloc wr _ b (by omega)).trans hcr)
      clear hc hr hcr hbl hE2
      go_wp2_with fail
      refine HAs.out.mono ?_
      rintro e w2 ⟨rfl, hg, hf⟩
      have hcr2 := (hg.block b (by simp; omega) (by simp; omega)).trans HCR.out
      have hL2 := Lib.hid ((HL.out.alloc (.cells #[.pointer none] 91 (0, 0))).frame (w' := w2) (fun g hgg => hg.block g (by have := ((HL.out.alloc (.cells #[.pointer none] 91 (0, 0))).block hgg).2; exact this) (by have := (HL.out.block hgg).2; simp; omega)))
      have hB2 := Lib.hid (below_grownBy (HB.out.alloc hwz _) hg (by simp; omega) hwz)
      have c0 := cell_of_block hf 0
      have d0 := cell_of_block hcr2 0
      have d1 := cell_of_block hcr2 1
      have d2 := cell_of_block hcr2 2
      have d3 := cell_of_block hcr2 3
      simp only [List.getElem?_toArray, List.getElem?_cons_zero, List.getElem?_cons_succ] at c0 d0 d1 d2 d3
      have hwz2 : w.heap.size ≤ w2.heap.size := hB2.out.size
      have nf : u3.ownBlock ≠ some wr.heap.size := fun e => by have := (HL.out.block e).2; omega
      have nb : u3.ownBlock ≠ some b := fun e => by have := (HL.out.block e).1; omega
      have hwf : wr.heap.size < w2.heap.size := (Array.getElem?_eq_some_iff.1 hf).1
      have hwb : b < w2.heap.size := by omega
      have HC2 := Lib.hid hcr2
      have HF2 := Lib.hid hf
      clear hg hf hcr2
      go_wp2
      go_region_held3 (fun w' => w'.cell? ⟨wr.heap.size, 0, none⟩ = some (.pointer (some ⟨b, 0, none⟩)) ∧ w'.cell? ⟨b, 0, none⟩ = some (.string k.layer) ∧ w'.cell? ⟨b, 1, none⟩ = some (.int .i64 k.at_) ∧ w'.cell? ⟨b, 2, none⟩ = some (.int .i64 k.code))
        (first
          | go_keep
          | (go_split_ands
             refine ⟨?_, ?_, ?_, ?_⟩
             · (rw [hg3.cell_far _ (by simp; omega) (Ne.symm nf)]; assumption)
             · (rw [hg3.cell_far _ (by simp; omega) (Ne.symm nb)]; assumption)
             · (rw [hg3.cell_far _ (by simp; omega) (Ne.symm nb)]; assumption)
             · (rw [hg3.cell_far _ (by simp; omega) (Ne.symm nb)]; assumption)))
        ((refine step_app_links (by rfl) _ _ (by rfl) w.heap.size u3 done (by rfl) (hL2.out.drew.alloc _) ⟨w2.heap.size, 0, none⟩ 1 1 [k] (by rfl) (by rfl) (World.news_of_block (cs := #[.string k.layer, .int .i64 k.at_, .int .i64 k.code]) (t := 78) (fr := (0, 0)) (heap_alloc_new w2.drew _)) (by omega) (by simp; omega) ?_; intro v' w3 hlk3 hg3))
      have hcr3 := (hg3.block b (by simp; omega) (Ne.symm nb)).trans ((Below.heap_alloc w2.drew _ b hwb).trans HC2.out)
      have hf3 := (hg3.block wr.heap.size (by simp; omega) (Ne.symm nf)).trans ((Below.heap_alloc w2.drew _ wr.heap.size hwf).trans HF2.out)
      have c0 := cell_of_block hf3 0
      have d3 := cell_of_block hcr3 3
      simp only [List.getElem?_toArray, List.getElem?_cons_zero, List.getElem?_cons_succ] at c0 d3
      have hB3 := Lib.hid (below_links (hB2.out.drew.alloc (by simp; omega) _) (hL2.out.drew.alloc _) (by simp; omega) hg3)
      have HL3 := Lib.hid hlk3
      clear hg3 hlk3 hcr3 hf3
      go_wp2
      go_roundw
      case rel =>
        refine ⟨done ++ [k], rest, by rw [HD.out]; simp, by simp, HL3.out, HR.out, hB3.out⟩
      case measure => simp [intOf]; omega
end Go.Proofs.YtkipjbmckpmmfaaDoor
end
section
/- heddlemem.Refused: is an error just that chain? -/
open Go Go.RowKit Go.Extern.Stop Go.Stop Go.Extern
namespace Go.Proofs.YtkipjbmckpmmfaaDoor

theorem chars_inj {a b : ByteArray} (h : a.data.toList = b.data.toList) : a = b := by
  obtain ⟨⟨a⟩⟩ := a; obtain ⟨⟨b⟩⟩ := b; simpa using h
instance : DecidableEq Lk := fun a b =>
  if h : a.layer.data.toList = b.layer.data.toList ∧ a.at_ = b.at_ ∧ a.code = b.code then
    isTrue (by obtain ⟨a1, a2, a3⟩ := a; obtain ⟨b1, b2, b3⟩ := b; obtain ⟨h1, h2, h3⟩ := h; simp only at h1 h2 h3; rw [chars_inj h1, h2, h3])
  else isFalse (fun e => h (by rw [e]; exact ⟨rfl, rfl, rfl⟩))

/-- '!=' of two links -/
theorem run_neq_link (a b : Lk) (w : World) : (binOp .neq 78 (.agg #[.string a.layer, .int .i64 a.at_, .int .i64 a.code]) (.agg #[.string b.layer, .int .i64 b.at_, .int .i64 b.code])).run Tryd.prog w = .ok (.bool (decide (a ≠ b))) w := by
  have hd : decide (a ≠ b) = !(a.layer.toList == b.layer.toList && (a.at_ == b.at_ && a.code == b.code)) := by
    rw [Bool.eq_iff_iff]
    obtain ⟨a1, a2, a3⟩ := a; obtain ⟨b1, b2, b3⟩ := b
    simp only [decide_eq_true_eq, Bool.not_eq_true', Bool.and_eq_false_iff, beq_eq_false_iff_ne, ne_eq, toList_data, Lk.mk.injEq]
    constructor
    · intro h
      by_cases h1 : a1.data.toList = b1.data.toList
      · by_cases h2 : a2 = b2
        · exact .inr (.inr fun h3 => h ⟨chars_inj h1, h2, h3⟩)
        · exact .inr (.inl h2)
      · exact .inl h1
    · rintro (h | h | h) ⟨h1, h2, h3⟩
      · exact h (by rw [h1])
      · exact h h2
      · exact h h3
  rw [hd]
  have hu := Tryd.underlying78
  have hu1 := Tryd.underlying9
  have hu2 := Tryd.underlying3
  have hu3 := Tryd.underlying47
  go_simp
  by_cases h1 : a.layer.toList = b.layer.toList
  · by_cases h2 : a.at_ = b.at_
    · by_cases h3 : a.code = b.code
      · simp [h1, h2, h3]
      · simp [h1, h2, h3]
    · simp [h1, h2]
  · simp [h1]

set_option maxHeartbeats 8000000 in
set_option maxRecDepth 100000 in
theorem refused_nil (ev : Value) (l1 : List Lk) (a : Option Addr) (c : Nat) (w : World) (her : ErrIs w ev l1) :
    Calls Tryd.prog 16 #[ev, .slice a 0 c] w fun e w' => e = .returned (.bool (decide (l1 = []))) ∧ w' = w := by
  cases l1 with
  | nil =>
    obtain rfl : ev = .nilIface := her
    go_enter Tryd.func16, Tryd.ntmps16
    go_wp2
    go_ret
    exact ⟨rfl, rfl⟩
  | cons k l =>
    obtain ⟨b, u, rfl, _, _⟩ := her
    go_enter Tryd.func16, Tryd.ntmps16
    go_wp2
    go_ret
    exact ⟨rfl, rfl⟩

theorem run_links_len {base : Nat} {v : Value} {l : List Lk} {w : World} (h : LinksIs base v l w) (w2 : World) : (Builtin.len_ #[38] 3 #[v]).run Tryd.prog w2 = .ok (.int .i64 l.length) w2 := by
  have hu := Tryd.underlying38
  rcases h.shape with ⟨rfl, rfl⟩ | ⟨g, c, rfl, _⟩
  · go_simp
  · go_simp

set_option maxHeartbeats 8000000 in
set_option maxRecDepth 100000 in
theorem refused_some (ev : Value) (l1 l2 : List Lk) (lb lc : Nat) (base : Nat) (w : World) (her : ErrIs w ev l1) (h1 : l1.length ≤ 16) (h2 : 0 < l2.length) (h3 : l2.length ≤ 16) (hlk : LinksIs base (.slice (some ⟨lb, 0, none⟩) l2.length lc) l2 w) (hE : ErrT w) :
    Calls Tryd.prog 16 #[ev, .slice (some ⟨lb, 0, none⟩) l2.length lc] w fun e w' => e = .returned (.bool (decide (l1 = l2))) ∧ Below w.heap.size w w' := by
  have HC := Lib.hid (chain_any ev l1 w her h1 hE)
  have h2' : ((l2.length : Int) == 0) = false := beq_eq_false_iff_ne.2 (by omega)
  have hlen : (((l1.length : Int) != (l2.length : Int)) = decide (l1.length ≠ l2.length)) := by
    by_cases e : l1.length = l2.length
    · simp [e]
    · have : ¬ ((l1.length : Int) = (l2.length : Int)) := by omega
      simp [e, this]
  by_cases e1 : l1.length = l2.length
  · have d1 : ((l1.length : Int) != (l2.length : Int)) = false := by rw [hlen]; simp [e1]
    have HE1 := Lib.hid e1
    clear hlen e1
    go_enter Tryd.func16, Tryd.ntmps16
    go_wp2_with (go_at_call 33; refine HC.out.mono ?_; rintro e w1 ⟨v, rfl, hlk1, hb1⟩; have hl1 := run_links_len hlk1)
    obtain ⟨_, rfl⟩ | ⟨g, gc, rfl, hbg, hgw, hgc, hgm⟩ := hlk1.shape
    · have := HE1.out; simp at this; omega
    have her1 := Lib.hid (her.below hb1)
    have hlk2 := hlk.frame (w' := w1) (fun b hb => hb1.block b (hlk.block hb).2)
    have hN0 : w1 = w1.drewN 0 := rfl
    have HL1 := Lib.hid hlk1
    have HL2 := Lib.hid hlk2
    have HB1 := Lib.hid hb1
    clear her hlk1 hlk2 hlk hb1 hl1 hN0
    go_loopw [6] (fun i wr => ∃ k n : Nat, k ≤ l2.length ∧ i = .int .i64 k ∧ l1.take k = l2.take k ∧ wr = w1.drewN n) (fun i _ => l2.length - (intOf i).toNat)
    case atStart => exact ⟨0, 0, Nat.zero_le _, rfl, rfl, rfl⟩
    case round =>
      obtain ⟨k, n, hk, rfl, htk, rfl⟩ := hrel
      have HTK := Lib.hid htk
      clear htk
      by_cases hlt : k < l2.length
      · have hk1 : k < l1.length := by rw [HE1.out]; exact hlt
        have hki : (k : Int) < (l2.length : Int) := by omega
        have hki1 : (k : Int) < (l1.length : Int) := by omega
        have a0 := HL1.out.cells k hk1 0 (by omega)
        have a1 := HL1.out.cells k hk1 1 (by omega)
        have a2 := HL1.out.cells k hk1 2 (by omega)
        have b0 := HL2.out.cells k hlt 0 (by omega)
        have b1 := HL2.out.cells k hlt 1 (by omega)
        have b2 := HL2.out.cells k hlt 2 (by omega)
        simp only [lkV, List.getElem?_cons_zero, List.getElem?_cons_succ, Nat.add_zero] at a0 a1 a2 b0 b1 b2
        have hne := fun w => run_neq_link l1[k] l2[k] w
        by_cases hab : l1[k] = l2[k]
        · simp only [decide_eq_false (not_not_intro hab)] at hne
          have HAB := Lib.hid hab
          clear hab
          go_wp2
          go_quiet (fail)
          go_wp2
          go_roundw
          case rel =>
            refine ⟨k + 1, _, by omega, by go_num, ?_, rfl⟩
            rw [List.take_succ_eq_append_getElem hk1, List.take_succ_eq_append_getElem hlt, HTK.out, HAB.out]
          case measure => simp [intOf]; omega
        · simp only [decide_eq_true hab] at hne
          have HAB := Lib.hid hab
          clear hab
          go_wp2
          go_quiet (fail)
          go_wp2
          go_ret
          refine ⟨ret_bool ?_, below_drewN (below_drewN HB1.out _) _⟩
          symm
          simp only [decide_eq_false_iff_not]
          intro e
          subst e
          exact HAB.out rfl
      · have hk2 : k = l2.length := by omega
        have heq : l1 = l2 := by
          have := HTK.out
          rw [hk2, List.take_of_length_le (Nat.le_of_eq HE1.out), List.take_of_length_le (Nat.le_refl _)] at this
          exact this
        have P := Lib.hid (show decide (l1 = l2) = true by simp [heq])
        have hlast := HL2.out.cells (l2.length - 1) (by omega) 2 (by omega)
        simp only [lkV, List.getElem?_cons_zero, List.getElem?_cons_succ] at hlast
        have HI := Lib.hid (errors_is l1 ev (l2[l2.length - 1]'(by omega)).code (w1.drewN n) (her1.out.below (below_drewN (Below.refl _ _) n)))
        have HX := Lib.hid (show errIsS l1 (l2[l2.length - 1]'(by omega)).code = true by
          unfold errIsS lastCode
          rw [heq, List.getLast?_eq_getElem?, List.getElem?_eq_getElem (by omega)]
          simp)
        have hm : ((l2.length - 1 : Nat) : Int) = (l2.length : Int) - 1 := by omega
        have hlo : 0 ≤ (l2.length : Int) - 1 := by omega
        have hhi : (l2.length : Int) - 1 < (l2.length : Int) := by omega
        clear heq hk2 hm
        go_wp2_with (go_at_call 34; refine HI.out.mono ?_; rintro e w' ⟨rfl, rfl⟩)
        go_ret
        exact ⟨ret_bool (by rw [HX.out, P.out]), below_drewN HB1.out _⟩
  · have d1 : ((l1.length : Int) != (l2.length : Int)) = true := by rw [hlen]; simp [e1]
    have P := Lib.hid (show decide (l1 = l2) = false by simp; intro e; exact e1 (by rw [e]))
    clear hlen e1
    go_enter Tryd.func16, Tryd.ntmps16
    go_wp2_with (go_at_call 33; refine HC.out.mono ?_; rintro e w1 ⟨v, rfl, hlk1, hb1⟩; have hl1 := run_links_len hlk1)
    go_ret
    exact ⟨ret_bool P.out.symm, hb1⟩

/-- Refused, whatever the list. -/
theorem refused_links (ev : Value) (l1 l2 : List Lk) (lv : Value) (base : Nat) (w : World) (her : ErrIs w ev l1) (h1 : l1.length ≤ 16) (h3 : l2.length ≤ 16) (hlk : LinksIs base lv l2 w) (hE : ErrT w) :
    Calls Tryd.prog 16 #[ev, lv] w fun e w' => e = .returned (.bool (decide (l1 = l2))) ∧ Below w.heap.size w w' := by
  rcases hlk.shape with ⟨rfl, rfl⟩ | ⟨g, c, rfl, hbg, hgw, hgc, hgm⟩
  · refine (refused_nil ev l1 _ _ w her).mono ?_
    rintro e w' ⟨rfl, rfl⟩
    exact ⟨rfl, Below.refl _ _⟩
  · rcases Nat.eq_zero_or_pos l2.length with h0 | hp
    · have : l2 = [] := List.eq_nil_of_length_eq_zero h0
      subst this
      refine (refused_nil ev l1 _ _ w her).mono ?_
      rintro e w' ⟨rfl, rfl⟩
      exact ⟨rfl, Below.refl _ _⟩
    · exact refused_some ev l1 l2 g c base w her h1 hp h3 hlk hE
end Go.Proofs.YtkipjbmckpmmfaaDoor
end
