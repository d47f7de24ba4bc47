/- The statement AtomTables, walked. -/
import Derived.Test.YtdafikemndaeeaaDoorTabC
import Derived.Test.YtdafikemndaeeaaDoorStrings
open Go Go.RowKit
namespace Go.Proofs.YtdafikemndaeeaaDoor

theorem refused_same (ev lv : Value) (l : List Lk) (base : Nat) (w : World) (her : ErrIs w ev l) (hl : l.length ≤ 16) (hlk : LinksIs base lv l w) (hE : ErrT w) :
    Calls Tryd.prog 32 #[ev, lv] w fun e w' => e = .returned (.bool true) ∧ Below w.heap.size w w' :=
  (refused_links ev l l lv base w her hl hl hlk hE).mono fun e w' ⟨he, hb⟩ => ⟨by rw [he]; simp, hb⟩
theorem ErrT.drewN {w : World} (h : ErrT w) (n : Nat) : ErrT (w.drewN n) := h
theorem ErrT.drew {w : World} (h : ErrT w) : ErrT w.drew := h
theorem ErrIs.drew {w : World} {v : Value} {l : List Lk} (h : ErrIs w v l) : ErrIs w.drew v l := h.below ((Below.refl _ _).drew)

theorem putS_len (limit : Int) (l : List ByteArray) (s : ByteArray) : (putS limit l s).2.1.length ≤ 16 := by
  unfold putS
  split
  · have := quoteS_len s; show (quoteS s).2.length ≤ 16; omega
  · (repeat' split) <;> simp
theorem textS_len (l : List ByteArray) (n : Int) : (textS l n).2.length ≤ 16 := by
  unfold textS; split <;> simp

/-- both tables, apart from one another, above a base -/
def Both (limit : Int) (g h : Nat) (l : List ByteArray) (B : Nat) (w : World) : Prop :=
  ∃ F G, TabIs limit g l F w ∧ RTabIs limit h l G w ∧ (∀ b, F b → ¬ G b) ∧ (∀ b, F b → B ≤ b) ∧ ∀ b, G b → B ≤ b
theorem Both.below {limit : Int} {g h : Nat} {l : List ByteArray} {B : Nat} {w w' : World} (hh : Both limit g h l B w) (hb : Below w.heap.size w w') : Both limit g h l B w' := by
  obtain ⟨F, G, h1, h2, h3, h4, h5⟩ := hh
  have K := Keep.of_below hb (Nat.le_refl _) Nob
  exact ⟨F, G, h1.keep K (fun _ h => h.elim), h2.keep K (fun _ h => h.elim), h3, h4, h5⟩

set_option maxHeartbeats 8000000 in
set_option maxRecDepth 100000 in
theorem tables_bad (limit : Int) (lv : Value) (n : Int) (w : World) (hl : limit < 0 ∨ 1048576 < limit) (hT : Lib.Utf8Tabs 2 3 w) (hE : ErrT w) :
    Calls Tryd.prog 10 #[.int .i64 limit, lv, .int .i64 n] w fun e w' => e = .returned (.bool true) ∧ Below w.heap.size w w' := by
  have HN := Lib.hid (new_bad limit w hl)
  have HR := fun w1 => Lib.hid (newR_bad limit w1 hl)
  have HA := fun w1 (h : Below w.heap.size w w1) => Lib.hid (alive01 w1 (Utf8Tabs_below hT h))
  clear hl
  go_enter Tryd.func10, Tryd.ntmps10
  go_wp2_with fail
  refine HN.out.mono ?_
  rintro e w1 ⟨ev, rfl, her, hb1⟩
  go_wp2_with fail
  refine (HR w1).out.mono ?_
  rintro e w2 ⟨fv, rfl, hlk, hb2⟩
  have her2 := her.below hb2
  have hb2 := hb1.trans (hb2.mono hb1.size)
  have HF := Lib.hid (refused_same ev fv _ _ w2 her2 (by simp) hlk (hE.below hb2))
  clear her her2 hlk
  go_wp2_with fail
  refine HF.out.mono ?_
  rintro e w3 ⟨rfl, hb3⟩
  have hb3 := hb2.trans (hb3.mono hb2.size)
  go_wp2_with fail
  refine (HA _ hb3).out.mono ?_
  rintro e w4 ⟨rfl, hb4⟩
  have hb4 := hb3.trans (hb4.mono hb3.size)
  go_wp2
  go_ret
  exact ⟨rfl, hb4⟩

set_option maxHeartbeats 16000000 in
set_option maxRecDepth 100000 in
theorem tables_good (limit : Int) (lv : Value) (l : List ByteArray) (n : Int) (w : World) (h0 : 0 ≤ limit) (h1 : limit ≤ 1048576) (hlv : SArgIs lv l w) (hll : l.length ≤ 140737488351232) (hls : ∀ s ∈ l, s.size ≤ 140737488351232)
    (hT : Lib.Utf8Tabs 2 3 w) (hE : ErrT w) :
    Calls Tryd.prog 10 #[.int .i64 limit, lv, .int .i64 n] w fun e w' => e = .returned (.bool true) ∧ Below w.heap.size w w' := by
  have HN := Lib.hid (new_good limit w h0 h1)
  have HR := fun w1 => Lib.hid (newR_good limit w1 h0 h1)
  have HA := fun w1 (h : Below w.heap.size w w1) => Lib.hid (alive01 w1 (Utf8Tabs_below hT h))
  have HT := fun w1 (h : Below w.heap.size w w1) => Lib.hid (Utf8Tabs_below hT h)
  have HE := fun w1 (h : Below w.heap.size w w1) => Lib.hid (hE.below h)
  have HLS := Lib.hid hls
  obtain ⟨A, c, rfl, hcell⟩ := hlv
  have HC := Lib.hid hcell
  clear hT hE hls hcell
  go_enter Tryd.func10, Tryd.ntmps10
  go_wp2_with fail
  refine HN.out.mono ?_
  rintro e w1 ⟨g, rfl, ht1, hb1⟩
  go_wp2_with fail
  refine (HR w1).out.mono ?_
  rintro e w2 ⟨h, rfl, hr2, hb2⟩
  have hBoth : Both limit g h [] w.heap.size w2 :=
    ⟨_, _, ht1.keep (Keep.of_below hb2 (Nat.le_refl _) Nob) (fun _ h => h.elim), hr2, (fun b x y => by omega), (fun b x => x.1), (fun b x => by have := hb1.size; omega)⟩
  have hb2 := hb1.trans (hb2.mono hb1.size)
  clear ht1 hr2 hb1
  go_wp2_with fail
  refine (refused_nil .nilIface [] none 0 w2 rfl).mono ?_
  rintro e w3 ⟨rfl, rfl⟩
  have HB3 := Lib.hid hb2
  have HBoth := Lib.hid hBoth
  clear hb2 hBoth HN HR
  go_wp2_with fail
  go_loopw [11] (fun i wr => ∃ (k : Nat) (L : List ByteArray), k ≤ l.length ∧ i = .int .i64 k ∧ Both limit g h L w.heap.size wr ∧ Below w.heap.size w wr) (fun i _ => l.length - (intOf i).toNat)
  case atStart => exact ⟨0, [], Nat.zero_le _, rfl, HBoth.out, HB3.out⟩
  case round =>
    clear HBoth HB3
    obtain ⟨k, L, hk, rfl, hbo, hbw⟩ := hrel
    have HBO := Lib.hid hbo
    have HBW := Lib.hid hbw
    clear hbo hbw
    by_cases hlt : k < l.length
    · have hki : (k : Int) < (l.length : Int) := by omega
      obtain ⟨g0, o0, rfl, hx⟩ := HC.out k hlt
      have hg0 := World.block_lt_of_cell? w _ hx
      have hs := HLS.out l[k] (List.getElem_mem hlt)
      obtain ⟨F, G, ht, hr, hfg, hfB, hgB⟩ := HBO.out
      have hwz := HBW.out.size
      have hx1 : wr.cell? ⟨g0, o0 + k, none⟩ = some (.string l[k]) := by rw [HBW.out.cell (p := ⟨g0, o0 + k, none⟩) hg0]; exact hx
      have HX := Lib.hid hx
      generalize l[k] = s at *
      have HP := Lib.hid (put_live ht s hs (HT _ HBW.out).out (HE _ HBW.out).out)
      have HFG := Lib.hid hfg
      have HFB := Lib.hid hfB
      have HGB := Lib.hid hgB
      have HR1 := Lib.hid hr
      have HLEN := Lib.hid (putS_len limit L s)
      clear hx hfg hfB hgB ht hr
      go_wp2_with fail
      refine HP.out.mono ?_
      rintro e w1 ⟨ev, F1, rfl, her1, ht1, hk1, hf1⟩
      have hb1 := below_keep HBW.out hk1 hwz HFB.out
      have hr1 := HR1.out.keep hk1 (fun b h1 h2 => HFG.out b h1 h2)
      have hx2 : w1.cell? ⟨g0, o0 + k, none⟩ = some (.string s) := by rw [hb1.cell (p := ⟨g0, o0 + k, none⟩) hg0]; exact HX.out
      have HPR := Lib.hid (putR_live hr1 s hs)
      generalize putS limit L s = r at *
      have hnf := hr1.nf
      have hgs : ∀ b, G b → b < wr.heap.size := fun b hb => (HR1.out.nf b hb).1
      have HRB := Lib.hid hb1
      have HT1 := Lib.hid ht1
      have HER1 := Lib.hid her1
      have HF1 := Lib.hid hf1
      have HNF := Lib.hid hnf
      have HGS := Lib.hid hgs
      have hw01 := hk1.size
      clear hx1 hb1 hr1 ht1 her1 hf1 hk1 hnf hgs
      go_wp2_with fail
      refine HPR.out.mono ?_
      rintro e w2 ⟨fv, G1, rfl, hlk2, hr2, hk2, hg2⟩
      have hb2 := below_keep HRB.out hk2 (by omega) HGB.out
      have hFG1 : ∀ b, G b → ¬ F1 b := fun b hb hf => by
        rcases HF1.out b hf with h | h
        · exact HFG.out b h hb
        · have := HGS.out b hb; omega
      have ht2 := HT1.out.keep hk2 hFG1
      have her2 := HER1.out.keep hk2 (fun b hb => (HNF.out b hb).2)
      have hB2 : Both limit g h r.2.2 w.heap.size w2 := by
        refine ⟨F1, G1, ht2, hr2, fun b hf hg => ?_, fun b hf => ?_, fun b hg => ?_⟩
        · rcases hg2 b hg with h | h
          · exact hFG1 b h hf
          · have := (HT1.out.nf b hf).1; omega
        · rcases HF1.out b hf with h | h
          · exact HFB.out b h
          · omega
        · rcases hg2 b hg with h | h
          · exact HGB.out b h
          · omega
      have HRF := Lib.hid (refused_same ev fv _ _ w2.drew her2.drew HLEN.out hlk2.drew ((HE _ hb2).out.drew))
      obtain ⟨⟨sv, hc1, hc2, _, _⟩, hlo, _⟩ := hr2
      obtain ⟨hlo1, hlo2, hlo3⟩ := hlo
      have HBO2 := Lib.hid hB2
      have HW2 := Lib.hid hb2
      have HT2 := Lib.hid ht2
      have HC1 := Lib.hid hc1
      have hslen := run_strs_len hc2
      have d1 := hc1.cell 1
      simp only [List.getElem?_cons_zero, List.getElem?_cons_succ] at d1
      have hne1 : ((r.1 != r.1) = false) := by simp
      have hne2 : (((r.2.2.length : Int) != (r.2.2.length : Int)) = false) := by simp
      have hne3 : (((limit - (r.2.2.length : Int)) != (limit - (r.2.2.length : Int))) = false) := by simp
      have hwr : IntKind.i64.wrap (limit - (r.2.2.length : Int)) = limit - (r.2.2.length : Int) := IntWalk.i64_in _ (by omega)
      clear hlk2 her2 hb2 ht2 hk2 hg2 hFG1 hB2 hc1 hc2
      generalize r.2.2 = L2 at *
      generalize r.1 = r1 at *
      go_wp2_with fail
      go_region_held3 (fun w' => w'.cell? ⟨h, 1, none⟩ = some sv) (go_keep)
        (first
          | (go_at_call 32; refine HRF.out.mono ?_; rintro e w3 ⟨rfl, hb3⟩; have d3 := (HC1.out.drew.below hb3).cell 1; simp only [List.getElem?_cons_zero, List.getElem?_cons_succ] at d3; have HT3 := Lib.hid (HT2.out.keep (Keep.of_below (Below.drew (Below.refl _ w2) |>.trans hb3) (Nat.le_refl _) Nob) (fun _ h => h.elim)); have HB3 := Lib.hid hb3; clear hb3)
          | (go_at_call 37; refine (len_live HT3.out).mono ?_; rintro e w4 ⟨rfl, rfl⟩)
          | (go_at_call 38; refine (free_live HT3.out).mono ?_; rintro e w4 ⟨rfl, n4, rfl⟩))
      go_wp2
      go_roundw
      case rel =>
        have hb3 : Below w2.heap.size w2 _ := (Below.drew (Below.refl _ w2)).trans HB3.out
        have hb4 := HW2.out.trans (hb3.mono HW2.out.size)
        exact ⟨k + 1, L2, by omega, by go_num, (HBO2.out.below hb3).below (below_drewN (Below.refl _ _) _), below_drewN hb4 _⟩
      case measure => simp [intOf]; omega
    · have hki : ¬ (k : Int) < (l.length : Int) := by omega
      go_wp2_with fail
      go_loopw [16] (fun i wr2 => ∃ (k2 : Nat), k2 ≤ l.length ∧ i = .int .i64 k2 ∧ Both limit g h L w.heap.size wr2 ∧ Below w.heap.size w wr2) (fun i _ => l.length - (intOf i).toNat)
      case atStart => exact ⟨0, Nat.zero_le _, rfl, HBO.out, HBW.out⟩
      case round =>
        clear HBO HBW
        obtain ⟨k2, hk2, rfl, hbo, hbw⟩ := hrel
        have HBO := Lib.hid hbo
        have HBW := Lib.hid hbw
        clear hbo hbw
        by_cases hlt2 : k2 < l.length
        · have hki2 : (k2 : Int) < (l.length : Int) := by omega
          obtain ⟨g0, o0, rfl, hx⟩ := HC.out k2 hlt2
          have hg0 := World.block_lt_of_cell? w _ hx
          have hs := HLS.out l[k2] (List.getElem_mem hlt2)
          obtain ⟨F, G, ht, hr, _⟩ := HBO.out
          have hx1 : wr.cell? ⟨g0, o0 + k2, none⟩ = some (.string l[k2]) := by rw [HBW.out.cell (p := ⟨g0, o0 + k2, none⟩) hg0]; exact hx
          generalize l[k2] = s at *
          have HFP := Lib.hid (find_live ht s (by unfold maxLen; omega))
          have HFR := Lib.hid (findR_live hr s)
          clear hx ht hr
          have hni : (((idxM L s.data.toList).getD 0 != (idxM L s.data.toList).getD 0) = false) := by simp
          have hnb : (((idxM L s.data.toList).isSome != (idxM L s.data.toList).isSome) = false) := by simp
          generalize (idxM L s.data.toList).getD 0 = i1 at *
          generalize (idxM L s.data.toList).isSome = i2 at *
          go_wp2_with fail
          refine HFP.out.mono ?_
          rintro e w1 ⟨rfl, rfl⟩
          go_wp2_with fail
          refine HFR.out.mono ?_
          rintro e w1 ⟨rfl, rfl⟩
          go_wp2
          go_roundw
          case rel => exact ⟨k2 + 1, by omega, by go_num, HBO.out, HBW.out⟩
          case measure => simp [intOf]; omega
        · have hki2 : ¬ (k2 : Int) < (l.length : Int) := by omega
          obtain ⟨F, G, ht, hr, _⟩ := HBO.out
          have HTP := Lib.hid (text_live ht n)
          have HTR := fun w1 (hb : Below wr.heap.size wr w1) => Lib.hid (textR_live (hr.keep (Keep.of_below hb (Nat.le_refl _) Nob) (fun _ h => h.elim)) n)
          have HLEN := Lib.hid (textS_len L n)
          generalize textS L n = r at *
          have hss : (r.1.toList == r.1.toList) = true := by simp
          clear ht hr
          go_wp2_with fail
          refine HTP.out.mono ?_
          rintro e w1 ⟨ev, rfl, her1, hb1⟩
          have HRR := HTR w1 hb1
          clear HTR
          go_wp2_with fail
          refine HRR.out.mono ?_
          rintro e w2 ⟨fv, rfl, hlk2, hb2⟩
          have her2 := her1.below hb2
          have hb12 := hb1.trans (hb2.mono hb1.size)
          have hbw2 := HBW.out.trans (hb12.mono HBW.out.size)
          have HF := Lib.hid (refused_same ev fv _ _ w2 her2 HLEN.out hlk2 (HE _ hbw2).out)
          clear her1 her2 hlk2 hb1 hb2 hb12
          go_wp2_with fail
          refine HF.out.mono ?_
          rintro e w3 ⟨rfl, hb3⟩
          have hb3 := hbw2.trans (hb3.mono hbw2.size)
          go_wp2_with fail
          refine (HA _ hb3).out.mono ?_
          rintro e w4 ⟨rfl, hb4⟩
          have hb4 := hb3.trans (hb4.mono hb3.size)
          go_wp2
          go_ret
          exact ⟨rfl, hb4⟩

theorem tables_walk (limit : Int) (lv : Value) (l : List ByteArray) (n : Int) (w : World) (hlv : SArgIs lv l w) (hll : l.length ≤ 140737488351232) (hls : ∀ s ∈ l, s.size ≤ 140737488351232)
    (hT : Lib.Utf8Tabs 2 3 w) (hE : ErrT w) :
    Calls Tryd.prog 10 #[.int .i64 limit, lv, .int .i64 n] w fun e w' => e = .returned (.bool true) ∧ Below w.heap.size w w' := by
  by_cases h : limit < 0 ∨ 1048576 < limit
  · exact tables_bad limit lv n w h hT hE
  · exact tables_good limit lv l n w (by omega) (by omega) hlv hll hls hT hE
end Go.Proofs.YtdafikemndaeeaaDoor
