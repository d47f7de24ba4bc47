/- heddlemem.Chain, Refused. -/
import Derived.Test.YtdafikemndaeeaaDoorLinks
import Derived.Deep.RegionHeld3
import Derived.Deep.AppendLies
open Go Go.RowKit Go.Extern.Stop Go.Stop Go.Extern
namespace Go.Proofs.YtdafikemndaeeaaDoor

def ErrT (w : World) : Prop := w.cell? ⟨0, 0, none⟩ = some (.iface 134 (.agg #[.pointer (some ⟨7, 23, none⟩)]))
theorem ErrT.lt {w : World} (h : ErrT w) : 0 < w.heap.size := by
  rcases Nat.lt_or_ge 0 w.heap.size with h' | h'
  · exact h'
  · simp [ErrT, World.cell?, Array.getElem?_eq_none h'] at h
theorem ErrT.below {w w' : World} (h : ErrT w) (hb : Below w.heap.size w w') : ErrT w' := by
  unfold ErrT at *
  rw [hb.cell (p := ⟨0, 0, none⟩) (ErrT.lt h)]
  exact h

theorem below_grownBy {B : Nat} {a w w' : World} {t : Nat} (h : Below B a w) (hg : w.grownBy w' (some t)) (hB : B ≤ w.heap.size) (ht : B ≤ t) : Below B a w' :=
  h.grown hg hB fun k hk => by cases hk; exact ht

theorem below_links {B : Nat} {base : Nat} {v : Value} {l : List Lk} {a w w' : World} (h : Below B a w) (hv : LinksIs base v l w) (hB : B ≤ base ∧ B ≤ w.heap.size) (hg : w.grownBy w' v.ownBlock) : Below B a w' :=
  h.grown hg hB.2 fun _ hk => Nat.le_trans hB.1 (hv.block hk).1
theorem cell_of_block {w : World} {b : Nat} {cs : Array Value} {e : TypeId} {f : Nat × Nat} (h : w.heap[b]? = some (.cells cs e f)) (i : Nat) : w.cell? ⟨b, i, none⟩ = cs[i]? := by
  simp [World.cell?, h]

set_option maxHeartbeats 8000000 in
set_option maxRecDepth 100000 in
theorem chain_any (ev : Value) (l : List Lk) (w : World) (her : ErrIs w ev l) (hl : l.length ≤ 16) (hE : ErrT w) :
    Calls Tryd.prog 66 #[ev] w fun e w' => ∃ v, e = .returned v ∧ LinksIs w.heap.size v l w' ∧ Below w.heap.size w w' := by
  go_enter Tryd.func66, Tryd.ntmps66
  go_wp2
  go_loopw [0, 3, 4] (fun ev v i wr => ∃ done rest : List Lk, l = done ++ rest ∧ i = .int .i64 done.length ∧ LinksIs w.heap.size v done wr ∧ ErrIs w ev rest ∧ Below w.heap.size w wr) (fun _ _ i _ => 16 - (intOf i).toNat)
  case atStart => exact ⟨[], l, rfl, rfl, LinksIs.nil _ _, her, Below.refl _ _⟩
  case round =>
    clear her
    obtain ⟨done, rest, hdr, rfl, hlk, her, hbl⟩ := hrel
    have hwz := hbl.size
    have HL := Lib.hid hlk
    have HB := Lib.hid hbl
    have HD := Lib.hid hdr
    have hdl : done.length + rest.length ≤ 16 := by rw [← List.length_append, ← hdr]; exact hl
    clear hlk hdr
    cases rest with
    | nil =>
      obtain rfl : u0 = .nilIface := her
      clear hbl
      go_wp2
      all_goals
        go_ret
        exact ⟨_, rfl, by have := HD.out; simp at this; rw [this]; exact HL.out, HB.out⟩
    | cons k rest =>
      obtain ⟨b, u, rfl, hc, hr⟩ := her
      have hd16 : (done.length : Int) < 16 := by simp at hdl; omega
      have hbw := (Array.getElem?_eq_some_iff.1 hc).1
      have hcr := (hbl.block b hbw).trans hc
      have HC := Lib.hid hc
      have HR := Lib.hid hr
      have hE2 : ErrT (wr.alloc (.cells #[.pointer none] 105 (0, 0))) := hE.below (hbl.alloc hwz _)
      have HAs := Lib.hid (as_hit2 b wr.heap.size (wr.alloc (.cells #[.pointer none] 105 (0, 0))) hE2 (alloc_get _ _))
      have HCR := Lib.hid (show (wr.alloc (.cells #[.pointer none] 105 (0, 0))).heap[b]? = _ from (Below.heap_alloc wr _ b (by omega)).trans hcr)
      clear hc hr hcr hbl hE2
      go_wp2_with fail
      refine HAs.out.mono ?_
      rintro e w2 ⟨rfl, hg, hf⟩
      have hcr2 := (hg.block b (by simp; omega) (by simp; omega)).trans HCR.out
      have hL2 := Lib.hid ((HL.out.alloc (.cells #[.pointer none] 105 (0, 0))).frame (w' := w2) (fun g hgg => hg.block g (by have := ((HL.out.alloc (.cells #[.pointer none] 105 (0, 0))).block hgg).2; exact this) (by have := (HL.out.block hgg).2; simp; omega)))
      have hB2 := Lib.hid (below_grownBy (HB.out.alloc hwz _) hg (by simp; omega) hwz)
      have c0 := cell_of_block hf 0
      have d0 := cell_of_block hcr2 0
      have d1 := cell_of_block hcr2 1
      have d2 := cell_of_block hcr2 2
      have d3 := cell_of_block hcr2 3
      simp only [List.getElem?_toArray, List.getElem?_cons_zero, List.getElem?_cons_succ] at c0 d0 d1 d2 d3
      have hwz2 : w.heap.size ≤ w2.heap.size := hB2.out.size
      have nf : u3.ownBlock ≠ some wr.heap.size := fun e => by have := (HL.out.block e).2; omega
      have nb : u3.ownBlock ≠ some b := fun e => by have := (HL.out.block e).1; omega
      have hwf : wr.heap.size < w2.heap.size := (Array.getElem?_eq_some_iff.1 hf).1
      have hwb : b < w2.heap.size := by omega
      have HC2 := Lib.hid hcr2
      have HF2 := Lib.hid hf
      clear hg hf hcr2
      go_wp2
      go_region_held3 (fun w' => w'.cell? ⟨wr.heap.size, 0, none⟩ = some (.pointer (some ⟨b, 0, none⟩)) ∧ w'.cell? ⟨b, 0, none⟩ = some (.string k.layer) ∧ w'.cell? ⟨b, 1, none⟩ = some (.int .i64 k.at_) ∧ w'.cell? ⟨b, 2, none⟩ = some (.int .i64 k.code))
        (first
          | go_keep
          | (go_split_ands
             refine ⟨?_, ?_, ?_, ?_⟩
             · (rw [hg3.cell_far _ (by simp; omega) (Ne.symm nf)]; assumption)
             · (rw [hg3.cell_far _ (by simp; omega) (Ne.symm nb)]; assumption)
             · (rw [hg3.cell_far _ (by simp; omega) (Ne.symm nb)]; assumption)
             · (rw [hg3.cell_far _ (by simp; omega) (Ne.symm nb)]; assumption)))
        ((refine step_app_links (by rfl) _ _ (by rfl) w.heap.size u3 done (by rfl) (hL2.out.drew.alloc _) ⟨w2.heap.size, 0, none⟩ 1 1 [k] (by rfl) (by rfl) (World.news_of_block (cs := #[.string k.layer, .int .i64 k.at_, .int .i64 k.code]) (t := 104) (fr := (0, 0)) (heap_alloc_new w2.drew _)) (by omega) (by simp; omega) ?_; intro v' w3 hlk3 hg3))
      have hcr3 := (hg3.block b (by simp; omega) (Ne.symm nb)).trans ((Below.heap_alloc w2.drew _ b hwb).trans HC2.out)
      have hf3 := (hg3.block wr.heap.size (by simp; omega) (Ne.symm nf)).trans ((Below.heap_alloc w2.drew _ wr.heap.size hwf).trans HF2.out)
      have c0 := cell_of_block hf3 0
      have d3 := cell_of_block hcr3 3
      simp only [List.getElem?_toArray, List.getElem?_cons_zero, List.getElem?_cons_succ] at c0 d3
      have hB3 := Lib.hid (below_links (hB2.out.drew.alloc (by simp; omega) _) (hL2.out.drew.alloc _) (by simp; omega) hg3)
      have HL3 := Lib.hid hlk3
      clear hg3 hlk3 hcr3 hf3
      go_wp2
      go_roundw
      case rel =>
        refine ⟨done ++ [k], rest, by rw [HD.out]; simp, by simp, HL3.out, HR.out, hB3.out⟩
      case measure => simp [intOf]; omega
end Go.Proofs.YtdafikemndaeeaaDoor
