/- Texts laid together: EdL, EdN, EdO, EdP, EdQ, EdR. -/
import Derived.Test.YtlahagabcnmdiaaGreatDoorV27
import Derived.BigQuiet
import Derived.Test.YtlahagabcnmdiaaGreatDoorV11
section
/- Package etf: read. Printed by wip/edm.py. -/
open Go Go.RowKit
namespace Go.Proofs.YtlahagabcnmdiaaGreatDoor
set_option linter.unusedVariables false
set_option linter.unusedSimpArgs false

/-- what read comes to -/
def readS (l : List UInt8) : Res Tm :=
  if l.getD 0 0 = 131 ∧ l ≠ [] then termS l 256 ⟨1, 0, []⟩ else .bad [⟨etfL, 0, 81⟩]
/-- read's answer: the term, how many bytes, the atoms, the error -/
def ReadR (w : World) (r : Res Tm) (e : Ending) (w' : World) : Prop :=
  match r with
  | .ok t st => ∃ vs av, e = .returned (.tuple #[.agg vs.toArray, .int .i64 st.at_, av, .nilIface]) ∧ TmAt (fun q => w.heap.size ≤ q ∧ av.ownBlock ≠ some q) t vs w' ∧ StrsIs av st.atoms w' ∧ (∀ q, av.ownBlock = some q → w.heap.size ≤ q) ∧ Below w.heap.size w w'
  | .bad k => ∃ b, e = .returned (.tuple #[.agg termZ.toArray, .int .i64 0, .slice none 0 0, .iface 96 (.pointer (some ⟨b, 0, none⟩))]) ∧ ErrIs w' (.iface 96 (.pointer (some ⟨b, 0, none⟩))) k ∧ k ≠ [] ∧ Below w.heap.size w w'
theorem ErrIs.keepT {D : Nat → Prop} {w w' : World} (k : Keep D w w') (hD : ∀ q, D q → ∃ t cs, w.heap[q]? = some (.cells cs t (0, 0)) ∧ t ≠ 101) : ∀ {l : List Lk} {v : Value}, ErrIs w v l → ErrIs w' v l
  | [], _, h => h
  | k1 :: r, v, h => by
    obtain ⟨b, u, rfl, hc, hr⟩ := h
    refine ⟨b, u, rfl, (k.block b (Array.getElem?_eq_some_iff.1 hc).1 fun hd => ?_).trans hc, ErrIs.keepT k hD hr⟩
    obtain ⟨t, cs, e, hne⟩ := hD b hd
    rw [e] at hc
    injection hc with hc
    injection hc with _ h2
    exact hne h2
/-- read's four variables -/
def D4 (n : Nat) : Nat → Prop := fun q => q = n ∨ q = n + 1 ∨ q = n + 1 + 1 ∨ q = n + 1 + 1 + 1
set_option maxHeartbeats 16000000 in
set_option maxRecDepth 100000 in
theorem read_bad (l : List UInt8) (v : Value) (w : World) (hv : RSl v l w) (hb : ¬ (l.getD 0 0 = 131 ∧ l ≠ [])) :
    Calls Tryz.prog 56 #[v] w (ReadR w (.bad [⟨etfL, 0, 81⟩])) := by
  have HV := Lib.hid hv
  obtain ⟨a, c, rfl, hcc⟩ : ∃ a c, v = .slice a l.length c ∧ l.length ≤ maxLen := by obtain ⟨a, c, e, h1, h2, _⟩ := hv; exact ⟨a, c, e, by omega⟩
  have hmf : ∀ (fn : Fn) (first cap : Array Value) (w : World), (Instr.makeFunc fn first cap).run Tryz.prog w = .ok (.func fn first cap) w := fun _ _ _ _ => rfl
  have BX := Lib.hid (((((Below.refl w.heap.size w).alloc (Nat.le_refl _) (.cells #[.int .i64 0, .int .i64 0, .string ⟨#[]⟩, .int .u32 0, .slice none 0 0, .slice none 0 0] 35 (0, 0))).alloc (by simp) (.cells #[.int .i64 0] 3 (0, 0))).alloc (by simp; omega) (.cells #[.slice none 0 0] 56 (0, 0))).alloc (by simp; omega) (.cells #[.nilIface] 42 (0, 0)))
  have P0 := Lib.hid (show Cells ((((w.alloc (.cells #[.int .i64 0, .int .i64 0, .string ⟨#[]⟩, .int .u32 0, .slice none 0 0, .slice none 0 0] 35 (0, 0))).alloc (.cells #[.int .i64 0] 3 (0, 0))).alloc (.cells #[.slice none 0 0] 56 (0, 0))).alloc (.cells #[.nilIface] 42 (0, 0))) w.heap.size 35 termZ from (((Cells.new w 35 termZ).alloc _).alloc _).alloc _)
  have P1 := Lib.hid (show Cells ((((w.alloc (.cells #[.int .i64 0, .int .i64 0, .string ⟨#[]⟩, .int .u32 0, .slice none 0 0, .slice none 0 0] 35 (0, 0))).alloc (.cells #[.int .i64 0] 3 (0, 0))).alloc (.cells #[.slice none 0 0] 56 (0, 0))).alloc (.cells #[.nilIface] 42 (0, 0))) (w.heap.size + 1) 3 [.int .i64 0] from by
    have := ((Cells.new (w.alloc (.cells #[.int .i64 0, .int .i64 0, .string ⟨#[]⟩, .int .u32 0, .slice none 0 0, .slice none 0 0] 35 (0, 0))) 3 [.int .i64 0]).alloc (.cells #[.slice none 0 0] 56 (0, 0))).alloc (.cells #[.nilIface] 42 (0, 0))
    rwa [World.size_alloc] at this)
  have P2 := Lib.hid (show Cells ((((w.alloc (.cells #[.int .i64 0, .int .i64 0, .string ⟨#[]⟩, .int .u32 0, .slice none 0 0, .slice none 0 0] 35 (0, 0))).alloc (.cells #[.int .i64 0] 3 (0, 0))).alloc (.cells #[.slice none 0 0] 56 (0, 0))).alloc (.cells #[.nilIface] 42 (0, 0))) (w.heap.size + 1 + 1) 56 [.slice none 0 0] from by
    have := (Cells.new ((w.alloc (.cells #[.int .i64 0, .int .i64 0, .string ⟨#[]⟩, .int .u32 0, .slice none 0 0, .slice none 0 0] 35 (0, 0))).alloc (.cells #[.int .i64 0] 3 (0, 0))) 56 [.slice none 0 0]).alloc (.cells #[.nilIface] 42 (0, 0))
    rwa [World.size_alloc, World.size_alloc] at this)
  have P3 := Lib.hid (show Cells ((((w.alloc (.cells #[.int .i64 0, .int .i64 0, .string ⟨#[]⟩, .int .u32 0, .slice none 0 0, .slice none 0 0] 35 (0, 0))).alloc (.cells #[.int .i64 0] 3 (0, 0))).alloc (.cells #[.slice none 0 0] 56 (0, 0))).alloc (.cells #[.nilIface] 42 (0, 0))) (w.heap.size + 1 + 1 + 1) 42 [.nilIface] from by
    have := Cells.new (((w.alloc (.cells #[.int .i64 0, .int .i64 0, .string ⟨#[]⟩, .int .u32 0, .slice none 0 0, .slice none 0 0] 35 (0, 0))).alloc (.cells #[.int .i64 0] 3 (0, 0))).alloc (.cells #[.slice none 0 0] 56 (0, 0))) 42 [.nilIface]
    rwa [World.size_alloc, World.size_alloc, World.size_alloc] at this)
  by_cases hl : l = []
  · subst hl
    clear hb hcc
    go_enter_defers Tryz.func56, Tryz.ntmps56
    go_wp2_with fail
    generalize ((((w.alloc (.cells #[.int .i64 0, .int .i64 0, .string ⟨#[]⟩, .int .u32 0, .slice none 0 0, .slice none 0 0] 35)).alloc (.cells #[.int .i64 0] 3)).alloc (.cells #[.slice none 0 0] 56)).alloc (.cells #[.nilIface] 42)) = w4 at *
    have HF := Lib.hid (etFault_any 0 81 .nilIface [] w4 rfl)
    refine HF.out.mono ?_
    rintro e w5 ⟨b, rfl, her, hb⟩
    have HER := Lib.hid her
    have Q0 := Lib.hid (P0.out.below hb)
    have Q1 := Lib.hid (P1.out.below hb)
    have Q2 := Lib.hid (P2.out.below hb)
    have Q3 := Lib.hid (P3.out.below hb)
    have B5 := Lib.hid (BX.out.trans (hb.mono BX.out.size))
    clear her hb HF P0 P1 P2 P3 BX
    unfold termZ at Q0
    go_wp2_with (refine wpList_store_blk rfl _ (.tmp 2) (.tmp 16) rfl w.heap.size 0 [.int .i64 0, .int .i64 0, .string ⟨#[]⟩, .int .u32 0, .slice none 0 0, .slice none 0 0] (by rfl) (by rfl) (by kernel_rfl) (by simp [Value.oneCell']) 35 _ Q0.out (by show 0 + 6 ≤ 6; decide) ?_; intro wz hCz hgz; refine stop ?_)
    refine Stopped.of ?_
    have C0 := Lib.hid (show Cells wz w.heap.size 35 termZ from hCz)
    have C1 := Lib.hid (Q1.out.of_grown hgz (by omega))
    have C2 := Lib.hid (Q2.out.of_grown hgz (by omega))
    have C3 := Lib.hid (Q3.out.of_grown hgz (by omega))
    have KZ := Lib.hid (show Keep (D4 w.heap.size) w5 wz from (Keep.refl _ w5).grown hgz (fun k hk _ => by cases hk; exact .inl rfl))
    clear hCz hgz
    have f1 := C1.out.frozen 0
    have f2 := C2.out.frozen 0
    have f3 := C3.out.frozen 0
    have d1 := C1.out.cell 0
    have d2 := C2.out.cell 0
    have d3 := C3.out.cell 0
    simp only [List.getElem?_cons_zero] at d1 d2 d3
    have HN := Lib.hid (show w.heap.size ≠ w.heap.size + 1 ∧ w.heap.size ≠ w.heap.size + 1 + 1 ∧ w.heap.size ≠ w.heap.size + 1 + 1 + 1 ∧ w.heap.size + 1 ≠ w.heap.size + 1 + 1 ∧ w.heap.size + 1 ≠ w.heap.size + 1 + 1 + 1 ∧ w.heap.size + 1 + 1 ≠ w.heap.size + 1 + 1 + 1 from by omega)
    have F0 := Lib.hid (((C0.out.far (p := ⟨w.heap.size + 1, 0, none⟩) HN.out.1 (.int .i64 0)).far (p := ⟨w.heap.size + 1 + 1, 0, none⟩) HN.out.2.1 (.slice none 0 0)).far (p := ⟨w.heap.size + 1 + 1 + 1, 0, none⟩) HN.out.2.2.1 (.iface 96 (.pointer (some ⟨b, 0, none⟩))))
    have F1 := Lib.hid (show Cells _ (w.heap.size + 1) 3 [.int .i64 0] from ((C1.out.set_ 0 (.int .i64 0)).far (p := ⟨w.heap.size + 1 + 1, 0, none⟩) HN.out.2.2.2.1 (.slice none 0 0)).far (p := ⟨w.heap.size + 1 + 1 + 1, 0, none⟩) HN.out.2.2.2.2.1 (.iface 96 (.pointer (some ⟨b, 0, none⟩))))
    have F2 := Lib.hid (show Cells _ (w.heap.size + 1 + 1) 56 [.slice none 0 0] from ((C2.out.far (p := ⟨w.heap.size + 1, 0, none⟩) (fun e => HN.out.2.2.2.1 e.symm) (.int .i64 0)).set_ 0 (.slice none 0 0)).far (p := ⟨w.heap.size + 1 + 1 + 1, 0, none⟩) HN.out.2.2.2.2.2 (.iface 96 (.pointer (some ⟨b, 0, none⟩))))
    have F3 := Lib.hid (show Cells _ (w.heap.size + 1 + 1 + 1) 42 [.iface 96 (.pointer (some ⟨b, 0, none⟩))] from ((C3.out.far (p := ⟨w.heap.size + 1, 0, none⟩) (fun e => HN.out.2.2.2.2.1 e.symm) (.int .i64 0)).far (p := ⟨w.heap.size + 1 + 1, 0, none⟩) (fun e => HN.out.2.2.2.2.2 e.symm) (.slice none 0 0)).set_ 0 (.iface 96 (.pointer (some ⟨b, 0, none⟩))))
    have FK := Lib.hid (((KZ.out.setCell (p := ⟨w.heap.size + 1, 0, none⟩) (fun _ => .inr (.inl rfl)) (.int .i64 0)).setCell (p := ⟨w.heap.size + 1 + 1, 0, none⟩) (fun _ => .inr (.inr (.inl rfl))) (.slice none 0 0)).setCell (p := ⟨w.heap.size + 1 + 1 + 1, 0, none⟩) (fun _ => .inr (.inr (.inr rfl))) (.iface 96 (.pointer (some ⟨b, 0, none⟩))))
    have HERF := Lib.hid (HER.out.keepT FK.out (fun q hq => by
      rcases hq with rfl | rfl | rfl | rfl
      · exact ⟨_, _, Q0.out, by decide⟩
      · exact ⟨_, _, Q1.out, by decide⟩
      · exact ⟨_, _, Q2.out, by decide⟩
      · exact ⟨_, _, Q3.out, by decide⟩))
    go_wp2
    refine ⟨.tuple #[.agg termZ.toArray, .int .i64 0, .slice none 0 0, .iface 96 (.pointer (some ⟨b, 0, none⟩))], ?_, b, rfl, HERF.out, by simp, B5.out.trans (FK.out.toBelow B5.out.size (fun q hq => by rcases hq with rfl | rfl | rfl | rfl <;> omega))⟩
    have z0 := F0.out.cell 0
    have z1 := F0.out.cell 1
    have z2 := F0.out.cell 2
    have z3 := F0.out.cell 3
    have z4 := F0.out.cell 4
    have z5 := F0.out.cell 5
    have y1 := F1.out.cell 0
    have y2 := F2.out.cell 0
    have y3 := F3.out.cell 0
    unfold termZ at *
    simp only [List.getElem?_cons_zero, List.getElem?_cons_succ] at z0 z1 z2 z3 z4 z5 y1 y2 y3
    generalize ((wz.setCell ⟨w.heap.size + 1, 0, none⟩ (.int .i64 0)).setCell ⟨w.heap.size + 1 + 1, 0, none⟩ (.slice none 0 0)).setCell ⟨w.heap.size + 1 + 1 + 1, 0, none⟩ (.iface 96 (.pointer (some ⟨b, 0, none⟩))) = wf at *
    simp [results, Tryz.results56, go_sem, z0, z1, z2, z3, z4, z5, y1, y2, y3]
  · obtain ⟨q, o, rfl, hx⟩ := (hv.below BX.out).get 0 (List.length_pos_iff.2 hl)
    rw [Nat.add_zero] at hx
    have q1 : (((l.getD 0 0).toNat : Int) != 131) = true := by
      have : (l.getD 0 0).toNat ≠ 131 := fun e => hb ⟨UInt8.toNat_inj.1 e, hl⟩
      exact bne_iff_ne.2 (by omega)
    have q2 : ((l.length : Int) == 0) = false := beq_eq_false_iff_ne.2 (by have := List.length_pos_iff.2 hl; omega)
    have q3 : (0 : Int) < (l.length : Int) := by have := List.length_pos_iff.2 hl; omega
    generalize (l.getD 0 0).toNat = kb at *
    clear hb hcc hl hv
    go_enter_defers Tryz.func56, Tryz.ntmps56
    go_wp2_with fail
    generalize ((((w.alloc (.cells #[.int .i64 0, .int .i64 0, .string ⟨#[]⟩, .int .u32 0, .slice none 0 0, .slice none 0 0] 35)).alloc (.cells #[.int .i64 0] 3)).alloc (.cells #[.slice none 0 0] 56)).alloc (.cells #[.nilIface] 42)) = w4 at *
    have HF := Lib.hid (etFault_any 0 81 .nilIface [] w4 rfl)
    refine HF.out.mono ?_
    rintro e w5 ⟨b, rfl, her, hb⟩
    have HER := Lib.hid her
    have Q0 := Lib.hid (P0.out.below hb)
    have Q1 := Lib.hid (P1.out.below hb)
    have Q2 := Lib.hid (P2.out.below hb)
    have Q3 := Lib.hid (P3.out.below hb)
    have B5 := Lib.hid (BX.out.trans (hb.mono BX.out.size))
    clear her hb HF P0 P1 P2 P3 BX
    unfold termZ at Q0
    go_wp2_with (refine wpList_store_blk rfl _ (.tmp 2) (.tmp 16) rfl w.heap.size 0 [.int .i64 0, .int .i64 0, .string ⟨#[]⟩, .int .u32 0, .slice none 0 0, .slice none 0 0] (by rfl) (by rfl) (by kernel_rfl) (by simp [Value.oneCell']) 35 _ Q0.out (by show 0 + 6 ≤ 6; decide) ?_; intro wz hCz hgz; refine stop ?_)
    refine Stopped.of ?_
    have C0 := Lib.hid (show Cells wz w.heap.size 35 termZ from hCz)
    have C1 := Lib.hid (Q1.out.of_grown hgz (by omega))
    have C2 := Lib.hid (Q2.out.of_grown hgz (by omega))
    have C3 := Lib.hid (Q3.out.of_grown hgz (by omega))
    have KZ := Lib.hid (show Keep (D4 w.heap.size) w5 wz from (Keep.refl _ w5).grown hgz (fun k hk _ => by cases hk; exact .inl rfl))
    clear hCz hgz
    have f1 := C1.out.frozen 0
    have f2 := C2.out.frozen 0
    have f3 := C3.out.frozen 0
    have d1 := C1.out.cell 0
    have d2 := C2.out.cell 0
    have d3 := C3.out.cell 0
    simp only [List.getElem?_cons_zero] at d1 d2 d3
    have HN := Lib.hid (show w.heap.size ≠ w.heap.size + 1 ∧ w.heap.size ≠ w.heap.size + 1 + 1 ∧ w.heap.size ≠ w.heap.size + 1 + 1 + 1 ∧ w.heap.size + 1 ≠ w.heap.size + 1 + 1 ∧ w.heap.size + 1 ≠ w.heap.size + 1 + 1 + 1 ∧ w.heap.size + 1 + 1 ≠ w.heap.size + 1 + 1 + 1 from by omega)
    have F0 := Lib.hid (((C0.out.far (p := ⟨w.heap.size + 1, 0, none⟩) HN.out.1 (.int .i64 0)).far (p := ⟨w.heap.size + 1 + 1, 0, none⟩) HN.out.2.1 (.slice none 0 0)).far (p := ⟨w.heap.size + 1 + 1 + 1, 0, none⟩) HN.out.2.2.1 (.iface 96 (.pointer (some ⟨b, 0, none⟩))))
    have F1 := Lib.hid (show Cells _ (w.heap.size + 1) 3 [.int .i64 0] from ((C1.out.set_ 0 (.int .i64 0)).far (p := ⟨w.heap.size + 1 + 1, 0, none⟩) HN.out.2.2.2.1 (.slice none 0 0)).far (p := ⟨w.heap.size + 1 + 1 + 1, 0, none⟩) HN.out.2.2.2.2.1 (.iface 96 (.pointer (some ⟨b, 0, none⟩))))
    have F2 := Lib.hid (show Cells _ (w.heap.size + 1 + 1) 56 [.slice none 0 0] from ((C2.out.far (p := ⟨w.heap.size + 1, 0, none⟩) (fun e => HN.out.2.2.2.1 e.symm) (.int .i64 0)).set_ 0 (.slice none 0 0)).far (p := ⟨w.heap.size + 1 + 1 + 1, 0, none⟩) HN.out.2.2.2.2.2 (.iface 96 (.pointer (some ⟨b, 0, none⟩))))
    have F3 := Lib.hid (show Cells _ (w.heap.size + 1 + 1 + 1) 42 [.iface 96 (.pointer (some ⟨b, 0, none⟩))] from ((C3.out.far (p := ⟨w.heap.size + 1, 0, none⟩) (fun e => HN.out.2.2.2.2.1 e.symm) (.int .i64 0)).far (p := ⟨w.heap.size + 1 + 1, 0, none⟩) (fun e => HN.out.2.2.2.2.2 e.symm) (.slice none 0 0)).set_ 0 (.iface 96 (.pointer (some ⟨b, 0, none⟩))))
    have FK := Lib.hid (((KZ.out.setCell (p := ⟨w.heap.size + 1, 0, none⟩) (fun _ => .inr (.inl rfl)) (.int .i64 0)).setCell (p := ⟨w.heap.size + 1 + 1, 0, none⟩) (fun _ => .inr (.inr (.inl rfl))) (.slice none 0 0)).setCell (p := ⟨w.heap.size + 1 + 1 + 1, 0, none⟩) (fun _ => .inr (.inr (.inr rfl))) (.iface 96 (.pointer (some ⟨b, 0, none⟩))))
    have HERF := Lib.hid (HER.out.keepT FK.out (fun q hq => by
      rcases hq with rfl | rfl | rfl | rfl
      · exact ⟨_, _, Q0.out, by decide⟩
      · exact ⟨_, _, Q1.out, by decide⟩
      · exact ⟨_, _, Q2.out, by decide⟩
      · exact ⟨_, _, Q3.out, by decide⟩))
    go_wp2
    refine ⟨.tuple #[.agg termZ.toArray, .int .i64 0, .slice none 0 0, .iface 96 (.pointer (some ⟨b, 0, none⟩))], ?_, b, rfl, HERF.out, by simp, B5.out.trans (FK.out.toBelow B5.out.size (fun q hq => by rcases hq with rfl | rfl | rfl | rfl <;> omega))⟩
    have z0 := F0.out.cell 0
    have z1 := F0.out.cell 1
    have z2 := F0.out.cell 2
    have z3 := F0.out.cell 3
    have z4 := F0.out.cell 4
    have z5 := F0.out.cell 5
    have y1 := F1.out.cell 0
    have y2 := F2.out.cell 0
    have y3 := F3.out.cell 0
    unfold termZ at *
    simp only [List.getElem?_cons_zero, List.getElem?_cons_succ] at z0 z1 z2 z3 z4 z5 y1 y2 y3
    generalize ((wz.setCell ⟨w.heap.size + 1, 0, none⟩ (.int .i64 0)).setCell ⟨w.heap.size + 1 + 1, 0, none⟩ (.slice none 0 0)).setCell ⟨w.heap.size + 1 + 1 + 1, 0, none⟩ (.iface 96 (.pointer (some ⟨b, 0, none⟩))) = wf at *
    simp [results, Tryz.results56, go_sem, z0, z1, z2, z3, z4, z5, y1, y2, y3]
end Go.Proofs.YtlahagabcnmdiaaGreatDoor
end
section
/- Package etf: read, where bytes begin with 131. Printed by wip/edn.py. -/
open Go Go.RowKit
namespace Go.Proofs.YtlahagabcnmdiaaGreatDoor
set_option linter.unusedVariables false
set_option linter.unusedSimpArgs false

theorem leaves_congr {P : Program} {fn : Func} {tmps tmps' : Array Value} {R : Ending → World → Prop} (h : results fn tmps = results fn tmps') : ∀ (ds : List Deferred) (u : FrameMode) (w : World), Leaves P fn tmps R ds u w → Leaves P fn tmps' R ds u w
  | [], .returning, w, hl => by rw [Leaves] at hl ⊢; rwa [← h]
  | [], .panicking c, w, hl => by rw [Leaves] at hl ⊢; exact hl
  | [], .run, w, hl => by rw [Leaves] at hl; exact hl.elim
  | d :: ds, u, w, hl => by
    rw [Leaves] at hl ⊢
    obtain ⟨hu, fv, cap, f, args, ht, hi, hc⟩ := hl
    refine ⟨hu, fv, cap, f, args, ht, hi, hc.mono fun e u' w' hR => ?_⟩
    cases e with
    | returned v => exact leaves_congr h ds _ _ hR
    | panicked c => exact leaves_congr h ds _ _ hR
    | outgrown => exact hR
theorem read_put {R : Ending → World → Prop} {c : List PanicEntry} {a : Act} {d : Nat} {v : Value} {w : World} (hd : 6 ≤ d) (h : bodyPostD Tryz.prog Tryz.f56 R (.panic c) (a.put (some d) v) w) : bodyPostD Tryz.prog Tryz.f56 R (.panic c) a w := by
  refine leaves_congr ?_ _ _ _ h
  simp only [results, Tryz.results56, Act.put]
  simp [Array.getElem?_setIfInBounds_ne (show d ≠ 2 by omega), Array.getElem?_setIfInBounds_ne (show d ≠ 3 by omega), Array.getElem?_setIfInBounds_ne (show d ≠ 4 by omega), Array.getElem?_setIfInBounds_ne (show d ≠ 5 by omega)]
set_option maxHeartbeats 16000000 in
set_option maxRecDepth 100000 in
theorem read_good (l : List UInt8) (v : Value) (w : World) (hv : RSl v l w) (hne : l ≠ []) (hb : l.getD 0 0 = 131) (hG : Gt w) :
    Calls Tryz.prog 56 #[v] w (ReadR w (termS l 256 ⟨1, 0, []⟩)) := by
  have HV := Lib.hid hv
  obtain ⟨a, c, rfl, hcc⟩ : ∃ a c, v = .slice a l.length c ∧ l.length ≤ maxLen := by obtain ⟨a, c, e, h1, h2, _⟩ := hv; exact ⟨a, c, e, by omega⟩
  have hmf : ∀ (fn : Fn) (first cap : Array Value) (w : World), (Instr.makeFunc fn first cap).run Tryz.prog w = .ok (.func fn first cap) w := fun _ _ _ _ => rfl
  have BX := Lib.hid (((((Below.refl w.heap.size w).alloc (Nat.le_refl _) (.cells #[.int .i64 0, .int .i64 0, .string ⟨#[]⟩, .int .u32 0, .slice none 0 0, .slice none 0 0] 35 (0, 0))).alloc (by simp) (.cells #[.int .i64 0] 3 (0, 0))).alloc (by simp; omega) (.cells #[.slice none 0 0] 56 (0, 0))).alloc (by simp; omega) (.cells #[.nilIface] 42 (0, 0)))
  have P0 := Lib.hid (show Cells ((((w.alloc (.cells #[.int .i64 0, .int .i64 0, .string ⟨#[]⟩, .int .u32 0, .slice none 0 0, .slice none 0 0] 35 (0, 0))).alloc (.cells #[.int .i64 0] 3 (0, 0))).alloc (.cells #[.slice none 0 0] 56 (0, 0))).alloc (.cells #[.nilIface] 42 (0, 0))) w.heap.size 35 termZ from (((Cells.new w 35 termZ).alloc _).alloc _).alloc _)
  have P1 := Lib.hid (show Cells ((((w.alloc (.cells #[.int .i64 0, .int .i64 0, .string ⟨#[]⟩, .int .u32 0, .slice none 0 0, .slice none 0 0] 35 (0, 0))).alloc (.cells #[.int .i64 0] 3 (0, 0))).alloc (.cells #[.slice none 0 0] 56 (0, 0))).alloc (.cells #[.nilIface] 42 (0, 0))) (w.heap.size + 1) 3 [.int .i64 0] from by
    have := ((Cells.new (w.alloc (.cells #[.int .i64 0, .int .i64 0, .string ⟨#[]⟩, .int .u32 0, .slice none 0 0, .slice none 0 0] 35 (0, 0))) 3 [.int .i64 0]).alloc (.cells #[.slice none 0 0] 56 (0, 0))).alloc (.cells #[.nilIface] 42 (0, 0))
    rwa [World.size_alloc] at this)
  have P2 := Lib.hid (show Cells ((((w.alloc (.cells #[.int .i64 0, .int .i64 0, .string ⟨#[]⟩, .int .u32 0, .slice none 0 0, .slice none 0 0] 35 (0, 0))).alloc (.cells #[.int .i64 0] 3 (0, 0))).alloc (.cells #[.slice none 0 0] 56 (0, 0))).alloc (.cells #[.nilIface] 42 (0, 0))) (w.heap.size + 1 + 1) 56 [.slice none 0 0] from by
    have := (Cells.new ((w.alloc (.cells #[.int .i64 0, .int .i64 0, .string ⟨#[]⟩, .int .u32 0, .slice none 0 0, .slice none 0 0] 35 (0, 0))).alloc (.cells #[.int .i64 0] 3 (0, 0))) 56 [.slice none 0 0]).alloc (.cells #[.nilIface] 42 (0, 0))
    rwa [World.size_alloc, World.size_alloc] at this)
  have P3 := Lib.hid (show Cells ((((w.alloc (.cells #[.int .i64 0, .int .i64 0, .string ⟨#[]⟩, .int .u32 0, .slice none 0 0, .slice none 0 0] 35 (0, 0))).alloc (.cells #[.int .i64 0] 3 (0, 0))).alloc (.cells #[.slice none 0 0] 56 (0, 0))).alloc (.cells #[.nilIface] 42 (0, 0))) (w.heap.size + 1 + 1 + 1) 42 [.nilIface] from by
    have := Cells.new (((w.alloc (.cells #[.int .i64 0, .int .i64 0, .string ⟨#[]⟩, .int .u32 0, .slice none 0 0, .slice none 0 0] 35 (0, 0))).alloc (.cells #[.int .i64 0] 3 (0, 0))).alloc (.cells #[.slice none 0 0] 56 (0, 0))) 42 [.nilIface]
    rwa [World.size_alloc, World.size_alloc, World.size_alloc] at this)
  have hlen := List.length_pos_iff.2 hne
  have BR := Lib.hid ((Below.refl ((((w.alloc (.cells #[.int .i64 0, .int .i64 0, .string ⟨#[]⟩, .int .u32 0, .slice none 0 0, .slice none 0 0] 35 (0, 0))).alloc (.cells #[.int .i64 0] 3 (0, 0))).alloc (.cells #[.slice none 0 0] 56 (0, 0))).alloc (.cells #[.nilIface] 42 (0, 0))).heap.size ((((w.alloc (.cells #[.int .i64 0, .int .i64 0, .string ⟨#[]⟩, .int .u32 0, .slice none 0 0, .slice none 0 0] 35 (0, 0))).alloc (.cells #[.int .i64 0] 3 (0, 0))).alloc (.cells #[.slice none 0 0] 56 (0, 0))).alloc (.cells #[.nilIface] 42 (0, 0)))).alloc (Nat.le_refl _) (.cells #[.slice a l.length c, .int .i64 1, .int .i64 0, .slice none 0 0] 173 (0, 0)))
  have SZ := Lib.hid (show ((((w.alloc (.cells #[.int .i64 0, .int .i64 0, .string ⟨#[]⟩, .int .u32 0, .slice none 0 0, .slice none 0 0] 35 (0, 0))).alloc (.cells #[.int .i64 0] 3 (0, 0))).alloc (.cells #[.slice none 0 0] 56 (0, 0))).alloc (.cells #[.nilIface] 42 (0, 0))).heap.size = w.heap.size + 1 + 1 + 1 + 1 from by simp)
  have RR := Lib.hid (show RdIs w.heap.size (w.heap.size + 1 + 1 + 1 + 1) l (.slice a l.length c) ⟨1, 0, []⟩ (.slice none 0 0) (((((w.alloc (.cells #[.int .i64 0, .int .i64 0, .string ⟨#[]⟩, .int .u32 0, .slice none 0 0, .slice none 0 0] 35 (0, 0))).alloc (.cells #[.int .i64 0] 3 (0, 0))).alloc (.cells #[.slice none 0 0] 56 (0, 0))).alloc (.cells #[.nilIface] 42 (0, 0))).alloc (.cells #[.slice a l.length c, .int .i64 1, .int .i64 0, .slice none 0 0] 173 (0, 0))) from by
    refine ⟨by omega, ?_, (hv.below BX.out).below BR.out, fun ad n c' _ e => ?_, StrsIs.nil _, (fun q hq => nomatch hq), ⟨by decide, by show 1 ≤ l.length; omega, Nat.zero_le _, Nat.zero_le _⟩⟩
    · have := Cells.new ((((w.alloc (.cells #[.int .i64 0, .int .i64 0, .string ⟨#[]⟩, .int .u32 0, .slice none 0 0, .slice none 0 0] 35 (0, 0))).alloc (.cells #[.int .i64 0] 3 (0, 0))).alloc (.cells #[.slice none 0 0] 56 (0, 0))).alloc (.cells #[.nilIface] 42 (0, 0))) 173 [.slice a l.length c, .int .i64 1, .int .i64 0, .slice none 0 0]
      rw [SZ.out] at this
      exact this
    · obtain ⟨g0, o0, e0, hx⟩ := hv.get 0 hlen
      rw [e0] at e
      injection e with e
      injection e with e
      rw [← e]
      exact World.block_lt_of_cell? w _ hx)
  have GG := Lib.hid (show GtB w.heap.size (((((w.alloc (.cells #[.int .i64 0, .int .i64 0, .string ⟨#[]⟩, .int .u32 0, .slice none 0 0, .slice none 0 0] 35 (0, 0))).alloc (.cells #[.int .i64 0] 3 (0, 0))).alloc (.cells #[.slice none 0 0] 56 (0, 0))).alloc (.cells #[.nilIface] 42 (0, 0))).alloc (.cells #[.slice a l.length c, .int .i64 1, .int .i64 0, .slice none 0 0] 173 (0, 0))) from ⟨(hG.below BX.out).below BR.out, hG.lt⟩)
  obtain ⟨q, o, rfl, hx⟩ := (hv.below BX.out).get 0 hlen
  rw [Nat.add_zero, hb] at hx
  have hx : ((((w.alloc (.cells #[.int .i64 0, .int .i64 0, .string ⟨#[]⟩, .int .u32 0, .slice none 0 0, .slice none 0 0] 35 (0, 0))).alloc (.cells #[.int .i64 0] 3 (0, 0))).alloc (.cells #[.slice none 0 0] 56 (0, 0))).alloc (.cells #[.nilIface] 42 (0, 0))).cell? ⟨q, o, none⟩ = some (.int .u8 131) := hx
  have q2 : ((l.length : Int) == 0) = false := beq_eq_false_iff_ne.2 (by omega)
  have q3 : (0 : Int) < (l.length : Int) := by omega
  have HT := Lib.hid (term_any RR.out GG.out)
  clear hb hcc hne hv hlen hG
  go_enter_defers Tryz.func56, Tryz.ntmps56
  go_wp2_with fail
  refine HT.out.mono ?_
  intro e w6 hr
  have HNG := Lib.hid (show ∀ q, q < w.heap.size + 1 + 1 + 1 + 1 → ¬ LsK (w.heap.size + 1 + 1 + 1 + 1) (.slice none 0 0) q from fun q hq e => by
    rcases e with e | e
    · omega
    · cases e)
  cases hk : termS l 256 ⟨1, 0, []⟩ with
  | bad k =>
    rw [hk] at hr
    obtain ⟨b, rfl, he, hne, hkk⟩ := hr
    have HE := Lib.hid he
    have HNE := Lib.hid hne
    have Q0 := Lib.hid ((P0.out.below BR.out).keep hkk (HNG.out _ (by omega)))
    have Q1 := Lib.hid ((P1.out.below BR.out).keep hkk (HNG.out _ (by omega)))
    have Q2 := Lib.hid ((P2.out.below BR.out).keep hkk (HNG.out _ (by omega)))
    have Q3 := Lib.hid ((P3.out.below BR.out).keep hkk (HNG.out _ (by omega)))
    have B6 := Lib.hid (BX.out.trans ((BR.out.mono BX.out.size).trans (hkk.toBelow (Nat.le_trans BX.out.size BR.out.size) (fun q hq => by
      rcases hq with hq | hq
      · omega
      · cases hq))))
    clear he hne hkk hx HT RR GG BR BX P0 P1 P2 P3 SZ hk
    go_wp2
    refine leaves_cons (f := 97) (args := #[.pointer (some ⟨w.heap.size, 0, none⟩), .pointer (some ⟨w.heap.size + 1, 0, none⟩), .pointer (some ⟨w.heap.size + 1 + 1, 0, none⟩), .pointer (some ⟨w.heap.size + 1 + 1 + 1, 0, none⟩)]) (by simp) (by simp [go_sem]) ?_
    refine (catch_panic _ _ _ _ b w6 termZ _ _ _ Q0.out rfl Q1.out Q2.out Q3.out ⟨by omega, by omega, by omega, by omega, by omega, by omega⟩).mono ?_
    rintro e u' wf ⟨rfl, rfl, F0, F1, F2, F3, FK⟩
    refine ⟨.tuple #[.agg termZ.toArray, .int .i64 0, .slice none 0 0, .iface 96 (.pointer (some ⟨b, 0, none⟩))], ?_, b, rfl, HE.out.keepT FK (fun q hq => ?_), HNE.out, B6.out.trans (FK.toBelow B6.out.size (fun q hq => by rcases hq with rfl | rfl | rfl | rfl <;> omega))⟩
    · have z0 := F0.cell 0
      have z1 := F0.cell 1
      have z2 := F0.cell 2
      have z3 := F0.cell 3
      have z4 := F0.cell 4
      have z5 := F0.cell 5
      have y1 := F1.cell 0
      have y2 := F2.cell 0
      have y3 := F3.cell 0
      unfold termZ at *
      simp only [List.getElem?_cons_zero, List.getElem?_cons_succ] at z0 z1 z2 z3 z4 z5 y1 y2 y3
      simp [results, Tryz.results56, go_sem, z0, z1, z2, z3, z4, z5, y1, y2, y3]
    · rcases hq with rfl | rfl | rfl | rfl
      · exact ⟨_, _, Q0.out, by decide⟩
      · exact ⟨_, _, Q1.out, by decide⟩
      · exact ⟨_, _, Q2.out, by decide⟩
      · exact ⟨_, _, Q3.out, by decide⟩
  | ok t st =>
    rw [hk] at hr
    obtain ⟨_, av6, rfl, htm, hrr⟩ := hr
    obtain ⟨na7, nc7, a7, cap7, rfl, ht7⟩ := htm.six
    obtain ⟨a6, c6, rfl⟩ := hrr.1.aform
    have HT7 := Lib.hid ht7
    have HRR := Lib.hid hrr
    have Q0 := Lib.hid ((P0.out.below BR.out).keep hrr.2.1 (HNG.out _ (by omega)))
    have Q1 := Lib.hid ((P1.out.below BR.out).keep hrr.2.1 (HNG.out _ (by omega)))
    have Q2 := Lib.hid ((P2.out.below BR.out).keep hrr.2.1 (HNG.out _ (by omega)))
    have Q3 := Lib.hid ((P3.out.below BR.out).keep hrr.2.1 (HNG.out _ (by omega)))
    have QG := Lib.hid hrr.1.cells
    have SW := Lib.hid BR.out.size
    have B6 := Lib.hid (BX.out.trans ((BR.out.mono BX.out.size).trans (hrr.2.1.toBelow (Nat.le_trans BX.out.size BR.out.size) (fun q hq => by
      rcases hq with hq | hq
      · omega
      · cases hq))))
    have HK := Lib.hid hk
    clear ht7 htm hrr hx HT RR GG BX P0 P1 P2 P3 hk
    unfold termZ at Q0
    go_wp2_with (refine wpList_store_blk rfl _ (.tmp 2) (.tmp 24) rfl w.heap.size 0 [.int .i64 t.kind, .int .i64 t.int, .string t.text, .int .u32 t.cr, .slice na7 t.nums.length nc7, .slice a7 t.args.length cap7] (by rfl) (by rfl) (by kernel_rfl) (by simp [Value.oneCell']) 35 _ Q0.out (by show 0 + 6 ≤ 6; decide) ?_; intro wz hCz hgz; refine stop ?_)
    refine Stopped.of ?_
    have C0 := Lib.hid (show Cells wz w.heap.size 35 [.int .i64 t.kind, .int .i64 t.int, .string t.text, .int .u32 t.cr, .slice na7 t.nums.length nc7, .slice a7 t.args.length cap7] from hCz)
    have C1 := Lib.hid (Q1.out.of_grown hgz (by omega))
    have C2 := Lib.hid (Q2.out.of_grown hgz (by omega))
    have C3 := Lib.hid (Q3.out.of_grown hgz (by omega))
    have CG := Lib.hid (QG.out.of_grown hgz (by omega))
    have KZ := Lib.hid (show Keep (D4 w.heap.size) w6 wz from (Keep.refl _ w6).grown hgz (fun k hk _ => by cases hk; exact .inl rfl))
    clear hCz hgz
    go_wp2_with fail
    refine wp_region_L (S := fun X => Cells X w.heap.size 35 [.int .i64 t.kind, .int .i64 t.int, .string t.text, .int .u32 t.cr, .slice na7 t.nums.length nc7, .slice a7 t.args.length cap7] ∧ Cells X (w.heap.size + 1 + 1 + 1 + 1) 173 [.slice (some ⟨q, o, none⟩) l.length c, .int .i64 st.at_, .int .i64 st.part, .slice a6 st.atoms.length c6]) (F := []) (by kernel_rfl) (⟨C0.out.below (Below.drew (Below.refl _ _)), CG.out.below (Below.drew (Below.refl _ _))⟩) (fun hHeld => ?_)
    refine wpAnyL_take (i := 0) (v := (.agg #[.int .i64 t.kind, .int .i64 t.int, .string t.text, .int .u32 t.cr, .slice na7 t.nums.length nc7, .slice a7 t.args.length cap7])) (by simp only [List.getElem?_toArray, List.getElem?_cons_succ, List.getElem?_cons_zero]; rfl) (by kernel_rfl) (by kernel_rfl) (by kernel_rfl) (by kernel_rfl) (by exact fun _ _ _ h => read_put (by decide) h) (Or.inl ⟨by rfl, by intro W hSw; have x0 := hSw.1.cell 0; have x1 := hSw.1.cell 1; have x2 := hSw.1.cell 2; have x3 := hSw.1.cell 3; have x4 := hSw.1.cell 4; have x5 := hSw.1.cell 5; simp only [List.getElem?_cons_zero, List.getElem?_cons_succ, ← Nat.add_assoc, Nat.add_zero] at x0 x1 x2 x3 x4 x5; go_simp; all_goals first | rfl | exact ⟨rfl, rfl, rfl, rfl, rfl, rfl⟩⟩) (by assumption) ?_
    try simp only [Act.put, List.setIfInBounds_toArray, List.set_cons_zero, List.set_cons_succ]
    refine wpAnyL_easy (i := 1) (v := (.pointer (some ⟨w.heap.size + 1 + 1 + 1 + 1, 0, none⟩))) (by simp only [List.getElem?_toArray, List.getElem?_cons_succ, List.getElem?_cons_zero]; rfl) (by kernel_rfl) (by kernel_rfl) (by kernel_rfl) (by exact fun _ _ _ h => read_put (by decide) h) (Or.inl ⟨by rfl, fun _ _ => rfl⟩) ?_
    try simp only [Act.put, List.setIfInBounds_toArray, List.set_cons_zero, List.set_cons_succ]
    refine wpAnyL_easy (i := 2) (v := (.pointer (some ⟨w.heap.size + 1 + 1 + 1 + 1, 0, none⟩))) (by simp only [List.getElem?_toArray, List.getElem?_cons_succ, List.getElem?_cons_zero]; rfl) (by kernel_rfl) (by kernel_rfl) (by kernel_rfl) (by exact fun _ _ _ h => read_put (by decide) h) (Or.inl ⟨by rfl, by intro W _; go_simp; all_goals first | rfl | exact ⟨rfl, rfl, rfl, rfl, rfl, rfl⟩⟩) ?_
    try simp only [Act.put, List.setIfInBounds_toArray, List.set_cons_zero, List.set_cons_succ]
    refine wpAnyL_easy (i := 3) (v := (.pointer (some ⟨w.heap.size + 1 + 1 + 1 + 1, 1, none⟩))) (by simp only [List.getElem?_toArray, List.getElem?_cons_succ, List.getElem?_cons_zero]; rfl) (by kernel_rfl) (by kernel_rfl) (by kernel_rfl) (by exact fun _ _ _ h => read_put (by decide) h) (Or.inl ⟨by rfl, fun _ _ => rfl⟩) ?_
    try simp only [Act.put, List.setIfInBounds_toArray, List.set_cons_zero, List.set_cons_succ]
    refine wpAnyL_take (i := 4) (v := (.int .i64 st.at_)) (by simp only [List.getElem?_toArray, List.getElem?_cons_succ, List.getElem?_cons_zero]; rfl) (by kernel_rfl) (by kernel_rfl) (by kernel_rfl) (by kernel_rfl) (by exact fun _ _ _ h => read_put (by decide) h) (Or.inl ⟨by rfl, by intro W hSw; have x0 := show W.cell? ⟨w.heap.size + 1 + 1 + 1 + 1, 1, none⟩ = some (.int .i64 st.at_) from hSw.2.cell 1; go_simp; all_goals first | rfl | exact ⟨rfl, rfl, rfl, rfl, rfl, rfl⟩⟩) (by assumption) ?_
    try simp only [Act.put, List.setIfInBounds_toArray, List.set_cons_zero, List.set_cons_succ]
    refine wpAnyL_easy (i := 5) (v := (.pointer (some ⟨w.heap.size + 1 + 1 + 1 + 1, 0, none⟩))) (by simp only [List.getElem?_toArray, List.getElem?_cons_succ, List.getElem?_cons_zero]; rfl) (by kernel_rfl) (by kernel_rfl) (by kernel_rfl) (by exact fun _ _ _ h => read_put (by decide) h) (Or.inl ⟨by rfl, fun _ _ => rfl⟩) ?_
    try simp only [Act.put, List.setIfInBounds_toArray, List.set_cons_zero, List.set_cons_succ]
    refine wpAnyL_easy (i := 6) (v := (.pointer (some ⟨w.heap.size + 1 + 1 + 1 + 1, 0, none⟩))) (by simp only [List.getElem?_toArray, List.getElem?_cons_succ, List.getElem?_cons_zero]; rfl) (by kernel_rfl) (by kernel_rfl) (by kernel_rfl) (by exact fun _ _ _ h => read_put (by decide) h) (Or.inl ⟨by rfl, by intro W _; go_simp; all_goals first | rfl | exact ⟨rfl, rfl, rfl, rfl, rfl, rfl⟩⟩) ?_
    try simp only [Act.put, List.setIfInBounds_toArray, List.set_cons_zero, List.set_cons_succ]
    refine wpAnyL_easy (i := 7) (v := (.pointer (some ⟨w.heap.size + 1 + 1 + 1 + 1, 3, none⟩))) (by simp only [List.getElem?_toArray, List.getElem?_cons_succ, List.getElem?_cons_zero]; rfl) (by kernel_rfl) (by kernel_rfl) (by kernel_rfl) (by exact fun _ _ _ h => read_put (by decide) h) (Or.inl ⟨by rfl, fun _ _ => rfl⟩) ?_
    try simp only [Act.put, List.setIfInBounds_toArray, List.set_cons_zero, List.set_cons_succ]
    refine wpAnyL_take (i := 8) (v := (.slice a6 st.atoms.length c6)) (by simp only [List.getElem?_toArray, List.getElem?_cons_succ, List.getElem?_cons_zero]; rfl) (by kernel_rfl) (by kernel_rfl) (by kernel_rfl) (by kernel_rfl) (by exact fun _ _ _ h => read_put (by decide) h) (Or.inl ⟨by rfl, by intro W hSw; have x0 := show W.cell? ⟨w.heap.size + 1 + 1 + 1 + 1, 3, none⟩ = some (.slice a6 st.atoms.length c6) from hSw.2.cell 3; go_simp; all_goals first | rfl | exact ⟨rfl, rfl, rfl, rfl, rfl, rfl⟩⟩) (by assumption) ?_
    try simp only [Act.put, List.setIfInBounds_toArray, List.set_cons_zero, List.set_cons_succ]
    have BD := Lib.hid (show Below wz.heap.size wz wz.drew from Below.drew (Below.refl _ _))
    have D0 := Lib.hid (C0.out.below BD.out)
    have D1 := Lib.hid (C1.out.below BD.out)
    have D2 := Lib.hid (C2.out.below BD.out)
    have D3 := Lib.hid (C3.out.below BD.out)
    have DG := Lib.hid (CG.out.below BD.out)
    have KD := Lib.hid (KZ.out.below BD.out)
    clear C0 C1 C2 C3 CG KZ hHeld
    generalize wz.drew = wd at *
    refine wpAnyL_ready (rs := [9]) (by kernel_rfl) (by simp) ?_
    refine AllReadyL.cons (by simp only [List.getElem?_toArray, List.getElem?_cons_succ, List.getElem?_cons_zero]; rfl) (fun K hK => ?_) AllReadyL.nil
    refine step_store_blk (by rfl) _ (.tmp 2) (.tmp 25) (by rfl) w.heap.size 0 [.int .i64 t.kind, .int .i64 t.int, .string t.text, .int .u32 t.cr, .slice na7 t.nums.length nc7, .slice a7 t.args.length cap7] (by rfl) (by rfl) (by kernel_rfl) (by simp [Value.oneCell']) 35 _ D0.out (by show 0 + 6 ≤ 6; decide) ?_
    intro we hCe hge
    have E0 := Lib.hid (show Cells we w.heap.size 35 [.int .i64 t.kind, .int .i64 t.int, .string t.text, .int .u32 t.cr, .slice na7 t.nums.length nc7, .slice a7 t.args.length cap7] from hCe)
    have E1 := Lib.hid (D1.out.of_grown hge (by omega))
    have E2 := Lib.hid (D2.out.of_grown hge (by omega))
    have E3 := Lib.hid (D3.out.of_grown hge (by omega))
    have EG := Lib.hid (DG.out.of_grown hge (by omega))
    have KE := Lib.hid (show Keep (D4 w.heap.size) w6 we from KD.out.grown hge (fun k hk _ => by cases hk; exact .inl rfl))
    clear hCe hge D0 D1 D2 D3 DG KD
    refine hK.out _ _ (⟨E0.out, EG.out⟩) (fun hHeld => ?_)
    try simp only [Act.put, List.setIfInBounds_toArray, List.set_cons_zero, List.set_cons_succ]
    clear hHeld
    have d1 := E1.out.cell 0
    have f1 := E1.out.frozen 0
    simp only [List.getElem?_cons_zero] at d1
    refine wpAnyL_ready (rs := [10]) (by kernel_rfl) (by simp) ?_
    refine AllReadyL.cons (by simp only [List.getElem?_toArray, List.getElem?_cons_succ, List.getElem?_cons_zero]; rfl) (fun K hK => ?_) AllReadyL.nil
    go_simp
    have I0 := Lib.hid (E0.out.far (p := ⟨w.heap.size + 1, 0, none⟩) (by show w.heap.size ≠ w.heap.size + 1; omega) (.int .i64 st.at_))
    have IG := Lib.hid (EG.out.far (p := ⟨w.heap.size + 1, 0, none⟩) (by show w.heap.size + 1 + 1 + 1 + 1 ≠ w.heap.size + 1; omega) (.int .i64 st.at_))
    have I1 := Lib.hid (show Cells _ (w.heap.size + 1) 3 [.int .i64 st.at_] from E1.out.set_ 0 (.int .i64 st.at_))
    have I2 := Lib.hid (E2.out.far (p := ⟨w.heap.size + 1, 0, none⟩) (by show w.heap.size + 1 + 1 ≠ w.heap.size + 1; omega) (.int .i64 st.at_))
    have I3 := Lib.hid (E3.out.far (p := ⟨w.heap.size + 1, 0, none⟩) (by show w.heap.size + 1 + 1 + 1 ≠ w.heap.size + 1; omega) (.int .i64 st.at_))
    have KI := Lib.hid (KE.out.setCell (p := ⟨w.heap.size + 1, 0, none⟩) (fun _ => .inr (.inl rfl)) (.int .i64 st.at_))
    refine hK.out _ _ (⟨I0.out, IG.out⟩) (fun hHeld => ?_)
    try simp only [Act.put, List.setIfInBounds_toArray, List.set_cons_zero, List.set_cons_succ]
    clear hHeld d1 f1 E0 EG E1 E2 E3 KE
    have d2 := I2.out.cell 0
    have f2 := I2.out.frozen 0
    simp only [List.getElem?_cons_zero] at d2
    refine wpAnyL_ready (rs := [11]) (by kernel_rfl) (by simp) ?_
    refine AllReadyL.cons (by simp only [List.getElem?_toArray, List.getElem?_cons_succ, List.getElem?_cons_zero]; rfl) (fun K hK => ?_) AllReadyL.nil
    go_simp
    have J0 := Lib.hid (I0.out.far (p := ⟨w.heap.size + 1 + 1, 0, none⟩) (by show w.heap.size ≠ w.heap.size + 1 + 1; omega) (.slice a6 st.atoms.length c6))
    have JG := Lib.hid (IG.out.far (p := ⟨w.heap.size + 1 + 1, 0, none⟩) (by show w.heap.size + 1 + 1 + 1 + 1 ≠ w.heap.size + 1 + 1; omega) (.slice a6 st.atoms.length c6))
    have J1 := Lib.hid (I1.out.far (p := ⟨w.heap.size + 1 + 1, 0, none⟩) (by show w.heap.size + 1 ≠ w.heap.size + 1 + 1; omega) (.slice a6 st.atoms.length c6))
    have J2 := Lib.hid (show Cells _ (w.heap.size + 1 + 1) 56 [.slice a6 st.atoms.length c6] from I2.out.set_ 0 (.slice a6 st.atoms.length c6))
    have J3 := Lib.hid (I3.out.far (p := ⟨w.heap.size + 1 + 1, 0, none⟩) (by show w.heap.size + 1 + 1 + 1 ≠ w.heap.size + 1 + 1; omega) (.slice a6 st.atoms.length c6))
    have KJ := Lib.hid (KI.out.setCell (p := ⟨w.heap.size + 1 + 1, 0, none⟩) (fun _ => .inr (.inr (.inl rfl))) (.slice a6 st.atoms.length c6))
    refine hK.out _ _ (⟨J0.out, JG.out⟩) (fun hHeld => ?_)
    try simp only [Act.put, List.setIfInBounds_toArray, List.set_cons_zero, List.set_cons_succ]
    clear hHeld d2 f2 I0 IG I1 I2 I3 KI
    have d3 := J3.out.cell 0
    have f3 := J3.out.frozen 0
    simp only [List.getElem?_cons_zero] at d3
    refine wpAnyL_ready (rs := [12]) (by kernel_rfl) (by simp) ?_
    refine AllReadyL.cons (by simp only [List.getElem?_toArray, List.getElem?_cons_succ, List.getElem?_cons_zero]; rfl) (fun K hK => ?_) AllReadyL.nil
    go_simp
    have L0 := Lib.hid (J0.out.far (p := ⟨w.heap.size + 1 + 1 + 1, 0, none⟩) (by show w.heap.size ≠ w.heap.size + 1 + 1 + 1; omega) (.nilIface))
    have LG := Lib.hid (JG.out.far (p := ⟨w.heap.size + 1 + 1 + 1, 0, none⟩) (by show w.heap.size + 1 + 1 + 1 + 1 ≠ w.heap.size + 1 + 1 + 1; omega) (.nilIface))
    have L1 := Lib.hid (J1.out.far (p := ⟨w.heap.size + 1 + 1 + 1, 0, none⟩) (by show w.heap.size + 1 ≠ w.heap.size + 1 + 1 + 1; omega) (.nilIface))
    have L2 := Lib.hid (J2.out.far (p := ⟨w.heap.size + 1 + 1 + 1, 0, none⟩) (by show w.heap.size + 1 + 1 ≠ w.heap.size + 1 + 1 + 1; omega) (.nilIface))
    have L3 := Lib.hid (show Cells _ (w.heap.size + 1 + 1 + 1) 42 [.nilIface] from J3.out.set_ 0 (.nilIface))
    have KL := Lib.hid (KJ.out.setCell (p := ⟨w.heap.size + 1 + 1 + 1, 0, none⟩) (fun _ => .inr (.inr (.inr rfl))) (.nilIface))
    refine hK.out _ _ (⟨L0.out, LG.out⟩) (fun hHeld => ?_)
    try simp only [Act.put, List.setIfInBounds_toArray, List.set_cons_zero, List.set_cons_succ]
    clear hHeld d3 f3 J0 JG J1 J2 J3 KJ
    refine wpAnyL_done (by kernel_rfl) ?_ _
    go_wp2
    refine leaves_cons (f := 97) (args := #[.pointer (some ⟨w.heap.size, 0, none⟩), .pointer (some ⟨w.heap.size + 1, 0, none⟩), .pointer (some ⟨w.heap.size + 1 + 1, 0, none⟩), .pointer (some ⟨w.heap.size + 1 + 1 + 1, 0, none⟩)]) (by simp) (by simp [go_sem]) ?_
    refine (catch_idle _ _ _ _ _).mono ?_
    rintro e u' wf ⟨rfl, rfl, rfl⟩
    have hlw : ∀ q, D4 w.heap.size q → w.heap.size ≤ q := fun q hq => by rcases hq with rfl | rfl | rfl | rfl <;> omega
    have hown : ∀ q, (Value.slice a6 st.atoms.length c6).ownBlock = some q → w.heap.size ≤ q ∧ ¬ D4 w.heap.size q := fun q hq => by
      rcases HRR.out.2.2 q hq with h | h
      · cases h
      · have := SW.out
        have h5 := SZ.out
        refine ⟨by simp at h; omega, fun hd => ?_⟩
        simp at h
        rcases hd with rfl | rfl | rfl | rfl <;> omega
    show ∃ v, _ ∧ ReadR w (termS l 256 ⟨1, 0, []⟩) (.returned v) _
    rw [HK.out]
    refine ⟨.tuple #[.agg #[.int .i64 t.kind, .int .i64 t.int, .string t.text, .int .u32 t.cr, .slice na7 t.nums.length nc7, .slice a7 t.args.length cap7], .int .i64 st.at_, .slice a6 st.atoms.length c6, .nilIface], ?_, [.int .i64 t.kind, .int .i64 t.int, .string t.text, .int .u32 t.cr, .slice na7 t.nums.length nc7, .slice a7 t.args.length cap7], .slice a6 st.atoms.length c6, rfl, ?_, HRR.out.1.atoms.keep KL.out (fun q hq => (hown q hq).2), fun q hq => (hown q hq).1, B6.out.trans (KL.out.toBelow B6.out.size hlw)⟩
    · have z0 := L0.out.cell 0
      have z1 := L0.out.cell 1
      have z2 := L0.out.cell 2
      have z3 := L0.out.cell 3
      have z4 := L0.out.cell 4
      have z5 := L0.out.cell 5
      have y1 := L1.out.cell 0
      have y2 := L2.out.cell 0
      have y3 := L3.out.cell 0
      simp only [List.getElem?_cons_zero, List.getElem?_cons_succ] at z0 z1 z2 z3 z4 z5 y1 y2 y3
      generalize World.setCell (World.setCell (World.setCell we _ _) _ _) _ _ = wf at *
      simp [results, Tryz.results56, go_sem, z0, z1, z2, z3, z4, z5, y1, y2, y3]
    · refine (HT7.out.keep KL.out (fun q _ hq hd => ?_)).mono (fun q _ hq => ⟨?_, hq.2⟩)
      · have h1 := hq.1
        simp at h1
        rcases hd with rfl | rfl | rfl | rfl <;> omega
      · have h1 := hq.1
        simp at h1
        omega
end Go.Proofs.YtlahagabcnmdiaaGreatDoor
end
section
/- Package etf: Decode and Whole, with no table. -/
open Go Go.RowKit
namespace Go.Proofs.YtlahagabcnmdiaaGreatDoor
set_option linter.unusedVariables false
set_option linter.unusedSimpArgs false

theorem read_any (l : List UInt8) (v : Value) (w : World) (hv : RSl v l w) (hG : Gt w) : Calls Tryz.prog 56 #[v] w (ReadR w (readS l)) := by
  unfold readS
  by_cases h : l.getD 0 0 = 131 ∧ l ≠ []
  · rw [if_pos h]; exact read_good l v w hv h.2 h.1 hG
  · rw [if_neg h]; exact read_bad l v w hv h
theorem room_nil (v : Value) (w : World) : Calls Tryz.prog 65 #[v, .pointer none] w fun e w' => e = .returned .nilIface ∧ w' = w := by
  go_enter Tryz.func65, Tryz.ntmps65
  go_wp2
  go_ret
  exact ⟨rfl, rfl⟩
theorem put_nil (v : Value) (w : World) : Calls Tryz.prog 57 #[v, .pointer none] w fun e w' => e = .returned .nilIface ∧ w' = w := by
  have HR := Lib.hid (room_nil v w)
  go_enter Tryz.func57, Tryz.ntmps57
  go_wp2_with fail
  refine HR.out.mono ?_
  rintro e w' ⟨rfl, rfl⟩
  go_wp2
  go_ret
  exact ⟨rfl, rfl⟩
/-- Decode's answer, with no table -/
def DecR (w : World) (r : Res Tm) (e : Ending) (w' : World) : Prop :=
  match r with
  | .ok t st => ∃ vs, e = .returned (.tuple #[.agg vs.toArray, .int .i64 st.at_, .nilIface]) ∧ TmAt (fun q => w.heap.size ≤ q) t vs w' ∧ Below w.heap.size w w'
  | .bad k => ∃ b, e = .returned (.tuple #[.agg termZ.toArray, .int .i64 0, .iface 96 (.pointer (some ⟨b, 0, none⟩))]) ∧ ErrIs w' (.iface 96 (.pointer (some ⟨b, 0, none⟩))) k ∧ k ≠ [] ∧ Below w.heap.size w w'
set_option maxHeartbeats 8000000 in
set_option maxRecDepth 100000 in
theorem decode_nil (l : List UInt8) (v : Value) (w : World) (hv : RSl v l w) (hG : Gt w) : Calls Tryz.prog 19 #[v, .pointer none] w (DecR w (readS l)) := by
  have BX := Lib.hid ((Below.refl w.heap.size w).alloc (Nat.le_refl _) (.cells #[.int .i64 0, .int .i64 0, .string ⟨#[]⟩, .int .u32 0, .slice none 0 0, .slice none 0 0] 35 (0, 0)))
  have R1 := Lib.hid (show Cells (w.alloc (.cells #[.int .i64 0, .int .i64 0, .string ⟨#[]⟩, .int .u32 0, .slice none 0 0, .slice none 0 0] 35 (0, 0))) w.heap.size 35 termZ from Cells.new w 35 termZ)
  have HRD := Lib.hid (read_any l v _ (hv.below BX.out) (hG.below BX.out))
  obtain ⟨a, c, rfl⟩ : ∃ a c, v = .slice a l.length c := by obtain ⟨a, c, e, _⟩ := hv; exact ⟨a, c, e⟩
  clear hv hG
  go_enter Tryz.func19, Tryz.ntmps19
  go_wp2_with fail
  generalize w.alloc (.cells #[.int .i64 0, .int .i64 0, .string ⟨#[]⟩, .int .u32 0, .slice none 0 0, .slice none 0 0] 35) = w1 at *
  refine HRD.out.mono ?_
  intro e w2 hr
  cases hk : readS l with
  | bad k =>
    rw [hk] at hr
    have HK := Lib.hid hk
    obtain ⟨b, rfl, he, hne, hb⟩ := hr
    have HE := Lib.hid he
    have HNE := Lib.hid hne
    have R2 := Lib.hid (R1.out.below hb)
    have B2 := Lib.hid (BX.out.trans (hb.mono BX.out.size))
    have BT := Lib.hid ((Below.refl w2.heap.size w2).alloc (Nat.le_refl _) (.cells termZ.toArray 35 (0, 0)))
    have R3 := Lib.hid (R2.out.below BT.out)
    clear he hne hb hk HRD
    have HE3 := Lib.hid (HE.out.below BT.out)
    have B3 := Lib.hid (B2.out.trans (BT.out.mono B2.out.size))
    unfold termZ at *
    go_upto_region 4 with (fail)
    generalize w2.alloc (.cells #[.int .i64 0, .int .i64 0, .string ⟨#[]⟩, .int .u32 0, .slice none 0 0, .slice none 0 0] 35) = w3 at *
    go_wp2_with (refine wpList_store_blk rfl _ (.tmp 4) (.tmp 25) rfl w.heap.size 0 [.int .i64 0, .int .i64 0, .string ⟨#[]⟩, .int .u32 0, .slice none 0 0, .slice none 0 0] (by rfl) (by rfl) (by kernel_rfl) (by simp [Value.oneCell']) 35 _ R3.out (by show 0 + 6 ≤ 6; decide) ?_; intro wz hCz hgz; refine stop ?_)
    refine Stopped.of ?_
    have C0 : Cells wz w.heap.size 35 [.int .i64 0, .int .i64 0, .string ⟨#[]⟩, .int .u32 0, .slice none 0 0, .slice none 0 0] := hCz
    have z0 := C0.cell 0
    have z1 := C0.cell 1
    have z2 := C0.cell 2
    have z3 := C0.cell 3
    have z4 := C0.cell 4
    have z5 := C0.cell 5
    simp only [List.getElem?_cons_zero, List.getElem?_cons_succ] at z0 z1 z2 z3 z4 z5
    have KZ := Lib.hid (show Keep (fun q => q = w.heap.size) w3 wz from (Keep.refl _ _).grown hgz (fun k hk _ => by cases hk; rfl))
    clear C0 hCz hgz
    go_wp2
    refine bodyPost_ret (v := .tuple #[.agg #[.int .i64 0, .int .i64 0, .string ⟨#[]⟩, .int .u32 0, .slice none 0 0, .slice none 0 0], .int .i64 0, .iface 96 (.pointer (some ⟨b, 0, none⟩))]) (by simp [results, Tryz.results19, go_sem, z0, z1, z2, z3, z4, z5]) rfl ?_
    show DecR w (readS l) _ _
    rw [HK.out]
    exact ⟨b, rfl, HE3.out.keepT KZ.out (fun q (hq : q = w.heap.size) => by rw [hq]; exact ⟨_, _, R3.out, by decide⟩), HNE.out, B3.out.trans (KZ.out.toBelow B3.out.size (fun q (hq : q = w.heap.size) => by omega))⟩
  | ok t st =>
    rw [hk] at hr
    have HK := Lib.hid hk
    obtain ⟨vs, av, rfl, ht, has, hao, hb⟩ := hr
    have HT := Lib.hid ht
    obtain ⟨_, nv, a7, cap7, rfl, hnn, _⟩ := ht.parts
    obtain ⟨na7, nc7, rfl, _, _⟩ := hnn.slice
    obtain ⟨a6, c6, rfl⟩ : ∃ a c, av = .slice a st.atoms.length c := by
      rcases has.shape with ⟨rfl, e⟩ | ⟨q, c, rfl, _⟩
      · exact ⟨none, 0, by rw [e]; rfl⟩
      · exact ⟨_, c, rfl⟩
    have R2 := Lib.hid (R1.out.below hb)
    have B2 := Lib.hid (BX.out.trans (hb.mono BX.out.size))
    have BT := Lib.hid ((Below.refl w2.heap.size w2).alloc (Nat.le_refl _) (.cells #[.int .i64 t.kind, .int .i64 t.int, .string t.text, .int .u32 t.cr, .slice na7 t.nums.length nc7, .slice a7 t.args.length cap7] 35 (0, 0)))
    have T3 := Lib.hid (Cells.new w2 35 [.int .i64 t.kind, .int .i64 t.int, .string t.text, .int .u32 t.cr, .slice na7 t.nums.length nc7, .slice a7 t.args.length cap7])
    have R3 := Lib.hid (R2.out.below BT.out)
    have B3 := Lib.hid (B2.out.trans (BT.out.mono B2.out.size))
    have HT3 := Lib.hid (HT.out.below BT.out)
    have HW1 := Lib.hid R1.out.lt
    have HP := Lib.hid (fun W => put_nil (.slice a6 st.atoms.length c6) W)
    clear ht hnn has hao hb hk HRD
    unfold termZ at *
    go_wp2_with fail
    generalize w2.alloc (.cells #[.int .i64 t.kind, .int .i64 t.int, .string t.text, .int .u32 t.cr, .slice na7 t.nums.length nc7, .slice a7 t.args.length cap7] 35) = w3 at *
    refine (HP.out _).mono ?_
    rintro e w4 ⟨rfl, rfl⟩
    have m0 := T3.out.cell 0
    have m1 := T3.out.cell 1
    have m2 := T3.out.cell 2
    have m3 := T3.out.cell 3
    have m4 := T3.out.cell 4
    have m5 := T3.out.cell 5
    simp only [List.getElem?_cons_zero, List.getElem?_cons_succ] at m0 m1 m2 m3 m4 m5
    go_wp2_with (refine wpList_store_blk rfl _ (.tmp 4) (.tmp 27) rfl w.heap.size 0 [.int .i64 t.kind, .int .i64 t.int, .string t.text, .int .u32 t.cr, .slice na7 t.nums.length nc7, .slice a7 t.args.length cap7] (by rfl) (by rfl) (by kernel_rfl) (by simp [Value.oneCell']) 35 _ R3.out (by show 0 + 6 ≤ 6; decide) ?_; intro wz hCz hgz; refine stop ?_)
    refine Stopped.of ?_
    clear m0 m1 m2 m3 m4 m5
    have C0 : Cells wz w.heap.size 35 [.int .i64 t.kind, .int .i64 t.int, .string t.text, .int .u32 t.cr, .slice na7 t.nums.length nc7, .slice a7 t.args.length cap7] := hCz
    have z0 := C0.cell 0
    have z1 := C0.cell 1
    have z2 := C0.cell 2
    have z3 := C0.cell 3
    have z4 := C0.cell 4
    have z5 := C0.cell 5
    simp only [List.getElem?_cons_zero, List.getElem?_cons_succ] at z0 z1 z2 z3 z4 z5
    have KZ := Lib.hid (show Keep (fun q => q = w.heap.size) w4 wz from (Keep.refl _ _).grown hgz (fun k hk _ => by cases hk; rfl))
    clear C0 hCz hgz
    go_wp2
    refine bodyPost_ret (v := .tuple #[.agg #[.int .i64 t.kind, .int .i64 t.int, .string t.text, .int .u32 t.cr, .slice na7 t.nums.length nc7, .slice a7 t.args.length cap7], .int .i64 st.at_, .nilIface]) (by simp [results, Tryz.results19, go_sem, z0, z1, z2, z3, z4, z5]) rfl ?_
    show DecR w (readS l) _ _
    rw [HK.out]
    refine ⟨_, rfl, ?_, B3.out.trans (KZ.out.toBelow B3.out.size (fun q (hq : q = w.heap.size) => by omega))⟩
    refine (HT3.out.keep KZ.out (fun q _ hq (e : q = w.heap.size) => ?_)).mono (fun q _ hq => ?_)
    · have := hq.1; have := HW1.out; omega
    · have := hq.1; have := HW1.out; omega
end Go.Proofs.YtlahagabcnmdiaaGreatDoor
end
section
/- Package etf: Whole, with no table. Printed by wip/edp.py. -/
open Go Go.RowKit
namespace Go.Proofs.YtlahagabcnmdiaaGreatDoor
set_option linter.unusedVariables false
set_option linter.unusedSimpArgs false

/-- P4.3 -/
def wholeS (l : List UInt8) : Res Tm :=
  match readS l with
  | .ok t st => if st.at_ < l.length then .bad [⟨etfL, st.at_, 86⟩] else .ok t st
  | .bad k => .bad k
def WholeR (w : World) (r : Res Tm) (e : Ending) (w' : World) : Prop :=
  match r with
  | .ok t st => ∃ vs, e = .returned (.tuple #[.agg vs.toArray, .nilIface]) ∧ TmAt (fun q => w.heap.size ≤ q) t vs w' ∧ Below w.heap.size w w'
  | .bad k => ∃ b, e = .returned (.tuple #[.agg termZ.toArray, .iface 96 (.pointer (some ⟨b, 0, none⟩))]) ∧ ErrIs w' (.iface 96 (.pointer (some ⟨b, 0, none⟩))) k ∧ k ≠ [] ∧ Below w.heap.size w w'
set_option maxHeartbeats 8000000 in
set_option maxRecDepth 100000 in
theorem whole_nil (l : List UInt8) (v : Value) (w : World) (hv : RSl v l w) (hG : Gt w) (hat : ∀ t st, readS l = .ok t st → st.at_ ≤ 65536) : Calls Tryz.prog 24 #[v, .pointer none] w (WholeR w (wholeS l)) := by
  have BX := Lib.hid ((Below.refl w.heap.size w).alloc (Nat.le_refl _) (.cells #[.int .i64 0, .int .i64 0, .string ⟨#[]⟩, .int .u32 0, .slice none 0 0, .slice none 0 0] 35 (0, 0)))
  have R1 := Lib.hid (show Cells (w.alloc (.cells #[.int .i64 0, .int .i64 0, .string ⟨#[]⟩, .int .u32 0, .slice none 0 0, .slice none 0 0] 35 (0, 0))) w.heap.size 35 termZ from Cells.new w 35 termZ)
  have HRD := Lib.hid (read_any l v _ (hv.below BX.out) (hG.below BX.out))
  have HML := Lib.hid hv.le
  obtain ⟨a, c, rfl⟩ : ∃ a c, v = .slice a l.length c := by obtain ⟨a, c, e, _⟩ := hv; exact ⟨a, c, e⟩
  clear hv hG
  go_enter Tryz.func24, Tryz.ntmps24
  go_wp2_with fail
  generalize w.alloc (.cells #[.int .i64 0, .int .i64 0, .string ⟨#[]⟩, .int .u32 0, .slice none 0 0, .slice none 0 0] 35) = w1 at *
  refine HRD.out.mono ?_
  intro e w2 hr
  cases hk : readS l with
  | bad k =>
    rw [hk] at hr
    have HK := Lib.hid (show wholeS l = .bad k by unfold wholeS; rw [hk])
    obtain ⟨b, rfl, he, hne, hb⟩ := hr
    have HE := Lib.hid he
    have HNE := Lib.hid hne
    have R2 := Lib.hid (R1.out.below hb)
    have B2 := Lib.hid (BX.out.trans (hb.mono BX.out.size))
    have BT := Lib.hid ((Below.refl w2.heap.size w2).alloc (Nat.le_refl _) (.cells termZ.toArray 35 (0, 0)))
    have R3 := Lib.hid (R2.out.below BT.out)
    have HE3 := Lib.hid (HE.out.below BT.out)
    have B3 := Lib.hid (B2.out.trans (BT.out.mono B2.out.size))
    clear he hne hb hk HRD hat
    unfold termZ at *
    go_upto_region 9 with (fail)
    generalize w2.alloc (.cells #[.int .i64 0, .int .i64 0, .string ⟨#[]⟩, .int .u32 0, .slice none 0 0, .slice none 0 0] 35) = w3 at *
    go_wp2_with (refine wpList_store_blk rfl _ (.tmp 4) (.tmp 44) rfl w.heap.size 0 [.int .i64 0, .int .i64 0, .string ⟨#[]⟩, .int .u32 0, .slice none 0 0, .slice none 0 0] (by rfl) (by rfl) (by kernel_rfl) (by simp [Value.oneCell']) 35 _ R3.out (by show 0 + 6 ≤ 6; decide) ?_; intro wz hCz hgz; refine stop ?_)
    refine Stopped.of ?_
    have C0 : Cells wz w.heap.size 35 [.int .i64 0, .int .i64 0, .string ⟨#[]⟩, .int .u32 0, .slice none 0 0, .slice none 0 0] := hCz
    have z0 := C0.cell 0
    have z1 := C0.cell 1
    have z2 := C0.cell 2
    have z3 := C0.cell 3
    have z4 := C0.cell 4
    have z5 := C0.cell 5
    simp only [List.getElem?_cons_zero, List.getElem?_cons_succ] at z0 z1 z2 z3 z4 z5
    have KZ := Lib.hid (show Keep (fun q => q = w.heap.size) w3 wz from (Keep.refl _ _).grown hgz (fun k hk _ => by cases hk; rfl))
    clear C0 hCz hgz
    go_wp2
    refine bodyPost_ret (v := .tuple #[.agg #[.int .i64 0, .int .i64 0, .string ⟨#[]⟩, .int .u32 0, .slice none 0 0, .slice none 0 0], .iface 96 (.pointer (some ⟨b, 0, none⟩))]) (by simp [results, Tryz.results24, go_sem, z0, z1, z2, z3, z4, z5]) rfl ?_
    show WholeR w (wholeS l) _ _
    rw [HK.out]
    exact ⟨b, rfl, HE3.out.keepT KZ.out (fun q (hq : q = w.heap.size) => by rw [hq]; exact ⟨_, _, R3.out, by decide⟩), HNE.out, B3.out.trans (KZ.out.toBelow B3.out.size (fun q (hq : q = w.heap.size) => by omega))⟩
  | ok t st =>
    rw [hk] at hr
    have HA := Lib.hid (hat t st hk)
    obtain ⟨vs, av, rfl, ht, has, hao, hb⟩ := hr
    have HT := Lib.hid ht
    obtain ⟨_, nv, a7, cap7, rfl, hnn, _⟩ := ht.parts
    obtain ⟨na7, nc7, rfl, _, _⟩ := hnn.slice
    obtain ⟨a6, c6, rfl⟩ : ∃ a c, av = .slice a st.atoms.length c := by
      rcases has.shape with ⟨rfl, e⟩ | ⟨q, c, rfl, _⟩
      · exact ⟨none, 0, by rw [e]; rfl⟩
      · exact ⟨_, c, rfl⟩
    have R2 := Lib.hid (R1.out.below hb)
    have B2 := Lib.hid (BX.out.trans (hb.mono BX.out.size))
    have BT := Lib.hid ((Below.refl w2.heap.size w2).alloc (Nat.le_refl _) (.cells #[.int .i64 t.kind, .int .i64 t.int, .string t.text, .int .u32 t.cr, .slice na7 t.nums.length nc7, .slice a7 t.args.length cap7] 35 (0, 0)))
    have T3 := Lib.hid (Cells.new w2 35 [.int .i64 t.kind, .int .i64 t.int, .string t.text, .int .u32 t.cr, .slice na7 t.nums.length nc7, .slice a7 t.args.length cap7])
    have R3 := Lib.hid (R2.out.below BT.out)
    have B3 := Lib.hid (B2.out.trans (BT.out.mono B2.out.size))
    have HT3 := Lib.hid (HT.out.below BT.out)
    have HW1 := Lib.hid R1.out.lt
    have HP := Lib.hid (fun W => put_nil (.slice a6 st.atoms.length c6) W)
    have HRO := Lib.hid (fun W => room_nil (.slice a6 st.atoms.length c6) W)
    by_cases hlt : st.at_ < l.length
    · have hli : (st.at_ : Int) < (l.length : Int) := by omega
      have HK := Lib.hid (show wholeS l = .bad [⟨etfL, st.at_, 86⟩] by unfold wholeS; rw [hk]; simp only; rw [if_pos hlt])
      clear ht hnn has hao hb hk HRD hat hlt
      unfold termZ at *
      go_wp2_with fail
      generalize w2.alloc (.cells #[.int .i64 t.kind, .int .i64 t.int, .string t.text, .int .u32 t.cr, .slice na7 t.nums.length nc7, .slice a7 t.args.length cap7] 35) = w3 at *
      refine (HRO.out _).mono ?_
      rintro e w4 ⟨rfl, rfl⟩
      have HFL := Lib.hid (etFault_any st.at_ 86 .nilIface [] w4 rfl)
      go_wp2_with fail
      refine HFL.out.mono ?_
      rintro e w5 ⟨b, rfl, her, hb5⟩
      have HE3 := Lib.hid her
      have R5 := Lib.hid (R3.out.below hb5)
      have B5 := Lib.hid (B3.out.trans (hb5.mono B3.out.size))
      clear her hb5 HFL
      go_wp2_with (refine wpList_store_blk rfl _ (.tmp 4) (.tmp 33) rfl w.heap.size 0 [.int .i64 0, .int .i64 0, .string ⟨#[]⟩, .int .u32 0, .slice none 0 0, .slice none 0 0] (by rfl) (by rfl) (by kernel_rfl) (by simp [Value.oneCell']) 35 _ R5.out (by show 0 + 6 ≤ 6; decide) ?_; intro wz hCz hgz; refine stop ?_)
      refine Stopped.of ?_
      have C0 : Cells wz w.heap.size 35 [.int .i64 0, .int .i64 0, .string ⟨#[]⟩, .int .u32 0, .slice none 0 0, .slice none 0 0] := hCz
      have z0 := C0.cell 0
      have z1 := C0.cell 1
      have z2 := C0.cell 2
      have z3 := C0.cell 3
      have z4 := C0.cell 4
      have z5 := C0.cell 5
      simp only [List.getElem?_cons_zero, List.getElem?_cons_succ] at z0 z1 z2 z3 z4 z5
      have KZ := Lib.hid (show Keep (fun q => q = w.heap.size) w5 wz from (Keep.refl _ _).grown hgz (fun k hk _ => by cases hk; rfl))
      clear C0 hCz hgz
      go_wp2
      refine bodyPost_ret (v := .tuple #[.agg #[.int .i64 0, .int .i64 0, .string ⟨#[]⟩, .int .u32 0, .slice none 0 0, .slice none 0 0], .iface 96 (.pointer (some ⟨b, 0, none⟩))]) (by simp [results, Tryz.results24, go_sem, z0, z1, z2, z3, z4, z5]) rfl ?_
      show WholeR w (wholeS l) _ _
      rw [HK.out]
      exact ⟨b, rfl, HE3.out.keepT KZ.out (fun q (hq : q = w.heap.size) => by rw [hq]; exact ⟨_, _, R5.out, by decide⟩), by simp, B5.out.trans (KZ.out.toBelow B5.out.size (fun q (hq : q = w.heap.size) => by omega))⟩
    · have hli : ¬ (st.at_ : Int) < (l.length : Int) := by omega
      have hli2 : decide ((st.at_ : Int) < (l.length : Int)) = false := by simpa using hli
      have HK := Lib.hid (show wholeS l = .ok t st by unfold wholeS; rw [hk]; simp only; rw [if_neg hlt])
      clear ht hnn has hao hb hk HRD hat hlt
      unfold termZ at *
      go_wp2_with fail
      generalize w2.alloc (.cells #[.int .i64 t.kind, .int .i64 t.int, .string t.text, .int .u32 t.cr, .slice na7 t.nums.length nc7, .slice a7 t.args.length cap7] 35) = w3 at *
      refine (HP.out _).mono ?_
      rintro e w4 ⟨rfl, rfl⟩
      have m0 := T3.out.cell 0
      have m1 := T3.out.cell 1
      have m2 := T3.out.cell 2
      have m3 := T3.out.cell 3
      have m4 := T3.out.cell 4
      have m5 := T3.out.cell 5
      simp only [List.getElem?_cons_zero, List.getElem?_cons_succ] at m0 m1 m2 m3 m4 m5
      go_wp2_with (refine wpList_store_blk rfl _ (.tmp 4) (.tmp 46) rfl w.heap.size 0 [.int .i64 t.kind, .int .i64 t.int, .string t.text, .int .u32 t.cr, .slice na7 t.nums.length nc7, .slice a7 t.args.length cap7] (by rfl) (by rfl) (by kernel_rfl) (by simp [Value.oneCell']) 35 _ R3.out (by show 0 + 6 ≤ 6; decide) ?_; intro wz hCz hgz; refine stop ?_)
      refine Stopped.of ?_
      clear m0 m1 m2 m3 m4 m5
      have C0 : Cells wz w.heap.size 35 [.int .i64 t.kind, .int .i64 t.int, .string t.text, .int .u32 t.cr, .slice na7 t.nums.length nc7, .slice a7 t.args.length cap7] := hCz
      have z0 := C0.cell 0
      have z1 := C0.cell 1
      have z2 := C0.cell 2
      have z3 := C0.cell 3
      have z4 := C0.cell 4
      have z5 := C0.cell 5
      simp only [List.getElem?_cons_zero, List.getElem?_cons_succ] at z0 z1 z2 z3 z4 z5
      have KZ := Lib.hid (show Keep (fun q => q = w.heap.size) w4 wz from (Keep.refl _ _).grown hgz (fun k hk _ => by cases hk; rfl))
      clear C0 hCz hgz
      go_wp2
      refine bodyPost_ret (v := .tuple #[.agg #[.int .i64 t.kind, .int .i64 t.int, .string t.text, .int .u32 t.cr, .slice na7 t.nums.length nc7, .slice a7 t.args.length cap7], .nilIface]) (by simp [results, Tryz.results24, go_sem, z0, z1, z2, z3, z4, z5]) rfl ?_
      show WholeR w (wholeS l) _ _
      rw [HK.out]
      refine ⟨_, rfl, ?_, B3.out.trans (KZ.out.toBelow B3.out.size (fun q (hq : q = w.heap.size) => by omega))⟩
      refine (HT3.out.keep KZ.out (fun q _ hq (e : q = w.heap.size) => ?_)).mono (fun q _ hq => ?_)
      · have := hq.1; have := HW1.out; omega
      · have := hq.1; have := HW1.out; omega
end Go.Proofs.YtlahagabcnmdiaaGreatDoor
end
section
/- Layer 4, plain: where a reading ends; the bytes that everybody may look up. -/
open Go Go.RowKit
namespace Go.Proofs.YtlahagabcnmdiaaGreatDoor
set_option linter.unusedVariables false

/-- a reading goes on, and not too far -/
def Goes (l : List UInt8) {α : Type} (rd : Rd → Res α) : Prop := ∀ st x st2, rd st = .ok x st2 → st.at_ ≤ st2.at_ ∧ (st.at_ = st2.at_ ∨ (st2.at_ ≤ l.length ∧ st2.at_ ≤ 65536))
theorem Goes.bind {l : List UInt8} {α β : Type} {f : Rd → Res α} {g : α → Rd → Res β} (hf : Goes l f) (hg : ∀ x, Goes l (g x)) : Goes l fun st => (f st).bind g := by
  intro st y st2 h
  obtain ⟨x, s1, h1, h2⟩ := bind_ok h
  have k1 := hf _ _ _ h1
  have k2 := hg x _ _ _ h2
  rcases k2.2 with e | e
  · rw [← e]
    exact ⟨k1.1, k1.2⟩
  · exact ⟨Nat.le_trans k1.1 k2.1, .inr e⟩
def knownL : List UInt8 := [131, 104, 2, 119, 2, 111, 107, 108, 0, 0, 0, 2, 97, 1, 98, 255, 255, 255, 255, 106]
def knownT : Tm := .mk 5 0 ⟨#[]⟩ 0 [] [.mk 2 0 ⟨#[111, 107]⟩ 0 [] [], .mk 7 0 ⟨#[]⟩ 0 [] [.mk 1 1 ⟨#[]⟩ 0 [] [], .mk 1 (-1) ⟨#[]⟩ 0 [] [], .mk 6 0 ⟨#[]⟩ 0 [] []]]
theorem known_read : readS (knownL ++ [7]) = .ok knownT ⟨20, 6, [⟨#[111, 107]⟩]⟩ := by kernel_rfl
theorem known_whole : wholeS (knownL ++ [7]) = .bad [⟨etfL, 20, 86⟩] := by kernel_rfl
theorem known_cut : readS [131, 104, 1] = .bad [⟨etfL, 3, 82⟩] := by kernel_rfl
theorem known_enc : encS knownT = (knownL, []) := by kernel_rfl
end Go.Proofs.YtlahagabcnmdiaaGreatDoor
end
section
/- heddlelaw04: known, awake. Printed by wip/edr.py. -/
open Go Go.RowKit
namespace Go.Proofs.YtlahagabcnmdiaaGreatDoor
set_option linter.unusedVariables false
set_option linter.unusedSimpArgs false

set_option maxRecDepth 100000 in
theorem known_any (w : World) : Calls Tryz.prog 44 #[] w fun e w' => ∃ a c, e = .returned (.slice a 20 c) ∧ BufIs w.heap.size (.slice a 20 c) knownL w' ∧ Below w.heap.size w w' := by
  have HB := Lib.hid ((Below.refl w.heap.size w).alloc (Nat.le_refl _) (.cells #[.int .u8 131, .int .u8 104, .int .u8 2, .int .u8 119, .int .u8 2, .int .u8 111, .int .u8 107, .int .u8 108, .int .u8 0, .int .u8 0, .int .u8 0, .int .u8 2, .int .u8 97, .int .u8 1, .int .u8 98, .int .u8 255, .int .u8 255, .int .u8 255, .int .u8 255, .int .u8 106] 5 (0, 0)))
  have HL := Lib.hid (show BufIs w.heap.size (.slice (some ⟨w.heap.size, 0, none⟩) 20 20) knownL (w.alloc (.cells #[.int .u8 131, .int .u8 104, .int .u8 2, .int .u8 119, .int .u8 2, .int .u8 111, .int .u8 107, .int .u8 108, .int .u8 0, .int .u8 0, .int .u8 0, .int .u8 2, .int .u8 97, .int .u8 1, .int .u8 98, .int .u8 255, .int .u8 255, .int .u8 255, .int .u8 255, .int .u8 106] 5 (0, 0))) from BufIs.lit (base := w.heap.size) (w := w) knownL (Nat.le_refl _) (by decide))
  go_enter Tryz.func44, Tryz.ntmps44
  go_wp2
  go_ret
  exact ⟨_, _, rfl, HL.out, HB.out⟩
/-- the bytes and a seven behind them -/
theorem known_seven {w w1 : World} {a : Option Addr} {c : Nat} (h : BufIs w.heap.size (.slice a 20 c) knownL w1) (hb : w.heap.size ≤ w1.heap.size) :
    ∃ a' n' c' w', (Builtin.append_ #[40, 40] 40 #[.slice a 20 c, .slice (some ⟨w1.heap.size, 0, none⟩) 1 1]).run Tryz.prog (w1.alloc (.cells #[.int .u8 7] 5 (0, 0))) = .ok (.slice a' n' c') w' ∧ RSl (.slice a' n' c') (knownL ++ [7]) w' ∧ (Below w.heap.size w w1 → Below w.heap.size w w') := by
  have hb1 : Below w1.heap.size w1 (w1.alloc (.cells #[.int .u8 7] 5 (0, 0))) := (Below.refl _ _).alloc (Nat.le_refl _) _
  obtain ⟨v', w', hr, h2, hg, _⟩ := (h.below hb1 (Nat.le_refl _)).app2 (RSl.lit w1 [7] (by decide)) (by decide) (Nat.le_trans hb hb1.size)
  obtain ⟨a', n', c', rfl⟩ : ∃ a n c, v' = .slice a n c := by
    rcases h2.shape with ⟨rfl, _⟩ | ⟨_, _, rfl, _⟩ <;> exact ⟨_, _, _, rfl⟩
  refine ⟨a', n', c', w', hr, h2.rsl, fun hB => (hB.trans (hb1.mono hB.size)).grown hg (Nat.le_trans hB.size hb1.size) (fun q hq => (h.block hq).1)⟩
/-- string(b) of bytes that are read -/
theorem run_rsl_string {v : Value} {l : List UInt8} {w : World} (h : RSl v l w) (hl : l ≠ []) : (convert 40 9 v).run Tryz.prog w = .ok (.string ⟨l.toArray⟩) w := by
  obtain ⟨a, c, rfl, h1, h2, hc⟩ := h
  obtain ⟨g, o, rfl, _⟩ := hc 0 (List.length_pos_iff.2 hl)
  rw [← strOfNums_bytes]
  refine run_convert_bytes_arg w 40 5 Tryz.underlying40 Tryz.underlying5 g o l.length c _ (by simp) ?_ 9 Tryz.underlying9
  intro i hi
  obtain ⟨g', o', e, hx⟩ := hc i hi
  cases e
  rw [hx]
  simp [byteV, List.getD, hi]
set_option maxHeartbeats 16000000 in
set_option maxRecDepth 100000 in
theorem awake_any (w : World) (hG : Gt w) : Calls Tryz.prog 12 #[] w fun e w' => e = .returned (.bool true) ∧ Below w.heap.size w w' := by
  have HG := Lib.hid hG
  have HK := Lib.hid (fun W => known_any W)
  clear hG
  go_enter Tryz.func12, Tryz.ntmps12
  go_wp2_with fail
  refine (HK.out _).mono ?_
  rintro e w1 ⟨a1, c1, rfl, hb1, hB1⟩
  obtain ⟨a2, n2, c2, w2, hr2, hs2, hB2⟩ := known_seven hb1 hB1.size
  have HR2 := Lib.hid hr2
  have HB2 := Lib.hid (hB2 hB1)
  have HD := Lib.hid (decode_nil _ _ _ hs2 (HG.out.below (hB2 hB1)))
  rw [known_read] at HD
  clear hr2 hs2 hB2 hb1 hB1
  go_wp2_with (at_builtin; refine stop ?_)
  refine Stopped.of ?_
  refine wp_app_eq rfl (.tmp 12) (.tmp 13) _ _ rfl _ _ (.slice a2 n2 c2) w2 rfl rfl HR2.out ?_
  go_wp2_with fail
  refine HD.out.mono ?_
  intro e w3 hr
  obtain ⟨vs3, rfl, ht3, hb3⟩ := hr
  have HT3 := Lib.hid ht3
  have HB3 := Lib.hid (HB2.out.trans (hb3.mono HB2.out.size))
  obtain ⟨_, nv3, a3, cap3, hvs, hnn3, _⟩ := ht3.parts
  obtain ⟨na3, nc3, rfl, _, _⟩ := hnn3.slice
  replace hvs : vs3 = [.int .i64 5, .int .i64 0, .string ⟨#[]⟩, .int .u32 0, .slice na3 0 nc3, .slice a3 2 cap3] := hvs
  subst hvs
  have T4 := Lib.hid (Cells.new w3 35 [.int .i64 5, .int .i64 0, .string ⟨#[]⟩, .int .u32 0, .slice na3 0 nc3, .slice a3 2 cap3])
  have BT := Lib.hid ((Below.refl _ w3).alloc (Nat.le_refl _) (.cells #[.int .i64 5, .int .i64 0, .string ⟨#[]⟩, .int .u32 0, .slice na3 0 nc3, .slice a3 2 cap3] 35 (0, 0)))
  have HB4 := Lib.hid (HB3.out.trans (BT.out.mono HB3.out.size))
  have HE := Lib.hid (encode_any (fun q => q < w3.heap.size) knownT _ _ ((ht3.mono fun q hq _ => hq).below BT.out) (fun b hb => Nat.lt_of_lt_of_le hb BT.out.size) (HG.out.below HB4.out))
  rw [known_enc] at HE
  have m0 := T4.out.cell 0
  have m1 := T4.out.cell 1
  have m2 := T4.out.cell 2
  have m3 := T4.out.cell 3
  have m4 := T4.out.cell 4
  have m5 := T4.out.cell 5
  simp only [List.getElem?_cons_zero, List.getElem?_cons_succ] at m0 m1 m2 m3 m4 m5
  clear ht3 hnn3 hb3 HD
  go_wp2_with fail
  generalize w3.alloc (.cells #[.int .i64 5, .int .i64 0, .string ⟨#[]⟩, .int .u32 0, .slice na3 0 nc3, .slice a3 2 cap3] 35) = w4 at *
  refine HE.out.mono ?_
  intro e w5 hr
  obtain ⟨bv, ev, rfl, hbv, hev, hb5⟩ := hr
  obtain rfl : ev = .nilIface := hev
  obtain ⟨ba, bc, rfl⟩ : ∃ a c, bv = .slice a knownL.length c := by
    rcases hbv.shape with ⟨_, hn⟩ | ⟨g, c, rfl, _⟩
    · exact absurd hn (by decide)
    · exact ⟨_, c, rfl⟩
  have HBV := Lib.hid hbv.rsl
  have HB5 := Lib.hid (HB4.out.trans (hb5.mono HB4.out.size))
  have T5 := Lib.hid (T4.out.below hb5)
  have BQ := Lib.hid ((Below.refl _ w5).alloc (Nat.le_refl _) (.cells #[.int .u8 131, .int .u8 104, .int .u8 1] 5 (0, 0)))
  have HB6 := Lib.hid (HB5.out.trans (BQ.out.mono HB5.out.size))
  have T6 := Lib.hid (T5.out.below BQ.out)
  have HBV6 := Lib.hid (HBV.out.below BQ.out)
  have HD := Lib.hid (decode_nil [131, 104, 1] (.slice (some ⟨w5.heap.size, 0, none⟩) 3 3) _ (RSl.lit w5 [131, 104, 1] (by decide)) (HG.out.below HB6.out))
  rw [known_cut] at HD
  have HD2 : Hid (Calls Tryz.prog 19 #[.slice (some ⟨w5.heap.size, 0, none⟩) 3 3, .pointer none] (w5.alloc (.cells #[.int .u8 131, .int .u8 104, .int .u8 1] 5 (0, 0))) (DecR (w5.alloc (.cells #[.int .u8 131, .int .u8 104, .int .u8 1] 5 (0, 0))) (.bad [⟨etfL, 3, 82⟩]))) := HD
  clear hbv hb5 m0 m1 m2 m3 m4 m5 HE HD T4 BT
  go_wp2_with fail
  generalize w5.alloc (.cells #[.int .u8 131, .int .u8 104, .int .u8 1] 5) = w6 at *
  refine HD2.out.mono ?_
  intro e w7 hr
  obtain ⟨b7, rfl, he7, _, hb7⟩ := hr
  have HE7 := Lib.hid he7
  have HB7 := Lib.hid (HB6.out.trans (hb7.mono HB6.out.size))
  have T7 := Lib.hid (T6.out.below hb7)
  have HBV7 := Lib.hid (HBV6.out.below hb7)
  have BZ := Lib.hid ((Below.refl _ w7).alloc (Nat.le_refl _) (.cells #[.int .i64 0, .int .i64 0, .string ⟨#[]⟩, .int .u32 0, .slice none 0 0, .slice none 0 0] 35 (0, 0)))
  have HB8 := Lib.hid (HB7.out.trans (BZ.out.mono HB7.out.size))
  have T8 := Lib.hid (T7.out.below BZ.out)
  have HBV8 := Lib.hid (HBV7.out.below BZ.out)
  have HE8 := Lib.hid (HE7.out.below BZ.out)
  clear he7 hb7 HD2 T5 T6 T7 HBV HBV6 HBV7 HE7 BQ
  unfold termZ
  go_wp2_with fail
  generalize w7.alloc (.cells #[.int .i64 0, .int .i64 0, .string ⟨#[]⟩, .int .u32 0, .slice none 0 0, .slice none 0 0] 35) = w8 at *
  refine (HK.out _).mono ?_
  rintro e w9 ⟨a9, c9, rfl, hb9, hB9⟩
  obtain ⟨aA, nA, cA, wA, hrA, hsA, hBA⟩ := known_seven hb9 hB9.size
  have HRA := Lib.hid hrA
  have HB8A := Lib.hid (hBA hB9)
  have HBA := Lib.hid (HB8.out.trans ((hBA hB9).mono HB8.out.size))
  have TA := Lib.hid (T8.out.below (hBA hB9))
  have HBVA := Lib.hid (HBV8.out.below (hBA hB9))
  have HEA := Lib.hid (HE8.out.below (hBA hB9))
  have HW := Lib.hid (whole_nil _ _ _ hsA (HG.out.below HBA.out) (fun t st h => by rw [known_read] at h; cases h; decide))
  rw [known_whole] at HW
  clear hrA hsA hBA hb9 hB9 T8 HBV8 HE8
  go_wp2_with (at_builtin; refine stop ?_)
  refine Stopped.of ?_
  refine wp_app_eq rfl (.tmp 31) (.tmp 32) _ _ rfl _ _ (.slice aA nA cA) wA rfl rfl HRA.out ?_
  go_wp2_with fail
  refine HW.out.mono ?_
  intro e wB hr
  obtain ⟨bB, rfl, heB, _, hbB⟩ := hr
  have HBB := Lib.hid (HBA.out.trans (hbB.mono HBA.out.size))
  have BY := Lib.hid ((Below.refl _ wB).alloc (Nat.le_refl _) (.cells #[.int .i64 0, .int .i64 0, .string ⟨#[]⟩, .int .u32 0, .slice none 0 0, .slice none 0 0] 35 (0, 0)))
  have HBC := Lib.hid (HBB.out.trans (BY.out.mono HBB.out.size))
  have TC := Lib.hid ((TA.out.below hbB).below BY.out)
  have HBVC := Lib.hid ((HBVA.out.below hbB).below BY.out)
  have HEC := Lib.hid ((HEA.out.below hbB).below BY.out)
  have HFC := Lib.hid (ErrIs.below BY.out heB)
  clear heB hbB HW TA HBVA HEA
  unfold termZ
  go_wp2_with fail
  generalize wB.alloc (.cells #[.int .i64 0, .int .i64 0, .string ⟨#[]⟩, .int .u32 0, .slice none 0 0, .slice none 0 0] 35) = wC at *
  go_wp2
  refine wp_region_L (S := fun X => Below wC.heap.size wC X) (F := []) (by kernel_rfl) (Below.drew (Below.refl _ _)) (fun hHeld => ?_)
  refine wpAnyL_easy (i := 0) (v := .nilIface) (by simp only [List.getElem?_toArray, List.getElem?_cons_succ, List.getElem?_cons_zero]; rfl) (by kernel_rfl) (by kernel_rfl) (by kernel_rfl) (by exact fun _ _ _ h => h) (Or.inl ⟨by rfl, fun _ _ => rfl⟩) ?_
  try simp only [Act.put, List.setIfInBounds_toArray, List.set_cons_zero, List.set_cons_succ]
  refine wpAnyL_easy (i := 1) (v := (.bool true)) (by simp only [List.getElem?_toArray, List.getElem?_cons_succ, List.getElem?_cons_zero]; rfl) (by kernel_rfl) (by kernel_rfl) (by kernel_rfl) (by exact fun _ _ _ h => h) (Or.inl ⟨by rfl, by intro W _; go_simp; all_goals first | rfl | exact ⟨rfl, rfl, rfl, rfl, rfl, rfl⟩⟩) ?_
  try simp only [Act.put, List.setIfInBounds_toArray, List.set_cons_zero, List.set_cons_succ]
  refine wpAnyL_easy (i := 2) (v := (.bool true)) (by simp only [List.getElem?_toArray, List.getElem?_cons_succ, List.getElem?_cons_zero]; rfl) (by kernel_rfl) (by kernel_rfl) (by kernel_rfl) (by exact fun _ _ _ h => h) (Or.inl ⟨by rfl, by intro W _; go_simp; all_goals first | rfl | exact ⟨rfl, rfl, rfl, rfl, rfl, rfl⟩⟩) ?_
  try simp only [Act.put, List.setIfInBounds_toArray, List.set_cons_zero, List.set_cons_succ]
  refine wpAnyL_easy (i := 3) (v := .nilIface) (by simp only [List.getElem?_toArray, List.getElem?_cons_succ, List.getElem?_cons_zero]; rfl) (by kernel_rfl) (by kernel_rfl) (by kernel_rfl) (by exact fun _ _ _ h => h) (Or.inl ⟨by rfl, fun _ _ => rfl⟩) ?_
  try simp only [Act.put, List.setIfInBounds_toArray, List.set_cons_zero, List.set_cons_succ]
  refine wpAnyL_easy (i := 4) (v := (.bool true)) (by simp only [List.getElem?_toArray, List.getElem?_cons_succ, List.getElem?_cons_zero]; rfl) (by kernel_rfl) (by kernel_rfl) (by kernel_rfl) (by exact fun _ _ _ h => h) (Or.inl ⟨by rfl, by intro W _; go_simp; all_goals first | rfl | exact ⟨rfl, rfl, rfl, rfl, rfl, rfl⟩⟩) ?_
  try simp only [Act.put, List.setIfInBounds_toArray, List.set_cons_zero, List.set_cons_succ]
  refine wpAnyL_easy (i := 5) (v := (.bool true)) (by simp only [List.getElem?_toArray, List.getElem?_cons_succ, List.getElem?_cons_zero]; rfl) (by kernel_rfl) (by kernel_rfl) (by kernel_rfl) (by exact fun _ _ _ h => h) (Or.inl ⟨by rfl, by intro W _; go_simp; all_goals first | rfl | exact ⟨rfl, rfl, rfl, rfl, rfl, rfl⟩⟩) ?_
  try simp only [Act.put, List.setIfInBounds_toArray, List.set_cons_zero, List.set_cons_succ]
  refine wpAnyL_easy (i := 6) (v := (.bool true)) (by simp only [List.getElem?_toArray, List.getElem?_cons_succ, List.getElem?_cons_zero]; rfl) (by kernel_rfl) (by kernel_rfl) (by kernel_rfl) (by exact fun _ _ _ h => h) (Or.inl ⟨by rfl, by intro W _; go_simp; all_goals first | rfl | exact ⟨rfl, rfl, rfl, rfl, rfl, rfl⟩⟩) ?_
  try simp only [Act.put, List.setIfInBounds_toArray, List.set_cons_zero, List.set_cons_succ]
  refine wpAnyL_easy (i := 7) (v := (.int .i64 20)) (by simp only [List.getElem?_toArray, List.getElem?_cons_succ, List.getElem?_cons_zero]; rfl) (by kernel_rfl) (by kernel_rfl) (by kernel_rfl) (by exact fun _ _ _ h => h) (Or.inl ⟨by rfl, fun _ _ => rfl⟩) ?_
  try simp only [Act.put, List.setIfInBounds_toArray, List.set_cons_zero, List.set_cons_succ]
  refine wpAnyL_easy (i := 8) (v := (.bool true)) (by simp only [List.getElem?_toArray, List.getElem?_cons_succ, List.getElem?_cons_zero]; rfl) (by kernel_rfl) (by kernel_rfl) (by kernel_rfl) (by exact fun _ _ _ h => h) (Or.inl ⟨by rfl, by intro W _; go_simp; all_goals first | rfl | exact ⟨rfl, rfl, rfl, rfl, rfl, rfl⟩⟩) ?_
  try simp only [Act.put, List.setIfInBounds_toArray, List.set_cons_zero, List.set_cons_succ]
  refine wpAnyL_easy (i := 9) (v := (.bool true)) (by simp only [List.getElem?_toArray, List.getElem?_cons_succ, List.getElem?_cons_zero]; rfl) (by kernel_rfl) (by kernel_rfl) (by kernel_rfl) (by exact fun _ _ _ h => h) (Or.inl ⟨by rfl, by intro W _; go_simp; all_goals first | rfl | exact ⟨rfl, rfl, rfl, rfl, rfl, rfl⟩⟩) ?_
  try simp only [Act.put, List.setIfInBounds_toArray, List.set_cons_zero, List.set_cons_succ]
  refine wpAnyL_easy (i := 10) (v := (.bool true)) (by simp only [List.getElem?_toArray, List.getElem?_cons_succ, List.getElem?_cons_zero]; rfl) (by kernel_rfl) (by kernel_rfl) (by kernel_rfl) (by exact fun _ _ _ h => h) (Or.inl ⟨by rfl, by intro W _; go_simp; all_goals first | rfl | exact ⟨rfl, rfl, rfl, rfl, rfl, rfl⟩⟩) ?_
  try simp only [Act.put, List.setIfInBounds_toArray, List.set_cons_zero, List.set_cons_succ]
  refine wpAnyL_easy (i := 11) (v := (.slice ba knownL.length bc)) (by simp only [List.getElem?_toArray, List.getElem?_cons_succ, List.getElem?_cons_zero]; rfl) (by kernel_rfl) (by kernel_rfl) (by kernel_rfl) (by exact fun _ _ _ h => h) (Or.inl ⟨by rfl, fun _ _ => rfl⟩) ?_
  try simp only [Act.put, List.setIfInBounds_toArray, List.set_cons_zero, List.set_cons_succ]
  refine wpAnyL_take (i := 12) (v := (.string ⟨knownL.toArray⟩)) (by simp only [List.getElem?_toArray, List.getElem?_cons_succ, List.getElem?_cons_zero]; rfl) (by kernel_rfl) (by kernel_rfl) (by kernel_rfl) (by kernel_rfl) (by exact fun _ _ _ h => h) (Or.inl ⟨by rfl, by intro W hSw; have x0 := run_rsl_string (HBVC.out.below hSw) (by decide); go_simp; all_goals first | rfl | exact ⟨rfl, rfl, rfl, rfl, rfl, rfl⟩⟩) (by assumption) ?_
  try simp only [Act.put, List.setIfInBounds_toArray, List.set_cons_zero, List.set_cons_succ]
  refine wpAnyL_ready (rs := [13]) (by kernel_rfl) (by simp) ?_
  refine AllReadyL.cons (by simp only [List.getElem?_toArray, List.getElem?_cons_succ, List.getElem?_cons_zero]; rfl) (fun K hK => ?_) AllReadyL.nil
  go_simp
  refine (HK.out _).mono ?_
  rintro e wD ⟨aD, cD, rfl, hbD, hBD⟩
  have HSD := Lib.hid (run_buf_string hbD)
  have HDW := Lib.hid (hHeld.trans (hBD.mono hHeld.size))
  clear hBD hbD hHeld
  refine hK.out _ _ (HDW.out) (fun hHeld => ?_)
  try simp only [Act.put, List.setIfInBounds_toArray, List.set_cons_zero, List.set_cons_succ]
  clear hHeld
  refine wpAnyL_ready (rs := [14]) (by kernel_rfl) (by simp) ?_
  refine AllReadyL.cons (by simp only [List.getElem?_toArray, List.getElem?_cons_succ, List.getElem?_cons_zero]; rfl) (fun K hK => ?_) AllReadyL.nil
  have hsd := HSD.out
  go_simp
  clear hsd
  refine hK.out _ _ (HDW.out) (fun hHeld => ?_)
  try simp only [Act.put, List.setIfInBounds_toArray, List.set_cons_zero, List.set_cons_succ]
  clear hHeld
  refine wpAnyL_easy (i := 15) (v := (.bool true)) (by simp only [List.getElem?_toArray, List.getElem?_cons_succ, List.getElem?_cons_zero]; rfl) (by kernel_rfl) (by kernel_rfl) (by kernel_rfl) (by exact fun _ _ _ h => h) (Or.inl ⟨by rfl, by intro W _; go_simp; all_goals first | rfl | exact ⟨rfl, rfl, rfl, rfl, rfl, rfl⟩⟩) ?_
  try simp only [Act.put, List.setIfInBounds_toArray, List.set_cons_zero, List.set_cons_succ]
  refine wpAnyL_easy (i := 16) (v := (.bool true)) (by simp only [List.getElem?_toArray, List.getElem?_cons_succ, List.getElem?_cons_zero]; rfl) (by kernel_rfl) (by kernel_rfl) (by kernel_rfl) (by exact fun _ _ _ h => h) (Or.inl ⟨by rfl, by intro W _; go_simp; all_goals first | rfl | exact ⟨rfl, rfl, rfl, rfl, rfl, rfl⟩⟩) ?_
  try simp only [Act.put, List.setIfInBounds_toArray, List.set_cons_zero, List.set_cons_succ]
  refine wpAnyL_easy (i := 17) (v := (.bool true)) (by simp only [List.getElem?_toArray, List.getElem?_cons_succ, List.getElem?_cons_zero]; rfl) (by kernel_rfl) (by kernel_rfl) (by kernel_rfl) (by exact fun _ _ _ h => h) (Or.inl ⟨by rfl, by intro W _; go_simp; all_goals first | rfl | exact ⟨rfl, rfl, rfl, rfl, rfl, rfl⟩⟩) ?_
  try simp only [Act.put, List.setIfInBounds_toArray, List.set_cons_zero, List.set_cons_succ]
  refine wpAnyL_easy (i := 18) (v := (.pointer (some ⟨w3.heap.size, 0, none⟩))) (by simp only [List.getElem?_toArray, List.getElem?_cons_succ, List.getElem?_cons_zero]; rfl) (by kernel_rfl) (by kernel_rfl) (by kernel_rfl) (by exact fun _ _ _ h => h) (Or.inl ⟨by rfl, by intro W _; go_simp; all_goals first | rfl | exact ⟨rfl, rfl, rfl, rfl, rfl, rfl⟩⟩) ?_
  try simp only [Act.put, List.setIfInBounds_toArray, List.set_cons_zero, List.set_cons_succ]
  refine wpAnyL_take (i := 19) (v := (.int .i64 5)) (by simp only [List.getElem?_toArray, List.getElem?_cons_succ, List.getElem?_cons_zero]; rfl) (by kernel_rfl) (by kernel_rfl) (by kernel_rfl) (by kernel_rfl) (by exact fun _ _ _ h => h) (Or.inl ⟨by rfl, by intro W hSw; have x0 := show W.cell? ⟨w3.heap.size, 0, none⟩ = some (.int .i64 5) from (TC.out.below hSw).cell 0; go_simp; all_goals first | rfl | exact ⟨rfl, rfl, rfl, rfl, rfl, rfl⟩⟩) HDW.out ?_
  try simp only [Act.put, List.setIfInBounds_toArray, List.set_cons_zero, List.set_cons_succ]
  refine wpAnyL_easy (i := 20) (v := (.bool true)) (by simp only [List.getElem?_toArray, List.getElem?_cons_succ, List.getElem?_cons_zero]; rfl) (by kernel_rfl) (by kernel_rfl) (by kernel_rfl) (by exact fun _ _ _ h => h) (Or.inl ⟨by rfl, by intro W _; go_simp; all_goals first | rfl | exact ⟨rfl, rfl, rfl, rfl, rfl, rfl⟩⟩) ?_
  try simp only [Act.put, List.setIfInBounds_toArray, List.set_cons_zero, List.set_cons_succ]
  refine wpAnyL_easy (i := 21) (v := (.bool true)) (by simp only [List.getElem?_toArray, List.getElem?_cons_succ, List.getElem?_cons_zero]; rfl) (by kernel_rfl) (by kernel_rfl) (by kernel_rfl) (by exact fun _ _ _ h => h) (Or.inl ⟨by rfl, by intro W _; go_simp; all_goals first | rfl | exact ⟨rfl, rfl, rfl, rfl, rfl, rfl⟩⟩) ?_
  try simp only [Act.put, List.setIfInBounds_toArray, List.set_cons_zero, List.set_cons_succ]
  refine wpAnyL_easy (i := 22) (v := (.bool true)) (by simp only [List.getElem?_toArray, List.getElem?_cons_succ, List.getElem?_cons_zero]; rfl) (by kernel_rfl) (by kernel_rfl) (by kernel_rfl) (by exact fun _ _ _ h => h) (Or.inl ⟨by rfl, by intro W _; go_simp; all_goals first | rfl | exact ⟨rfl, rfl, rfl, rfl, rfl, rfl⟩⟩) ?_
  try simp only [Act.put, List.setIfInBounds_toArray, List.set_cons_zero, List.set_cons_succ]
  refine wpAnyL_easy (i := 23) (v := (.pointer (some ⟨w3.heap.size, 5, none⟩))) (by simp only [List.getElem?_toArray, List.getElem?_cons_succ, List.getElem?_cons_zero]; rfl) (by kernel_rfl) (by kernel_rfl) (by kernel_rfl) (by exact fun _ _ _ h => h) (Or.inl ⟨by rfl, by intro W _; go_simp; all_goals first | rfl | exact ⟨rfl, rfl, rfl, rfl, rfl, rfl⟩⟩) ?_
  try simp only [Act.put, List.setIfInBounds_toArray, List.set_cons_zero, List.set_cons_succ]
  refine wpAnyL_take (i := 24) (v := (.slice a3 2 cap3)) (by simp only [List.getElem?_toArray, List.getElem?_cons_succ, List.getElem?_cons_zero]; rfl) (by kernel_rfl) (by kernel_rfl) (by kernel_rfl) (by kernel_rfl) (by exact fun _ _ _ h => h) (Or.inl ⟨by rfl, by intro W hSw; have x0 := show W.cell? ⟨w3.heap.size, 5, none⟩ = some (.slice a3 2 cap3) from (TC.out.below hSw).cell 5; go_simp; all_goals first | rfl | exact ⟨rfl, rfl, rfl, rfl, rfl, rfl⟩⟩) HDW.out ?_
  try simp only [Act.put, List.setIfInBounds_toArray, List.set_cons_zero, List.set_cons_succ]
  refine wpAnyL_easy (i := 25) (v := (.int .i64 2)) (by simp only [List.getElem?_toArray, List.getElem?_cons_succ, List.getElem?_cons_zero]; rfl) (by kernel_rfl) (by kernel_rfl) (by kernel_rfl) (by exact fun _ _ _ h => h) (Or.inl ⟨by rfl, by intro W _; go_simp; all_goals first | rfl | exact ⟨rfl, rfl, rfl, rfl, rfl, rfl⟩⟩) ?_
  try simp only [Act.put, List.setIfInBounds_toArray, List.set_cons_zero, List.set_cons_succ]
  refine wpAnyL_easy (i := 26) (v := (.bool true)) (by simp only [List.getElem?_toArray, List.getElem?_cons_succ, List.getElem?_cons_zero]; rfl) (by kernel_rfl) (by kernel_rfl) (by kernel_rfl) (by exact fun _ _ _ h => h) (Or.inl ⟨by rfl, by intro W _; go_simp; all_goals first | rfl | exact ⟨rfl, rfl, rfl, rfl, rfl, rfl⟩⟩) ?_
  try simp only [Act.put, List.setIfInBounds_toArray, List.set_cons_zero, List.set_cons_succ]
  refine wpAnyL_easy (i := 27) (v := (.bool true)) (by simp only [List.getElem?_toArray, List.getElem?_cons_succ, List.getElem?_cons_zero]; rfl) (by kernel_rfl) (by kernel_rfl) (by kernel_rfl) (by exact fun _ _ _ h => h) (Or.inl ⟨by rfl, by intro W _; go_simp; all_goals first | rfl | exact ⟨rfl, rfl, rfl, rfl, rfl, rfl⟩⟩) ?_
  try simp only [Act.put, List.setIfInBounds_toArray, List.set_cons_zero, List.set_cons_succ]
  refine wpAnyL_easy (i := 28) (v := (.bool true)) (by simp only [List.getElem?_toArray, List.getElem?_cons_succ, List.getElem?_cons_zero]; rfl) (by kernel_rfl) (by kernel_rfl) (by kernel_rfl) (by exact fun _ _ _ h => h) (Or.inl ⟨by rfl, by intro W _; go_simp; all_goals first | rfl | exact ⟨rfl, rfl, rfl, rfl, rfl, rfl⟩⟩) ?_
  try simp only [Act.put, List.setIfInBounds_toArray, List.set_cons_zero, List.set_cons_succ]
  refine wpAnyL_easy (i := 29) (v := (.iface 96 (.pointer (some ⟨b7, 0, none⟩)))) (by simp only [List.getElem?_toArray, List.getElem?_cons_succ, List.getElem?_cons_zero]; rfl) (by kernel_rfl) (by kernel_rfl) (by kernel_rfl) (by exact fun _ _ _ h => h) (Or.inl ⟨by rfl, fun _ _ => rfl⟩) ?_
  try simp only [Act.put, List.setIfInBounds_toArray, List.set_cons_zero, List.set_cons_succ]
  refine wpAnyL_ready (rs := [30]) (by kernel_rfl) (by simp) ?_
  refine AllReadyL.cons (by simp only [List.getElem?_toArray, List.getElem?_cons_succ, List.getElem?_cons_zero]; rfl) (fun K hK => ?_) AllReadyL.nil
  go_simp
  refine (one_any _ _ _ _).mono ?_
  rintro e _ ⟨rfl, rfl⟩
  have LK := Lib.hid (LinksIs.lit (base := wD.heap.size) (w := wD) ⟨etfL, 3, 82⟩ (Nat.le_refl _))
  have BA := Lib.hid ((Below.refl wD.heap.size wD).alloc (Nat.le_refl _) (.cells #[.string etfL, .int .i64 3, .int .i64 82] 112 (0, 0)))
  have HEWA := Lib.hid (HDW.out.trans (BA.out.mono HDW.out.size))
  refine hK.out _ _ (HEWA.out) (fun hHeld => ?_)
  try simp only [Act.put, List.setIfInBounds_toArray, List.set_cons_zero, List.set_cons_succ]
  clear hHeld
  refine wpAnyL_ready (rs := [31]) (by kernel_rfl) (by simp) ?_
  refine AllReadyL.cons (by simp only [List.getElem?_toArray, List.getElem?_cons_succ, List.getElem?_cons_zero]; rfl) (fun K hK => ?_) AllReadyL.nil
  go_simp
  refine (refused_links _ [⟨etfL, 3, 82⟩] [⟨etfL, 3, 82⟩] _ _ _ (HEC.out.below HEWA.out) (by decide) (by decide) LK.out (HG.out.below (HBC.out.trans (HEWA.out.mono HBC.out.size))).1).mono ?_
  rintro e wE ⟨rfl, hbz⟩
  rw [decide_eq_true rfl]
  have HEW := Lib.hid (HEWA.out.trans (hbz.mono HEWA.out.size))
  clear hbz
  refine hK.out _ _ (HEW.out) (fun hHeld => ?_)
  try simp only [Act.put, List.setIfInBounds_toArray, List.set_cons_zero, List.set_cons_succ]
  clear LK BA hHeld
  refine wpAnyL_easy (i := 32) (v := (.bool true)) (by simp only [List.getElem?_toArray, List.getElem?_cons_succ, List.getElem?_cons_zero]; rfl) (by kernel_rfl) (by kernel_rfl) (by kernel_rfl) (by exact fun _ _ _ h => h) (Or.inl ⟨by rfl, by intro W _; go_simp; all_goals first | rfl | exact ⟨rfl, rfl, rfl, rfl, rfl, rfl⟩⟩) ?_
  try simp only [Act.put, List.setIfInBounds_toArray, List.set_cons_zero, List.set_cons_succ]
  refine wpAnyL_easy (i := 33) (v := (.bool true)) (by simp only [List.getElem?_toArray, List.getElem?_cons_succ, List.getElem?_cons_zero]; rfl) (by kernel_rfl) (by kernel_rfl) (by kernel_rfl) (by exact fun _ _ _ h => h) (Or.inl ⟨by rfl, by intro W _; go_simp; all_goals first | rfl | exact ⟨rfl, rfl, rfl, rfl, rfl, rfl⟩⟩) ?_
  try simp only [Act.put, List.setIfInBounds_toArray, List.set_cons_zero, List.set_cons_succ]
  refine wpAnyL_easy (i := 34) (v := (.iface 96 (.pointer (some ⟨bB, 0, none⟩)))) (by simp only [List.getElem?_toArray, List.getElem?_cons_succ, List.getElem?_cons_zero]; rfl) (by kernel_rfl) (by kernel_rfl) (by kernel_rfl) (by exact fun _ _ _ h => h) (Or.inl ⟨by rfl, fun _ _ => rfl⟩) ?_
  try simp only [Act.put, List.setIfInBounds_toArray, List.set_cons_zero, List.set_cons_succ]
  refine wpAnyL_ready (rs := [35]) (by kernel_rfl) (by simp) ?_
  refine AllReadyL.cons (by simp only [List.getElem?_toArray, List.getElem?_cons_succ, List.getElem?_cons_zero]; rfl) (fun K hK => ?_) AllReadyL.nil
  go_simp
  refine (one_any _ _ _ _).mono ?_
  rintro e _ ⟨rfl, rfl⟩
  have LK := Lib.hid (LinksIs.lit (base := wE.heap.size) (w := wE) ⟨etfL, 20, 86⟩ (Nat.le_refl _))
  have BA := Lib.hid ((Below.refl wE.heap.size wE).alloc (Nat.le_refl _) (.cells #[.string etfL, .int .i64 20, .int .i64 86] 112 (0, 0)))
  have HFWA := Lib.hid (HEW.out.trans (BA.out.mono HEW.out.size))
  refine hK.out _ _ (HFWA.out) (fun hHeld => ?_)
  try simp only [Act.put, List.setIfInBounds_toArray, List.set_cons_zero, List.set_cons_succ]
  clear hHeld
  refine wpAnyL_ready (rs := [36]) (by kernel_rfl) (by simp) ?_
  refine AllReadyL.cons (by simp only [List.getElem?_toArray, List.getElem?_cons_succ, List.getElem?_cons_zero]; rfl) (fun K hK => ?_) AllReadyL.nil
  go_simp
  refine (refused_links _ [⟨etfL, 20, 86⟩] [⟨etfL, 20, 86⟩] _ _ _ (HFC.out.below HFWA.out) (by decide) (by decide) LK.out (HG.out.below (HBC.out.trans (HFWA.out.mono HBC.out.size))).1).mono ?_
  rintro e wF ⟨rfl, hbz⟩
  rw [decide_eq_true rfl]
  have HFW := Lib.hid (HFWA.out.trans (hbz.mono HFWA.out.size))
  clear hbz
  refine hK.out _ _ (HFW.out) (fun hHeld => ?_)
  try simp only [Act.put, List.setIfInBounds_toArray, List.set_cons_zero, List.set_cons_succ]
  clear LK BA hHeld
  refine wpAnyL_easy (i := 37) (v := (.bool true)) (by simp only [List.getElem?_toArray, List.getElem?_cons_succ, List.getElem?_cons_zero]; rfl) (by kernel_rfl) (by kernel_rfl) (by kernel_rfl) (by exact fun _ _ _ h => h) (Or.inl ⟨by rfl, by intro W _; go_simp; all_goals first | rfl | exact ⟨rfl, rfl, rfl, rfl, rfl, rfl⟩⟩) ?_
  try simp only [Act.put, List.setIfInBounds_toArray, List.set_cons_zero, List.set_cons_succ]
  refine wpAnyL_easy (i := 38) (v := (.bool true)) (by simp only [List.getElem?_toArray, List.getElem?_cons_succ, List.getElem?_cons_zero]; rfl) (by kernel_rfl) (by kernel_rfl) (by kernel_rfl) (by exact fun _ _ _ h => h) (Or.inl ⟨by rfl, by intro W _; go_simp; all_goals first | rfl | exact ⟨rfl, rfl, rfl, rfl, rfl, rfl⟩⟩) ?_
  try simp only [Act.put, List.setIfInBounds_toArray, List.set_cons_zero, List.set_cons_succ]
  refine wpAnyL_done (by kernel_rfl) ?_ _
  go_wp2
  go_ret
  exact ⟨rfl, HBC.out.trans (HFW.out.mono HBC.out.size)⟩
end Go.Proofs.YtlahagabcnmdiaaGreatDoor
end
