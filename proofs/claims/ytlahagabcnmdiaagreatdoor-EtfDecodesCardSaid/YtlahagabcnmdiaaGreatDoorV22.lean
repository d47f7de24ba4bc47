/- Texts laid together: EtB, EtC, EdA, EdB. -/
import Derived.Test.YtlahagabcnmdiaaGreatDoorV21
import Derived.Deep.DeepCutAuto
import Derived.Deep.CutBlock
import Derived.Test.YtlahagabcnmdiaaGreatDoorV2
import Derived.Test.YtlahagabcnmdiaaGreatDoorV19
import Derived.BigQuiet
import Derived.Laws.BitsLemmas
section
/- Package etf: the writer, a term. Printed by wip/etb.py. -/
open Go Go.RowKit
namespace Go.Proofs.YtlahagabcnmdiaaGreatDoor
set_option linter.unusedVariables false
set_option linter.unusedSimpArgs false

theorem fourB_len (n : Int) : (fourB n).length = 4 := rfl
theorem atomB_len (s : ByteArray) : (atomB s).length = 2 + s.size := by simp [atomB]; omega
theorem partS_nums {t : Tm} (h : partS t 0 = []) : (t.kind = 3 → t.nums.length = 3) ∧ (t.kind = 4 → t.nums.length = 2) := by
  have hf : formS t = true := by
    cases hq : formS t with
    | true => rfl
    | false => unfold partS at h; rw [if_pos hq] at h; cases h
  unfold formS at hf
  constructor
  · intro k
    rw [if_neg (by omega), if_neg (by omega), if_pos k] at hf
    simp only [Bool.and_eq_true, decide_eq_true_eq] at hf
    exact hf.2
  · intro k
    rw [if_neg (by omega), if_neg (by omega), if_neg (by omega), if_pos k] at hf
    simp only [Bool.and_eq_true, decide_eq_true_eq] at hf
    exact hf.2
theorem headB_len {t : Tm} (h : partS t 0 = []) : (headB t.kind t.int t.text t.cr t.nums t.args.length).length ≤ 290 := by
  have h1 := text_ok h
  have h2 := partS_nums h
  unfold headB
  split
  · split
    · simp
    · split <;> simp [fourB_len]
  · split
    · rw [atomB_len]; omega
    · split
      · split <;> simp [fourB_len]
      · split
        · simp
        · split
          · simp [fourB_len]
          · split
            · simp [fourB_len, atomB_len]; omega
            · split
              · rename_i h3
                have := h2.1 h3
                obtain ⟨x, y, z, hn⟩ : ∃ x y z, t.nums = [x, y, z] := by
                  match hq : t.nums, this with
                  | [x, y, z], _ => exact ⟨x, y, z, rfl⟩
                rw [hn]
                simp [fourB_len, atomB_len]; omega
              · simp
mutual
theorem wrT_len : ∀ (t : Tm) (st : Wr), okT t → (wrT t st).b.length ≤ st.b.length + 290 * sizeT t ∧ (wrT t st).part = st.part + sizeT t
  | .mk k i s c ns al, st, h => by
    rw [okT] at h
    rw [wrT, sizeT]
    have h1 := headB_len h.1
    have h2 := wrL_len al (st.head k i s c ns al.length) h.2
    have h3 : (headB k i s c ns al.length).length ≤ 290 := h1
    simp only [Wr.head, List.length_append] at h2
    unfold Wr.head
    omega
theorem wrL_len : ∀ (l : List Tm) (st : Wr), okTL l → (wrL l st).b.length ≤ st.b.length + 290 * sizeTL l ∧ (wrL l st).part = st.part + sizeTL l
  | [], st, _ => by rw [wrL, sizeTL]; omega
  | t :: r, st, h => by
    rw [okTL] at h
    rw [wrL, sizeTL]
    have h1 := wrT_len t st h.1
    have h2 := wrL_len r (wrT t st) h.2
    omega
end
theorem okTL_get : ∀ {l : List Tm}, okTL l → ∀ i (h : i < l.length), okT l[i]
  | [], _, i, h => absurd h (Nat.not_lt_zero _)
  | t :: r, hl, i, h => by
    rw [okTL] at hl
    cases i with
    | zero => exact hl.1
    | succ i => exact okTL_get hl.2 i (by simpa using h)
theorem sizeTL_drop : ∀ {l : List Tm} (i : Nat) (h : i < l.length), sizeTL (l.drop i) = sizeT l[i] + sizeTL (l.drop (i + 1)) := fun i h => by
  rw [List.drop_eq_getElem_cons h, sizeTL]
theorem wrL_drop {l : List Tm} (i : Nat) (h : i < l.length) (st : Wr) : wrL (l.drop i) st = wrL (l.drop (i + 1)) (wrT l[i] st) := by
  rw [List.drop_eq_getElem_cons h, wrL]
theorem partS_list {t : Tm} (h : partS t 0 = []) (k : t.kind = 7) : 2 ≤ t.args.length := by
  have hf : formS t = true := by
    cases hq : formS t with
    | true => rfl
    | false => unfold partS at h; rw [if_pos hq] at h; cases h
  unfold formS at hf
  rw [if_neg (by omega), if_neg (by omega), if_neg (by omega), if_neg (by omega), if_neg (by omega), if_neg (by omega), if_pos k] at hf
  simp only [Bool.and_eq_true, decide_eq_true_eq] at hf
  have := hf.1.2
  omega
theorem len_le_size : ∀ (l : List Tm), l.length ≤ sizeTL l
  | [] => by simp
  | t :: r => by
    rw [sizeTL, List.length_cons]
    have := len_le_size r
    have : 1 ≤ sizeT t := by cases t; rw [sizeT]; omega
    omega
theorem nums_cells {S : Nat → Prop} {a : Option Addr} {n c : Nat} {l : List Int} {w : World} (h : NumsAt S (.slice a n c) l w) (hl : 0 < l.length) :
    ∃ g o, a = some ⟨g, o, none⟩ ∧ S g ∧ ∀ i, (h : i < l.length) → w.cell? ⟨g, o + i, none⟩ = some (.int .u32 l[i]) := by
  obtain ⟨a', c', e, h2, h3, h4⟩ := h
  cases e
  obtain ⟨k1, k2, g, o, ha, hS, hc⟩ := h4 0 hl
  refine ⟨g, o, ha, hS, fun i hi => ?_⟩
  obtain ⟨_, _, g', o', ha', _, hc'⟩ := h4 i hi
  rw [ha] at ha'
  cases ha'
  exact hc'
theorem nums_bound {S : Nat → Prop} {v : Value} {l : List Int} {w : World} (h : NumsAt S v l w) : ∀ i, (h : i < l.length) → 0 ≤ l[i] ∧ l[i] < 4294967296 := by
  obtain ⟨a', c', e, h2, h3, h4⟩ := h
  intro i hi
  exact ⟨(h4 i hi).1, (h4 i hi).2.1⟩
theorem nums_two {S : Nat → Prop} {a : Option Addr} {n c : Nat} {l : List Int} {w : World} (h : NumsAt S (.slice a n c) l w) (hl : l.length = 2) :
    ∃ g o x y, a = some ⟨g, o, none⟩ ∧ S g ∧ l = [x, y] ∧ 0 ≤ x ∧ x < 4294967296 ∧ 0 ≤ y ∧ y < 4294967296 ∧ w.cell? ⟨g, o, none⟩ = some (.int .u32 x) ∧ w.cell? ⟨g, o + 1, none⟩ = some (.int .u32 y) := by
  obtain ⟨g, o, ha, hS, hc⟩ := nums_cells h (by omega)
  have hb := nums_bound h
  match l, hl with
  | [x, y], _ => exact ⟨g, o, x, y, ha, hS, rfl, (hb 0 (by simp)).1, (hb 0 (by simp)).2, (hb 1 (by simp)).1, (hb 1 (by simp)).2, hc 0 (by simp), hc 1 (by simp)⟩
theorem Keep.cell {S : Nat → Prop} {w w' : World} (k : Keep S w w') {b : Nat} (hb : b < w.heap.size) (hS : ¬ S b) {o : Nat} : w'.cell? ⟨b, o, none⟩ = w.cell? ⟨b, o, none⟩ := by
  unfold World.cell?
  rw [k.block b hb hS]
theorem fourB_flat : ∀ (l : List Int), (l.flatMap fourB).length = 4 * l.length
  | [] => rfl
  | x :: r => by rw [List.flatMap_cons, List.length_append, fourB_flat r, fourB_len, List.length_cons]; omega
theorem fourB_take {l : List Int} {k : Nat} (h : k < l.length) : (l.take (k + 1)).flatMap fourB = (l.take k).flatMap fourB ++ fourB l[k] := by
  rw [← List.take_append_getElem h, List.flatMap_append, List.flatMap_cons, List.flatMap_nil, List.append_nil]
mutual
theorem wrT_part : ∀ (t : Tm) (st : Wr), (wrT t st).part = st.part + sizeT t
  | .mk k i s c ns al, st => by rw [wrT, sizeT, wrL_part]; unfold Wr.head; dsimp only; omega
theorem wrL_part : ∀ (l : List Tm) (st : Wr), (wrL l st).part = st.part + sizeTL l
  | [], st => by rw [wrL, sizeTL]; omega
  | t :: r, st => by rw [wrL, sizeTL, wrL_part, wrT_part]; omega
end
mutual
theorem wrT_wide (B : Int) : ∀ (t : Tm) (st : Wr), -1 ≤ st.wide → st.wide ≤ B → (st.part : Int) + sizeT t ≤ B → -1 ≤ (wrT t st).wide ∧ (wrT t st).wide ≤ B
  | .mk k i s c ns al, st, h0, h1, h2 => by
    rw [sizeT] at h2
    rw [wrT]
    refine wrL_wide B al _ ?_ ?_ ?_
    · unfold Wr.head; dsimp only; split <;> omega
    · unfold Wr.head; dsimp only; split <;> omega
    · unfold Wr.head; dsimp only; omega
theorem wrL_wide (B : Int) : ∀ (l : List Tm) (st : Wr), -1 ≤ st.wide → st.wide ≤ B → (st.part : Int) + sizeTL l ≤ B → -1 ≤ (wrL l st).wide ∧ (wrL l st).wide ≤ B
  | [], st, h0, h1, _ => by rw [wrL]; exact ⟨h0, h1⟩
  | t :: r, st, h0, h1, h2 => by
    rw [sizeTL] at h2
    rw [wrL]
    have h3 := wrT_wide B t st h0 h1 (by omega)
    exact wrL_wide B r _ h3.1 h3.2 (by rw [wrT_part]; omega)
end
theorem Cells.unfar {w : World} {g : Nat} {t : TypeId} {cs : List Value} {p : Addr} {u : Value} (h : Cells (w.setCell p u) g t cs) (hp : g ≠ p.block) : Cells w g t cs := (Below.heap_setCell w p u g hp).symm.trans h
theorem WrIs.setWide {base g : Nat} {st : Wr} {bv : Value} {w : World} (h : WrIs base g st bv w) (n : Nat) : WrIs base g ⟨st.b, st.part, (n : Int)⟩ bv (w.setCell ⟨g, 2, none⟩ (.int .i64 (n : Int))) :=
  ⟨h.hg, by have := h.cells.set_ 2 (.int .i64 (n : Int)); simpa using this, h.buf.frame fun q hq => Below.heap_setCell _ _ _ _ (h.ne hq)⟩
set_option maxHeartbeats 16000000 in
set_option maxRecDepth 100000 in
theorem etTerm_ind {base g : Nat} : ∀ (N : Nat) (t : Tm) (vs : List Value) (st : Wr) (bv : Value) (w : World), SizeOf.sizeOf t ≤ N → okT t → TmAt (fun q => q < base) t vs w → WrIs base g st bv w → st.b.length + 290 * sizeT t ≤ 900000000 → st.part + sizeT t ≤ 100000000 → -1 ≤ st.wide → st.wide ≤ 100000000 →
    Calls Tryz.prog 48 #[.pointer (some ⟨g, 0, none⟩), .agg vs.toArray] w fun e w' => e = .returned (.tuple #[]) ∧ WrRes base g bv w (wrT t st) w' := by
  intro N
  induction N with
  | zero => intro t vs st bv w h; cases t; simp at h
  | succ N ih =>
    intro t vs st bv w hN hok ht hw hlen hpart hwd0 hwd1
    obtain ⟨hpt, nv, a2, cap2, rfl, hnn, _⟩ := ht.parts
    obtain ⟨na2, nc2, rfl, _, _⟩ := hnn.slice
    have HIH := Lib.hid ih
    have HPT := Lib.hid hpt
    have HNU := Lib.hid hnn
    clear hpt
    have HNN := Lib.hid hN
    have HOK := Lib.hid hok
    have HT := Lib.hid ht
    have HW := Lib.hid hw
    have HLEN := Lib.hid hlen
    have HBS := Lib.hid (show base ≤ w.heap.size from Nat.le_of_lt (Nat.lt_of_le_of_lt hw.hg hw.cells.lt))
    have HGW := Lib.hid hw.cells.lt
    have HVB := Lib.hid (fun q (hq : bv.ownBlock = some q) => (hw.buf.block hq).2)
    have HB0 := Lib.hid ((Below.refl w.heap.size w).alloc (Nat.le_refl _) (.cells #[.int .i64 t.kind, .int .i64 t.int, .string t.text, .int .u32 t.cr, .slice na2 t.nums.length nc2, .slice a2 t.args.length cap2] 35 (0, 0)))
    have M0 := Lib.hid (show Cells (w.alloc (.cells #[.int .i64 t.kind, .int .i64 t.int, .string t.text, .int .u32 t.cr, .slice na2 t.nums.length nc2, .slice a2 t.args.length cap2] 35 (0, 0))) w.heap.size 35 [.int .i64 t.kind, .int .i64 t.int, .string t.text, .int .u32 t.cr, .slice na2 t.nums.length nc2, .slice a2 t.args.length cap2] from Cells.new w 35 [.int .i64 t.kind, .int .i64 t.int, .string t.text, .int .u32 t.cr, .slice na2 t.nums.length nc2, .slice a2 t.args.length cap2])
    have W0 := Lib.hid (hw.below HB0.out)
    have HNB := Lib.hid (show ¬ LsK g bv w.heap.size from fun e => Nat.lt_irrefl _ (hw.lt e).1)
    have HP := Lib.hid hpart
    clear ih hN hok ht hw hlen hnn
    go_enter Tryz.func48, Tryz.ntmps48
    go_upto_region 1 with (fail)
    generalize w.alloc (.cells #[.int .i64 t.kind, .int .i64 t.int, .string t.text, .int .u32 t.cr, .slice na2 t.nums.length nc2, .slice a2 t.args.length cap2] 35 (0, 0)) = w1 at *
    have c1 := W0.out.cells.cell 1
    have f1 := W0.out.cells.frozen 1
    simp only [List.getElem?_cons_zero, List.getElem?_cons_succ] at c1
    have hp0 : (0 : Int) ≤ (st.part : Int) := by omega
    have hp1 : (st.part : Int) ≤ 100000000 := by omega
    have W2 := Lib.hid (show WrIs base g ⟨st.b, st.part + 1, st.wide⟩ bv (w1.setCell ⟨g, 1, none⟩ (.int .i64 ((st.part : Int) + 1))) from ⟨W0.out.hg, by have := W0.out.cells.set_ 1 (.int .i64 ((st.part : Int) + 1)); simpa using this, W0.out.buf.frame fun q hq => Below.heap_setCell _ _ _ _ (W0.out.ne hq)⟩)
    have K2 := Lib.hid (show Keep (LsK g bv) w (w1.setCell ⟨g, 1, none⟩ (.int .i64 ((st.part : Int) + 1))) from (keepB HB0.out).setCell (p := ⟨g, 1, none⟩) (fun _ => .inl rfl) _)
    have M2 := Lib.hid (M0.out.far (p := ⟨g, 1, none⟩) (by have := HGW.out; show w.heap.size ≠ g; omega) (.int .i64 ((st.part : Int) + 1)))
    go_upto_region 3 with (fail)
    generalize w1.setCell ⟨g, 1, none⟩ (.int .i64 ((st.part : Int) + 1)) = w2 at *
    clear c1 f1 M0 W0 HB0
    have m0 := M2.out.cell 0
    simp only [List.getElem?_cons_zero] at m0
    go_upto_block 0 with (fail)
    have HVW := Lib.hid (fun q (hq : bv.ownBlock = some q) => (W2.out.buf.block hq).2)
    have HG2 := Lib.hid W2.out.cells.lt
    have R2 := Lib.hid (show WrRes base g bv w2 ⟨st.b, st.part + 1, st.wide⟩ w2 from ⟨bv, W2.out, Keep.refl _ _, fun _ hq => .inl hq⟩)
    have HNG := Lib.hid (show w.heap.size ≠ g from by have := HGW.out; omega)
    have HT2 := Lib.hid (show ∀ q, q < base → ¬ LsK g bv q from fun q hq e => by have := (W2.out.lt e).2; omega)
    have HPO := Lib.hid (show partS t 0 = [] ∧ okTL t.args from by cases t; have := HOK.out; rw [okT] at this; exact this)
    have HTX := Lib.hid (text_ok HPO.out.1)
    have HSZ := Lib.hid (show sizeT t = 1 + sizeTL t.args from by cases t; rw [sizeT]; rfl)
    have HPN := Lib.hid (len_le_size t.args)
    go_cut [] (fun wx => WrRes base g bv w2 (st.head t.kind t.int t.text t.cr t.nums t.args.length) wx)
    case first =>
      clear m0
      by_cases hk : t.kind = 1
      · have qk1 : (t.kind == 1) = true := beq_iff_eq.2 hk
        by_cases hlo : t.int < -2147483648
        · have EQW := Lib.hid (show wideI t.kind t.int = true from by unfold wideI; simp [hk]; omega)
          have EQ0 := Lib.hid (show headB t.kind t.int t.text t.cr t.nums t.args.length = [] from by unfold headB; rw [if_pos hk, if_pos EQW.out])
          obtain ⟨bvc, Wc, Kc, Vc⟩ := R2.out
          obtain ⟨ac, cc, rfl⟩ := Wc.form
          have WC := Lib.hid Wc
          have KC := Lib.hid Kc
          have VC := Lib.hid Vc
          have MC := Lib.hid (M2.out.keep Kc HNB.out)
          clear Wc Kc Vc
          have m1 := MC.out.cell 1
          simp only [List.getElem?_cons_zero, List.getElem?_cons_succ] at m1
          have b2 := WC.out.cells.cell 2
          have f2 := WC.out.cells.frozen 2
          simp only [List.getElem?_cons_zero, List.getElem?_cons_succ] at b2
          by_cases hw : st.wide < 0
          · have EQ := Lib.hid (show st.head t.kind t.int t.text t.cr t.nums t.args.length = ⟨st.b, st.part + 1, (st.part : Int)⟩ from by unfold Wr.head; rw [EQW.out, EQ0.out]; simp [hw])
            have R3 := Lib.hid (show WrRes base g bv w2 ⟨st.b, st.part + 1, (st.part : Int)⟩ (w2.setCell ⟨g, 2, none⟩ (.int .i64 (st.part : Int))) from WrRes.trans HG2.out HVW.out KC.out VC.out ⟨_, WC.out.setWide st.part, (Keep.refl _ _).setCell (p := ⟨g, 2, none⟩) (fun _ => .inl rfl) _, fun _ h => .inl h⟩)
            clear WC KC VC MC
            clear hk
            go_wp2
            go_meet
            case rel => rw [EQ.out]; exact R3.out
          · have EQ := Lib.hid (show st.head t.kind t.int t.text t.cr t.nums t.args.length = ⟨st.b, st.part + 1, st.wide⟩ from by unfold Wr.head; rw [EQW.out, EQ0.out]; simp [hw])
            clear WC KC VC MC
            clear hk
            go_wp2
            go_meet
            case rel => rw [EQ.out]; exact R2.out
        by_cases hhi : 2147483647 < t.int
        · have EQW := Lib.hid (show wideI t.kind t.int = true from by unfold wideI; simp [hk]; omega)
          have EQ0 := Lib.hid (show headB t.kind t.int t.text t.cr t.nums t.args.length = [] from by unfold headB; rw [if_pos hk, if_pos EQW.out])
          obtain ⟨bvc, Wc, Kc, Vc⟩ := R2.out
          obtain ⟨ac, cc, rfl⟩ := Wc.form
          have WC := Lib.hid Wc
          have KC := Lib.hid Kc
          have VC := Lib.hid Vc
          have MC := Lib.hid (M2.out.keep Kc HNB.out)
          clear Wc Kc Vc
          have m1 := MC.out.cell 1
          simp only [List.getElem?_cons_zero, List.getElem?_cons_succ] at m1
          have b2 := WC.out.cells.cell 2
          have f2 := WC.out.cells.frozen 2
          simp only [List.getElem?_cons_zero, List.getElem?_cons_succ] at b2
          by_cases hw : st.wide < 0
          · have EQ := Lib.hid (show st.head t.kind t.int t.text t.cr t.nums t.args.length = ⟨st.b, st.part + 1, (st.part : Int)⟩ from by unfold Wr.head; rw [EQW.out, EQ0.out]; simp [hw])
            have R3 := Lib.hid (show WrRes base g bv w2 ⟨st.b, st.part + 1, (st.part : Int)⟩ (w2.setCell ⟨g, 2, none⟩ (.int .i64 (st.part : Int))) from WrRes.trans HG2.out HVW.out KC.out VC.out ⟨_, WC.out.setWide st.part, (Keep.refl _ _).setCell (p := ⟨g, 2, none⟩) (fun _ => .inl rfl) _, fun _ h => .inl h⟩)
            clear WC KC VC MC
            clear hk
            go_wp2
            go_meet
            case rel => rw [EQ.out]; exact R3.out
          · have EQ := Lib.hid (show st.head t.kind t.int t.text t.cr t.nums t.args.length = ⟨st.b, st.part + 1, st.wide⟩ from by unfold Wr.head; rw [EQW.out, EQ0.out]; simp [hw])
            clear WC KC VC MC
            clear hk
            go_wp2
            go_meet
            case rel => rw [EQ.out]; exact R2.out
        by_cases hs : 0 ≤ t.int ∧ t.int ≤ 255
        · obtain ⟨hs0, hs1⟩ := hs
          have EQ := Lib.hid (show st.head t.kind t.int t.text t.cr t.nums t.args.length = ⟨st.b ++ [97, UInt8.ofNat t.int.toNat], st.part + 1, st.wide⟩ from by
            have h1 : wideI t.kind t.int = false := by unfold wideI; simp; omega
            unfold Wr.head headB
            rw [h1, if_pos hk, if_neg (by simp), if_pos (by omega)]
            rfl)
          have q5 : ¬ 2147483647 < t.int := hhi
          clear hk
          obtain ⟨bvc, Wc, Kc, Vc⟩ := R2.out
          obtain ⟨ac, cc, rfl⟩ := Wc.form
          have WC := Lib.hid Wc
          have KC := Lib.hid Kc
          have VC := Lib.hid Vc
          have MC := Lib.hid (M2.out.keep Kc HNB.out)
          clear Wc Kc Vc
          have m1 := MC.out.cell 1
          simp only [List.getElem?_cons_zero, List.getElem?_cons_succ] at m1
          go_wp2
          refine wp_region_L (S := fun X => Cells X g 104 [.slice ac st.b.length cc, .int .i64 (st.part + 1 : Nat), .int .i64 st.wide] ∧ Cells X w.heap.size 35 [.int .i64 t.kind, .int .i64 t.int, .string t.text, .int .u32 t.cr, .slice na2 t.nums.length nc2, .slice a2 t.args.length cap2]) (F := [12]) (by kernel_rfl) (⟨WC.out.cells.below (Below.drew (Below.refl _ _)), MC.out.below (Below.drew (Below.refl _ _))⟩) (fun hHeld => ?_)
          refine wpAnyL_easy (i := 0) (v := (.pointer (some ⟨g, 0, none⟩))) (by simp only [List.getElem?_toArray, List.getElem?_cons_succ, List.getElem?_cons_zero]; rfl) (by kernel_rfl) (by kernel_rfl) (by kernel_rfl) (by exact fun _ _ _ h => h) (Or.inl ⟨by rfl, fun _ _ => rfl⟩) ?_
          try simp only [Act.put, List.setIfInBounds_toArray, List.set_cons_zero, List.set_cons_succ]
          refine wpAnyL_easy (i := 1) (v := (.pointer (some ⟨g, 0, none⟩))) (by simp only [List.getElem?_toArray, List.getElem?_cons_succ, List.getElem?_cons_zero]; rfl) (by kernel_rfl) (by kernel_rfl) (by kernel_rfl) (by exact fun _ _ _ h => h) (Or.inl ⟨by rfl, fun _ _ => rfl⟩) ?_
          try simp only [Act.put, List.setIfInBounds_toArray, List.set_cons_zero, List.set_cons_succ]
          refine wpAnyL_easy (i := 2) (v := (.pointer (some ⟨g, 0, none⟩))) (by simp only [List.getElem?_toArray, List.getElem?_cons_succ, List.getElem?_cons_zero]; rfl) (by kernel_rfl) (by kernel_rfl) (by kernel_rfl) (by exact fun _ _ _ h => h) (Or.inl ⟨by rfl, by intro W _; go_simp; all_goals first | rfl | exact ⟨rfl, rfl, rfl, rfl, rfl, rfl⟩⟩) ?_
          try simp only [Act.put, List.setIfInBounds_toArray, List.set_cons_zero, List.set_cons_succ]
          refine wpAnyL_easy (i := 3) (v := (.pointer (some ⟨g, 0, none⟩))) (by simp only [List.getElem?_toArray, List.getElem?_cons_succ, List.getElem?_cons_zero]; rfl) (by kernel_rfl) (by kernel_rfl) (by kernel_rfl) (by exact fun _ _ _ h => h) (Or.inl ⟨by rfl, fun _ _ => rfl⟩) ?_
          try simp only [Act.put, List.setIfInBounds_toArray, List.set_cons_zero, List.set_cons_succ]
          refine wpAnyL_take (i := 4) (v := (.slice ac st.b.length cc)) (by simp only [List.getElem?_toArray, List.getElem?_cons_succ, List.getElem?_cons_zero]; rfl) (by kernel_rfl) (by kernel_rfl) (by kernel_rfl) (by kernel_rfl) (by exact fun _ _ _ h => h) (Or.inl ⟨by rfl, by intro W hSw; have x0 := show W.cell? ⟨g, 0, none⟩ = some (.slice ac st.b.length cc) from hSw.1.cell 0; go_simp; all_goals first | rfl | exact ⟨rfl, rfl, rfl, rfl, rfl, rfl⟩⟩) (by assumption) ?_
          try simp only [Act.put, List.setIfInBounds_toArray, List.set_cons_zero, List.set_cons_succ]
          refine wpAnyL_easy (i := 5) (v := (.pointer (some ⟨w.heap.size, 1, none⟩))) (by simp only [List.getElem?_toArray, List.getElem?_cons_succ, List.getElem?_cons_zero]; rfl) (by kernel_rfl) (by kernel_rfl) (by kernel_rfl) (by exact fun _ _ _ h => h) (Or.inl ⟨by rfl, fun _ _ => rfl⟩) ?_
          try simp only [Act.put, List.setIfInBounds_toArray, List.set_cons_zero, List.set_cons_succ]
          refine wpAnyL_take (i := 6) (v := (.int .i64 t.int)) (by simp only [List.getElem?_toArray, List.getElem?_cons_succ, List.getElem?_cons_zero]; rfl) (by kernel_rfl) (by kernel_rfl) (by kernel_rfl) (by kernel_rfl) (by exact fun _ _ _ h => h) (Or.inl ⟨by rfl, by intro W hSw; have x0 := show W.cell? ⟨w.heap.size, 1, none⟩ = some (.int .i64 t.int) from hSw.2.cell 1; go_simp; all_goals first | rfl | exact ⟨rfl, rfl, rfl, rfl, rfl, rfl⟩⟩) (by assumption) ?_
          try simp only [Act.put, List.setIfInBounds_toArray, List.set_cons_zero, List.set_cons_succ]
          refine wpAnyL_easy (i := 7) (v := (.int .u8 (t.int % 256))) (by simp only [List.getElem?_toArray, List.getElem?_cons_succ, List.getElem?_cons_zero]; rfl) (by kernel_rfl) (by kernel_rfl) (by kernel_rfl) (by exact fun _ _ _ h => h) (Or.inl ⟨by rfl, by intro W _; go_simp; all_goals first | rfl | exact ⟨rfl, rfl, rfl, rfl, rfl, rfl⟩⟩) ?_
          try simp only [Act.put, List.setIfInBounds_toArray, List.set_cons_zero, List.set_cons_succ]
          have BD := Lib.hid (show Below w2.heap.size w2 w2.drew from Below.drew (Below.refl _ _))
          have WD := Lib.hid (WC.out.below BD.out)
          clear WC MC hHeld
          have WC := WD
          clear WD
          have MC := Lib.hid (M2.out.below BD.out)
          have HBSB := Lib.hid BD.out.size
          generalize w2.drew = w3 at *
          have KC2 := KC
          clear KC
          have KC := Lib.hid (KC2.out.trans (keepB BD.out) (fun _ _ h => h))
          clear KC2
          refine wpAnyL_ready (rs := [8]) (by kernel_rfl) (by simp) ?_
          refine AllReadyL.cons (by simp only [List.getElem?_toArray, List.getElem?_cons_succ, List.getElem?_cons_zero]; rfl) (fun K hK => ?_) AllReadyL.nil
          go_simp
          have HB := Lib.hid ((Below.refl w3.heap.size w3).alloc (Nat.le_refl _) (.cells #[.int .u8 97, .int .u8 (t.int % 256)] 5 (0, 0)))
          have HD := Lib.hid (show RSl (.slice (some ⟨w3.heap.size, 0, none⟩) 2 2) [97, UInt8.ofNat t.int.toNat] (w3.alloc (.cells #[.int .u8 97, .int .u8 (t.int % 256)] 5 (0, 0))) from by
            have h2 := RSl.lit w3 [97, UInt8.ofNat t.int.toNat] (by simp [maxLen])
            have e : (bytesV [97, UInt8.ofNat t.int.toNat]).toArray = #[.int .u8 97, .int .u8 (t.int % 256)] := by
              have q1 : byteV (UInt8.ofNat t.int.toNat) = .int .u8 (t.int % 256) := byteV_of _ _ (by omega)
              simp only [bytesV, List.map_cons, List.map_nil, q1]
              rfl
            rw [e] at h2
            exact h2)
          obtain ⟨a', n', c', w', hr, hC, hres⟩ := (WC.out.below HB.out).app HD.out (by have := HLEN.out; simp; omega)
          have R3 := Lib.hid (WrRes.trans HG2.out HVW.out KC.out VC.out (WrRes.trans WC.out.cells.lt (fun q hq => (WC.out.buf.block hq).2) (keepB HB.out) (fun q hq => .inl hq) hres))
          have HR := Lib.hid hr
          have HC := Lib.hid hC
          clear hr hC hres
          refine hK.out _ _ (⟨WC.out.cells.below HB.out, MC.out.below HB.out⟩) (fun hHeld => ?_)
          try simp only [Act.put, List.setIfInBounds_toArray, List.set_cons_zero, List.set_cons_succ]
          clear hHeld
          refine wpAnyL_ready (rs := [9]) (by kernel_rfl) (by simp) ?_
          refine AllReadyL.cons (by simp only [List.getElem?_toArray, List.getElem?_cons_succ, List.getElem?_cons_zero]; rfl) (fun K hK => ?_) AllReadyL.nil
          refine step_app_eq (by rfl) _ _ _ _ (by rfl) _ _ (.slice a' n' c') w' (by rfl) (by rfl) HR.out ?_
          have MN := Lib.hid (Cells.unfar (M2.out.keep (by have := R3.out; exact this.choose_spec.2.1) HNB.out) HNG.out)
          have d0 := HC.out.cell 0
          have f0 := HC.out.frozen 0
          simp only [List.getElem?_cons_zero] at d0
          refine hK.out _ _ (⟨HC.out, MN.out⟩) (fun hHeld => ?_)
          try simp only [Act.put, List.setIfInBounds_toArray, List.set_cons_zero, List.set_cons_succ]
          refine wpAnyL_easy (i := 10) (v := (.pointer (some ⟨g, 0, none⟩))) (by simp only [List.getElem?_toArray, List.getElem?_cons_succ, List.getElem?_cons_zero]; rfl) (by kernel_rfl) (by kernel_rfl) (by kernel_rfl) (by exact fun _ _ _ h => h) (Or.inl ⟨by rfl, by intro W _; go_simp; all_goals first | rfl | exact ⟨rfl, rfl, rfl, rfl, rfl, rfl⟩⟩) ?_
          try simp only [Act.put, List.setIfInBounds_toArray, List.set_cons_zero, List.set_cons_succ]
          refine wpAnyL_easy (i := 11) (v := (.pointer (some ⟨g, 0, none⟩))) (by simp only [List.getElem?_toArray, List.getElem?_cons_succ, List.getElem?_cons_zero]; rfl) (by kernel_rfl) (by kernel_rfl) (by kernel_rfl) (by exact fun _ _ _ h => h) (Or.inl ⟨by rfl, fun _ _ => rfl⟩) ?_
          try simp only [Act.put, List.setIfInBounds_toArray, List.set_cons_zero, List.set_cons_succ]
          refine wpAnyL_ready (rs := [12]) (by kernel_rfl) (by simp) ?_
          refine AllReadyL.last (by simp only [List.getElem?_toArray, List.getElem?_cons_succ, List.getElem?_cons_zero]; rfl) (by kernel_rfl) (fun K hK => ?_) AllReadyL.nil
          go_simp
          refine hK.out _ _ ?_
          try simp only [Act.put, List.setIfInBounds_toArray, List.set_cons_zero, List.set_cons_succ]
          refine wpAnyL_done (by kernel_rfl) ?_ _
          go_wp2
          go_meet
          case rel => rw [EQ.out]; have hx := R3.out; simpa only [List.append_assoc, List.cons_append, List.nil_append] using hx
        by_cases h0 : 0 ≤ t.int
        · have h255 : ¬ t.int ≤ 255 := fun e => hs ⟨h0, e⟩
          have h256 : decide (t.int ≤ 255) = false := by simpa using h255
          have EQ := Lib.hid (show st.head t.kind t.int t.text t.cr t.nums t.args.length = ⟨st.b ++ ([98] ++ fourB (t.int)), st.part + 1, st.wide⟩ from by
            have h1 : wideI t.kind t.int = false := by unfold wideI; simp; omega
            unfold Wr.head headB
            rw [h1, if_pos hk, if_neg (by simp), if_neg hs, show t.int % 4294967296 = t.int by omega]
            rfl)
          have q5 : ¬ 2147483647 < t.int := hhi
          clear hk hs
          obtain ⟨bvc, Wc, Kc, Vc⟩ := R2.out
          obtain ⟨ac, cc, rfl⟩ := Wc.form
          have WC := Lib.hid Wc
          have KC := Lib.hid Kc
          have VC := Lib.hid Vc
          have MC := Lib.hid (M2.out.keep Kc HNB.out)
          clear Wc Kc Vc
          have m1 := MC.out.cell 1
          simp only [List.getElem?_cons_zero, List.getElem?_cons_succ] at m1
          have b0 := WC.out.cells.cell 0
          simp only [List.getElem?_cons_zero] at b0
          have HB := Lib.hid ((Below.refl w2.heap.size w2).alloc (Nat.le_refl _) (.cells #[.int .u8 98] 5 (0, 0)))
          have HD := Lib.hid (show RSl (.slice (some ⟨w2.heap.size, 0, none⟩) 1 1) [98] (w2.alloc (.cells #[.int .u8 98] 5 (0, 0))) from by
            have h2 := RSl.lit w2 [98] (by simp [maxLen])
            have e : (bytesV [98]).toArray = #[.int .u8 98] := by
              rfl
            rw [e] at h2
            exact h2)
          obtain ⟨a', n', c', w', hr, hC, hres⟩ := (WC.out.below HB.out).app HD.out (by have := HLEN.out; simp; omega)
          have R3 := Lib.hid (WrRes.trans HG2.out HVW.out KC.out VC.out (WrRes.trans WC.out.cells.lt (fun q hq => (WC.out.buf.block hq).2) (keepB HB.out) (fun q hq => .inl hq) hres))
          have HR := Lib.hid hr
          have HC := Lib.hid hC
          clear hr hC hres
          clear HD
          go_wp2_with (at_builtin; refine stop ?_)
          refine Stopped.of ?_
          refine wp_app_eq rfl (.tmp 28) (.tmp 29) _ _ rfl _ _ (.slice a' n' c') w' rfl rfl HR.out ?_
          have d0 := HC.out.cell 0
          have f0 := HC.out.frozen 0
          simp only [List.getElem?_cons_zero] at d0
          clear b0
          clear m1
          clear WC KC VC MC
          go_upto_region 6 with (fail)
          generalize w'.setCell ⟨g, 0, none⟩ (.slice a' n' c') = w3 at *
          clear d0 f0 HC HR HB
          obtain ⟨bvc, Wc, Kc, Vc⟩ := R3.out
          have MC := Lib.hid (M2.out.keep Kc HNB.out)
          have WC := Lib.hid Wc
          have KC := Lib.hid Kc
          have VC := Lib.hid Vc
          clear Wc Kc Vc
          have m1 := MC.out.cell 1
          simp only [List.getElem?_cons_zero, List.getElem?_cons_succ] at m1
          go_wp2_with fail
          refine (etFour_any (base := base) (g := g) (t.int) _ WC.out (by omega) (by omega) (by have := HLEN.out; have := HTX.out; have := HSZ.out; simp [fourB_len, atomB_len]; omega)).mono ?_
          rintro e w4 ⟨rfl, hres⟩
          have RN := Lib.hid (WrRes.trans HG2.out HVW.out KC.out VC.out hres)
          clear hres WC KC VC MC m1
          clear R3
          have R3 := RN
          clear RN
          go_wp2
          go_meet
          case rel => rw [EQ.out]; have hx := R3.out; simpa only [List.append_assoc, List.cons_append, List.nil_append] using hx
        · have EQ := Lib.hid (show st.head t.kind t.int t.text t.cr t.nums t.args.length = ⟨st.b ++ ([98] ++ fourB (t.int % 4294967296)), st.part + 1, st.wide⟩ from by
            have h1 : wideI t.kind t.int = false := by unfold wideI; simp; omega
            unfold Wr.head headB
            rw [h1, if_pos hk, if_neg (by simp), if_neg hs]
            rfl)
          have q5 : ¬ 2147483647 < t.int := hhi
          clear hk hs
          obtain ⟨bvc, Wc, Kc, Vc⟩ := R2.out
          obtain ⟨ac, cc, rfl⟩ := Wc.form
          have WC := Lib.hid Wc
          have KC := Lib.hid Kc
          have VC := Lib.hid Vc
          have MC := Lib.hid (M2.out.keep Kc HNB.out)
          clear Wc Kc Vc
          have m1 := MC.out.cell 1
          simp only [List.getElem?_cons_zero, List.getElem?_cons_succ] at m1
          have b0 := WC.out.cells.cell 0
          simp only [List.getElem?_cons_zero] at b0
          have HB := Lib.hid ((Below.refl w2.heap.size w2).alloc (Nat.le_refl _) (.cells #[.int .u8 98] 5 (0, 0)))
          have HD := Lib.hid (show RSl (.slice (some ⟨w2.heap.size, 0, none⟩) 1 1) [98] (w2.alloc (.cells #[.int .u8 98] 5 (0, 0))) from by
            have h2 := RSl.lit w2 [98] (by simp [maxLen])
            have e : (bytesV [98]).toArray = #[.int .u8 98] := by
              rfl
            rw [e] at h2
            exact h2)
          obtain ⟨a', n', c', w', hr, hC, hres⟩ := (WC.out.below HB.out).app HD.out (by have := HLEN.out; simp; omega)
          have R3 := Lib.hid (WrRes.trans HG2.out HVW.out KC.out VC.out (WrRes.trans WC.out.cells.lt (fun q hq => (WC.out.buf.block hq).2) (keepB HB.out) (fun q hq => .inl hq) hres))
          have HR := Lib.hid hr
          have HC := Lib.hid hC
          clear hr hC hres
          clear HD
          go_wp2_with (at_builtin; refine stop ?_)
          refine Stopped.of ?_
          refine wp_app_eq rfl (.tmp 28) (.tmp 29) _ _ rfl _ _ (.slice a' n' c') w' rfl rfl HR.out ?_
          have d0 := HC.out.cell 0
          have f0 := HC.out.frozen 0
          simp only [List.getElem?_cons_zero] at d0
          clear b0
          clear m1
          clear WC KC VC MC
          go_upto_region 6 with (fail)
          generalize w'.setCell ⟨g, 0, none⟩ (.slice a' n' c') = w3 at *
          clear d0 f0 HC HR HB
          obtain ⟨bvc, Wc, Kc, Vc⟩ := R3.out
          have MC := Lib.hid (M2.out.keep Kc HNB.out)
          have WC := Lib.hid Wc
          have KC := Lib.hid Kc
          have VC := Lib.hid Vc
          clear Wc Kc Vc
          have m1 := MC.out.cell 1
          simp only [List.getElem?_cons_zero, List.getElem?_cons_succ] at m1
          go_wp2_with fail
          refine (etFour_any (base := base) (g := g) (t.int % 4294967296) _ WC.out (by omega) (by omega) (by have := HLEN.out; have := HTX.out; have := HSZ.out; simp [fourB_len, atomB_len]; omega)).mono ?_
          rintro e w4 ⟨rfl, hres⟩
          have RN := Lib.hid (WrRes.trans HG2.out HVW.out KC.out VC.out hres)
          clear hres WC KC VC MC m1
          clear R3
          have R3 := RN
          clear RN
          go_wp2
          go_meet
          case rel => rw [EQ.out]; have hx := R3.out; simpa only [List.append_assoc, List.cons_append, List.nil_append] using hx
      by_cases hk : t.kind = 2
      · have qk1 : (t.kind == 1) = false := beq_eq_false_iff_ne.2 (by omega)
        have qk2 : (t.kind == 2) = true := beq_iff_eq.2 hk
        have EQ := Lib.hid (show st.head t.kind t.int t.text t.cr t.nums t.args.length = ⟨st.b ++ (atomB t.text), st.part + 1, st.wide⟩ from by
          have h1 : wideI t.kind t.int = false := by unfold wideI; simp [hk]
          unfold Wr.head headB
          rw [h1, if_neg (by omega), if_pos hk]
          rfl)
        clear hk
        obtain ⟨bvc, Wc, Kc, Vc⟩ := R2.out
        have MC := Lib.hid (M2.out.keep Kc HNB.out)
        have WC := Lib.hid Wc
        have KC := Lib.hid Kc
        have VC := Lib.hid Vc
        clear Wc Kc Vc
        have m2 := MC.out.cell 2
        simp only [List.getElem?_cons_zero, List.getElem?_cons_succ] at m2
        go_wp2_with fail
        refine (etAtom_any (base := base) (g := g) t.text _ WC.out HTX.out (by have := HLEN.out; have := HTX.out; have := HSZ.out; simp [fourB_len, atomB_len]; omega)).mono ?_
        rintro e w4 ⟨rfl, hres⟩
        have RN := Lib.hid (WrRes.trans HG2.out HVW.out KC.out VC.out hres)
        clear hres WC KC VC MC m2
        clear R2
        have R2 := RN
        clear RN
        go_wp2
        go_meet
        case rel => rw [EQ.out]; have hx := R2.out; simpa only [List.append_assoc, List.cons_append, List.nil_append] using hx
      by_cases hk : t.kind = 5
      · have qk1 : (t.kind == 1) = false := beq_eq_false_iff_ne.2 (by omega)
        have qk2 : (t.kind == 2) = false := beq_eq_false_iff_ne.2 (by omega)
        have qk5 : (t.kind == 5) = true := beq_iff_eq.2 hk
        have hL0 : (0 : Int) ≤ (t.args.length : Int) := by omega
        have hL1 : (t.args.length : Int) ≤ 100000000 := by have := HPN.out; have := HP.out; have := HSZ.out; omega
        by_cases hs : t.args.length < 256
        · have hsi : (t.args.length : Int) < 256 := by omega
          have EQ := Lib.hid (show st.head t.kind t.int t.text t.cr t.nums t.args.length = ⟨st.b ++ ([104, UInt8.ofNat t.args.length]), st.part + 1, st.wide⟩ from by
            have h1 : wideI t.kind t.int = false := by unfold wideI; simp [hk]
            unfold Wr.head headB
            rw [h1, if_neg (by omega), if_neg (by omega), if_pos hk, if_pos hs]
            rfl)
          clear hk
          obtain ⟨bvc, Wc, Kc, Vc⟩ := R2.out
          obtain ⟨ac, cc, rfl⟩ := Wc.form
          have WC := Lib.hid Wc
          have KC := Lib.hid Kc
          have VC := Lib.hid Vc
          have MC := Lib.hid (M2.out.keep Kc HNB.out)
          clear Wc Kc Vc
          have m5 := MC.out.cell 5
          simp only [List.getElem?_cons_zero, List.getElem?_cons_succ] at m5
          go_wp2
          refine wp_region_L (S := fun X => Cells X g 104 [.slice ac st.b.length cc, .int .i64 (st.part + 1 : Nat), .int .i64 st.wide] ∧ Cells X w.heap.size 35 [.int .i64 t.kind, .int .i64 t.int, .string t.text, .int .u32 t.cr, .slice na2 t.nums.length nc2, .slice a2 t.args.length cap2]) (F := [13]) (by kernel_rfl) (⟨WC.out.cells.below (Below.drew (Below.refl _ _)), MC.out.below (Below.drew (Below.refl _ _))⟩) (fun hHeld => ?_)
          refine wpAnyL_easy (i := 0) (v := (.pointer (some ⟨g, 0, none⟩))) (by simp only [List.getElem?_toArray, List.getElem?_cons_succ, List.getElem?_cons_zero]; rfl) (by kernel_rfl) (by kernel_rfl) (by kernel_rfl) (by exact fun _ _ _ h => h) (Or.inl ⟨by rfl, fun _ _ => rfl⟩) ?_
          try simp only [Act.put, List.setIfInBounds_toArray, List.set_cons_zero, List.set_cons_succ]
          refine wpAnyL_easy (i := 1) (v := (.pointer (some ⟨g, 0, none⟩))) (by simp only [List.getElem?_toArray, List.getElem?_cons_succ, List.getElem?_cons_zero]; rfl) (by kernel_rfl) (by kernel_rfl) (by kernel_rfl) (by exact fun _ _ _ h => h) (Or.inl ⟨by rfl, fun _ _ => rfl⟩) ?_
          try simp only [Act.put, List.setIfInBounds_toArray, List.set_cons_zero, List.set_cons_succ]
          refine wpAnyL_easy (i := 2) (v := (.pointer (some ⟨g, 0, none⟩))) (by simp only [List.getElem?_toArray, List.getElem?_cons_succ, List.getElem?_cons_zero]; rfl) (by kernel_rfl) (by kernel_rfl) (by kernel_rfl) (by exact fun _ _ _ h => h) (Or.inl ⟨by rfl, by intro W _; go_simp; all_goals first | rfl | exact ⟨rfl, rfl, rfl, rfl, rfl, rfl⟩⟩) ?_
          try simp only [Act.put, List.setIfInBounds_toArray, List.set_cons_zero, List.set_cons_succ]
          refine wpAnyL_easy (i := 3) (v := (.pointer (some ⟨g, 0, none⟩))) (by simp only [List.getElem?_toArray, List.getElem?_cons_succ, List.getElem?_cons_zero]; rfl) (by kernel_rfl) (by kernel_rfl) (by kernel_rfl) (by exact fun _ _ _ h => h) (Or.inl ⟨by rfl, fun _ _ => rfl⟩) ?_
          try simp only [Act.put, List.setIfInBounds_toArray, List.set_cons_zero, List.set_cons_succ]
          refine wpAnyL_take (i := 4) (v := (.slice ac st.b.length cc)) (by simp only [List.getElem?_toArray, List.getElem?_cons_succ, List.getElem?_cons_zero]; rfl) (by kernel_rfl) (by kernel_rfl) (by kernel_rfl) (by kernel_rfl) (by exact fun _ _ _ h => h) (Or.inl ⟨by rfl, by intro W hSw; have x0 := show W.cell? ⟨g, 0, none⟩ = some (.slice ac st.b.length cc) from hSw.1.cell 0; go_simp; all_goals first | rfl | exact ⟨rfl, rfl, rfl, rfl, rfl, rfl⟩⟩) (by assumption) ?_
          try simp only [Act.put, List.setIfInBounds_toArray, List.set_cons_zero, List.set_cons_succ]
          refine wpAnyL_easy (i := 5) (v := (.pointer (some ⟨w.heap.size, 5, none⟩))) (by simp only [List.getElem?_toArray, List.getElem?_cons_succ, List.getElem?_cons_zero]; rfl) (by kernel_rfl) (by kernel_rfl) (by kernel_rfl) (by exact fun _ _ _ h => h) (Or.inl ⟨by rfl, fun _ _ => rfl⟩) ?_
          try simp only [Act.put, List.setIfInBounds_toArray, List.set_cons_zero, List.set_cons_succ]
          refine wpAnyL_take (i := 6) (v := (.slice a2 t.args.length cap2)) (by simp only [List.getElem?_toArray, List.getElem?_cons_succ, List.getElem?_cons_zero]; rfl) (by kernel_rfl) (by kernel_rfl) (by kernel_rfl) (by kernel_rfl) (by exact fun _ _ _ h => h) (Or.inl ⟨by rfl, by intro W hSw; have x0 := show W.cell? ⟨w.heap.size, 5, none⟩ = some (.slice a2 t.args.length cap2) from hSw.2.cell 5; go_simp; all_goals first | rfl | exact ⟨rfl, rfl, rfl, rfl, rfl, rfl⟩⟩) (by assumption) ?_
          try simp only [Act.put, List.setIfInBounds_toArray, List.set_cons_zero, List.set_cons_succ]
          refine wpAnyL_easy (i := 7) (v := (.int .i64 t.args.length)) (by simp only [List.getElem?_toArray, List.getElem?_cons_succ, List.getElem?_cons_zero]; rfl) (by kernel_rfl) (by kernel_rfl) (by kernel_rfl) (by exact fun _ _ _ h => h) (Or.inl ⟨by rfl, by intro W _; go_simp; all_goals first | rfl | exact ⟨rfl, rfl, rfl, rfl, rfl, rfl⟩⟩) ?_
          try simp only [Act.put, List.setIfInBounds_toArray, List.set_cons_zero, List.set_cons_succ]
          refine wpAnyL_easy (i := 8) (v := (.int .u8 ((t.args.length : Int) % 256))) (by simp only [List.getElem?_toArray, List.getElem?_cons_succ, List.getElem?_cons_zero]; rfl) (by kernel_rfl) (by kernel_rfl) (by kernel_rfl) (by exact fun _ _ _ h => h) (Or.inl ⟨by rfl, by intro W _; go_simp; all_goals first | rfl | exact ⟨rfl, rfl, rfl, rfl, rfl, rfl⟩⟩) ?_
          try simp only [Act.put, List.setIfInBounds_toArray, List.set_cons_zero, List.set_cons_succ]
          have BD := Lib.hid (show Below w2.heap.size w2 w2.drew from Below.drew (Below.refl _ _))
          have WD := Lib.hid (WC.out.below BD.out)
          clear WC MC hHeld
          have WC := WD
          clear WD
          have MC := Lib.hid (M2.out.below BD.out)
          have HBSB := Lib.hid BD.out.size
          generalize w2.drew = w3 at *
          have KC2 := KC
          clear KC
          have KC := Lib.hid (KC2.out.trans (keepB BD.out) (fun _ _ h => h))
          clear KC2
          refine wpAnyL_ready (rs := [9]) (by kernel_rfl) (by simp) ?_
          refine AllReadyL.cons (by simp only [List.getElem?_toArray, List.getElem?_cons_succ, List.getElem?_cons_zero]; rfl) (fun K hK => ?_) AllReadyL.nil
          go_simp
          have HB := Lib.hid ((Below.refl w3.heap.size w3).alloc (Nat.le_refl _) (.cells #[.int .u8 104, .int .u8 ((t.args.length : Int) % 256)] 5 (0, 0)))
          have HD := Lib.hid (show RSl (.slice (some ⟨w3.heap.size, 0, none⟩) 2 2) [104, UInt8.ofNat t.args.length] (w3.alloc (.cells #[.int .u8 104, .int .u8 ((t.args.length : Int) % 256)] 5 (0, 0))) from by
            have h2 := RSl.lit w3 [104, UInt8.ofNat t.args.length] (by simp [maxLen])
            have e : (bytesV [104, UInt8.ofNat t.args.length]).toArray = #[.int .u8 104, .int .u8 ((t.args.length : Int) % 256)] := by
              have q1 : byteV (UInt8.ofNat t.args.length) = .int .u8 ((t.args.length : Int) % 256) := byteV_of _ _ (by omega)
              simp only [bytesV, List.map_cons, List.map_nil, q1]
              rfl
            rw [e] at h2
            exact h2)
          obtain ⟨a', n', c', w', hr, hC, hres⟩ := (WC.out.below HB.out).app HD.out (by have := HLEN.out; simp; omega)
          have R3 := Lib.hid (WrRes.trans HG2.out HVW.out KC.out VC.out (WrRes.trans WC.out.cells.lt (fun q hq => (WC.out.buf.block hq).2) (keepB HB.out) (fun q hq => .inl hq) hres))
          have HR := Lib.hid hr
          have HC := Lib.hid hC
          clear hr hC hres
          refine hK.out _ _ (⟨WC.out.cells.below HB.out, MC.out.below HB.out⟩) (fun hHeld => ?_)
          try simp only [Act.put, List.setIfInBounds_toArray, List.set_cons_zero, List.set_cons_succ]
          clear hHeld
          refine wpAnyL_ready (rs := [10]) (by kernel_rfl) (by simp) ?_
          refine AllReadyL.cons (by simp only [List.getElem?_toArray, List.getElem?_cons_succ, List.getElem?_cons_zero]; rfl) (fun K hK => ?_) AllReadyL.nil
          refine step_app_eq (by rfl) _ _ _ _ (by rfl) _ _ (.slice a' n' c') w' (by rfl) (by rfl) HR.out ?_
          have MN := Lib.hid (Cells.unfar (M2.out.keep (by have := R3.out; exact this.choose_spec.2.1) HNB.out) HNG.out)
          have d0 := HC.out.cell 0
          have f0 := HC.out.frozen 0
          simp only [List.getElem?_cons_zero] at d0
          refine hK.out _ _ (⟨HC.out, MN.out⟩) (fun hHeld => ?_)
          try simp only [Act.put, List.setIfInBounds_toArray, List.set_cons_zero, List.set_cons_succ]
          refine wpAnyL_easy (i := 11) (v := (.pointer (some ⟨g, 0, none⟩))) (by simp only [List.getElem?_toArray, List.getElem?_cons_succ, List.getElem?_cons_zero]; rfl) (by kernel_rfl) (by kernel_rfl) (by kernel_rfl) (by exact fun _ _ _ h => h) (Or.inl ⟨by rfl, by intro W _; go_simp; all_goals first | rfl | exact ⟨rfl, rfl, rfl, rfl, rfl, rfl⟩⟩) ?_
          try simp only [Act.put, List.setIfInBounds_toArray, List.set_cons_zero, List.set_cons_succ]
          refine wpAnyL_easy (i := 12) (v := (.pointer (some ⟨g, 0, none⟩))) (by simp only [List.getElem?_toArray, List.getElem?_cons_succ, List.getElem?_cons_zero]; rfl) (by kernel_rfl) (by kernel_rfl) (by kernel_rfl) (by exact fun _ _ _ h => h) (Or.inl ⟨by rfl, fun _ _ => rfl⟩) ?_
          try simp only [Act.put, List.setIfInBounds_toArray, List.set_cons_zero, List.set_cons_succ]
          refine wpAnyL_ready (rs := [13]) (by kernel_rfl) (by simp) ?_
          refine AllReadyL.last (by simp only [List.getElem?_toArray, List.getElem?_cons_succ, List.getElem?_cons_zero]; rfl) (by kernel_rfl) (fun K hK => ?_) AllReadyL.nil
          go_simp
          refine hK.out _ _ ?_
          try simp only [Act.put, List.setIfInBounds_toArray, List.set_cons_zero, List.set_cons_succ]
          refine wpAnyL_done (by kernel_rfl) ?_ _
          go_wp2
          go_meet
          case rel => rw [EQ.out]; have hx := R3.out; simpa only [List.append_assoc, List.cons_append, List.nil_append] using hx
        · have hsi : ¬ (t.args.length : Int) < 256 := by omega
          have EQ := Lib.hid (show st.head t.kind t.int t.text t.cr t.nums t.args.length = ⟨st.b ++ ([105] ++ fourB (t.args.length : Int)), st.part + 1, st.wide⟩ from by
            have h1 : wideI t.kind t.int = false := by unfold wideI; simp [hk]
            unfold Wr.head headB
            rw [h1, if_neg (by omega), if_neg (by omega), if_pos hk, if_neg hs]
            rfl)
          clear hk hs
          obtain ⟨bvc, Wc, Kc, Vc⟩ := R2.out
          obtain ⟨ac, cc, rfl⟩ := Wc.form
          have WC := Lib.hid Wc
          have KC := Lib.hid Kc
          have VC := Lib.hid Vc
          have MC := Lib.hid (M2.out.keep Kc HNB.out)
          clear Wc Kc Vc
          have m5 := MC.out.cell 5
          simp only [List.getElem?_cons_zero, List.getElem?_cons_succ] at m5
          have b0 := WC.out.cells.cell 0
          simp only [List.getElem?_cons_zero] at b0
          have HB := Lib.hid ((Below.refl w2.heap.size w2).alloc (Nat.le_refl _) (.cells #[.int .u8 105] 5 (0, 0)))
          have HD := Lib.hid (show RSl (.slice (some ⟨w2.heap.size, 0, none⟩) 1 1) [105] (w2.alloc (.cells #[.int .u8 105] 5 (0, 0))) from by
            have h2 := RSl.lit w2 [105] (by simp [maxLen])
            have e : (bytesV [105]).toArray = #[.int .u8 105] := by
              rfl
            rw [e] at h2
            exact h2)
          obtain ⟨a', n', c', w', hr, hC, hres⟩ := (WC.out.below HB.out).app HD.out (by have := HLEN.out; simp; omega)
          have R3 := Lib.hid (WrRes.trans HG2.out HVW.out KC.out VC.out (WrRes.trans WC.out.cells.lt (fun q hq => (WC.out.buf.block hq).2) (keepB HB.out) (fun q hq => .inl hq) hres))
          have HR := Lib.hid hr
          have HC := Lib.hid hC
          clear hr hC hres
          clear HD
          go_wp2_with (at_builtin; refine stop ?_)
          refine Stopped.of ?_
          refine wp_app_eq rfl (.tmp 106) (.tmp 107) _ _ rfl _ _ (.slice a' n' c') w' rfl rfl HR.out ?_
          have d0 := HC.out.cell 0
          have f0 := HC.out.frozen 0
          simp only [List.getElem?_cons_zero] at d0
          clear b0
          clear m5
          clear WC KC VC MC
          go_upto_region 18 with (fail)
          generalize w'.setCell ⟨g, 0, none⟩ (.slice a' n' c') = w3 at *
          clear d0 f0 HC HR HB
          have hmod : (t.args.length : Int) % 4294967296 = (t.args.length : Int) := by omega
          obtain ⟨bvc, Wc, Kc, Vc⟩ := R3.out
          have MC := Lib.hid (M2.out.keep Kc HNB.out)
          have WC := Lib.hid Wc
          have KC := Lib.hid Kc
          have VC := Lib.hid Vc
          clear Wc Kc Vc
          have m5 := MC.out.cell 5
          simp only [List.getElem?_cons_zero, List.getElem?_cons_succ] at m5
          go_wp2_with fail
          refine (etFour_any (base := base) (g := g) ((t.args.length : Int)) _ WC.out hL0 (by omega) (by have := HLEN.out; have := HTX.out; have := HSZ.out; simp [fourB_len, atomB_len]; omega)).mono ?_
          rintro e w4 ⟨rfl, hres⟩
          have RN := Lib.hid (WrRes.trans HG2.out HVW.out KC.out VC.out hres)
          clear hres WC KC VC MC m5
          clear R3
          have R3 := RN
          clear RN
          go_wp2
          go_meet
          case rel => rw [EQ.out]; have hx := R3.out; simpa only [List.append_assoc, List.cons_append, List.nil_append] using hx
      by_cases hk : t.kind = 6
      · have qk1 : (t.kind == 1) = false := beq_eq_false_iff_ne.2 (by omega)
        have qk2 : (t.kind == 2) = false := beq_eq_false_iff_ne.2 (by omega)
        have qk5 : (t.kind == 5) = false := beq_eq_false_iff_ne.2 (by omega)
        have qk6 : (t.kind == 6) = true := beq_iff_eq.2 hk
        have EQ := Lib.hid (show st.head t.kind t.int t.text t.cr t.nums t.args.length = ⟨st.b ++ ([106]), st.part + 1, st.wide⟩ from by
          have h1 : wideI t.kind t.int = false := by unfold wideI; simp [hk]
          unfold Wr.head headB
          rw [h1, if_neg (by omega), if_neg (by omega), if_neg (by omega), if_pos hk]
          rfl)
        clear hk
        obtain ⟨bvc, Wc, Kc, Vc⟩ := R2.out
        obtain ⟨ac, cc, rfl⟩ := Wc.form
        have WC := Lib.hid Wc
        have KC := Lib.hid Kc
        have VC := Lib.hid Vc
        have MC := Lib.hid (M2.out.keep Kc HNB.out)
        clear Wc Kc Vc
        have b0 := WC.out.cells.cell 0
        simp only [List.getElem?_cons_zero] at b0
        have HB := Lib.hid ((Below.refl w2.heap.size w2).alloc (Nat.le_refl _) (.cells #[.int .u8 106] 5 (0, 0)))
        have HD := Lib.hid (show RSl (.slice (some ⟨w2.heap.size, 0, none⟩) 1 1) [106] (w2.alloc (.cells #[.int .u8 106] 5 (0, 0))) from by
          have h2 := RSl.lit w2 [106] (by simp [maxLen])
          have e : (bytesV [106]).toArray = #[.int .u8 106] := by
            rfl
          rw [e] at h2
          exact h2)
        obtain ⟨a', n', c', w', hr, hC, hres⟩ := (WC.out.below HB.out).app HD.out (by have := HLEN.out; simp; omega)
        have R3 := Lib.hid (WrRes.trans HG2.out HVW.out KC.out VC.out (WrRes.trans WC.out.cells.lt (fun q hq => (WC.out.buf.block hq).2) (keepB HB.out) (fun q hq => .inl hq) hres))
        have HR := Lib.hid hr
        have HC := Lib.hid hC
        clear hr hC hres
        clear HD
        go_wp2_with (at_builtin; refine stop ?_)
        refine Stopped.of ?_
        refine wp_app_eq rfl (.tmp 123) (.tmp 124) _ _ rfl _ _ (.slice a' n' c') w' rfl rfl HR.out ?_
        have d0 := HC.out.cell 0
        have f0 := HC.out.frozen 0
        simp only [List.getElem?_cons_zero] at d0
        clear b0
        clear WC KC VC MC
        go_wp2
        go_meet
        case rel => rw [EQ.out]; have hx := R3.out; simpa only [List.append_assoc, List.cons_append, List.nil_append] using hx
      by_cases hk : t.kind = 7
      · have qk1 : (t.kind == 1) = false := beq_eq_false_iff_ne.2 (by omega)
        have qk2 : (t.kind == 2) = false := beq_eq_false_iff_ne.2 (by omega)
        have qk5 : (t.kind == 5) = false := beq_eq_false_iff_ne.2 (by omega)
        have qk6 : (t.kind == 6) = false := beq_eq_false_iff_ne.2 (by omega)
        have qk7 : (t.kind == 7) = true := beq_iff_eq.2 hk
        have hL0 : (0 : Int) ≤ (t.args.length : Int) := by omega
        have hL1 : (t.args.length : Int) ≤ 100000000 := by have := HPN.out; have := HP.out; have := HSZ.out; omega
        have hL2 : (1 : Int) ≤ (t.args.length : Int) := by have := partS_list HPO.out.1 hk; omega
        have EQ := Lib.hid (show st.head t.kind t.int t.text t.cr t.nums t.args.length = ⟨st.b ++ ([108] ++ fourB ((t.args.length : Int) - 1)), st.part + 1, st.wide⟩ from by
          have h1 : wideI t.kind t.int = false := by unfold wideI; simp [hk]
          unfold Wr.head headB
          rw [h1, if_neg (by omega), if_neg (by omega), if_neg (by omega), if_neg (by omega), if_pos hk]
          rfl)
        clear hk
        obtain ⟨bvc, Wc, Kc, Vc⟩ := R2.out
        obtain ⟨ac, cc, rfl⟩ := Wc.form
        have WC := Lib.hid Wc
        have KC := Lib.hid Kc
        have VC := Lib.hid Vc
        have MC := Lib.hid (M2.out.keep Kc HNB.out)
        clear Wc Kc Vc
        have b0 := WC.out.cells.cell 0
        simp only [List.getElem?_cons_zero] at b0
        have HB := Lib.hid ((Below.refl w2.heap.size w2).alloc (Nat.le_refl _) (.cells #[.int .u8 108] 5 (0, 0)))
        have HD := Lib.hid (show RSl (.slice (some ⟨w2.heap.size, 0, none⟩) 1 1) [108] (w2.alloc (.cells #[.int .u8 108] 5 (0, 0))) from by
          have h2 := RSl.lit w2 [108] (by simp [maxLen])
          have e : (bytesV [108]).toArray = #[.int .u8 108] := by
            rfl
          rw [e] at h2
          exact h2)
        obtain ⟨a', n', c', w', hr, hC, hres⟩ := (WC.out.below HB.out).app HD.out (by have := HLEN.out; simp; omega)
        have R3 := Lib.hid (WrRes.trans HG2.out HVW.out KC.out VC.out (WrRes.trans WC.out.cells.lt (fun q hq => (WC.out.buf.block hq).2) (keepB HB.out) (fun q hq => .inl hq) hres))
        have HR := Lib.hid hr
        have HC := Lib.hid hC
        clear hr hC hres
        clear HD
        go_wp2_with (at_builtin; refine stop ?_)
        refine Stopped.of ?_
        refine wp_app_eq rfl (.tmp 134) (.tmp 135) _ _ rfl _ _ (.slice a' n' c') w' rfl rfl HR.out ?_
        have d0 := HC.out.cell 0
        have f0 := HC.out.frozen 0
        simp only [List.getElem?_cons_zero] at d0
        clear b0
        clear WC KC VC MC
        go_upto_region 23 with (fail)
        generalize w'.setCell ⟨g, 0, none⟩ (.slice a' n' c') = w3 at *
        clear d0 f0 HC HR HB
        have hmod : ((t.args.length : Int) - 1) % 4294967296 = (t.args.length : Int) - 1 := by omega
        obtain ⟨bvc, Wc, Kc, Vc⟩ := R3.out
        have MC := Lib.hid (M2.out.keep Kc HNB.out)
        have WC := Lib.hid Wc
        have KC := Lib.hid Kc
        have VC := Lib.hid Vc
        clear Wc Kc Vc
        have m5 := MC.out.cell 5
        simp only [List.getElem?_cons_zero, List.getElem?_cons_succ] at m5
        go_wp2_with fail
        refine (etFour_any (base := base) (g := g) ((t.args.length : Int) - 1) _ WC.out (by omega) (by omega) (by have := HLEN.out; have := HTX.out; have := HSZ.out; simp [fourB_len, atomB_len]; omega)).mono ?_
        rintro e w4 ⟨rfl, hres⟩
        have RN := Lib.hid (WrRes.trans HG2.out HVW.out KC.out VC.out hres)
        clear hres WC KC VC MC m5
        clear R3
        have R3 := RN
        clear RN
        go_wp2
        go_meet
        case rel => rw [EQ.out]; have hx := R3.out; simpa only [List.append_assoc, List.cons_append, List.nil_append] using hx
      by_cases hk : t.kind = 4
      · have qk1 : (t.kind == 1) = false := beq_eq_false_iff_ne.2 (by omega)
        have qk2 : (t.kind == 2) = false := beq_eq_false_iff_ne.2 (by omega)
        have qk5 : (t.kind == 5) = false := beq_eq_false_iff_ne.2 (by omega)
        have qk6 : (t.kind == 6) = false := beq_eq_false_iff_ne.2 (by omega)
        have qk7 : (t.kind == 7) = false := beq_eq_false_iff_ne.2 (by omega)
        have qk4 : (t.kind == 4) = true := beq_iff_eq.2 hk
        have hnl : t.nums.length = 2 := (partS_nums HPO.out.1).2 hk
        obtain ⟨gN, oN, x, y, rfl, hSN, hxy, hx0, hx1, hy0, hy1, hu0, hu1⟩ := nums_two HNU.out hnl
        have HXY := Lib.hid hxy
        have HSN := Lib.hid hSN
        have HNL := Lib.hid hnl
        have HB2S := Lib.hid (Nat.le_trans HBS.out K2.out.size)
        have HU0 := Lib.hid ((Keep.cell K2.out (Nat.lt_of_lt_of_le hSN HBS.out) (HT2.out gN hSN)).trans hu0)
        have HU1 := Lib.hid ((Keep.cell K2.out (Nat.lt_of_lt_of_le hSN HBS.out) (HT2.out gN hSN)).trans hu1)
        have EQ := Lib.hid (show st.head t.kind t.int t.text t.cr t.nums t.args.length = ⟨st.b ++ ([88] ++ atomB t.text ++ fourB x ++ fourB y ++ fourB t.cr), st.part + 1, st.wide⟩ from by
          have h1 : wideI t.kind t.int = false := by unfold wideI; simp [hk]
          unfold Wr.head headB
          rw [h1, if_neg (by omega), if_neg (by omega), if_neg (by omega), if_neg (by omega), if_neg (by omega), if_pos hk, hxy]
          rfl)
        clear hxy hSN hnl hu0 hu1 hk
        have hc0 := HPT.out.c0
        have hc1 := HPT.out.c1
        obtain ⟨bvc, Wc, Kc, Vc⟩ := R2.out
        obtain ⟨ac, cc, rfl⟩ := Wc.form
        have WC := Lib.hid Wc
        have KC := Lib.hid Kc
        have VC := Lib.hid Vc
        have MC := Lib.hid (M2.out.keep Kc HNB.out)
        clear Wc Kc Vc
        have b0 := WC.out.cells.cell 0
        simp only [List.getElem?_cons_zero] at b0
        have HB := Lib.hid ((Below.refl w2.heap.size w2).alloc (Nat.le_refl _) (.cells #[.int .u8 88] 5 (0, 0)))
        have HD := Lib.hid (show RSl (.slice (some ⟨w2.heap.size, 0, none⟩) 1 1) [88] (w2.alloc (.cells #[.int .u8 88] 5 (0, 0))) from by
          have h2 := RSl.lit w2 [88] (by simp [maxLen])
          have e : (bytesV [88]).toArray = #[.int .u8 88] := by
            rfl
          rw [e] at h2
          exact h2)
        obtain ⟨a', n', c', w', hr, hC, hres⟩ := (WC.out.below HB.out).app HD.out (by have := HLEN.out; simp; omega)
        have R3 := Lib.hid (WrRes.trans HG2.out HVW.out KC.out VC.out (WrRes.trans WC.out.cells.lt (fun q hq => (WC.out.buf.block hq).2) (keepB HB.out) (fun q hq => .inl hq) hres))
        have HR := Lib.hid hr
        have HC := Lib.hid hC
        clear hr hC hres
        clear HD
        go_wp2_with (at_builtin; refine stop ?_)
        refine Stopped.of ?_
        refine wp_app_eq rfl (.tmp 152) (.tmp 153) _ _ rfl _ _ (.slice a' n' c') w' rfl rfl HR.out ?_
        have d0 := HC.out.cell 0
        have f0 := HC.out.frozen 0
        simp only [List.getElem?_cons_zero] at d0
        clear b0
        clear WC KC VC MC
        go_upto_region 26 with (fail)
        generalize w'.setCell ⟨g, 0, none⟩ (.slice a' n' c') = w3 at *
        clear d0 f0 HC HR HB
        obtain ⟨bvc, Wc, Kc, Vc⟩ := R3.out
        have MC := Lib.hid (M2.out.keep Kc HNB.out)
        have WC := Lib.hid Wc
        have KC := Lib.hid Kc
        have VC := Lib.hid Vc
        clear Wc Kc Vc
        have m2 := MC.out.cell 2
        simp only [List.getElem?_cons_zero, List.getElem?_cons_succ] at m2
        go_wp2_with fail
        refine (etAtom_any (base := base) (g := g) t.text _ WC.out HTX.out (by have := HLEN.out; have := HTX.out; have := HSZ.out; simp [fourB_len, atomB_len]; omega)).mono ?_
        rintro e w4 ⟨rfl, hres⟩
        have RN := Lib.hid (WrRes.trans HG2.out HVW.out KC.out VC.out hres)
        clear hres WC KC VC MC m2
        clear R3
        have R3 := RN
        clear RN
        obtain ⟨bvc, Wc, Kc, Vc⟩ := R3.out
        have MC := Lib.hid (M2.out.keep Kc HNB.out)
        have WC := Lib.hid Wc
        have KC := Lib.hid Kc
        have VC := Lib.hid Vc
        clear Wc Kc Vc
        have m4 := MC.out.cell 4
        simp only [List.getElem?_cons_zero, List.getElem?_cons_succ] at m4
        rw [HNL.out] at m4
        have u0 := (Keep.cell KC.out (Nat.lt_of_lt_of_le HSN.out HB2S.out) (HT2.out gN HSN.out)).trans HU0.out
        go_wp2_with fail
        refine (etFour_any (base := base) (g := g) (x) _ WC.out hx0 hx1 (by have := HLEN.out; have := HTX.out; have := HSZ.out; simp [fourB_len, atomB_len]; omega)).mono ?_
        rintro e w5 ⟨rfl, hres⟩
        have RN := Lib.hid (WrRes.trans HG2.out HVW.out KC.out VC.out hres)
        clear hres WC KC VC MC m4
        clear R3
        have R3 := RN
        clear RN
        obtain ⟨bvc, Wc, Kc, Vc⟩ := R3.out
        have MC := Lib.hid (M2.out.keep Kc HNB.out)
        have WC := Lib.hid Wc
        have KC := Lib.hid Kc
        have VC := Lib.hid Vc
        clear Wc Kc Vc
        have m4 := MC.out.cell 4
        simp only [List.getElem?_cons_zero, List.getElem?_cons_succ] at m4
        rw [HNL.out] at m4
        have u1 := (Keep.cell KC.out (Nat.lt_of_lt_of_le HSN.out HB2S.out) (HT2.out gN HSN.out)).trans HU1.out
        go_wp2_with fail
        refine (etFour_any (base := base) (g := g) (y) _ WC.out hy0 hy1 (by have := HLEN.out; have := HTX.out; have := HSZ.out; simp [fourB_len, atomB_len]; omega)).mono ?_
        rintro e w6 ⟨rfl, hres⟩
        have RN := Lib.hid (WrRes.trans HG2.out HVW.out KC.out VC.out hres)
        clear hres WC KC VC MC m4
        clear R3
        have R3 := RN
        clear RN
        obtain ⟨bvc, Wc, Kc, Vc⟩ := R3.out
        have MC := Lib.hid (M2.out.keep Kc HNB.out)
        have WC := Lib.hid Wc
        have KC := Lib.hid Kc
        have VC := Lib.hid Vc
        clear Wc Kc Vc
        have m3 := MC.out.cell 3
        simp only [List.getElem?_cons_zero, List.getElem?_cons_succ] at m3
        go_wp2_with fail
        refine (etFour_any (base := base) (g := g) (t.cr) _ WC.out hc0 hc1 (by have := HLEN.out; have := HTX.out; have := HSZ.out; simp [fourB_len, atomB_len]; omega)).mono ?_
        rintro e w7 ⟨rfl, hres⟩
        have RN := Lib.hid (WrRes.trans HG2.out HVW.out KC.out VC.out hres)
        clear hres WC KC VC MC m3
        clear R3
        have R3 := RN
        clear RN
        go_wp2
        go_meet
        case rel => rw [EQ.out]; have hx := R3.out; simpa only [List.append_assoc, List.cons_append, List.nil_append] using hx
      by_cases hk : t.kind = 3
      · have qk1 : (t.kind == 1) = false := beq_eq_false_iff_ne.2 (by omega)
        have qk2 : (t.kind == 2) = false := beq_eq_false_iff_ne.2 (by omega)
        have qk5 : (t.kind == 5) = false := beq_eq_false_iff_ne.2 (by omega)
        have qk6 : (t.kind == 6) = false := beq_eq_false_iff_ne.2 (by omega)
        have qk7 : (t.kind == 7) = false := beq_eq_false_iff_ne.2 (by omega)
        have qk4 : (t.kind == 4) = false := beq_eq_false_iff_ne.2 (by omega)
        have qk3 : (t.kind == 3) = true := beq_iff_eq.2 hk
        have hnl : t.nums.length = 3 := (partS_nums HPO.out.1).1 hk
        obtain ⟨gN, oN, rfl, hSN, hu⟩ := nums_cells HNU.out (by omega)
        have HSN := Lib.hid hSN
        have HNL := Lib.hid hnl
        have HB2S := Lib.hid (Nat.le_trans HBS.out K2.out.size)
        have HNB2 := Lib.hid (nums_bound HNU.out)
        have HU := Lib.hid (fun i (h : i < t.nums.length) => (Keep.cell K2.out (Nat.lt_of_lt_of_le hSN HBS.out) (HT2.out gN hSN)).trans (hu i h))
        have EQ := Lib.hid (show st.head t.kind t.int t.text t.cr t.nums t.args.length = ⟨st.b ++ ([90, 0, 3] ++ atomB t.text ++ fourB t.cr ++ t.nums.flatMap fourB), st.part + 1, st.wide⟩ from by
          have h1 : wideI t.kind t.int = false := by unfold wideI; simp [hk]
          unfold Wr.head headB
          rw [h1, if_neg (by omega), if_neg (by omega), if_neg (by omega), if_neg (by omega), if_neg (by omega), if_neg (by omega), if_pos hk]
          rfl)
        clear hSN hnl hu hk
        have hc0 := HPT.out.c0
        have hc1 := HPT.out.c1
        obtain ⟨bvc, Wc, Kc, Vc⟩ := R2.out
        obtain ⟨ac, cc, rfl⟩ := Wc.form
        have WC := Lib.hid Wc
        have KC := Lib.hid Kc
        have VC := Lib.hid Vc
        have MC := Lib.hid (M2.out.keep Kc HNB.out)
        clear Wc Kc Vc
        have b0 := WC.out.cells.cell 0
        simp only [List.getElem?_cons_zero] at b0
        have HB := Lib.hid ((Below.refl w2.heap.size w2).alloc (Nat.le_refl _) (.cells #[.int .u8 90, .int .u8 0, .int .u8 3] 5 (0, 0)))
        have HD := Lib.hid (show RSl (.slice (some ⟨w2.heap.size, 0, none⟩) 3 3) [90, 0, 3] (w2.alloc (.cells #[.int .u8 90, .int .u8 0, .int .u8 3] 5 (0, 0))) from by
          have h2 := RSl.lit w2 [90, 0, 3] (by simp [maxLen])
          have e : (bytesV [90, 0, 3]).toArray = #[.int .u8 90, .int .u8 0, .int .u8 3] := by
            rfl
          rw [e] at h2
          exact h2)
        obtain ⟨a', n', c', w', hr, hC, hres⟩ := (WC.out.below HB.out).app HD.out (by have := HLEN.out; simp; omega)
        have R3 := Lib.hid (WrRes.trans HG2.out HVW.out KC.out VC.out (WrRes.trans WC.out.cells.lt (fun q hq => (WC.out.buf.block hq).2) (keepB HB.out) (fun q hq => .inl hq) hres))
        have HR := Lib.hid hr
        have HC := Lib.hid hC
        clear hr hC hres
        clear HD
        go_wp2_with (at_builtin; refine stop ?_)
        refine Stopped.of ?_
        refine wp_app_eq rfl (.tmp 183) (.tmp 184) _ _ rfl _ _ (.slice a' n' c') w' rfl rfl HR.out ?_
        have d0 := HC.out.cell 0
        have f0 := HC.out.frozen 0
        simp only [List.getElem?_cons_zero] at d0
        clear b0
        clear WC KC VC MC
        go_upto_region 32 with (fail)
        generalize w'.setCell ⟨g, 0, none⟩ (.slice a' n' c') = w3 at *
        clear d0 f0 HC HR HB
        obtain ⟨bvc, Wc, Kc, Vc⟩ := R3.out
        have MC := Lib.hid (M2.out.keep Kc HNB.out)
        have WC := Lib.hid Wc
        have KC := Lib.hid Kc
        have VC := Lib.hid Vc
        clear Wc Kc Vc
        have m2 := MC.out.cell 2
        simp only [List.getElem?_cons_zero, List.getElem?_cons_succ] at m2
        go_wp2_with fail
        refine (etAtom_any (base := base) (g := g) t.text _ WC.out HTX.out (by have := HLEN.out; have := HTX.out; have := HSZ.out; simp [fourB_len, atomB_len]; omega)).mono ?_
        rintro e w4 ⟨rfl, hres⟩
        have RN := Lib.hid (WrRes.trans HG2.out HVW.out KC.out VC.out hres)
        clear hres WC KC VC MC m2
        clear R3
        have R3 := RN
        clear RN
        obtain ⟨bvc, Wc, Kc, Vc⟩ := R3.out
        have MC := Lib.hid (M2.out.keep Kc HNB.out)
        have WC := Lib.hid Wc
        have KC := Lib.hid Kc
        have VC := Lib.hid Vc
        clear Wc Kc Vc
        have m3 := MC.out.cell 3
        simp only [List.getElem?_cons_zero, List.getElem?_cons_succ] at m3
        go_wp2_with fail
        refine (etFour_any (base := base) (g := g) (t.cr) _ WC.out hc0 hc1 (by have := HLEN.out; have := HTX.out; have := HSZ.out; simp [fourB_len, atomB_len]; omega)).mono ?_
        rintro e w5 ⟨rfl, hres⟩
        have RN := Lib.hid (WrRes.trans HG2.out HVW.out KC.out VC.out hres)
        clear hres WC KC VC MC m3
        clear R3
        have R3 := RN
        clear RN
        obtain ⟨bvc, Wc, Kc, Vc⟩ := R3.out
        have MC := Lib.hid (M2.out.keep Kc HNB.out)
        clear Wc Kc Vc
        have m4 := MC.out.cell 4
        simp only [List.getElem?_cons_zero, List.getElem?_cons_succ] at m4
        clear MC
        go_wp2_with fail
        clear m4
        go_loopw [199] (fun i wr => ∃ kk : Nat, kk ≤ t.nums.length ∧ i = .int .i64 kk ∧ WrRes base g bv w2 ⟨st.b ++ ([90, 0, 3] ++ atomB t.text ++ fourB t.cr ++ (t.nums.take kk).flatMap fourB), st.part + 1, st.wide⟩ wr) (fun i _ => t.nums.length - (intOf i).toNat)
        case atStart => exact ⟨0, Nat.zero_le _, rfl, by have hx := R3.out; simpa only [List.append_assoc, List.take_zero, List.flatMap_nil, List.append_nil] using hx⟩
        case round =>
          obtain ⟨kk, hkk, rfl, hres⟩ := hrel
          have R4 := Lib.hid hres
          clear hres R3
          by_cases hk : kk < t.nums.length
          · have hki : (kk : Int) < (t.nums.length : Int) := by omega
            have hk0 : (0 : Int) ≤ (kk : Int) := by omega
            have hkx : (kk : Int) ≤ 3 := by have := HNL.out; omega
            obtain ⟨hb0, hb1⟩ := HNB2.out kk hk
            obtain ⟨bvc, Wc, Kc, Vc⟩ := R4.out
            have u0 := (Keep.cell Kc (Nat.lt_of_lt_of_le HSN.out HB2S.out) (HT2.out gN HSN.out)).trans (HU.out kk hk)
            have WC := Lib.hid Wc
            have KC := Lib.hid Kc
            have VC := Lib.hid Vc
            clear Wc Kc Vc
            have HTK := Lib.hid (fourB_take hk)
            have HFL := Lib.hid (show ((t.nums.take kk).flatMap fourB).length ≤ 12 by rw [fourB_flat, List.length_take]; have := HNL.out; omega)
            go_wp2_with fail
            refine (etFour_any (base := base) (g := g) (t.nums[kk]) _ WC.out hb0 hb1 (by have := HLEN.out; have := HTX.out; have := HSZ.out; have := HFL.out; simp only [List.length_append, fourB_len, atomB_len, List.length_cons, List.length_nil]; omega)).mono ?_
            rintro e w8 ⟨rfl, hres⟩
            have RN := Lib.hid (WrRes.trans HG2.out HVW.out KC.out VC.out hres)
            clear hres WC KC VC u0
            go_wp2
            go_roundw
            case rel => exact ⟨kk + 1, by omega, by go_num, by rw [HTK.out]; have hx := RN.out; simpa only [List.append_assoc] using hx⟩
            case measure => simp [intOf]; omega
          · have hki : ¬ (kk : Int) < (t.nums.length : Int) := by omega
            have RN := Lib.hid (show WrRes base g bv w2 (st.head t.kind t.int t.text t.cr t.nums t.args.length) _ from by rw [EQ.out]; have hx := R4.out; rwa [List.take_of_length_le (by omega)] at hx)
            go_wp2
            go_meet
            case rel => exact RN.out
      have qk1 : (t.kind == 1) = false := beq_eq_false_iff_ne.2 (by assumption)
      have qk2 : (t.kind == 2) = false := beq_eq_false_iff_ne.2 (by assumption)
      have qk5 : (t.kind == 5) = false := beq_eq_false_iff_ne.2 (by assumption)
      have qk6 : (t.kind == 6) = false := beq_eq_false_iff_ne.2 (by assumption)
      have qk7 : (t.kind == 7) = false := beq_eq_false_iff_ne.2 (by assumption)
      have qk4 : (t.kind == 4) = false := beq_eq_false_iff_ne.2 (by assumption)
      have qk3 : (t.kind == 3) = false := beq_eq_false_iff_ne.2 (by assumption)
      have EQ := Lib.hid (show st.head t.kind t.int t.text t.cr t.nums t.args.length = ⟨st.b, st.part + 1, st.wide⟩ from by
        have h1 : wideI t.kind t.int = false := by unfold wideI; simp; intro h; omega
        unfold Wr.head headB
        rw [h1, if_neg (by assumption), if_neg (by assumption), if_neg (by assumption), if_neg (by assumption), if_neg (by assumption), if_neg (by assumption), if_neg (by assumption)]
        simp)
      go_wp2
      go_meet
      case rel => rw [EQ.out]; exact R2.out
    case rest =>
      have RC := Lib.hid hcut
      clear hcut m0
      obtain ⟨bvc, Wc, Kc, Vc⟩ := RC.out
      have MC := Lib.hid (M2.out.keep Kc HNB.out)
      clear Wc Kc Vc
      have m5 := MC.out.cell 5
      simp only [List.getElem?_cons_zero, List.getElem?_cons_succ] at m5
      clear MC
      have HEND := Lib.hid (show wrT t st = wrL t.args (st.head t.kind t.int t.text t.cr t.nums t.args.length) from by cases t; rw [wrT]; rfl)
      have HHL := Lib.hid (headB_len HPO.out.1)
      have HAR := Lib.hid (show ArgsAt (fun q => q < base) t.args a2 w2 from by
        obtain ⟨_, nv', a', cap', e, _, _, _, h⟩ := HT.out.parts
        injection e with _ e
        injection e with _ e
        injection e with _ e
        injection e with _ e
        injection e with _ e
        injection e with e _
        cases e
        exact h.keep K2.out (fun q _ hq => HT2.out q hq))
      go_wp2_with fail
      clear m5
      go_loopw [210] (fun i wr => ∃ (kk : Nat) (sk : Wr), kk ≤ t.args.length ∧ i = .int .i64 kk ∧ WrRes base g bv w2 sk wr ∧ wrL (t.args.drop kk) sk = wrT t st ∧ sk.b.length + 290 * sizeTL (t.args.drop kk) ≤ 900000000 ∧ sk.part + sizeTL (t.args.drop kk) ≤ 100000000 ∧ -1 ≤ sk.wide ∧ sk.wide ≤ 100000000) (fun i _ => t.args.length - (intOf i).toNat)
      case atStart =>
        refine ⟨0, _, Nat.zero_le _, rfl, RC.out, ?_, ?_, ?_, ?_, ?_⟩
        · rw [List.drop_zero]; exact HEND.out.symm
        · rw [List.drop_zero]; have := HLEN.out; have := HHL.out; have := HSZ.out; unfold Wr.head; dsimp only; rw [List.length_append]; omega
        · rw [List.drop_zero]; have := HP.out; have := HSZ.out; unfold Wr.head; dsimp only; omega
        · unfold Wr.head; dsimp only; split <;> omega
        · unfold Wr.head; dsimp only; split <;> omega
      case round =>
        obtain ⟨kk, sk, hkk, rfl, hres, hst, hb1, hb2, hb3, hb4⟩ := hrel
        have R4 := Lib.hid hres
        have HST := Lib.hid hst
        have HBD := Lib.hid (And.intro hb1 (And.intro hb2 (And.intro hb3 hb4)))
        clear hres hst hb1 hb2 hb3 hb4 RC
        by_cases hk : kk < t.args.length
        · have hki : (kk : Int) < (t.args.length : Int) := by omega
          have hk0 : (0 : Int) ≤ (kk : Int) := by omega
          have hkx : (kk : Int) ≤ 100000000 := by have := HPN.out; have := HP.out; have := HSZ.out; omega
          obtain ⟨bvc, Wc, Kc, Vc⟩ := R4.out
          obtain ⟨g2, o2, vs2, hae, _, hcs, ht2⟩ := (HAR.out.keep Kc (fun q _ hq => HT2.out q hq)).get kk hk
          subst hae
          have HT4 := Lib.hid ht2
          obtain ⟨_, nv3, a3, cap3, hv3, hnn3, _⟩ := ht2.parts
          obtain ⟨na3, nc3, hnv3, _, _⟩ := hnn3.slice
          subst hv3
          subst hnv3
          have e0 := hcs 0 (by decide)
          have e1 := hcs 1 (by decide)
          have e2 := hcs 2 (by decide)
          have e3 := hcs 3 (by decide)
          have e4 := hcs 4 (by decide)
          have e5 := hcs 5 (by decide)
          simp only [List.getElem?_cons_zero, List.getElem?_cons_succ, ← Nat.add_assoc, Nat.add_zero] at e0 e1 e2 e3 e4 e5
          have HBA := Lib.hid ((Below.refl _ wr).alloc (Nat.le_refl _) (.cells #[.int .i64 t.args[kk].kind, .int .i64 t.args[kk].int, .string t.args[kk].text, .int .u32 t.args[kk].cr, .slice na3 t.args[kk].nums.length nc3, .slice a3 t.args[kk].args.length cap3] 35 (0, 0)))
          have HDR := Lib.hid (sizeTL_drop kk hk)
          have HCALL := Lib.hid (HIH.out t.args[kk] _ sk bvc _ (by have := Tm.arg_lt hk; have := HNN.out; omega) (okTL_get HPO.out.2 kk hk) (HT4.out.below HBA.out) (Wc.below HBA.out) (by have := HBD.out.1; have := HDR.out; omega) (by have := HBD.out.2.1; have := HDR.out; omega) HBD.out.2.2.1 HBD.out.2.2.2)
          have KC := Lib.hid Kc
          have VC := Lib.hid Vc
          have WC := Lib.hid Wc
          clear Wc Kc Vc hcs ht2 hnn3
          go_wp2_with fail
          refine HCALL.out.mono ?_
          rintro e w5 ⟨rfl, hres⟩
          have RN := Lib.hid (WrRes.trans HG2.out HVW.out KC.out VC.out (WrRes.trans WC.out.cells.lt (fun q hq => (WC.out.buf.block hq).2) (keepB HBA.out) (fun q hq => .inl hq) hres))
          have HL2 := Lib.hid (wrT_len t.args[kk] sk (okTL_get HPO.out.2 kk hk))
          have HW2 := Lib.hid (wrT_wide 100000000 t.args[kk] sk HBD.out.2.2.1 HBD.out.2.2.2 (by have := HBD.out.2.1; have := HDR.out; omega))
          clear hres e0 e1 e2 e3 e4 e5 HCALL WC KC VC
          go_wp2
          go_roundw
          case rel => exact ⟨kk + 1, _, by omega, by go_num, RN.out, by rw [← wrL_drop kk hk]; exact HST.out, by have := HL2.out.1; have := HBD.out.1; have := HDR.out; omega, by have := HL2.out.2; have := HBD.out.2.1; have := HDR.out; omega, HW2.out.1, HW2.out.2⟩
          case measure => simp [intOf]; omega
        · have hki : ¬ (kk : Int) < (t.args.length : Int) := by omega
          have HE := Lib.hid (show sk = wrT t st from by rw [← HST.out, List.drop_eq_nil_of_le (by omega), wrL])
          go_wp2
          go_end0
          exact ⟨rfl, by rw [← HE.out]; exact WrRes.trans HGW.out HVB.out K2.out (fun q hq => .inl hq) R4.out⟩
end Go.Proofs.YtlahagabcnmdiaaGreatDoor
end
section
/- Package etf: Encode, Length. Printed by wip/etc.py. -/
open Go Go.RowKit
namespace Go.Proofs.YtlahagabcnmdiaaGreatDoor
set_option linter.unusedVariables false
set_option linter.unusedSimpArgs false

/-- what is written of a term that is fine -/
def bytesT (t : Tm) : Wr := wrT t ⟨[131], 0, -1⟩
/-- P4.1 -/
def encS (t : Tm) : List UInt8 × List Lk :=
  match checkS t with
  | k :: r => ([], ⟨etfL, k.at_, k.code⟩ :: k :: r)
  | [] => if 0 ≤ (bytesT t).wide then ([], [⟨etfL, (bytesT t).wide, 80⟩]) else if 65536 < (bytesT t).b.length then ([], [⟨etfL, 0, 4⟩]) else ((bytesT t).b, [])
/-- bytes and an error -/
def RetBE (w : World) (r : List UInt8 × List Lk) (e : Ending) (w' : World) : Prop := ∃ bv ev, e = .returned (.tuple #[bv, ev]) ∧ BufIs w.heap.size bv r.1 w' ∧ ErrIs w' ev r.2 ∧ Below w.heap.size w w'
theorem BufIs.nilS (base : Nat) (w : World) : BufIs base (.slice none 0 0) [] w := BufIs.nil base w
set_option maxHeartbeats 8000000 in
set_option maxRecDepth 100000 in
theorem encode_any (S : Nat → Prop) (t : Tm) (vs : List Value) (w : World) (ht : TmAt S t vs w) (hS : ∀ b, S b → b < w.heap.size) (hG : Gt w) :
    Calls Tryz.prog 13 #[.agg vs.toArray] w (RetBE w (encS t)) := by
  have HT := Lib.hid ht
  obtain ⟨hp, nv, a2, cap2, rfl, hnn, -⟩ := ht.parts
  obtain ⟨na2, nc2, rfl, _, _⟩ := hnn.slice
  have HS := Lib.hid hS
  have HG := Lib.hid hG
  have HB1 := Lib.hid ((Below.refl _ w).alloc (Nat.le_refl _) (.cells #[.int .i64 t.kind, .int .i64 t.int, .string t.text, .int .u32 t.cr, .slice na2 t.nums.length nc2, .slice a2 t.args.length cap2] 35 (0, 0)))
  have M1 := Lib.hid (Cells.new w 35 [.int .i64 t.kind, .int .i64 t.int, .string t.text, .int .u32 t.cr, .slice na2 t.nums.length nc2, .slice a2 t.args.length cap2])
  have m0 := M1.out.cell 0
  have m1 := M1.out.cell 1
  have m2 := M1.out.cell 2
  have m3 := M1.out.cell 3
  have m4 := M1.out.cell 4
  have m5 := M1.out.cell 5
  simp only [List.getElem?_cons_zero, List.getElem?_cons_succ] at m0 m1 m2 m3 m4 m5
  have HCK := Lib.hid (check_any S t _ _ (ht.below HB1.out) (fun b hb => Nat.lt_of_lt_of_le (hS b hb) HB1.out.size) (hG.below HB1.out))
  clear ht hS hG hp hnn
  go_enter Tryz.func13, Tryz.ntmps13
  go_wp2_with fail
  generalize w.alloc (.cells #[.int .i64 t.kind, .int .i64 t.int, .string t.text, .int .u32 t.cr, .slice na2 t.nums.length nc2, .slice a2 t.args.length cap2] 35) = w1 at *
  refine HCK.out.mono ?_
  rintro e w2 ⟨ev, rfl, her, hb⟩
  have HER := Lib.hid her
  have B12 := Lib.hid hb
  have HB2 := Lib.hid (HB1.out.trans (hb.mono HB1.out.size))
  have M2 := Lib.hid (M1.out.below hb)
  clear hb m0 m1 m2 m3 m4 m5 HCK
  cases hc : checkS t with
  | cons k r =>
    rw [hc] at her HER
    have HR := Lib.hid (show encS t = ([], ⟨etfL, k.at_, k.code⟩ :: k :: r) from by unfold encS; rw [hc])
    obtain ⟨b, u, rfl, hck, hr⟩ := her
    clear hc
    have HC := Lib.hid hck
    clear hck hr
    have hb0 : Below w2.heap.size w2 (w2.alloc (.cells #[.pointer none] 96 (0, 0))) := (Below.refl _ _).alloc (Nat.le_refl _) _
    have HA := Lib.hid (as_hit2 b w2.heap.size (w2.alloc (.cells #[.pointer none] 96 (0, 0))) ((HG.out.below HB2.out).e.below hb0) (alloc_get _ _))
    clear hb0
    go_wp2_with fail
    refine HA.out.mono ?_
    rintro e w3 ⟨rfl, hg, hf⟩
    have hb2 : Below w2.heap.size w2 w3 := below_grownBy ((Below.refl _ w2).alloc (Nat.le_refl _) _) hg (by simp) (Nat.le_refl _)
    have hblt : b < w2.heap.size := (Array.getElem?_eq_some_iff.1 HC.out).1
    have HC3 := Lib.hid ((hb2.block b hblt).trans HC.out)
    have HF3 := Lib.hid hf
    have HB3 := Lib.hid (HB2.out.trans (hb2.mono HB2.out.size))
    have HER3 := Lib.hid (HER.out.below hb2)
    clear hg hf hb2 hblt HC HER HA
    have HFL := Lib.hid (fun W (hb : Below w3.heap.size w3 W) => etFault_any k.at_ k.code _ _ W (HER3.out.below hb))
    go_wp2
    refine wp_region_L (S := fun X => Below w3.heap.size w3 X) (F := []) (by kernel_rfl) (Below.drew (Below.refl _ _)) (fun hHeld => ?_)
    refine wpAnyL_take (i := 0) (v := (.pointer (some ⟨b, 0, none⟩))) (by simp only [List.getElem?_toArray, List.getElem?_cons_succ, List.getElem?_cons_zero]; rfl) (by kernel_rfl) (by kernel_rfl) (by kernel_rfl) (by kernel_rfl) (by exact fun _ _ _ h => h) (Or.inl ⟨by rfl, by intro W hSw; have x0 := show W.cell? ⟨w2.heap.size, 0, none⟩ = some (.pointer (some ⟨b, 0, none⟩)) from (Cells.below (show Cells w3 w2.heap.size 96 [.pointer (some ⟨b, 0, none⟩)] from HF3.out) hSw).cell 0; go_simp; all_goals first | rfl | exact ⟨rfl, rfl, rfl, rfl, rfl, rfl⟩⟩) (by assumption) ?_
    try simp only [Act.put, List.setIfInBounds_toArray, List.set_cons_zero, List.set_cons_succ]
    refine wpAnyL_take (i := 1) (v := (.pointer (some ⟨b, 0, none⟩))) (by simp only [List.getElem?_toArray, List.getElem?_cons_succ, List.getElem?_cons_zero]; rfl) (by kernel_rfl) (by kernel_rfl) (by kernel_rfl) (by kernel_rfl) (by exact fun _ _ _ h => h) (Or.inl ⟨by rfl, by intro W hSw; go_simp; all_goals first | rfl | exact ⟨rfl, rfl, rfl, rfl, rfl, rfl⟩⟩) (by assumption) ?_
    try simp only [Act.put, List.setIfInBounds_toArray, List.set_cons_zero, List.set_cons_succ]
    refine wpAnyL_easy (i := 2) (v := (.pointer (some ⟨b, 1, none⟩))) (by simp only [List.getElem?_toArray, List.getElem?_cons_succ, List.getElem?_cons_zero]; rfl) (by kernel_rfl) (by kernel_rfl) (by kernel_rfl) (by exact fun _ _ _ h => h) (Or.inl ⟨by rfl, by intro W _; go_simp; all_goals first | rfl | exact ⟨rfl, rfl, rfl, rfl, rfl, rfl⟩⟩) ?_
    try simp only [Act.put, List.setIfInBounds_toArray, List.set_cons_zero, List.set_cons_succ]
    refine wpAnyL_take (i := 3) (v := (.int .i64 k.at_)) (by simp only [List.getElem?_toArray, List.getElem?_cons_succ, List.getElem?_cons_zero]; rfl) (by kernel_rfl) (by kernel_rfl) (by kernel_rfl) (by kernel_rfl) (by exact fun _ _ _ h => h) (Or.inl ⟨by rfl, by intro W hSw; have x0 := show W.cell? ⟨b, 1, none⟩ = some (.int .i64 k.at_) from (Cells.below (show Cells w3 b 101 [.string k.layer, .int .i64 k.at_, .int .i64 k.code, u] from HC3.out) hSw).cell 1; go_simp; all_goals first | rfl | exact ⟨rfl, rfl, rfl, rfl, rfl, rfl⟩⟩) (by assumption) ?_
    try simp only [Act.put, List.setIfInBounds_toArray, List.set_cons_zero, List.set_cons_succ]
    refine wpAnyL_take (i := 4) (v := (.pointer (some ⟨b, 0, none⟩))) (by simp only [List.getElem?_toArray, List.getElem?_cons_succ, List.getElem?_cons_zero]; rfl) (by kernel_rfl) (by kernel_rfl) (by kernel_rfl) (by kernel_rfl) (by exact fun _ _ _ h => h) (Or.inl ⟨by rfl, by intro W hSw; have x0 := show W.cell? ⟨w2.heap.size, 0, none⟩ = some (.pointer (some ⟨b, 0, none⟩)) from (Cells.below (show Cells w3 w2.heap.size 96 [.pointer (some ⟨b, 0, none⟩)] from HF3.out) hSw).cell 0; go_simp; all_goals first | rfl | exact ⟨rfl, rfl, rfl, rfl, rfl, rfl⟩⟩) (by assumption) ?_
    try simp only [Act.put, List.setIfInBounds_toArray, List.set_cons_zero, List.set_cons_succ]
    refine wpAnyL_take (i := 5) (v := (.pointer (some ⟨b, 0, none⟩))) (by simp only [List.getElem?_toArray, List.getElem?_cons_succ, List.getElem?_cons_zero]; rfl) (by kernel_rfl) (by kernel_rfl) (by kernel_rfl) (by kernel_rfl) (by exact fun _ _ _ h => h) (Or.inl ⟨by rfl, by intro W hSw; go_simp; all_goals first | rfl | exact ⟨rfl, rfl, rfl, rfl, rfl, rfl⟩⟩) (by assumption) ?_
    try simp only [Act.put, List.setIfInBounds_toArray, List.set_cons_zero, List.set_cons_succ]
    refine wpAnyL_easy (i := 6) (v := (.pointer (some ⟨b, 2, none⟩))) (by simp only [List.getElem?_toArray, List.getElem?_cons_succ, List.getElem?_cons_zero]; rfl) (by kernel_rfl) (by kernel_rfl) (by kernel_rfl) (by exact fun _ _ _ h => h) (Or.inl ⟨by rfl, by intro W _; go_simp; all_goals first | rfl | exact ⟨rfl, rfl, rfl, rfl, rfl, rfl⟩⟩) ?_
    try simp only [Act.put, List.setIfInBounds_toArray, List.set_cons_zero, List.set_cons_succ]
    refine wpAnyL_take (i := 7) (v := (.int .i64 k.code)) (by simp only [List.getElem?_toArray, List.getElem?_cons_succ, List.getElem?_cons_zero]; rfl) (by kernel_rfl) (by kernel_rfl) (by kernel_rfl) (by kernel_rfl) (by exact fun _ _ _ h => h) (Or.inl ⟨by rfl, by intro W hSw; have x0 := show W.cell? ⟨b, 2, none⟩ = some (.int .i64 k.code) from (Cells.below (show Cells w3 b 101 [.string k.layer, .int .i64 k.at_, .int .i64 k.code, u] from HC3.out) hSw).cell 2; go_simp; all_goals first | rfl | exact ⟨rfl, rfl, rfl, rfl, rfl, rfl⟩⟩) (by assumption) ?_
    try simp only [Act.put, List.setIfInBounds_toArray, List.set_cons_zero, List.set_cons_succ]
    refine wpAnyL_easy (i := 8) (v := (.iface 96 (.pointer (some ⟨b, 0, none⟩)))) (by simp only [List.getElem?_toArray, List.getElem?_cons_succ, List.getElem?_cons_zero]; rfl) (by kernel_rfl) (by kernel_rfl) (by kernel_rfl) (by exact fun _ _ _ h => h) (Or.inl ⟨by rfl, fun _ _ => rfl⟩) ?_
    try simp only [Act.put, List.setIfInBounds_toArray, List.set_cons_zero, List.set_cons_succ]
    refine wpAnyL_ready (rs := [9]) (by kernel_rfl) (by simp) ?_
    refine AllReadyL.cons (by simp only [List.getElem?_toArray, List.getElem?_cons_succ, List.getElem?_cons_zero]; rfl) (fun K hK => ?_) AllReadyL.nil
    go_simp
    refine (HFL.out _ hHeld).mono ?_
    rintro e w6 ⟨fb, rfl, her, hb⟩
    have HER6 := Lib.hid her
    have B36 := Lib.hid (hHeld.trans (hb.mono hHeld.size))
    have B6 := Lib.hid (HB3.out.trans (B36.out.mono HB3.out.size))
    clear her hb
    refine hK.out _ _ (B36.out) (fun hHeld => ?_)
    try simp only [Act.put, List.setIfInBounds_toArray, List.set_cons_zero, List.set_cons_succ]
    refine wpAnyL_easy (i := 10) (v := (.iface 96 (.pointer (some ⟨fb, 0, none⟩)))) (by simp only [List.getElem?_toArray, List.getElem?_cons_succ, List.getElem?_cons_zero]; rfl) (by kernel_rfl) (by kernel_rfl) (by kernel_rfl) (by exact fun _ _ _ h => h) (Or.inl ⟨by rfl, by intro W _; go_simp; all_goals first | rfl | exact ⟨rfl, rfl, rfl, rfl, rfl, rfl⟩⟩) ?_
    try simp only [Act.put, List.setIfInBounds_toArray, List.set_cons_zero, List.set_cons_succ]
    refine wpAnyL_easy (i := 11) (v := (.slice none 0 0)) (by simp only [List.getElem?_toArray, List.getElem?_cons_succ, List.getElem?_cons_zero]; rfl) (by kernel_rfl) (by kernel_rfl) (by kernel_rfl) (by exact fun _ _ _ h => h) (Or.inl ⟨by rfl, fun _ _ => rfl⟩) ?_
    try simp only [Act.put, List.setIfInBounds_toArray, List.set_cons_zero, List.set_cons_succ]
    refine wpAnyL_easy (i := 12) (v := (.iface 96 (.pointer (some ⟨fb, 0, none⟩)))) (by simp only [List.getElem?_toArray, List.getElem?_cons_succ, List.getElem?_cons_zero]; rfl) (by kernel_rfl) (by kernel_rfl) (by kernel_rfl) (by exact fun _ _ _ h => h) (Or.inl ⟨by rfl, fun _ _ => rfl⟩) ?_
    try simp only [Act.put, List.setIfInBounds_toArray, List.set_cons_zero, List.set_cons_succ]
    refine wpAnyL_done (by kernel_rfl) ?_ _
    go_wp2
    go_ret2
    rw [HR.out]
    exact ⟨_, _, rfl, BufIs.nilS _ _, HER6.out, B6.out⟩
  | nil =>
    rw [hc] at her
    obtain rfl : ev = .nilIface := her
    have HOK := Lib.hid (checkS_ok hc)
    have HR := Lib.hid (show encS t = if 0 ≤ (bytesT t).wide then ([], [⟨etfL, (bytesT t).wide, 80⟩]) else if 65536 < (bytesT t).b.length then ([], [⟨etfL, 0, 4⟩]) else ((bytesT t).b, []) from by unfold encS; rw [hc])
    clear hc HER
    have BW := Lib.hid (((Below.refl w2.heap.size w2).alloc (Nat.le_refl _) (.cells #[.int .u8 131] 5 (0, 0))).alloc (by simp) (.cells #[.slice (some ⟨w2.heap.size, 0, none⟩) 1 1, .int .i64 0, .int .i64 (-1)] 104 (0, 0)))
    have WW := Lib.hid (show WrIs w.heap.size (w2.heap.size + 1) ⟨[131], 0, -1⟩ (.slice (some ⟨w2.heap.size, 0, none⟩) 1 1) ((w2.alloc (.cells #[.int .u8 131] 5 (0, 0))).alloc (.cells #[.slice (some ⟨w2.heap.size, 0, none⟩) 1 1, .int .i64 0, .int .i64 (-1)] 104 (0, 0))) from by
      have hs : (w2.alloc (.cells #[.int .u8 131] 5 (0, 0))).heap.size = w2.heap.size + 1 := by simp
      refine ⟨Nat.le_succ_of_le HB2.out.size, ?_, ?_⟩
      · have := Cells.new (w2.alloc (.cells #[.int .u8 131] 5 (0, 0))) 104 [.slice (some ⟨w2.heap.size, 0, none⟩) 1 1, .int .i64 0, .int .i64 (-1)]
        rw [hs] at this
        exact this
      · exact (BufIs.lit (base := w.heap.size) (w := w2) [131] HB2.out.size (by simp [maxLen])).below ((Below.refl _ _).alloc (Nat.le_refl _) _) (Nat.le_refl _))
    have M4 := Lib.hid (M2.out.below BW.out)
    have m0 := M4.out.cell 0
    have m1 := M4.out.cell 1
    have m2 := M4.out.cell 2
    have m3 := M4.out.cell 3
    have m4 := M4.out.cell 4
    have m5 := M4.out.cell 5
    simp only [List.getElem?_cons_zero, List.getElem?_cons_succ] at m0 m1 m2 m3 m4 m5
    have HCALL := Lib.hid (etTerm_ind (base := w.heap.size) (g := w2.heap.size + 1) _ t [.int .i64 t.kind, .int .i64 t.int, .string t.text, .int .u32 t.cr, .slice na2 t.nums.length nc2, .slice a2 t.args.length cap2] ⟨[131], 0, -1⟩ _ _ (Nat.le_refl _) HOK.out.1 (((HT.out.mono fun b _ hb => HS.out b hb).below (HB2.out.mono (Nat.le_refl _))).below BW.out) WW.out (by have := HOK.out.2; simp; omega) (by have := HOK.out.2; show 0 + sizeT t ≤ 100000000; omega) (by decide) (by decide))
    go_wp2_with fail
    generalize (w2.alloc (.cells #[.int .u8 131] 5)).alloc (.cells #[.slice (some ⟨w2.heap.size, 0, none⟩) 1 1, .int .i64 0, .int .i64 (-1)] 104) = w4 at *
    refine HCALL.out.mono ?_
    rintro e w5 ⟨rfl, hres⟩
    obtain ⟨bv5, W5, K5, V5⟩ := hres
    have HLB := Lib.hid (wrT_len t ⟨[131], 0, -1⟩ HOK.out.1)
    have HWB := Lib.hid (wrT_wide 100000000 t ⟨[131], 0, -1⟩ (by decide) (by decide) (by have := HOK.out.2; show ((0 : Nat) : Int) + (sizeT t : Int) ≤ 100000000; omega))
    have e5 : wrT t ⟨[131], 0, -1⟩ = bytesT t := rfl
    rw [e5] at W5 HLB HWB
    obtain ⟨a5, c5, rfl⟩ := W5.form
    have b0 := W5.cells.cell 0
    have b2 := W5.cells.cell 2
    simp only [List.getElem?_cons_zero, List.getElem?_cons_succ] at b0 b2
    have B5 := Lib.hid ((HB2.out.trans (BW.out.mono HB2.out.size)).trans (K5.toBelow (Nat.le_trans HB2.out.size BW.out.size) (fun q hq => (WW.out.lt hq).2)))
    have HBUF := Lib.hid W5.buf
    generalize bytesT t = st5 at *
    obtain ⟨l5, p5, wd5⟩ := st5
    dsimp only at *
    have hw0 : (-1 : Int) ≤ wd5 := HWB.out.1
    have hw1 : wd5 ≤ 100000000 := HWB.out.2
    have hl1 : l5.length ≤ 2000000 := by have h1 := HLB.out.1; have h2 := HOK.out.2; have h3 : [(131 : UInt8)].length = 1 := rfl; rw [h3] at h1; omega
    clear W5 K5 V5 m0 m1 m2 m3 m4 m5 HCALL e5
    by_cases h1 : (0 : Int) ≤ wd5
    · have HR2 := Lib.hid (show encS t = ([], [⟨etfL, wd5, 80⟩]) by rw [HR.out, if_pos h1])
      have HFL := Lib.hid (etFault_any wd5 80 .nilIface [] w5 rfl)
      go_wp2_with fail
      refine HFL.out.mono ?_
      rintro e w6 ⟨fb, rfl, her, hb⟩
      have HER6 := Lib.hid her
      have B6 := Lib.hid (B5.out.trans (hb.mono B5.out.size))
      clear her hb b0 b2 HFL
      go_wp2
      go_ret2
      rw [HR2.out]
      exact ⟨_, _, rfl, BufIs.nilS _ _, HER6.out, B6.out⟩
    · by_cases h2 : 65536 < l5.length
      · have h2i : (65536 : Int) < (l5.length : Int) := by omega
        have HR2 := Lib.hid (show encS t = ([], [⟨etfL, 0, 4⟩]) by rw [HR.out, if_neg h1, if_pos h2])
        have HFL := Lib.hid (etFault_any 0 4 .nilIface [] w5 rfl)
        go_wp2_with fail
        refine HFL.out.mono ?_
        rintro e w6 ⟨fb, rfl, her, hb⟩
        have HER6 := Lib.hid her
        have B6 := Lib.hid (B5.out.trans (hb.mono B5.out.size))
        clear her hb b0 b2 HFL
        go_wp2
        go_ret2
        rw [HR2.out]
        exact ⟨_, _, rfl, BufIs.nilS _ _, HER6.out, B6.out⟩
      · have h2i : ¬ (65536 : Int) < (l5.length : Int) := by omega
        have HR2 := Lib.hid (show encS t = (l5, []) by rw [HR.out, if_neg h1, if_neg h2])
        go_wp2
        go_ret2
        rw [HR2.out]
        exact ⟨_, _, rfl, HBUF.out, rfl, B5.out⟩
end Go.Proofs.YtlahagabcnmdiaaGreatDoor
end
section
/- Layer 4, plain: the reader; and a reader in a world. -/
open Go Go.RowKit
namespace Go.Proofs.YtlahagabcnmdiaaGreatDoor
set_option linter.unusedVariables false
set_option linter.unusedSimpArgs false

/-- what a reader has: its place, the parts so far, the atoms -/
structure Rd where
  at_ : Nat
  part : Nat
  atoms : List ByteArray
/-- what a reading comes to -/
inductive Res (α : Type) where
  | ok (x : α) (st : Rd)
  | bad (l : List Lk)
def Res.bind {α β : Type} : Res α → (α → Rd → Res β) → Res β
  | .ok x st, f => f x st
  | .bad l, _ => .bad l
/-- the number that bytes are -/
def numS (l : List UInt8) : Nat := l.foldl (fun n c => n * 256 + c.toNat) 0
def needS (l : List UInt8) (tag n : Nat) (st : Rd) : Res Unit :=
  if 65536 < st.at_ + n then .bad [⟨etfL, tag, 4⟩] else if l.length < st.at_ + n then .bad [⟨etfL, tag, 82⟩] else .ok () ⟨st.at_ + n, st.part, st.atoms⟩
def cutB (l : List UInt8) (from_ n : Nat) : List UInt8 := (l.drop from_).take n
def fourS (l : List UInt8) (tag : Nat) (st : Rd) : Res Nat := (needS l tag 4 st).bind fun _ st2 => .ok (numS (cutB l st.at_ 4)) st2
def txtS (l : List UInt8) (tag : Nat) (wide : Bool) (behind : Nat) (st : Rd) : Res ByteArray :=
  (needS l tag (if wide then 2 else 1) st).bind fun _ st1 =>
    (needS l tag (numS (cutB l st.at_ (if wide then 2 else 1)) + behind) st1).bind fun _ st2 =>
      .ok ⟨(cutB l st1.at_ (numS (cutB l st.at_ (if wide then 2 else 1)))).toArray⟩ ⟨st2.at_ - behind, st2.part, st2.atoms⟩
/-- the fault around another layer's -/
def ofS (at_ : Nat) : List Lk → List Lk
  | [] => []
  | k :: r => ⟨etfL, at_, k.code⟩ :: k :: r
def namS (l : List UInt8) (tag behind : Nat) (st : Rd) : Res ByteArray :=
  (needS l tag 1 st).bind fun _ st1 =>
    if l.getD st.at_ 0 ≠ 118 ∧ l.getD st.at_ 0 ≠ 119 then .bad [⟨etfL, st.at_, 83⟩]
    else (txtS l tag (l.getD st.at_ 0 == 118) behind st1).bind fun s st2 =>
      if (nodeS s).2.2 ≠ [] then .bad (ofS tag (nodeS s).2.2) else .ok s ⟨st2.at_, st2.part, st2.atoms ++ [s]⟩
def countS (l : List UInt8) (tag : Nat) (k : UInt8) (st : Rd) : Res Nat :=
  if k = 104 then (needS l tag 1 st).bind fun _ st2 => .ok (l.getD st.at_ 0).toNat st2
  else (fourS l tag st).bind fun n st2 => if k = 108 ∧ n = 0 then .bad [⟨etfL, tag, 84⟩] else .ok n st2
def pidS (l : List UInt8) (tag : Nat) (st : Rd) : Res Tm :=
  (namS l tag 12 st).bind fun s st1 => (fourS l tag st1).bind fun a st2 => (fourS l tag st2).bind fun b st3 => (fourS l tag st3).bind fun c st4 => .ok (.mk 4 0 s c [a, b] []) st4
/-- so many numbers of four bytes -/
def numsS (l : List UInt8) (tag : Nat) : Nat → Rd → Res (List Int)
  | 0, st => .ok [] st
  | n + 1, st => (fourS l tag st).bind fun x st2 => (numsS l tag n st2).bind fun r st3 => .ok ((x : Int) :: r) st3
def refS (l : List UInt8) (tag : Nat) (st : Rd) : Res Tm :=
  (needS l tag 2 st).bind fun _ st0 =>
    if l.getD st.at_ 0 ≠ 0 ∨ l.getD (st.at_ + 1) 0 ≠ 3 then .bad [⟨etfL, tag, 84⟩]
    else (namS l tag 16 st0).bind fun s st1 => (fourS l tag st1).bind fun c st2 => (numsS l tag 3 st2).bind fun ns st3 => .ok (.mk 3 0 s c ns []) st3
def farS (l : List UInt8) (tag : Nat) (k : UInt8) (st : Rd) : Res Tm := if k = 88 then pidS l tag st else refS l tag st
/-- so many terms -/
def rowS (rd : Rd → Res Tm) : Nat → Rd → Res (List Tm)
  | 0, st => .ok [] st
  | n + 1, st => (rd st).bind fun t st2 => (rowS rd n st2).bind fun r st3 => .ok (t :: r) st3
/-- a list's elements and its tail -/
def joinS (l : List Tm) (tail : Tm) : Tm := .mk 7 0 ⟨#[]⟩ 0 [] (l ++ if tail.kind = 7 then tail.args else [tail])
def sInt (n : Nat) : Int := if n < 2147483648 then n else (n : Int) - 4294967296
/-- a part behind its tag, whose byte is k; rd reads what is below -/
def bodyS (l : List UInt8) (rd : Rd → Res Tm) (tag : Nat) (k : UInt8) (st : Rd) : Res Tm :=
  if k = 97 then (needS l tag 1 st).bind fun _ st2 => .ok (.mk 1 (l.getD st.at_ 0).toNat ⟨#[]⟩ 0 [] []) st2
  else if k = 98 then (fourS l tag st).bind fun n st2 => .ok (.mk 1 (sInt n) ⟨#[]⟩ 0 [] []) st2
  else if k = 118 ∨ k = 119 then (txtS l tag (k == 118) 0 st).bind fun s st2 => if (quoteS s).2 ≠ [] then .bad (ofS tag (quoteS s).2) else .ok (.mk 2 0 s 0 [] []) ⟨st2.at_, st2.part, st2.atoms ++ [s]⟩
  else if k = 104 ∨ k = 105 then (countS l tag k st).bind fun n st2 => (rowS rd n st2).bind fun r st3 => .ok (.mk 5 0 ⟨#[]⟩ 0 [] r) st3
  else if k = 106 then .ok (.mk 6 0 ⟨#[]⟩ 0 [] []) st
  else if k = 108 then (countS l tag k st).bind fun n st2 => (rowS rd n st2).bind fun r st3 => (rd st3).bind fun t st4 => .ok (joinS r t) st4
  else farS l tag k st
def tagB (k : UInt8) : Bool := k == 97 || k == 98 || k == 118 || k == 119 || k == 104 || k == 105 || k == 106 || k == 108 || k == 88 || k == 90
/-- a term; f: how much deeper it may go -/
def termS (l : List UInt8) : Nat → Rd → Res Tm
  | 0, st => if st.part = 4096 then .bad [⟨etfL, st.at_, 5⟩] else .bad [⟨etfL, st.at_, 9⟩]
  | f + 1, st =>
    if st.part = 4096 then .bad [⟨etfL, st.at_, 5⟩]
    else if st.at_ = l.length then .bad [⟨etfL, st.at_, 82⟩]
    else if tagB (l.getD st.at_ 0) = false then .bad [⟨etfL, st.at_, 83⟩]
    else (needS l st.at_ 1 ⟨st.at_, st.part + 1, st.atoms⟩).bind fun _ st2 => bodyS l (termS l f) st.at_ (l.getD st.at_ 0) st2

/-! ### in a world -/
structure RdOk (l : List UInt8) (st : Rd) : Prop where
  le : st.at_ ≤ 65536
  in_ : st.at_ ≤ l.length
  part : st.part ≤ 4096
  atoms : st.atoms.length ≤ st.at_
/-- a reader: its cells at g, the bytes below base, its atoms of its own -/
structure RdIs (base g : Nat) (l : List UInt8) (bv : Value) (st : Rd) (av : Value) (w : World) : Prop where
  hg : base ≤ g
  cells : Cells w g 173 [bv, .int .i64 st.at_, .int .i64 st.part, av]
  buf : RSl bv l w
  far : ∀ (a : Addr) n c, l ≠ [] → bv = .slice (some a) n c → a.block < base
  atoms : StrsIs av st.atoms w
  own : ∀ q, av.ownBlock = some q → base ≤ q
  ok : RdOk l st
theorem RdIs.ne {base g : Nat} {l : List UInt8} {bv av : Value} {st : Rd} {w : World} (h : RdIs base g l bv st av w) {q : Nat} (hq : av.ownBlock = some q) : q ≠ g := by
  intro e
  rw [e] at hq
  exact h.atoms.ne_cells h.cells (by decide) hq
theorem RdIs.lt {base g : Nat} {l : List UInt8} {bv av : Value} {st : Rd} {w : World} (h : RdIs base g l bv st av w) {q : Nat} (hq : LsK g av q) : q < w.heap.size ∧ base ≤ q := by
  rcases hq with rfl | hq
  · exact ⟨h.cells.lt, h.hg⟩
  · exact ⟨(h.atoms.lt hq).1, h.own q hq⟩
theorem RdIs.base_le {base g : Nat} {l : List UInt8} {bv av : Value} {st : Rd} {w : World} (h : RdIs base g l bv st av w) : base ≤ w.heap.size := Nat.le_of_lt (Nat.lt_of_le_of_lt h.hg h.cells.lt)
theorem RSl.far_keep {base : Nat} {l : List UInt8} {bv : Value} {w w' : World} (h : RSl bv l w) (hf : ∀ (a : Addr) n c, l ≠ [] → bv = .slice (some a) n c → a.block < base) (hb : ∀ q, q < base → w'.heap[q]? = w.heap[q]?) : RSl bv l w' := by
  obtain ⟨a, c, rfl, h1, h2, hc⟩ := h
  refine ⟨a, c, rfl, h1, h2, fun j hj => ?_⟩
  obtain ⟨g, o, ha, hx⟩ := hc j hj
  refine ⟨g, o, ha, ?_⟩
  have := hf ⟨g, o, none⟩ _ _ (fun e => by rw [e] at hj; cases hj) (by rw [ha])
  unfold World.cell? at hx ⊢
  rw [hb g this]; exact hx
theorem RdIs.below {base g : Nat} {l : List UInt8} {bv av : Value} {st : Rd} {w w' : World} (h : RdIs base g l bv st av w) (hb : Below w.heap.size w w') : RdIs base g l bv st av w' :=
  ⟨h.hg, h.cells.below hb, h.buf.below hb, h.far, h.atoms.frame fun q hq => hb.block q (h.atoms.lt hq).1, h.own, h.ok⟩
theorem RdIs.form {base g : Nat} {l : List UInt8} {bv av : Value} {st : Rd} {w : World} (h : RdIs base g l bv st av w) : ∃ a c, bv = .slice a l.length c := by
  obtain ⟨a, c, e, _⟩ := h.buf
  exact ⟨a, c, e⟩
theorem RdIs.aform {base g : Nat} {l : List UInt8} {bv av : Value} {st : Rd} {w : World} (h : RdIs base g l bv st av w) : ∃ a c, av = .slice a st.atoms.length c := by
  rcases h.atoms.shape with ⟨rfl, e⟩ | ⟨q, c, rfl, _⟩
  · exact ⟨none, 0, by rw [e]; rfl⟩
  · exact ⟨_, c, rfl⟩
/-- the place is turned -/
theorem RdIs.place {base g : Nat} {l : List UInt8} {bv av : Value} {st : Rd} {w : World} (h : RdIs base g l bv st av w) (n : Nat) (hn : RdOk l ⟨n, st.part, st.atoms⟩) : RdIs base g l bv ⟨n, st.part, st.atoms⟩ av (w.setCell ⟨g, 1, none⟩ (.int .i64 n)) :=
  ⟨h.hg, by have := h.cells.set_ 1 (.int .i64 n); simpa using this, h.buf.far_keep h.far (fun q hq => Below.heap_setCell _ _ _ _ (by have := h.hg; show q ≠ g; omega)), h.far, h.atoms.frame fun q hq => Below.heap_setCell _ _ _ _ (h.ne hq), h.own, hn⟩
theorem RdIs.parted {base g : Nat} {l : List UInt8} {bv av : Value} {st : Rd} {w : World} (h : RdIs base g l bv st av w) (n : Nat) (hn : RdOk l ⟨st.at_, n, st.atoms⟩) : RdIs base g l bv ⟨st.at_, n, st.atoms⟩ av (w.setCell ⟨g, 2, none⟩ (.int .i64 n)) :=
  ⟨h.hg, by have := h.cells.set_ 2 (.int .i64 n); simpa using this, h.buf.far_keep h.far (fun q hq => Below.heap_setCell _ _ _ _ (by have := h.hg; show q ≠ g; omega)), h.far, h.atoms.frame fun q hq => Below.heap_setCell _ _ _ _ (h.ne hq), h.own, hn⟩
/-- a panic of a fault -/
def PanR (S : Nat → Prop) (w : World) (l : List Lk) (e : Ending) (w' : World) : Prop :=
  ∃ b, e = .panicked [{ v := .iface 96 (.pointer (some ⟨b, 0, none⟩)), recovered := false }] ∧ ErrIs w' (.iface 96 (.pointer (some ⟨b, 0, none⟩))) l ∧ l ≠ [] ∧ Keep S w w'
/-- a reader behind a call that began in w, with the atoms av -/
def RdRes (base g : Nat) (l : List UInt8) (bv av : Value) (w : World) (st : Rd) (av' : Value) (w' : World) : Prop :=
  RdIs base g l bv st av' w' ∧ Keep (LsK g av) w w' ∧ ∀ q, av'.ownBlock = some q → av.ownBlock = some q ∨ w.heap.size ≤ q
def RetR {α : Type} (base g : Nat) (l : List UInt8) (bv av : Value) (w : World) (r : Res α) (V : α → Value → Value → World → Prop) (e : Ending) (w' : World) : Prop :=
  match r with
  | .ok x st => ∃ v av', e = .returned v ∧ V x v av' w' ∧ RdRes base g l bv av w st av' w'
  | .bad k => PanR (LsK g av) w k e w'
theorem lsk_trans {g : Nat} {av av1 : Value} {w w1 w2 : World} (h1 : Keep (LsK g av) w w1) (hv1 : ∀ q, av1.ownBlock = some q → av.ownBlock = some q ∨ w.heap.size ≤ q) (hg : g < w.heap.size) (hv : ∀ q, av.ownBlock = some q → q < w.heap.size) (h2 : Keep (LsK g av1) w1 w2) : Keep (LsK g av) w w2 :=
  h1.trans h2 fun q hq e => by
    rcases e with e | e
    · exact .inl e
    · rcases hv1 q e with e | e
      · exact .inr e
      · omega
theorem RdRes.trans {base g : Nat} {l : List UInt8} {bv av av1 av2 : Value} {w w1 w2 : World} {st1 st2 : Rd} (hg : g < w.heap.size) (hv : ∀ q, av.ownBlock = some q → q < w.heap.size) (h1 : RdRes base g l bv av w st1 av1 w1) (h2 : RdRes base g l bv av1 w1 st2 av2 w2) : RdRes base g l bv av w st2 av2 w2 :=
  ⟨h2.1, lsk_trans h1.2.1 h1.2.2 hg hv h2.2.1, fun q hq => by
    rcases h2.2.2 q hq with e | e
    · exact h1.2.2 q e
    · exact .inr (Nat.le_trans h1.2.1.size e)⟩
theorem RdRes.pan {base g : Nat} {l : List UInt8} {bv av av1 : Value} {w w1 w2 : World} {st1 : Rd} {k : List Lk} {e : Ending} (hg : g < w.heap.size) (hv : ∀ q, av.ownBlock = some q → q < w.heap.size) (h1 : RdRes base g l bv av w st1 av1 w1) (h2 : PanR (LsK g av1) w1 k e w2) : PanR (LsK g av) w k e w2 := by
  obtain ⟨b, rfl, he, hne, hk⟩ := h2
  exact ⟨b, rfl, he, hne, lsk_trans h1.2.1 h1.2.2 hg hv hk⟩
theorem RdRes.refl {base g : Nat} {l : List UInt8} {bv av : Value} {w : World} {st : Rd} (h : RdIs base g l bv st av w) : RdRes base g l bv av w st av w := ⟨h, Keep.refl _ _, fun _ hq => .inl hq⟩
theorem RdRes.below {base g : Nat} {l : List UInt8} {bv av : Value} {w w' : World} {st : Rd} (h : RdIs base g l bv st av w) (hb : Below w.heap.size w w') : RdRes base g l bv av w st av w' := ⟨h.below hb, keepB hb, fun _ hq => .inl hq⟩
theorem RdRes.place {base g : Nat} {l : List UInt8} {bv av : Value} {st : Rd} {w : World} (h : RdIs base g l bv st av w) (n : Nat) (hn : RdOk l ⟨n, st.part, st.atoms⟩) : RdRes base g l bv av w ⟨n, st.part, st.atoms⟩ av (w.setCell ⟨g, 1, none⟩ (.int .i64 n)) :=
  ⟨h.place n hn, (Keep.refl _ _).setCell (p := ⟨g, 1, none⟩) (fun _ => .inl rfl) _, fun _ hq => .inl hq⟩
theorem RdRes.parted {base g : Nat} {l : List UInt8} {bv av : Value} {st : Rd} {w : World} (h : RdIs base g l bv st av w) (n : Nat) (hn : RdOk l ⟨st.at_, n, st.atoms⟩) : RdRes base g l bv av w ⟨st.at_, n, st.atoms⟩ av (w.setCell ⟨g, 2, none⟩ (.int .i64 n)) :=
  ⟨h.parted n hn, (Keep.refl _ _).setCell (p := ⟨g, 2, none⟩) (fun _ => .inl rfl) _, fun _ hq => .inl hq⟩
theorem RSl.get {l : List UInt8} {a : Option Addr} {n c : Nat} {w : World} (h : RSl (.slice a n c) l w) (i : Nat) (hi : i < l.length) : ∃ g o, a = some ⟨g, o, none⟩ ∧ w.cell? ⟨g, o + i, none⟩ = some (.int .u8 (l.getD i 0).toNat) := by
  obtain ⟨a', c', e, _, _, hc⟩ := h
  cases e
  obtain ⟨g, o, ha, hx⟩ := hc i hi
  refine ⟨g, o, ha, ?_⟩
  rw [hx, List.getD_eq_getElem?_getD, List.getElem?_eq_getElem hi]
  rfl
/-- stop -/
theorem etStop_any (S : Nat → Prop) (g : Nat) (at_ code : Int) (w : World) :
    Calls Tryz.prog 117 #[.pointer (some ⟨g, 0, none⟩), .int .i64 at_, .int .i64 code, .nilIface] w (PanR S w [⟨etfL, at_, code⟩]) := by
  have HF := Lib.hid (etFault_any at_ code .nilIface [] w rfl)
  go_enter Tryz.func117, Tryz.ntmps117
  go_wp2_with fail
  refine HF.out.mono ?_
  rintro e w2 ⟨b, rfl, her, hb⟩
  have HER := Lib.hid her
  have HB := Lib.hid hb
  clear her hb
  go_wp2
  exact ⟨rfl, b, rfl, HER.out, by simp, keepB HB.out⟩
end Go.Proofs.YtlahagabcnmdiaaGreatDoor
end
section
/- Package etf: the reader, small functions. -/
open Go Go.RowKit
namespace Go.Proofs.YtlahagabcnmdiaaGreatDoor
set_option linter.unusedVariables false
set_option linter.unusedSimpArgs false

set_option maxHeartbeats 8000000 in
set_option maxRecDepth 100000 in
theorem need_any {base g : Nat} {l : List UInt8} {bv av : Value} {st : Rd} {w : World} (tag n : Nat) (h : RdIs base g l bv st av w) (hn : n ≤ 1000000) :
    Calls Tryz.prog 118 #[.pointer (some ⟨g, 0, none⟩), .int .i64 tag, .int .i64 n] w (RetR base g l bv av w (needS l tag n st) fun _ v _ w' => RSl v (cutB l st.at_ n) w') := by
  have HR := Lib.hid h
  obtain ⟨ba, bc, rfl⟩ := h.form
  have c0 := h.cells.cell 0
  have c1 := h.cells.cell 1
  have f1 := h.cells.frozen 1
  simp only [List.getElem?_cons_zero, List.getElem?_cons_succ] at c0 c1
  have h1 : (st.at_ : Int) ≤ 65536 := by have := h.ok.le; omega
  have h2 : (0 : Int) ≤ (st.at_ : Int) := by omega
  have h3 : (n : Int) ≤ 1000000 := by omega
  have h4 : (0 : Int) ≤ (n : Int) := by omega
  have HLM := Lib.hid h.buf.le
  by_cases hl : 65536 < st.at_ + n
  · have HS := Lib.hid (show needS l tag n st = .bad [⟨etfL, tag, 4⟩] by unfold needS; rw [if_pos hl])
    have hli : (65536 : Int) < (st.at_ : Int) + (n : Int) := by omega
    have HST := Lib.hid (etStop_any (LsK g av) g tag 4 w)
    clear h hl hn
    go_enter Tryz.func118, Tryz.ntmps118
    go_wp2_with fail
    refine HST.out.mono ?_
    rintro e w2 ⟨b, rfl, hp⟩
    have HP := Lib.hid hp
    clear hp
    go_wp2
    rw [HS.out]
    exact ⟨rfl, b, rfl, HP.out⟩
  · have hli : ¬ (65536 : Int) < (st.at_ : Int) + (n : Int) := by omega
    by_cases hc : l.length < st.at_ + n
    · have HS := Lib.hid (show needS l tag n st = .bad [⟨etfL, tag, 82⟩] by unfold needS; rw [if_neg hl, if_pos hc])
      have hci : (l.length : Int) < (st.at_ : Int) + (n : Int) := by omega
      have HST := Lib.hid (fun W => etStop_any (LsK g av) g tag 82 W)
      clear h hl hn hc
      go_enter Tryz.func118, Tryz.ntmps118
      go_wp2_with fail
      go_quiet (fail)
      go_wp2_with fail
      refine (HST.out _).mono ?_
      rintro e w2 ⟨b, rfl, he, hne, hk⟩
      have HP := Lib.hid he
      have HK := Lib.hid hk
      clear he hk hne
      go_wp2
      rw [HS.out]
      exact ⟨rfl, b, rfl, HP.out, by simp, ((Keep.refl _ w).drewN _).trans HK.out (fun _ _ h => h)⟩
    · have hci : ¬ (l.length : Int) < (st.at_ : Int) + (n : Int) := by omega
      have HS := Lib.hid (show needS l tag n st = .ok () ⟨st.at_ + n, st.part, st.atoms⟩ by unfold needS; rw [if_neg hl, if_neg hc])
      obtain ⟨sv, hsv, hrun, _, _⟩ := h.buf.sub st.at_ (st.at_ + n) (by omega) (by omega)
      have hrun2 : ∀ w', (Instr.slice 40 (.slice ba l.length bc) (some (.int .i64 (st.at_ : Int))) (some (.int .i64 ((st.at_ : Int) + (n : Int)))) none).run Tryz.prog w' = .ok sv w' := fun w' => by have := hrun w'; rwa [show ((st.at_ + n : Nat) : Int) = (st.at_ : Int) + (n : Int) by omega] at this
      have HSV := Lib.hid hsv
      have hok : RdOk l ⟨st.at_ + n, st.part, st.atoms⟩ := ⟨by show st.at_ + n ≤ 65536; omega, by show st.at_ + n ≤ l.length; omega, h.ok.part, by have := h.ok.atoms; show st.atoms.length ≤ st.at_ + n; omega⟩
      have HB := Lib.hid (fun m => show RdRes base g l (.slice ba l.length bc) av w ⟨st.at_ + n, st.part, st.atoms⟩ av ((w.drewN m).setCell ⟨g, 1, none⟩ (.int .i64 ((st.at_ + n : Nat) : Int))) from
        ⟨(h.below (below_drewN (Below.refl _ _) m)).place _ hok, ((Keep.refl _ w).drewN m).setCell (p := ⟨g, 1, none⟩) (fun _ => .inl rfl) _, fun _ hq => .inl hq⟩)
      have HC1 := Lib.hid c1
      clear h hl hn hc hrun hsv
      go_enter Tryz.func118, Tryz.ntmps118
      go_wp2_with fail
      go_quiet (fail)
      go_wp2_with fail
      go_quiet (fail)
      go_wp2
      go_ret
      rw [HS.out]
      have e1 : ((st.at_ : Int) + (n : Int)) = ((st.at_ + n : Nat) : Int) := by omega
      rw [e1]
      refine ⟨_, av, rfl, ?_, HB.out _⟩
      have e2 : st.at_ + n - st.at_ = n := by omega
      have h5 := HSV.out
      rw [e2] at h5
      exact rsl_far (h5.drewN _) fun p x hx hu => World.cell?_setCell_other _ _ _ _ (fun e => by
        obtain ⟨y, rfl⟩ := hu
        have hx : w.cell? p = _ := hx
        rw [← e, HC1.out] at hx
        cases hx)
theorem numS_take (l : List UInt8) (k : Nat) (h : k < l.length) : numS (l.take (k + 1)) = numS (l.take k) * 256 + (l.getD k 0).toNat := by
  unfold numS
  rw [← List.take_append_getElem h, List.foldl_append, List.getD_eq_getElem?_getD, List.getElem?_eq_getElem h]
  rfl
theorem numS_lt (l : List UInt8) : numS l < 256 ^ l.length := by
  have key : ∀ (l : List UInt8) (a m : Nat), a < 256 ^ m → l.foldl (fun n c => n * 256 + c.toNat) a < 256 ^ (m + l.length) := by
    intro l
    induction l with
    | nil => intro a m h; simpa using h
    | cons c r ih =>
      intro a m h
      rw [List.foldl_cons, List.length_cons, show m + (r.length + 1) = (m + 1) + r.length by omega]
      refine ih _ _ ?_
      have := c.toNat_lt
      rw [Nat.pow_succ]
      omega
  have := key l 0 0 (by simp)
  simpa [numS] using this
theorem numS_le {l : List UInt8} (h : l.length ≤ 4) : numS l < 4294967296 := by
  refine Nat.lt_of_lt_of_le (numS_lt l) ?_
  calc 256 ^ l.length ≤ 256 ^ 4 := Nat.pow_le_pow_right (by decide) h
    _ = 4294967296 := by decide
theorem or_join (n c : Int) (h0 : 0 ≤ n) (h1 : n < 4294967296) (h2 : 0 ≤ c) (h3 : c < 256) : bits .or .i64 (n * 256) c = n * 256 + c :=
  bits_join .i64 62 (by decide) (fun x hx0 hx1 => by rw [IntKind.wrap_i64]; omega) 8 _ _ (by omega) (by omega) (by omega) h2 (by omega) (by omega)
theorem number_any (l : List UInt8) (v : Value) (w : World) (h : RSl v l w) (hl : l.length ≤ 4) :
    Calls Tryz.prog 137 #[v] w fun e w' => e = .returned (.int .i64 (numS l)) ∧ w' = w := by
  have HV := Lib.hid h
  obtain ⟨a, c, rfl, _⟩ := h
  go_enter Tryz.func137, Tryz.ntmps137
  go_wp2_with fail
  go_loopw [3, 8] (fun x i wr => ∃ k : Nat, k ≤ l.length ∧ i = .int .i64 k ∧ x = .int .i64 (numS (l.take k)) ∧ wr = w) (fun _ i _ => l.length - (intOf i).toNat)
  case atStart => exact ⟨0, Nat.zero_le _, rfl, rfl, rfl⟩
  case round =>
    obtain ⟨k, hk, rfl, rfl, rfl⟩ := hrel
    by_cases hlt : k < l.length
    · have hki : (k : Int) < (l.length : Int) := by omega
      have hk0 : (0 : Int) ≤ (k : Int) := by omega
      obtain ⟨q, o, rfl, hc⟩ := HV.out.get k hlt
      have HT := Lib.hid (numS_take l k hlt)
      have hb0 : ((numS (l.take k) : Nat) : Int) < 4294967296 := by have := numS_le (l := l.take k) (by rw [List.length_take]; omega); omega
      have hb1 : (0 : Int) ≤ ((numS (l.take k) : Nat) : Int) := by omega
      have hc0 : (((l.getD k 0).toNat : Nat) : Int) < 256 := by have := (l.getD k 0).toNat_lt; omega
      have hc1 : (0 : Int) ≤ (((l.getD k 0).toNat : Nat) : Int) := by omega
      generalize (l.getD k 0).toNat = cv at *
      generalize hNV : numS (l.take k) = nv at *
      have hor := or_join nv cv hb1 hb0 hc1 hc0
      clear hNV
      go_wp2
      go_roundw
      case rel => exact ⟨k + 1, by omega, by go_num, by rw [HT.out]; go_num, trivial⟩
      case measure => simp [intOf]; omega
    · have hki : ¬ (k : Int) < (l.length : Int) := by omega
      go_wp2
      go_ret
      rw [List.take_of_length_le (by omega)]
      exact ⟨rfl, rfl⟩
theorem cutB_len {l : List UInt8} {a n : Nat} (h : a + n ≤ l.length) : (cutB l a n).length = n := by unfold cutB; simp; omega
theorem needS_cases (l : List UInt8) (tag n : Nat) (st : Rd) : (∃ k, needS l tag n st = .bad k) ∨ (needS l tag n st = .ok () ⟨st.at_ + n, st.part, st.atoms⟩ ∧ st.at_ + n ≤ l.length ∧ st.at_ + n ≤ 65536) := by
  unfold needS
  split
  · exact .inl ⟨_, rfl⟩
  · split
    · exact .inl ⟨_, rfl⟩
    · exact .inr ⟨rfl, by omega, by omega⟩
set_option maxHeartbeats 4000000 in
theorem fourE_any {base g : Nat} {l : List UInt8} {bv av : Value} {st : Rd} {w : World} (tag : Nat) (h : RdIs base g l bv st av w) :
    Calls Tryz.prog 119 #[.pointer (some ⟨g, 0, none⟩), .int .i64 tag] w (RetR base g l bv av w (fourS l tag st) fun n v _ _ => v = .int .u32 n ∧ n < 4294967296) := by
  have HN := Lib.hid (need_any tag 4 h (by omega))
  clear h
  go_enter Tryz.func119, Tryz.ntmps119
  go_wp2_with fail
  refine HN.out.mono ?_
  intro e w2 hr
  rcases needS_cases l tag 4 st with ⟨k, hk⟩ | ⟨hk, hle, _⟩
  · have HS := Lib.hid (show fourS l tag st = .bad k by unfold fourS; rw [hk]; rfl)
    rw [hk] at hr
    obtain ⟨b, rfl, hp⟩ := hr
    have HP := Lib.hid hp
    clear hp hk HN
    go_wp2
    rw [HS.out]
    exact ⟨rfl, b, rfl, HP.out⟩
  · have HS := Lib.hid (show fourS l tag st = .ok (numS (cutB l st.at_ 4)) ⟨st.at_ + 4, st.part, st.atoms⟩ by unfold fourS; rw [hk]; rfl)
    rw [hk] at hr
    obtain ⟨sv, av2, rfl, hsv, hrr⟩ := hr
    have HRR := Lib.hid hrr
    have HNUM := Lib.hid (number_any _ sv w2 hsv (by rw [cutB_len hle]; omega))
    have HLE := Lib.hid (numS_le (l := cutB l st.at_ 4) (by rw [cutB_len hle]; omega))
    have hb0 : ((numS (cutB l st.at_ 4) : Nat) : Int) < 4294967296 := by have := HLE.out; omega
    have hb1 : (0 : Int) ≤ ((numS (cutB l st.at_ 4) : Nat) : Int) := by omega
    have hmod : ((numS (cutB l st.at_ 4) : Nat) : Int) % 4294967296 = ((numS (cutB l st.at_ 4) : Nat) : Int) := by omega
    obtain ⟨sa, sc, rfl, _⟩ := hsv
    clear hrr hk hle HN
    go_wp2_with fail
    refine HNUM.out.mono ?_
    rintro e w3 ⟨rfl, rfl⟩
    go_wp2
    go_ret
    rw [HS.out]
    exact ⟨_, av2, rfl, ⟨rfl, HLE.out⟩, HRR.out⟩
end Go.Proofs.YtlahagabcnmdiaaGreatDoor
end
