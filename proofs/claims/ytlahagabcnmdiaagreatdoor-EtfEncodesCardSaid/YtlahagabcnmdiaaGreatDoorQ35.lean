/- Texts laid together: EfC, EfD, EwE. -/
import Derived.Test.YtlahagabcnmdiaaGreatDoorQ34
import Derived.Test.YtlahagabcnmdiaaGreatDoorQ22
import Derived.Test.YtlahagabcnmdiaaGreatDoorQ25
import Derived.Test.YtlahagabcnmdiaaGreatDoorQ28
import Derived.Test.YtlahagabcnmdiaaGreatDoorQ29
section
/- The reference of layer 4: part. Printed by wip/efc.py over wip/efc.txt. -/
open Go Go.RowKit
namespace Go.Proofs.YtlahagabcnmdiaaGreatDoor
set_option linter.unusedVariables false
set_option linter.unusedSimpArgs false

theorem TmAt.num2 {S : Nat → Prop} {t : Tm} {k i s c : Value} {g o n nc : Nat} {args : Value} {w : World} {x y : Int} (h : TmAt S t [k, i, s, c, .slice (some ⟨g, o, none⟩) n nc, args] w) (hn : t.nums = [x, y]) :
    w.cell? ⟨g, o, none⟩ = some (.int .u32 x) ∧ w.cell? ⟨g, o + 1, none⟩ = some (.int .u32 y) := by
  obtain ⟨_, nv, a, cap, e, hnn, _⟩ := h.parts
  cases e
  obtain ⟨g', o', e, -, hc⟩ := nums_cells hnn (by rw [hn]; simp)
  cases e
  have h0 := hc 0 (by rw [hn]; simp)
  have h1 := hc 1 (by rw [hn]; simp)
  simp only [hn, List.getElem_cons_zero, List.getElem_cons_succ, Nat.add_zero] at h0 h1
  exact ⟨h0, h1⟩
theorem TmAt.num3 {S : Nat → Prop} {t : Tm} {k i s c : Value} {g o n nc : Nat} {args : Value} {w : World} {x y z : Int} (h : TmAt S t [k, i, s, c, .slice (some ⟨g, o, none⟩) n nc, args] w) (hn : t.nums = [x, y, z]) :
    w.cell? ⟨g, o, none⟩ = some (.int .u32 x) ∧ w.cell? ⟨g, o + 1, none⟩ = some (.int .u32 y) ∧ w.cell? ⟨g, o + 2, none⟩ = some (.int .u32 z) := by
  obtain ⟨_, nv, a, cap, e, hnn, _⟩ := h.parts
  cases e
  obtain ⟨g', o', e, -, hc⟩ := nums_cells hnn (by rw [hn]; simp)
  cases e
  have h0 := hc 0 (by rw [hn]; simp)
  have h1 := hc 1 (by rw [hn]; simp)
  have h2 := hc 2 (by rw [hn]; simp)
  simp only [hn, List.getElem_cons_zero, List.getElem_cons_succ, Nat.add_zero] at h0 h1 h2
  exact ⟨h0, h1, h2⟩
theorem BufIs.inj {base base' : Nat} {v : Value} {l l' : List UInt8} {w : World} (h : BufIs base v l w) (h' : BufIs base' v l' w) : l = l' := by
  have e : l.length = l'.length := by
    rcases h.shape with ⟨rfl, rfl⟩ | ⟨g, c, rfl, _⟩
    · rcases h'.shape with ⟨_, rfl⟩ | ⟨g, c, e, _⟩
      · rfl
      · cases e
    · rcases h'.shape with ⟨e, _⟩ | ⟨g', c', e, _⟩
      · cases e
      · injection e
  refine List.ext_getElem e fun i h1 h2 => ?_
  rcases h.shape with ⟨_, rfl⟩ | ⟨g, c, rfl, _⟩
  · cases h1
  · have k1 := h.cell i h1
    have k2 := h'.cell i h2
    rw [k1] at k2
    injection k2 with k2
    unfold byteV at k2
    injection k2 with _ k2
    exact UInt8.toNat_inj.1 (by omega)
/-- bytes handed on beside a term in its box at B, whose rows lie in S, below base -/
structure PtS (S : Nat → Prop) (base B : Nat) (t : Tm) (vs : List Value) (l : List UInt8) (v : Value) (X : World) : Prop where
  buf : BufIs base v l X
  box : Cells X B 35 vs
  nB : v.ownBlock ≠ some B
  tm : TmAt S t vs X
  size : base ≤ X.heap.size
theorem PtS.below {S : Nat → Prop} {base B : Nat} {t : Tm} {vs : List Value} {l : List UInt8} {v : Value} {X X' : World} (h : PtS S base B t vs l v X) (hb : Below X.heap.size X X') : PtS S base B t vs l v X' :=
  ⟨h.buf.below hb (Nat.le_refl _), h.box.below hb, h.nB, h.tm.below hb, Nat.le_trans h.size hb.size⟩
theorem PtS.step' {S : Nat → Prop} {base B : Nat} {t : Tm} {vs : List Value} {l l' : List UInt8} {v v' : Value} {X X' : World} (hS : ∀ b, S b → b < base) (h : PtS S base B t vs l v X) (r : OutR base v X l' v' X') : PtS S base B t vs l' v' X' :=
  ⟨r.buf, h.box.keep r.keep h.nB, fun e => by
    rcases r.own _ e with e | e
    · exact h.nB e
    · have := h.box.lt; omega, h.tm.keep r.keep (fun b _ hb e => by have := (h.buf.block e).1; have := hS b hb; omega), Nat.le_trans h.size r.keep.size⟩
structure PtT (S : Nat → Prop) (base B : Nat) (t : Tm) (vs : List Value) (l : List UInt8) (v : Value) (X : World) : Prop extends PtS S base B t vs l v X where
  lo : ∀ b, S b → b < base
theorem PtT.below {S : Nat → Prop} {base B : Nat} {t : Tm} {vs : List Value} {l : List UInt8} {v : Value} {X X' : World} (h : PtT S base B t vs l v X) (hb : Below X.heap.size X X') : PtT S base B t vs l v X' := ⟨h.toPtS.below hb, h.lo⟩
theorem PtT.step {S : Nat → Prop} {base B : Nat} {t : Tm} {vs : List Value} {l l' : List UInt8} {v v' : Value} {X X' : World} (h : PtT S base B t vs l v X) (r : OutR base v X l' v' X') : PtT S base B t vs l' v' X' := ⟨h.toPtS.step' h.lo r, h.lo⟩
theorem TmAt.rowAt {S : Nat → Prop} {t : Tm} {k i s c nv : Value} {a : Option Addr} {n cap : Nat} {w : World} (h : TmAt S t [k, i, s, c, nv, .slice a n cap] w) : ArgsAt S t.args a w := by
  obtain ⟨_, nv', a', cap', e, _, _, _, hr⟩ := h.parts
  injection e with _ e
  injection e with _ e
  injection e with _ e
  injection e with _ e
  injection e with _ e
  injection e with e _
  injection e with e _ _
  rw [e]
  exact hr
theorem encT_eq (t : Tm) : encT t = headB t.kind t.int t.text t.cr t.nums t.args.length ++ encTL t.args := by cases t; rw [encT]; rfl
theorem encTL_drop {l : List Tm} (i : Nat) (h : i < l.length) : encTL (l.drop i) = encT l[i] ++ encTL (l.drop (i + 1)) := by
  rw [List.drop_eq_getElem_cons h, encTL]
mutual
theorem encT_len : ∀ t : Tm, okT t → (encT t).length ≤ 290 * sizeT t
  | .mk k i s c ns al, h => by
    rw [okT] at h
    have h1 := headB_len h.1
    have h2 := encTL_len al h.2
    rw [encT, sizeT, List.length_append]
    have h1' : (headB k i s c ns al.length).length ≤ 290 := h1
    omega
theorem encTL_len : ∀ l : List Tm, okTL l → (encTL l).length ≤ 290 * sizeTL l
  | [], _ => by rw [encTL]; exact Nat.zero_le _
  | t :: r, h => by
    rw [okTL] at h
    have h1 := encT_len t h.1
    have h2 := encTL_len r h.2
    rw [encTL, sizeTL, List.length_append]
    omega
end
theorem okTL_at : ∀ {l : List Tm}, okTL l → ∀ i, (h : i < l.length) → okT l[i]
  | [], _, i, h => absurd h (Nat.not_lt_zero _)
  | t :: r, h, 0, _ => by rw [okTL] at h; exact h.1
  | t :: r, h, i + 1, hi => by rw [okTL] at h; exact okTL_at h.2 i (by simpa using hi)
theorem narrowL_get : ∀ {l : List Tm}, narrowL l → ∀ i, (h : i < l.length) → narrowT l[i]
  | [], _, i, h => absurd h (Nat.not_lt_zero _)
  | t :: r, h, 0, _ => by rw [narrowL] at h; exact h.1
  | t :: r, h, i + 1, hi => by rw [narrowL] at h; exact narrowL_get h.2 i (by simpa using hi)
theorem part_kinds {t : Tm} (h : partS t 0 = []) : (t.kind = 1 ∨ t.kind = 2 ∨ t.kind = 3 ∨ t.kind = 4 ∨ t.kind = 6 → t.args = []) ∧ (t.kind = 3 → t.nums.length = 3) ∧ (t.kind = 4 → t.nums.length = 2) ∧ (t.kind = 7 → 2 ≤ t.args.length) ∧ 1 ≤ t.kind ∧ t.kind ≤ 7 := by
  cases t with
  | mk k i s c ns al =>
    show (k = 1 ∨ k = 2 ∨ k = 3 ∨ k = 4 ∨ k = 6 → al = []) ∧ (k = 3 → ns.length = 3) ∧ (k = 4 → ns.length = 2) ∧ (k = 7 → 2 ≤ al.length) ∧ 1 ≤ k ∧ k ≤ 7
    rcases (partS_iff k i s c ns al).1 h with ⟨rfl, _, _, _, e, _⟩ | ⟨rfl, _, _, _, _, e⟩ | ⟨rfl, _, _, e2, e⟩ | ⟨rfl, _, _, e2, e⟩ | ⟨rfl, _⟩ | ⟨rfl, _, _, _, _, e⟩ | ⟨rfl, _, _, _, _, e, _⟩
    · exact ⟨fun _ => e, (fun e => by cases e), (fun e => by cases e), (fun e => by cases e), by omega, by omega⟩
    · exact ⟨fun _ => e, (fun e => by cases e), (fun e => by cases e), (fun e => by cases e), by omega, by omega⟩
    · exact ⟨fun _ => e, fun _ => e2, (fun e => by cases e), (fun e => by cases e), by omega, by omega⟩
    · exact ⟨fun _ => e, (fun e => by cases e), fun _ => e2, (fun e => by cases e), by omega, by omega⟩
    · exact ⟨fun h => by omega, (fun e => by cases e), (fun e => by cases e), (fun e => by cases e), by omega, by omega⟩
    · exact ⟨fun _ => e, (fun e => by cases e), (fun e => by cases e), (fun e => by cases e), by omega, by omega⟩
    · exact ⟨fun h => by omega, (fun e => by cases e), (fun e => by cases e), fun _ => e, by omega, by omega⟩
set_option maxHeartbeats 16000000 in
set_option maxRecDepth 100000 in
theorem rPart_ind {base : Nat} : ∀ (N : Nat) (S : Nat → Prop) (t : Tm) (vs : List Value) (l : List UInt8) (bv : Value) (w : World), SizeOf.sizeOf t ≤ N → okT t → narrowT t → TmAt S t vs w → (∀ b, S b → b < base) → BufIs base bv l w → base ≤ w.heap.size → l.length + 290 * sizeT t ≤ 900000000 →
    Calls Tryz.prog 55 #[bv, .agg vs.toArray] w fun e w' => ∃ v', e = .returned v' ∧ OutR base bv w (l ++ encT t) v' w' := by
  intro N
  induction N with
  | zero => intro S t vs l bv w h; cases t; simp at h
  | succ N ih =>
    intro S t vs l bv w hN hok hna ht hS hbuf hB hlen
    have HIH := Lib.hid ih
    have HNN := Lib.hid hN
    obtain ⟨hp, nv, a, cap, rfl, hnn, ⟨hc, hcm⟩, hcap, ha⟩ := ht.parts
    obtain ⟨na, nc, rfl, -, -⟩ := hnn.slice
    obtain ⟨a0, c0, rfl⟩ := hbuf.form
    have HNU := Lib.hid hnn
    have HPT := Lib.hid hp
    have hal : t.args.length ≤ 140737488351232 := by omega
    have HB0 := Lib.hid ((Below.refl w.heap.size w).alloc (Nat.le_refl _) (.cells #[.int .i64 t.kind, .int .i64 t.int, .string t.text, .int .u32 t.cr, .slice na t.nums.length nc, .slice a t.args.length cap] 35 (0, 0)))
    have P1 := Lib.hid (show PtT S base w.heap.size t [.int .i64 t.kind, .int .i64 t.int, .string t.text, .int .u32 t.cr, .slice na t.nums.length nc, .slice a t.args.length cap] l (.slice a0 l.length c0) (w.alloc (.cells #[.int .i64 t.kind, .int .i64 t.int, .string t.text, .int .u32 t.cr, .slice na t.nums.length nc, .slice a t.args.length cap] 35 (0, 0))) from ⟨⟨hbuf.below HB0.out (Nat.le_refl _), Cells.new w 35 [.int .i64 t.kind, .int .i64 t.int, .string t.text, .int .u32 t.cr, .slice na t.nums.length nc, .slice a t.args.length cap], fun e => by have := (hbuf.block e).2; omega, ht.below HB0.out, Nat.le_trans hB HB0.out.size⟩, hS⟩)
    have R1 := Lib.hid (OutR.below hbuf HB0.out)
    have HVW := Lib.hid (fun q (hq : (Value.slice a0 l.length c0).ownBlock = some q) => (hbuf.block hq).2)
    have HOK := Lib.hid hok
    have HLEN := Lib.hid hlen
    have HPO := Lib.hid (show partS t 0 = [] ∧ okTL t.args from by cases t; have := hok; rw [okT] at this; exact this)
    have HNO := Lib.hid (show wideI t.kind t.int = false ∧ narrowL t.args from by cases t; have := hna; rw [narrowT] at this; exact this)
    have HTX := Lib.hid (text_ok HPO.out.1)
    have HSZ := Lib.hid (sizeT_eq t)
    have HPN := Lib.hid (length_le_sizeTL t.args)
    have HENC := Lib.hid (encT_eq t)
    have hpk := part_kinds HPO.out.1
    have HLF := Lib.hid hpk.1
    have HN3 := Lib.hid hpk.2.1
    have HN4 := Lib.hid hpk.2.2.1
    have HN7 := Lib.hid hpk.2.2.2.1
    have HK6 := Lib.hid (show t.kind ≠ 1 → t.kind ≠ 2 → t.kind ≠ 3 → t.kind ≠ 4 → t.kind ≠ 5 → t.kind ≠ 7 → t.kind = 6 from by have := hpk.2.2.2.2; omega)
    have HNW := Lib.hid HNO.out.1
    have HNI := Lib.hid (show t.kind = 1 → -2147483648 ≤ t.int ∧ t.int ≤ 2147483647 from fun hk => by
      have := HNO.out.1
      unfold wideI at this
      simp only [hk, decide_true, Bool.true_and, Bool.or_eq_false_iff, decide_eq_false_iff_not] at this
      omega)
    clear ih hN ht hnn ha hcm hp hc hcap hok hna hS hbuf hB hlen hpk
    go_enter Tryz.func55, Tryz.ntmps55
    go_upto_region 1 with (fail)
    generalize w.alloc (.cells #[.int .i64 t.kind, .int .i64 t.int, .string t.text, .int .u32 t.cr, .slice na t.nums.length nc, .slice a t.args.length cap] 35 (0, 0)) = w1 at *
    have m0 := P1.out.box.cell 0
    have m5 := P1.out.box.cell 5
    simp only [List.getElem?_cons_zero, List.getElem?_cons_succ] at m0 m5
    go_upto_block 0 with (fail)
    clear m0 m5
    go_cut [0] (fun v wx => ∃ v' lx, v = v' ∧ PtT S base w.heap.size t [.int .i64 t.kind, .int .i64 t.int, .string t.text, .int .u32 t.cr, .slice na t.nums.length nc, .slice a t.args.length cap] lx v' wx ∧ OutR base (.slice a0 l.length c0) w (l ++ headB t.kind t.int t.text t.cr t.nums t.args.length) v' wx)
    case first =>
      by_cases hk : t.kind = 1
      · have HNA := Lib.hid (show t.args = [] from HLF.out (by omega))
        have qk1 : (t.kind == 1) = true := beq_iff_eq.2 hk
        have hlo : -2147483648 ≤ t.int := (HNI.out hk).1
        have hhi : t.int ≤ 2147483647 := (HNI.out hk).2
        have HWI := Lib.hid (show wideI t.kind t.int = false from HNW.out)
        by_cases hs : 0 ≤ t.int ∧ t.int ≤ 255
        · obtain ⟨hs0, hs1⟩ := hs
          have EQ := Lib.hid (show headB t.kind t.int t.text t.cr t.nums t.args.length = [97, UInt8.ofNat t.int.toNat] from by
            unfold headB
            rw [if_pos hk, HWI.out, if_neg (by decide), if_pos ⟨hs0, hs1⟩])
          clear hk
          have m1 := P1.out.box.cell 1
          simp only [List.getElem?_cons_zero, List.getElem?_cons_succ] at m1
          clear HNW HNI
          have hmod : t.int % 256 = t.int := by omega
          have HB := Lib.hid ((Below.refl w1.heap.size w1).alloc (Nat.le_refl _) (.cells #[.int .u8 97, .int .u8 t.int] 5 (0, 0)))
          have HD := Lib.hid (show RSl (.slice (some ⟨w1.heap.size, 0, none⟩) 2 2) [97, UInt8.ofNat t.int.toNat] (w1.alloc (.cells #[.int .u8 97, .int .u8 t.int] 5 (0, 0))) from by
            have h2 := RSl.lit w1 [97, UInt8.ofNat t.int.toNat] (by simp [maxLen])
            have e : (bytesV [97, UInt8.ofNat t.int.toNat]).toArray = #[.int .u8 97, .int .u8 t.int] := by
              have q1 : byteV (UInt8.ofNat t.int.toNat) = .int .u8 t.int := byteV_of _ _ (by omega)
              simp only [bytesV, List.map_cons, List.map_nil, q1]
              rfl
            rw [e] at h2
            exact h2)
          have PB := Lib.hid (P1.out.below HB.out)
          have RB := Lib.hid (R1.out.more HB.out)
          obtain ⟨a', n', c', w', hr, hres⟩ := OutR.app PB.out.buf HD.out (by have := HLEN.out; simp; omega) PB.out.size
          have P2 := Lib.hid (PB.out.step hres)
          have R2 := Lib.hid (RB.out.trans HVW.out hres)
          have HR := Lib.hid hr
          clear hr hres
          clear HD PB RB
          go_wp2_with (at_builtin; refine stop ?_)
          refine Stopped.of ?_
          refine wp_app_eq rfl (.tmp 25) (.tmp 29) _ _ rfl _ _ (.slice a' n' c') w' rfl rfl HR.out ?_
          clear HB HR
          go_wp2
          go_ret
          refine ⟨_, rfl, ?_⟩
          rw [HENC.out, EQ.out, HNA.out]
          have hx := R2.out
          simp only [encTL, List.append_nil, List.append_assoc, List.cons_append, List.nil_append] at hx ⊢
          exact hx
        by_cases h0 : 0 ≤ t.int
        · have h255 : ¬ t.int ≤ 255 := fun e => hs ⟨h0, e⟩
          have h256 : decide (t.int ≤ 255) = false := by simpa using h255
          have hu32 : IntKind.u32.wrap t.int = t.int := by simp [IntKind.wrap, IntKind.bits, IntKind.signed]; omega
          have EQ := Lib.hid (show headB t.kind t.int t.text t.cr t.nums t.args.length = [98] ++ fourB (t.int) from by
            unfold headB
            rw [if_pos hk, HWI.out, if_neg (by decide), if_neg hs, show t.int % 4294967296 = t.int by omega]
            rfl)
          clear hk hs
          have m1 := P1.out.box.cell 1
          simp only [List.getElem?_cons_zero, List.getElem?_cons_succ] at m1
          clear HNW HNI
          have hw32 : IntKind.i32.wrap t.int = t.int := by rw [IntKind.wrap_i32]; omega
          go_wp2
          refine wp_region_L (S := fun X => Cells X w.heap.size 35 [.int .i64 t.kind, .int .i64 t.int, .string t.text, .int .u32 t.cr, .slice na t.nums.length nc, .slice a t.args.length cap] ∧ TmAt S t [.int .i64 t.kind, .int .i64 t.int, .string t.text, .int .u32 t.cr, .slice na t.nums.length nc, .slice a t.args.length cap] X) (F := []) (by kernel_rfl) (⟨P1.out.box.below (Below.drew (Below.refl _ _)), P1.out.tm.below (Below.drew (Below.refl _ _))⟩) (fun hHeld => ?_)
          refine wpAnyL_easy (i := 0) (v := (.slice a0 l.length c0)) (by simp only [List.getElem?_toArray, List.getElem?_cons_succ, List.getElem?_cons_zero]; rfl) (by kernel_rfl) (by kernel_rfl) (by kernel_rfl) (by exact fun _ _ _ h => h) (Or.inl ⟨by rfl, by intro W _; go_simp; all_goals first | rfl | exact ⟨rfl, rfl, rfl, rfl, rfl, rfl⟩⟩) ?_
          try simp only [Act.put, List.setIfInBounds_toArray, List.set_cons_zero, List.set_cons_succ]
          refine wpAnyL_easy (i := 3) (v := (.pointer (some ⟨w.heap.size, 1, none⟩))) (by simp only [List.getElem?_toArray, List.getElem?_cons_succ, List.getElem?_cons_zero]; rfl) (by kernel_rfl) (by kernel_rfl) (by kernel_rfl) (by exact fun _ _ _ h => h) (Or.inl ⟨by rfl, by intro W _; go_simp; all_goals first | rfl | exact ⟨rfl, rfl, rfl, rfl, rfl, rfl⟩⟩) ?_
          try simp only [Act.put, List.setIfInBounds_toArray, List.set_cons_zero, List.set_cons_succ]
          refine wpAnyL_take (i := 4) (v := (.int .i64 t.int)) (by simp only [List.getElem?_toArray, List.getElem?_cons_succ, List.getElem?_cons_zero]; rfl) (by kernel_rfl) (by kernel_rfl) (by kernel_rfl) (by kernel_rfl) (by exact fun _ _ _ h => h) (Or.inl ⟨by rfl, by intro W hSw; have x0 := show W.cell? ⟨w.heap.size, 1, none⟩ = some (.int .i64 t.int) from hSw.1.cell 1; go_simp; all_goals first | rfl | exact ⟨rfl, rfl, rfl, rfl, rfl, rfl⟩⟩) (by assumption) ?_
          try simp only [Act.put, List.setIfInBounds_toArray, List.set_cons_zero, List.set_cons_succ]
          refine wpAnyL_easy (i := 5) (v := (.int .i32 t.int)) (by simp only [List.getElem?_toArray, List.getElem?_cons_succ, List.getElem?_cons_zero]; rfl) (by kernel_rfl) (by kernel_rfl) (by kernel_rfl) (by exact fun _ _ _ h => h) (Or.inl ⟨by rfl, by intro W _; go_simp; all_goals first | rfl | exact ⟨rfl, rfl, rfl, rfl, rfl, rfl⟩⟩) ?_
          try simp only [Act.put, List.setIfInBounds_toArray, List.set_cons_zero, List.set_cons_succ]
          refine wpAnyL_easy (i := 6) (v := (.int .u32 (t.int))) (by simp only [List.getElem?_toArray, List.getElem?_cons_succ, List.getElem?_cons_zero]; rfl) (by kernel_rfl) (by kernel_rfl) (by kernel_rfl) (by exact fun _ _ _ h => h) (Or.inl ⟨by rfl, by intro W _; go_simp; all_goals first | rfl | exact ⟨rfl, rfl, rfl, rfl, rfl, rfl⟩⟩) ?_
          try simp only [Act.put, List.setIfInBounds_toArray, List.set_cons_zero, List.set_cons_succ]
          have BD := Lib.hid (show Below w1.heap.size w1 w1.drew from Below.drew (Below.refl _ _))
          have PD := Lib.hid (P1.out.below BD.out)
          have RD := Lib.hid (R1.out.more BD.out)
          clear hHeld
          generalize w1.drew = w3 at *
          refine wpAnyL_ready (rs := [1]) (by kernel_rfl) (by simp) ?_
          refine AllReadyL.cons (by simp only [List.getElem?_toArray, List.getElem?_cons_succ, List.getElem?_cons_zero]; rfl) (fun K hK => ?_) AllReadyL.nil
          go_simp
          have HB := Lib.hid ((Below.refl w3.heap.size w3).alloc (Nat.le_refl _) (.cells #[.int .u8 98] 5 (0, 0)))
          have HD := Lib.hid (show RSl (.slice (some ⟨w3.heap.size, 0, none⟩) 1 1) [98] (w3.alloc (.cells #[.int .u8 98] 5 (0, 0))) from by
            have h2 := RSl.lit w3 [98] (by simp [maxLen])
            have e : (bytesV [98]).toArray = #[.int .u8 98] := by
              rfl
            rw [e] at h2
            exact h2)
          have PB := Lib.hid (PD.out.below HB.out)
          have RB := Lib.hid (RD.out.more HB.out)
          obtain ⟨a', n', c', w', hr, hres⟩ := OutR.app PB.out.buf HD.out (by have := HLEN.out; simp; omega) PB.out.size
          have P2 := Lib.hid (PB.out.step hres)
          have R2 := Lib.hid (RB.out.trans HVW.out hres)
          have HR := Lib.hid hr
          clear hr hres
          refine hK.out _ _ (⟨PB.out.box, PB.out.tm⟩) (fun hHeld => ?_)
          try simp only [Act.put, List.setIfInBounds_toArray, List.set_cons_zero, List.set_cons_succ]
          clear hHeld
          refine wpAnyL_ready (rs := [2]) (by kernel_rfl) (by simp) ?_
          refine AllReadyL.cons (by simp only [List.getElem?_toArray, List.getElem?_cons_succ, List.getElem?_cons_zero]; rfl) (fun K hK => ?_) AllReadyL.nil
          refine step_app_eq (by rfl) _ _ _ _ (by rfl) _ _ (.slice a' n' c') w' (by rfl) (by rfl) HR.out ?_
          refine hK.out _ _ (⟨P2.out.box, P2.out.tm⟩) (fun hHeld => ?_)
          try simp only [Act.put, List.setIfInBounds_toArray, List.set_cons_zero, List.set_cons_succ]
          clear HB HR HD PB RB
          refine wpAnyL_ready (rs := [7]) (by kernel_rfl) (by simp) ?_
          refine AllReadyL.cons (by simp only [List.getElem?_toArray, List.getElem?_cons_succ, List.getElem?_cons_zero]; rfl) (fun K hK => ?_) AllReadyL.nil
          go_simp
          refine (rFour_any (base := base) (t.int) _ P2.out.buf P2.out.size (by omega) (by omega) (by have := HLEN.out; have := HTX.out; have := HSZ.out; simp [fourB_len, atomB_len]; omega)).mono ?_
          rintro e w4 ⟨vw4, rfl, hres⟩
          have Pw4 := Lib.hid (P2.out.step hres)
          have Rw4 := Lib.hid (R2.out.trans HVW.out hres)
          clear hres hHeld
          refine hK.out _ _ (⟨Pw4.out.box, Pw4.out.tm⟩) (fun hHeld => ?_)
          try simp only [Act.put, List.setIfInBounds_toArray, List.set_cons_zero, List.set_cons_succ]
          refine wpAnyL_easy (i := 8) (v := vw4) (by simp only [List.getElem?_toArray, List.getElem?_cons_succ, List.getElem?_cons_zero]; rfl) (by kernel_rfl) (by kernel_rfl) (by kernel_rfl) (by exact fun _ _ _ h => h) (Or.inl ⟨by rfl, by intro W _; go_simp; all_goals first | rfl | exact ⟨rfl, rfl, rfl, rfl, rfl, rfl⟩⟩) ?_
          try simp only [Act.put, List.setIfInBounds_toArray, List.set_cons_zero, List.set_cons_succ]
          refine wpAnyL_done (by kernel_rfl) ?_ _
          go_wp2
          go_ret
          refine ⟨_, rfl, ?_⟩
          rw [HENC.out, EQ.out, HNA.out]
          have hx := Rw4.out
          simp only [encTL, List.append_nil, List.append_assoc, List.cons_append, List.nil_append] at hx ⊢
          exact hx
        · have EQ := Lib.hid (show headB t.kind t.int t.text t.cr t.nums t.args.length = [98] ++ fourB (t.int % 4294967296) from by
            unfold headB
            rw [if_pos hk, HWI.out, if_neg (by decide), if_neg hs]
            rfl)
          clear hk hs
          have m1 := P1.out.box.cell 1
          simp only [List.getElem?_cons_zero, List.getElem?_cons_succ] at m1
          clear HNW HNI
          have hw32 : IntKind.i32.wrap t.int = t.int := by rw [IntKind.wrap_i32]; omega
          go_wp2
          refine wp_region_L (S := fun X => Cells X w.heap.size 35 [.int .i64 t.kind, .int .i64 t.int, .string t.text, .int .u32 t.cr, .slice na t.nums.length nc, .slice a t.args.length cap] ∧ TmAt S t [.int .i64 t.kind, .int .i64 t.int, .string t.text, .int .u32 t.cr, .slice na t.nums.length nc, .slice a t.args.length cap] X) (F := []) (by kernel_rfl) (⟨P1.out.box.below (Below.drew (Below.refl _ _)), P1.out.tm.below (Below.drew (Below.refl _ _))⟩) (fun hHeld => ?_)
          refine wpAnyL_easy (i := 0) (v := (.slice a0 l.length c0)) (by simp only [List.getElem?_toArray, List.getElem?_cons_succ, List.getElem?_cons_zero]; rfl) (by kernel_rfl) (by kernel_rfl) (by kernel_rfl) (by exact fun _ _ _ h => h) (Or.inl ⟨by rfl, by intro W _; go_simp; all_goals first | rfl | exact ⟨rfl, rfl, rfl, rfl, rfl, rfl⟩⟩) ?_
          try simp only [Act.put, List.setIfInBounds_toArray, List.set_cons_zero, List.set_cons_succ]
          refine wpAnyL_easy (i := 3) (v := (.pointer (some ⟨w.heap.size, 1, none⟩))) (by simp only [List.getElem?_toArray, List.getElem?_cons_succ, List.getElem?_cons_zero]; rfl) (by kernel_rfl) (by kernel_rfl) (by kernel_rfl) (by exact fun _ _ _ h => h) (Or.inl ⟨by rfl, by intro W _; go_simp; all_goals first | rfl | exact ⟨rfl, rfl, rfl, rfl, rfl, rfl⟩⟩) ?_
          try simp only [Act.put, List.setIfInBounds_toArray, List.set_cons_zero, List.set_cons_succ]
          refine wpAnyL_take (i := 4) (v := (.int .i64 t.int)) (by simp only [List.getElem?_toArray, List.getElem?_cons_succ, List.getElem?_cons_zero]; rfl) (by kernel_rfl) (by kernel_rfl) (by kernel_rfl) (by kernel_rfl) (by exact fun _ _ _ h => h) (Or.inl ⟨by rfl, by intro W hSw; have x0 := show W.cell? ⟨w.heap.size, 1, none⟩ = some (.int .i64 t.int) from hSw.1.cell 1; go_simp; all_goals first | rfl | exact ⟨rfl, rfl, rfl, rfl, rfl, rfl⟩⟩) (by assumption) ?_
          try simp only [Act.put, List.setIfInBounds_toArray, List.set_cons_zero, List.set_cons_succ]
          refine wpAnyL_easy (i := 5) (v := (.int .i32 t.int)) (by simp only [List.getElem?_toArray, List.getElem?_cons_succ, List.getElem?_cons_zero]; rfl) (by kernel_rfl) (by kernel_rfl) (by kernel_rfl) (by exact fun _ _ _ h => h) (Or.inl ⟨by rfl, by intro W _; go_simp; all_goals first | rfl | exact ⟨rfl, rfl, rfl, rfl, rfl, rfl⟩⟩) ?_
          try simp only [Act.put, List.setIfInBounds_toArray, List.set_cons_zero, List.set_cons_succ]
          refine wpAnyL_easy (i := 6) (v := (.int .u32 (t.int % 4294967296))) (by simp only [List.getElem?_toArray, List.getElem?_cons_succ, List.getElem?_cons_zero]; rfl) (by kernel_rfl) (by kernel_rfl) (by kernel_rfl) (by exact fun _ _ _ h => h) (Or.inl ⟨by rfl, by intro W _; go_simp; all_goals first | rfl | exact ⟨rfl, rfl, rfl, rfl, rfl, rfl⟩⟩) ?_
          try simp only [Act.put, List.setIfInBounds_toArray, List.set_cons_zero, List.set_cons_succ]
          have BD := Lib.hid (show Below w1.heap.size w1 w1.drew from Below.drew (Below.refl _ _))
          have PD := Lib.hid (P1.out.below BD.out)
          have RD := Lib.hid (R1.out.more BD.out)
          clear hHeld
          generalize w1.drew = w3 at *
          refine wpAnyL_ready (rs := [1]) (by kernel_rfl) (by simp) ?_
          refine AllReadyL.cons (by simp only [List.getElem?_toArray, List.getElem?_cons_succ, List.getElem?_cons_zero]; rfl) (fun K hK => ?_) AllReadyL.nil
          go_simp
          have HB := Lib.hid ((Below.refl w3.heap.size w3).alloc (Nat.le_refl _) (.cells #[.int .u8 98] 5 (0, 0)))
          have HD := Lib.hid (show RSl (.slice (some ⟨w3.heap.size, 0, none⟩) 1 1) [98] (w3.alloc (.cells #[.int .u8 98] 5 (0, 0))) from by
            have h2 := RSl.lit w3 [98] (by simp [maxLen])
            have e : (bytesV [98]).toArray = #[.int .u8 98] := by
              rfl
            rw [e] at h2
            exact h2)
          have PB := Lib.hid (PD.out.below HB.out)
          have RB := Lib.hid (RD.out.more HB.out)
          obtain ⟨a', n', c', w', hr, hres⟩ := OutR.app PB.out.buf HD.out (by have := HLEN.out; simp; omega) PB.out.size
          have P2 := Lib.hid (PB.out.step hres)
          have R2 := Lib.hid (RB.out.trans HVW.out hres)
          have HR := Lib.hid hr
          clear hr hres
          refine hK.out _ _ (⟨PB.out.box, PB.out.tm⟩) (fun hHeld => ?_)
          try simp only [Act.put, List.setIfInBounds_toArray, List.set_cons_zero, List.set_cons_succ]
          clear hHeld
          refine wpAnyL_ready (rs := [2]) (by kernel_rfl) (by simp) ?_
          refine AllReadyL.cons (by simp only [List.getElem?_toArray, List.getElem?_cons_succ, List.getElem?_cons_zero]; rfl) (fun K hK => ?_) AllReadyL.nil
          refine step_app_eq (by rfl) _ _ _ _ (by rfl) _ _ (.slice a' n' c') w' (by rfl) (by rfl) HR.out ?_
          refine hK.out _ _ (⟨P2.out.box, P2.out.tm⟩) (fun hHeld => ?_)
          try simp only [Act.put, List.setIfInBounds_toArray, List.set_cons_zero, List.set_cons_succ]
          clear HB HR HD PB RB
          refine wpAnyL_ready (rs := [7]) (by kernel_rfl) (by simp) ?_
          refine AllReadyL.cons (by simp only [List.getElem?_toArray, List.getElem?_cons_succ, List.getElem?_cons_zero]; rfl) (fun K hK => ?_) AllReadyL.nil
          go_simp
          refine (rFour_any (base := base) (t.int % 4294967296) _ P2.out.buf P2.out.size (by omega) (by omega) (by have := HLEN.out; have := HTX.out; have := HSZ.out; simp [fourB_len, atomB_len]; omega)).mono ?_
          rintro e w4 ⟨vw4, rfl, hres⟩
          have Pw4 := Lib.hid (P2.out.step hres)
          have Rw4 := Lib.hid (R2.out.trans HVW.out hres)
          clear hres hHeld
          refine hK.out _ _ (⟨Pw4.out.box, Pw4.out.tm⟩) (fun hHeld => ?_)
          try simp only [Act.put, List.setIfInBounds_toArray, List.set_cons_zero, List.set_cons_succ]
          refine wpAnyL_easy (i := 8) (v := vw4) (by simp only [List.getElem?_toArray, List.getElem?_cons_succ, List.getElem?_cons_zero]; rfl) (by kernel_rfl) (by kernel_rfl) (by kernel_rfl) (by exact fun _ _ _ h => h) (Or.inl ⟨by rfl, by intro W _; go_simp; all_goals first | rfl | exact ⟨rfl, rfl, rfl, rfl, rfl, rfl⟩⟩) ?_
          try simp only [Act.put, List.setIfInBounds_toArray, List.set_cons_zero, List.set_cons_succ]
          refine wpAnyL_done (by kernel_rfl) ?_ _
          go_wp2
          go_ret
          refine ⟨_, rfl, ?_⟩
          rw [HENC.out, EQ.out, HNA.out]
          have hx := Rw4.out
          simp only [encTL, List.append_nil, List.append_assoc, List.cons_append, List.nil_append] at hx ⊢
          exact hx
      by_cases hk : t.kind = 2
      · have HNA := Lib.hid (show t.args = [] from HLF.out (by omega))
        have qk1 : (t.kind == 1) = false := beq_eq_false_iff_ne.2 (by omega)
        have qk2 : (t.kind == 2) = true := beq_iff_eq.2 hk
        have EQ := Lib.hid (show headB t.kind t.int t.text t.cr t.nums t.args.length = atomB t.text from by
          unfold headB
          rw [if_neg (by omega), if_pos hk])
        clear hk
        have m2 := P1.out.box.cell 2
        simp only [List.getElem?_cons_zero, List.getElem?_cons_succ] at m2
        go_wp2_with fail
        refine (rName_any (base := base) t.text _ P1.out.buf P1.out.size HTX.out (by have := HLEN.out; have := HTX.out; have := HSZ.out; simp [fourB_len, atomB_len]; omega)).mono ?_
        rintro e w4 ⟨vw4, rfl, hres⟩
        have Pw4 := Lib.hid (P1.out.step hres)
        have Rw4 := Lib.hid (R1.out.trans HVW.out hres)
        clear hres
        go_wp2
        go_ret
        refine ⟨_, rfl, ?_⟩
        rw [HENC.out, EQ.out, HNA.out]
        have hx := Rw4.out
        simp only [encTL, List.append_nil, List.append_assoc, List.cons_append, List.nil_append] at hx ⊢
        exact hx
      by_cases hk : t.kind = 3
      · have HNA := Lib.hid (show t.args = [] from HLF.out (by omega))
        have qk1 : (t.kind == 1) = false := beq_eq_false_iff_ne.2 (by omega)
        have qk2 : (t.kind == 2) = false := beq_eq_false_iff_ne.2 (by omega)
        have qk3 : (t.kind == 3) = true := beq_iff_eq.2 hk
        have hnl : t.nums.length = 3 := HN3.out hk
        have HNL := Lib.hid hnl
        have HNB := Lib.hid (nums_bound HNU.out)
        obtain ⟨gN, oN, rfl, -, -⟩ := nums_cells HNU.out (by omega)
        obtain ⟨x, y, z, hxyz⟩ : ∃ x y z, t.nums = [x, y, z] := by
          match t.nums, hnl with
          | [x, y, z], _ => exact ⟨x, y, z, rfl⟩
        have hb0 := HNB.out 0 (by omega)
        have hb1 := HNB.out 1 (by omega)
        have hb2 := HNB.out 2 (by omega)
        simp only [hxyz, List.getElem_cons_zero, List.getElem_cons_succ] at hb0 hb1 hb2
        obtain ⟨hx0, hx1⟩ := hb0
        obtain ⟨hy0, hy1⟩ := hb1
        obtain ⟨hz0, hz1⟩ := hb2
        have HU := Lib.hid (fun W (h : TmAt S t [.int .i64 t.kind, .int .i64 t.int, .string t.text, .int .u32 t.cr, .slice (some ⟨gN, oN, none⟩) t.nums.length nc, .slice a t.args.length cap] W) => TmAt.num3 h hxyz)
        clear HNB
        have EQ := Lib.hid (show headB t.kind t.int t.text t.cr t.nums t.args.length = [90, 0, 3] ++ atomB t.text ++ fourB t.cr ++ fourB x ++ fourB y ++ fourB z from by
          unfold headB
          rw [if_neg (by omega), if_neg (by omega), if_neg (by omega), if_neg (by omega), if_neg (by omega), if_neg (by omega), if_pos hk, hxyz]
          simp)
        clear hk hxyz hnl
        have hc0 := HPT.out.c0
        have hc1 := HPT.out.c1
        go_upto_region 11 with (fail)
        go_wp2
        refine wp_region_L (S := fun X => Cells X w.heap.size 35 [.int .i64 t.kind, .int .i64 t.int, .string t.text, .int .u32 t.cr, .slice (some ⟨gN, oN, none⟩) t.nums.length nc, .slice a t.args.length cap] ∧ TmAt S t [.int .i64 t.kind, .int .i64 t.int, .string t.text, .int .u32 t.cr, .slice (some ⟨gN, oN, none⟩) t.nums.length nc, .slice a t.args.length cap] X) (F := []) (by kernel_rfl) (⟨P1.out.box.below (Below.drew (Below.refl _ _)), P1.out.tm.below (Below.drew (Below.refl _ _))⟩) (fun hHeld => ?_)
        refine wpAnyL_easy (i := 0) (v := (.slice a0 l.length c0)) (by simp only [List.getElem?_toArray, List.getElem?_cons_succ, List.getElem?_cons_zero]; rfl) (by kernel_rfl) (by kernel_rfl) (by kernel_rfl) (by exact fun _ _ _ h => h) (Or.inl ⟨by rfl, by intro W _; go_simp; all_goals first | rfl | exact ⟨rfl, rfl, rfl, rfl, rfl, rfl⟩⟩) ?_
        try simp only [Act.put, List.setIfInBounds_toArray, List.set_cons_zero, List.set_cons_succ]
        refine wpAnyL_easy (i := 3) (v := (.pointer (some ⟨w.heap.size, 2, none⟩))) (by simp only [List.getElem?_toArray, List.getElem?_cons_succ, List.getElem?_cons_zero]; rfl) (by kernel_rfl) (by kernel_rfl) (by kernel_rfl) (by exact fun _ _ _ h => h) (Or.inl ⟨by rfl, by intro W _; go_simp; all_goals first | rfl | exact ⟨rfl, rfl, rfl, rfl, rfl, rfl⟩⟩) ?_
        try simp only [Act.put, List.setIfInBounds_toArray, List.set_cons_zero, List.set_cons_succ]
        refine wpAnyL_take (i := 4) (v := (.string t.text)) (by simp only [List.getElem?_toArray, List.getElem?_cons_succ, List.getElem?_cons_zero]; rfl) (by kernel_rfl) (by kernel_rfl) (by kernel_rfl) (by kernel_rfl) (by exact fun _ _ _ h => h) (Or.inl ⟨by rfl, by intro W hSw; have x0 := show W.cell? ⟨w.heap.size, 2, none⟩ = some (.string t.text) from hSw.1.cell 2; go_simp; all_goals first | rfl | exact ⟨rfl, rfl, rfl, rfl, rfl, rfl⟩⟩) (by assumption) ?_
        try simp only [Act.put, List.setIfInBounds_toArray, List.set_cons_zero, List.set_cons_succ]
        refine wpAnyL_easy (i := 6) (v := (.pointer (some ⟨w.heap.size, 3, none⟩))) (by simp only [List.getElem?_toArray, List.getElem?_cons_succ, List.getElem?_cons_zero]; rfl) (by kernel_rfl) (by kernel_rfl) (by kernel_rfl) (by exact fun _ _ _ h => h) (Or.inl ⟨by rfl, by intro W _; go_simp; all_goals first | rfl | exact ⟨rfl, rfl, rfl, rfl, rfl, rfl⟩⟩) ?_
        try simp only [Act.put, List.setIfInBounds_toArray, List.set_cons_zero, List.set_cons_succ]
        refine wpAnyL_take (i := 7) (v := (.int .u32 t.cr)) (by simp only [List.getElem?_toArray, List.getElem?_cons_succ, List.getElem?_cons_zero]; rfl) (by kernel_rfl) (by kernel_rfl) (by kernel_rfl) (by kernel_rfl) (by exact fun _ _ _ h => h) (Or.inl ⟨by rfl, by intro W hSw; have x0 := show W.cell? ⟨w.heap.size, 3, none⟩ = some (.int .u32 t.cr) from hSw.1.cell 3; go_simp; all_goals first | rfl | exact ⟨rfl, rfl, rfl, rfl, rfl, rfl⟩⟩) (by assumption) ?_
        try simp only [Act.put, List.setIfInBounds_toArray, List.set_cons_zero, List.set_cons_succ]
        have BD := Lib.hid (show Below w1.heap.size w1 w1.drew from Below.drew (Below.refl _ _))
        have PD := Lib.hid (P1.out.below BD.out)
        have RD := Lib.hid (R1.out.more BD.out)
        clear hHeld
        generalize w1.drew = w3 at *
        refine wpAnyL_ready (rs := [1]) (by kernel_rfl) (by simp) ?_
        refine AllReadyL.cons (by simp only [List.getElem?_toArray, List.getElem?_cons_succ, List.getElem?_cons_zero]; rfl) (fun K hK => ?_) AllReadyL.nil
        go_simp
        have HB := Lib.hid ((Below.refl w3.heap.size w3).alloc (Nat.le_refl _) (.cells #[.int .u8 90, .int .u8 0, .int .u8 3] 5 (0, 0)))
        have HD := Lib.hid (show RSl (.slice (some ⟨w3.heap.size, 0, none⟩) 3 3) [90, 0, 3] (w3.alloc (.cells #[.int .u8 90, .int .u8 0, .int .u8 3] 5 (0, 0))) from by
          have h2 := RSl.lit w3 [90, 0, 3] (by simp [maxLen])
          have e : (bytesV [90, 0, 3]).toArray = #[.int .u8 90, .int .u8 0, .int .u8 3] := by
            rfl
          rw [e] at h2
          exact h2)
        have PB := Lib.hid (PD.out.below HB.out)
        have RB := Lib.hid (RD.out.more HB.out)
        obtain ⟨a', n', c', w', hr, hres⟩ := OutR.app PB.out.buf HD.out (by have := HLEN.out; simp; omega) PB.out.size
        have P2 := Lib.hid (PB.out.step hres)
        have R2 := Lib.hid (RB.out.trans HVW.out hres)
        have HR := Lib.hid hr
        clear hr hres
        refine hK.out _ _ (⟨PB.out.box, PB.out.tm⟩) (fun hHeld => ?_)
        try simp only [Act.put, List.setIfInBounds_toArray, List.set_cons_zero, List.set_cons_succ]
        clear hHeld
        refine wpAnyL_ready (rs := [2]) (by kernel_rfl) (by simp) ?_
        refine AllReadyL.cons (by simp only [List.getElem?_toArray, List.getElem?_cons_succ, List.getElem?_cons_zero]; rfl) (fun K hK => ?_) AllReadyL.nil
        refine step_app_eq (by rfl) _ _ _ _ (by rfl) _ _ (.slice a' n' c') w' (by rfl) (by rfl) HR.out ?_
        refine hK.out _ _ (⟨P2.out.box, P2.out.tm⟩) (fun hHeld => ?_)
        try simp only [Act.put, List.setIfInBounds_toArray, List.set_cons_zero, List.set_cons_succ]
        clear HB HR HD PB RB
        refine wpAnyL_ready (rs := [5]) (by kernel_rfl) (by simp) ?_
        refine AllReadyL.cons (by simp only [List.getElem?_toArray, List.getElem?_cons_succ, List.getElem?_cons_zero]; rfl) (fun K hK => ?_) AllReadyL.nil
        go_simp
        refine (rName_any (base := base) t.text _ P2.out.buf P2.out.size HTX.out (by have := HLEN.out; have := HTX.out; have := HSZ.out; simp [fourB_len, atomB_len]; omega)).mono ?_
        rintro e w4 ⟨vw4, rfl, hres⟩
        have Pw4 := Lib.hid (P2.out.step hres)
        have Rw4 := Lib.hid (R2.out.trans HVW.out hres)
        clear hres hHeld
        refine hK.out _ _ (⟨Pw4.out.box, Pw4.out.tm⟩) (fun hHeld => ?_)
        try simp only [Act.put, List.setIfInBounds_toArray, List.set_cons_zero, List.set_cons_succ]
        refine wpAnyL_ready (rs := [8]) (by kernel_rfl) (by simp) ?_
        refine AllReadyL.cons (by simp only [List.getElem?_toArray, List.getElem?_cons_succ, List.getElem?_cons_zero]; rfl) (fun K hK => ?_) AllReadyL.nil
        go_simp
        refine (rFour_any (base := base) (t.cr) _ Pw4.out.buf Pw4.out.size hc0 hc1 (by have := HLEN.out; have := HTX.out; have := HSZ.out; simp [fourB_len, atomB_len]; omega)).mono ?_
        rintro e w5 ⟨vw5, rfl, hres⟩
        have Pw5 := Lib.hid (Pw4.out.step hres)
        have Rw5 := Lib.hid (Rw4.out.trans HVW.out hres)
        clear hres hHeld
        refine hK.out _ _ (⟨Pw5.out.box, Pw5.out.tm⟩) (fun hHeld => ?_)
        try simp only [Act.put, List.setIfInBounds_toArray, List.set_cons_zero, List.set_cons_succ]
        refine wpAnyL_easy (i := 9) (v := vw5) (by simp only [List.getElem?_toArray, List.getElem?_cons_succ, List.getElem?_cons_zero]; rfl) (by kernel_rfl) (by kernel_rfl) (by kernel_rfl) (by exact fun _ _ _ h => h) (Or.inl ⟨by rfl, by intro W _; go_simp; all_goals first | rfl | exact ⟨rfl, rfl, rfl, rfl, rfl, rfl⟩⟩) ?_
        try simp only [Act.put, List.setIfInBounds_toArray, List.set_cons_zero, List.set_cons_succ]
        refine wpAnyL_done (by kernel_rfl) ?_ _
        go_wp2
        refine wp_region_L (S := fun X => Cells X w.heap.size 35 [.int .i64 t.kind, .int .i64 t.int, .string t.text, .int .u32 t.cr, .slice (some ⟨gN, oN, none⟩) t.nums.length nc, .slice a t.args.length cap] ∧ TmAt S t [.int .i64 t.kind, .int .i64 t.int, .string t.text, .int .u32 t.cr, .slice (some ⟨gN, oN, none⟩) t.nums.length nc, .slice a t.args.length cap] X) (F := []) (by kernel_rfl) (⟨Pw5.out.box.below (Below.drew (Below.refl _ _)), Pw5.out.tm.below (Below.drew (Below.refl _ _))⟩) (fun hHeld => ?_)
        refine wpAnyL_easy (i := 0) (v := vw5) (by simp only [List.getElem?_toArray, List.getElem?_cons_succ, List.getElem?_cons_zero]; rfl) (by kernel_rfl) (by kernel_rfl) (by kernel_rfl) (by exact fun _ _ _ h => h) (Or.inl ⟨by rfl, by intro W _; go_simp; all_goals first | rfl | exact ⟨rfl, rfl, rfl, rfl, rfl, rfl⟩⟩) ?_
        try simp only [Act.put, List.setIfInBounds_toArray, List.set_cons_zero, List.set_cons_succ]
        refine wpAnyL_easy (i := 1) (v := (.pointer (some ⟨w.heap.size, 4, none⟩))) (by simp only [List.getElem?_toArray, List.getElem?_cons_succ, List.getElem?_cons_zero]; rfl) (by kernel_rfl) (by kernel_rfl) (by kernel_rfl) (by exact fun _ _ _ h => h) (Or.inl ⟨by rfl, by intro W _; go_simp; all_goals first | rfl | exact ⟨rfl, rfl, rfl, rfl, rfl, rfl⟩⟩) ?_
        try simp only [Act.put, List.setIfInBounds_toArray, List.set_cons_zero, List.set_cons_succ]
        refine wpAnyL_take (i := 2) (v := (.slice (some ⟨gN, oN, none⟩) t.nums.length nc)) (by simp only [List.getElem?_toArray, List.getElem?_cons_succ, List.getElem?_cons_zero]; rfl) (by kernel_rfl) (by kernel_rfl) (by kernel_rfl) (by kernel_rfl) (by exact fun _ _ _ h => h) (Or.inl ⟨by rfl, by intro W hSw; have x0 := show W.cell? ⟨w.heap.size, 4, none⟩ = some (.slice (some ⟨gN, oN, none⟩) t.nums.length nc) from hSw.1.cell 4; go_simp; all_goals first | rfl | exact ⟨rfl, rfl, rfl, rfl, rfl, rfl⟩⟩) (by assumption) ?_
        try simp only [Act.put, List.setIfInBounds_toArray, List.set_cons_zero, List.set_cons_succ]
        refine wpAnyL_take (i := 3) (v := (.pointer (some ⟨gN, oN, none⟩))) (by simp only [List.getElem?_toArray, List.getElem?_cons_succ, List.getElem?_cons_zero]; rfl) (by kernel_rfl) (by kernel_rfl) (by kernel_rfl) (by kernel_rfl) (by exact fun _ _ _ h => h) (Or.inl ⟨by rfl, by intro W hSw; have x0 := HNL.out; go_simp; all_goals first | rfl | exact ⟨rfl, rfl, rfl, rfl, rfl, rfl⟩⟩) (by assumption) ?_
        try simp only [Act.put, List.setIfInBounds_toArray, List.set_cons_zero, List.set_cons_succ]
        refine wpAnyL_take (i := 4) (v := (.int .u32 x)) (by simp only [List.getElem?_toArray, List.getElem?_cons_succ, List.getElem?_cons_zero]; rfl) (by kernel_rfl) (by kernel_rfl) (by kernel_rfl) (by kernel_rfl) (by exact fun _ _ _ h => h) (Or.inl ⟨by rfl, by intro W hSw; have x0 := (HU.out W hSw.2).1; go_simp; all_goals first | rfl | exact ⟨rfl, rfl, rfl, rfl, rfl, rfl⟩⟩) (by assumption) ?_
        try simp only [Act.put, List.setIfInBounds_toArray, List.set_cons_zero, List.set_cons_succ]
        refine wpAnyL_easy (i := 6) (v := (.pointer (some ⟨w.heap.size, 4, none⟩))) (by simp only [List.getElem?_toArray, List.getElem?_cons_succ, List.getElem?_cons_zero]; rfl) (by kernel_rfl) (by kernel_rfl) (by kernel_rfl) (by exact fun _ _ _ h => h) (Or.inl ⟨by rfl, by intro W _; go_simp; all_goals first | rfl | exact ⟨rfl, rfl, rfl, rfl, rfl, rfl⟩⟩) ?_
        try simp only [Act.put, List.setIfInBounds_toArray, List.set_cons_zero, List.set_cons_succ]
        refine wpAnyL_take (i := 7) (v := (.slice (some ⟨gN, oN, none⟩) t.nums.length nc)) (by simp only [List.getElem?_toArray, List.getElem?_cons_succ, List.getElem?_cons_zero]; rfl) (by kernel_rfl) (by kernel_rfl) (by kernel_rfl) (by kernel_rfl) (by exact fun _ _ _ h => h) (Or.inl ⟨by rfl, by intro W hSw; have x0 := show W.cell? ⟨w.heap.size, 4, none⟩ = some (.slice (some ⟨gN, oN, none⟩) t.nums.length nc) from hSw.1.cell 4; go_simp; all_goals first | rfl | exact ⟨rfl, rfl, rfl, rfl, rfl, rfl⟩⟩) (by assumption) ?_
        try simp only [Act.put, List.setIfInBounds_toArray, List.set_cons_zero, List.set_cons_succ]
        refine wpAnyL_take (i := 8) (v := (.pointer (some ⟨gN, oN + 1, none⟩))) (by simp only [List.getElem?_toArray, List.getElem?_cons_succ, List.getElem?_cons_zero]; rfl) (by kernel_rfl) (by kernel_rfl) (by kernel_rfl) (by kernel_rfl) (by exact fun _ _ _ h => h) (Or.inl ⟨by rfl, by intro W hSw; have x0 := HNL.out; go_simp; all_goals first | rfl | exact ⟨rfl, rfl, rfl, rfl, rfl, rfl⟩⟩) (by assumption) ?_
        try simp only [Act.put, List.setIfInBounds_toArray, List.set_cons_zero, List.set_cons_succ]
        refine wpAnyL_take (i := 9) (v := (.int .u32 y)) (by simp only [List.getElem?_toArray, List.getElem?_cons_succ, List.getElem?_cons_zero]; rfl) (by kernel_rfl) (by kernel_rfl) (by kernel_rfl) (by kernel_rfl) (by exact fun _ _ _ h => h) (Or.inl ⟨by rfl, by intro W hSw; have x0 := (HU.out W hSw.2).2.1; go_simp; all_goals first | rfl | exact ⟨rfl, rfl, rfl, rfl, rfl, rfl⟩⟩) (by assumption) ?_
        try simp only [Act.put, List.setIfInBounds_toArray, List.set_cons_zero, List.set_cons_succ]
        refine wpAnyL_easy (i := 11) (v := (.pointer (some ⟨w.heap.size, 4, none⟩))) (by simp only [List.getElem?_toArray, List.getElem?_cons_succ, List.getElem?_cons_zero]; rfl) (by kernel_rfl) (by kernel_rfl) (by kernel_rfl) (by exact fun _ _ _ h => h) (Or.inl ⟨by rfl, by intro W _; go_simp; all_goals first | rfl | exact ⟨rfl, rfl, rfl, rfl, rfl, rfl⟩⟩) ?_
        try simp only [Act.put, List.setIfInBounds_toArray, List.set_cons_zero, List.set_cons_succ]
        refine wpAnyL_take (i := 12) (v := (.slice (some ⟨gN, oN, none⟩) t.nums.length nc)) (by simp only [List.getElem?_toArray, List.getElem?_cons_succ, List.getElem?_cons_zero]; rfl) (by kernel_rfl) (by kernel_rfl) (by kernel_rfl) (by kernel_rfl) (by exact fun _ _ _ h => h) (Or.inl ⟨by rfl, by intro W hSw; have x0 := show W.cell? ⟨w.heap.size, 4, none⟩ = some (.slice (some ⟨gN, oN, none⟩) t.nums.length nc) from hSw.1.cell 4; go_simp; all_goals first | rfl | exact ⟨rfl, rfl, rfl, rfl, rfl, rfl⟩⟩) (by assumption) ?_
        try simp only [Act.put, List.setIfInBounds_toArray, List.set_cons_zero, List.set_cons_succ]
        refine wpAnyL_take (i := 13) (v := (.pointer (some ⟨gN, oN + 2, none⟩))) (by simp only [List.getElem?_toArray, List.getElem?_cons_succ, List.getElem?_cons_zero]; rfl) (by kernel_rfl) (by kernel_rfl) (by kernel_rfl) (by kernel_rfl) (by exact fun _ _ _ h => h) (Or.inl ⟨by rfl, by intro W hSw; have x0 := HNL.out; go_simp; all_goals first | rfl | exact ⟨rfl, rfl, rfl, rfl, rfl, rfl⟩⟩) (by assumption) ?_
        try simp only [Act.put, List.setIfInBounds_toArray, List.set_cons_zero, List.set_cons_succ]
        refine wpAnyL_take (i := 14) (v := (.int .u32 z)) (by simp only [List.getElem?_toArray, List.getElem?_cons_succ, List.getElem?_cons_zero]; rfl) (by kernel_rfl) (by kernel_rfl) (by kernel_rfl) (by kernel_rfl) (by exact fun _ _ _ h => h) (Or.inl ⟨by rfl, by intro W hSw; have x0 := (HU.out W hSw.2).2.2; go_simp; all_goals first | rfl | exact ⟨rfl, rfl, rfl, rfl, rfl, rfl⟩⟩) (by assumption) ?_
        try simp only [Act.put, List.setIfInBounds_toArray, List.set_cons_zero, List.set_cons_succ]
        have BD := Lib.hid (show Below w5.heap.size w5 w5.drew from Below.drew (Below.refl _ _))
        have PD := Lib.hid (Pw5.out.below BD.out)
        have RD := Lib.hid (Rw5.out.more BD.out)
        clear hHeld
        generalize w5.drew = w3 at *
        refine wpAnyL_ready (rs := [5]) (by kernel_rfl) (by simp) ?_
        refine AllReadyL.cons (by simp only [List.getElem?_toArray, List.getElem?_cons_succ, List.getElem?_cons_zero]; rfl) (fun K hK => ?_) AllReadyL.nil
        go_simp
        refine (rFour_any (base := base) (x) _ PD.out.buf PD.out.size hx0 hx1 (by have := HLEN.out; have := HTX.out; have := HSZ.out; simp [fourB_len, atomB_len]; omega)).mono ?_
        rintro e w6 ⟨vw6, rfl, hres⟩
        have Pw6 := Lib.hid (PD.out.step hres)
        have Rw6 := Lib.hid (RD.out.trans HVW.out hres)
        clear hres hHeld
        refine hK.out _ _ (⟨Pw6.out.box, Pw6.out.tm⟩) (fun hHeld => ?_)
        try simp only [Act.put, List.setIfInBounds_toArray, List.set_cons_zero, List.set_cons_succ]
        refine wpAnyL_ready (rs := [10]) (by kernel_rfl) (by simp) ?_
        refine AllReadyL.cons (by simp only [List.getElem?_toArray, List.getElem?_cons_succ, List.getElem?_cons_zero]; rfl) (fun K hK => ?_) AllReadyL.nil
        go_simp
        refine (rFour_any (base := base) (y) _ Pw6.out.buf Pw6.out.size hy0 hy1 (by have := HLEN.out; have := HTX.out; have := HSZ.out; simp [fourB_len, atomB_len]; omega)).mono ?_
        rintro e w7 ⟨vw7, rfl, hres⟩
        have Pw7 := Lib.hid (Pw6.out.step hres)
        have Rw7 := Lib.hid (Rw6.out.trans HVW.out hres)
        clear hres hHeld
        refine hK.out _ _ (⟨Pw7.out.box, Pw7.out.tm⟩) (fun hHeld => ?_)
        try simp only [Act.put, List.setIfInBounds_toArray, List.set_cons_zero, List.set_cons_succ]
        refine wpAnyL_ready (rs := [15]) (by kernel_rfl) (by simp) ?_
        refine AllReadyL.cons (by simp only [List.getElem?_toArray, List.getElem?_cons_succ, List.getElem?_cons_zero]; rfl) (fun K hK => ?_) AllReadyL.nil
        go_simp
        refine (rFour_any (base := base) (z) _ Pw7.out.buf Pw7.out.size hz0 hz1 (by have := HLEN.out; have := HTX.out; have := HSZ.out; simp [fourB_len, atomB_len]; omega)).mono ?_
        rintro e w8 ⟨vw8, rfl, hres⟩
        have Pw8 := Lib.hid (Pw7.out.step hres)
        have Rw8 := Lib.hid (Rw7.out.trans HVW.out hres)
        clear hres hHeld
        refine hK.out _ _ (⟨Pw8.out.box, Pw8.out.tm⟩) (fun hHeld => ?_)
        try simp only [Act.put, List.setIfInBounds_toArray, List.set_cons_zero, List.set_cons_succ]
        refine wpAnyL_easy (i := 16) (v := vw8) (by simp only [List.getElem?_toArray, List.getElem?_cons_succ, List.getElem?_cons_zero]; rfl) (by kernel_rfl) (by kernel_rfl) (by kernel_rfl) (by exact fun _ _ _ h => h) (Or.inl ⟨by rfl, by intro W _; go_simp; all_goals first | rfl | exact ⟨rfl, rfl, rfl, rfl, rfl, rfl⟩⟩) ?_
        try simp only [Act.put, List.setIfInBounds_toArray, List.set_cons_zero, List.set_cons_succ]
        refine wpAnyL_done (by kernel_rfl) ?_ _
        go_wp2
        go_ret
        refine ⟨_, rfl, ?_⟩
        rw [HENC.out, EQ.out, HNA.out]
        have hx := Rw8.out
        simp only [encTL, List.append_nil, List.append_assoc, List.cons_append, List.nil_append] at hx ⊢
        exact hx
      by_cases hk : t.kind = 4
      · have HNA := Lib.hid (show t.args = [] from HLF.out (by omega))
        have qk1 : (t.kind == 1) = false := beq_eq_false_iff_ne.2 (by omega)
        have qk2 : (t.kind == 2) = false := beq_eq_false_iff_ne.2 (by omega)
        have qk3 : (t.kind == 3) = false := beq_eq_false_iff_ne.2 (by omega)
        have qk4 : (t.kind == 4) = true := beq_iff_eq.2 hk
        have hnl : t.nums.length = 2 := HN4.out hk
        have HNL := Lib.hid hnl
        obtain ⟨gN, oN, x, y, rfl, -, hxy, hx0, hx1, hy0, hy1, -, -⟩ := nums_two HNU.out hnl
        have HU := Lib.hid (fun W (h : TmAt S t [.int .i64 t.kind, .int .i64 t.int, .string t.text, .int .u32 t.cr, .slice (some ⟨gN, oN, none⟩) t.nums.length nc, .slice a t.args.length cap] W) => TmAt.num2 h hxy)
        have EQ := Lib.hid (show headB t.kind t.int t.text t.cr t.nums t.args.length = [88] ++ atomB t.text ++ fourB x ++ fourB y ++ fourB t.cr from by
          unfold headB
          rw [if_neg (by omega), if_neg (by omega), if_neg (by omega), if_neg (by omega), if_neg (by omega), if_pos hk, hxy]
          rfl)
        clear hk hxy hnl
        have hc0 := HPT.out.c0
        have hc1 := HPT.out.c1
        go_upto_region 14 with (fail)
        go_wp2
        refine wp_region_L (S := fun X => Cells X w.heap.size 35 [.int .i64 t.kind, .int .i64 t.int, .string t.text, .int .u32 t.cr, .slice (some ⟨gN, oN, none⟩) t.nums.length nc, .slice a t.args.length cap] ∧ TmAt S t [.int .i64 t.kind, .int .i64 t.int, .string t.text, .int .u32 t.cr, .slice (some ⟨gN, oN, none⟩) t.nums.length nc, .slice a t.args.length cap] X) (F := []) (by kernel_rfl) (⟨P1.out.box.below (Below.drew (Below.refl _ _)), P1.out.tm.below (Below.drew (Below.refl _ _))⟩) (fun hHeld => ?_)
        refine wpAnyL_easy (i := 0) (v := (.slice a0 l.length c0)) (by simp only [List.getElem?_toArray, List.getElem?_cons_succ, List.getElem?_cons_zero]; rfl) (by kernel_rfl) (by kernel_rfl) (by kernel_rfl) (by exact fun _ _ _ h => h) (Or.inl ⟨by rfl, by intro W _; go_simp; all_goals first | rfl | exact ⟨rfl, rfl, rfl, rfl, rfl, rfl⟩⟩) ?_
        try simp only [Act.put, List.setIfInBounds_toArray, List.set_cons_zero, List.set_cons_succ]
        refine wpAnyL_easy (i := 3) (v := (.pointer (some ⟨w.heap.size, 2, none⟩))) (by simp only [List.getElem?_toArray, List.getElem?_cons_succ, List.getElem?_cons_zero]; rfl) (by kernel_rfl) (by kernel_rfl) (by kernel_rfl) (by exact fun _ _ _ h => h) (Or.inl ⟨by rfl, by intro W _; go_simp; all_goals first | rfl | exact ⟨rfl, rfl, rfl, rfl, rfl, rfl⟩⟩) ?_
        try simp only [Act.put, List.setIfInBounds_toArray, List.set_cons_zero, List.set_cons_succ]
        refine wpAnyL_take (i := 4) (v := (.string t.text)) (by simp only [List.getElem?_toArray, List.getElem?_cons_succ, List.getElem?_cons_zero]; rfl) (by kernel_rfl) (by kernel_rfl) (by kernel_rfl) (by kernel_rfl) (by exact fun _ _ _ h => h) (Or.inl ⟨by rfl, by intro W hSw; have x0 := show W.cell? ⟨w.heap.size, 2, none⟩ = some (.string t.text) from hSw.1.cell 2; go_simp; all_goals first | rfl | exact ⟨rfl, rfl, rfl, rfl, rfl, rfl⟩⟩) (by assumption) ?_
        try simp only [Act.put, List.setIfInBounds_toArray, List.set_cons_zero, List.set_cons_succ]
        have BD := Lib.hid (show Below w1.heap.size w1 w1.drew from Below.drew (Below.refl _ _))
        have PD := Lib.hid (P1.out.below BD.out)
        have RD := Lib.hid (R1.out.more BD.out)
        clear hHeld
        generalize w1.drew = w3 at *
        refine wpAnyL_ready (rs := [1]) (by kernel_rfl) (by simp) ?_
        refine AllReadyL.cons (by simp only [List.getElem?_toArray, List.getElem?_cons_succ, List.getElem?_cons_zero]; rfl) (fun K hK => ?_) AllReadyL.nil
        go_simp
        have HB := Lib.hid ((Below.refl w3.heap.size w3).alloc (Nat.le_refl _) (.cells #[.int .u8 88] 5 (0, 0)))
        have HD := Lib.hid (show RSl (.slice (some ⟨w3.heap.size, 0, none⟩) 1 1) [88] (w3.alloc (.cells #[.int .u8 88] 5 (0, 0))) from by
          have h2 := RSl.lit w3 [88] (by simp [maxLen])
          have e : (bytesV [88]).toArray = #[.int .u8 88] := by
            rfl
          rw [e] at h2
          exact h2)
        have PB := Lib.hid (PD.out.below HB.out)
        have RB := Lib.hid (RD.out.more HB.out)
        obtain ⟨a', n', c', w', hr, hres⟩ := OutR.app PB.out.buf HD.out (by have := HLEN.out; simp; omega) PB.out.size
        have P2 := Lib.hid (PB.out.step hres)
        have R2 := Lib.hid (RB.out.trans HVW.out hres)
        have HR := Lib.hid hr
        clear hr hres
        refine hK.out _ _ (⟨PB.out.box, PB.out.tm⟩) (fun hHeld => ?_)
        try simp only [Act.put, List.setIfInBounds_toArray, List.set_cons_zero, List.set_cons_succ]
        clear hHeld
        refine wpAnyL_ready (rs := [2]) (by kernel_rfl) (by simp) ?_
        refine AllReadyL.cons (by simp only [List.getElem?_toArray, List.getElem?_cons_succ, List.getElem?_cons_zero]; rfl) (fun K hK => ?_) AllReadyL.nil
        refine step_app_eq (by rfl) _ _ _ _ (by rfl) _ _ (.slice a' n' c') w' (by rfl) (by rfl) HR.out ?_
        refine hK.out _ _ (⟨P2.out.box, P2.out.tm⟩) (fun hHeld => ?_)
        try simp only [Act.put, List.setIfInBounds_toArray, List.set_cons_zero, List.set_cons_succ]
        clear HB HR HD PB RB
        refine wpAnyL_ready (rs := [5]) (by kernel_rfl) (by simp) ?_
        refine AllReadyL.cons (by simp only [List.getElem?_toArray, List.getElem?_cons_succ, List.getElem?_cons_zero]; rfl) (fun K hK => ?_) AllReadyL.nil
        go_simp
        refine (rName_any (base := base) t.text _ P2.out.buf P2.out.size HTX.out (by have := HLEN.out; have := HTX.out; have := HSZ.out; simp [fourB_len, atomB_len]; omega)).mono ?_
        rintro e w4 ⟨vw4, rfl, hres⟩
        have Pw4 := Lib.hid (P2.out.step hres)
        have Rw4 := Lib.hid (R2.out.trans HVW.out hres)
        clear hres hHeld
        refine hK.out _ _ (⟨Pw4.out.box, Pw4.out.tm⟩) (fun hHeld => ?_)
        try simp only [Act.put, List.setIfInBounds_toArray, List.set_cons_zero, List.set_cons_succ]
        refine wpAnyL_easy (i := 6) (v := vw4) (by simp only [List.getElem?_toArray, List.getElem?_cons_succ, List.getElem?_cons_zero]; rfl) (by kernel_rfl) (by kernel_rfl) (by kernel_rfl) (by exact fun _ _ _ h => h) (Or.inl ⟨by rfl, by intro W _; go_simp; all_goals first | rfl | exact ⟨rfl, rfl, rfl, rfl, rfl, rfl⟩⟩) ?_
        try simp only [Act.put, List.setIfInBounds_toArray, List.set_cons_zero, List.set_cons_succ]
        refine wpAnyL_done (by kernel_rfl) ?_ _
        go_wp2
        refine wp_region_L (S := fun X => Cells X w.heap.size 35 [.int .i64 t.kind, .int .i64 t.int, .string t.text, .int .u32 t.cr, .slice (some ⟨gN, oN, none⟩) t.nums.length nc, .slice a t.args.length cap] ∧ TmAt S t [.int .i64 t.kind, .int .i64 t.int, .string t.text, .int .u32 t.cr, .slice (some ⟨gN, oN, none⟩) t.nums.length nc, .slice a t.args.length cap] X) (F := []) (by kernel_rfl) (⟨Pw4.out.box.below (Below.drew (Below.refl _ _)), Pw4.out.tm.below (Below.drew (Below.refl _ _))⟩) (fun hHeld => ?_)
        refine wpAnyL_easy (i := 0) (v := vw4) (by simp only [List.getElem?_toArray, List.getElem?_cons_succ, List.getElem?_cons_zero]; rfl) (by kernel_rfl) (by kernel_rfl) (by kernel_rfl) (by exact fun _ _ _ h => h) (Or.inl ⟨by rfl, by intro W _; go_simp; all_goals first | rfl | exact ⟨rfl, rfl, rfl, rfl, rfl, rfl⟩⟩) ?_
        try simp only [Act.put, List.setIfInBounds_toArray, List.set_cons_zero, List.set_cons_succ]
        refine wpAnyL_easy (i := 1) (v := (.pointer (some ⟨w.heap.size, 4, none⟩))) (by simp only [List.getElem?_toArray, List.getElem?_cons_succ, List.getElem?_cons_zero]; rfl) (by kernel_rfl) (by kernel_rfl) (by kernel_rfl) (by exact fun _ _ _ h => h) (Or.inl ⟨by rfl, by intro W _; go_simp; all_goals first | rfl | exact ⟨rfl, rfl, rfl, rfl, rfl, rfl⟩⟩) ?_
        try simp only [Act.put, List.setIfInBounds_toArray, List.set_cons_zero, List.set_cons_succ]
        refine wpAnyL_take (i := 2) (v := (.slice (some ⟨gN, oN, none⟩) t.nums.length nc)) (by simp only [List.getElem?_toArray, List.getElem?_cons_succ, List.getElem?_cons_zero]; rfl) (by kernel_rfl) (by kernel_rfl) (by kernel_rfl) (by kernel_rfl) (by exact fun _ _ _ h => h) (Or.inl ⟨by rfl, by intro W hSw; have x0 := show W.cell? ⟨w.heap.size, 4, none⟩ = some (.slice (some ⟨gN, oN, none⟩) t.nums.length nc) from hSw.1.cell 4; go_simp; all_goals first | rfl | exact ⟨rfl, rfl, rfl, rfl, rfl, rfl⟩⟩) (by assumption) ?_
        try simp only [Act.put, List.setIfInBounds_toArray, List.set_cons_zero, List.set_cons_succ]
        refine wpAnyL_take (i := 3) (v := (.pointer (some ⟨gN, oN, none⟩))) (by simp only [List.getElem?_toArray, List.getElem?_cons_succ, List.getElem?_cons_zero]; rfl) (by kernel_rfl) (by kernel_rfl) (by kernel_rfl) (by kernel_rfl) (by exact fun _ _ _ h => h) (Or.inl ⟨by rfl, by intro W hSw; have x0 := HNL.out; go_simp; all_goals first | rfl | exact ⟨rfl, rfl, rfl, rfl, rfl, rfl⟩⟩) (by assumption) ?_
        try simp only [Act.put, List.setIfInBounds_toArray, List.set_cons_zero, List.set_cons_succ]
        refine wpAnyL_take (i := 4) (v := (.int .u32 x)) (by simp only [List.getElem?_toArray, List.getElem?_cons_succ, List.getElem?_cons_zero]; rfl) (by kernel_rfl) (by kernel_rfl) (by kernel_rfl) (by kernel_rfl) (by exact fun _ _ _ h => h) (Or.inl ⟨by rfl, by intro W hSw; have x0 := (HU.out W hSw.2).1; go_simp; all_goals first | rfl | exact ⟨rfl, rfl, rfl, rfl, rfl, rfl⟩⟩) (by assumption) ?_
        try simp only [Act.put, List.setIfInBounds_toArray, List.set_cons_zero, List.set_cons_succ]
        refine wpAnyL_easy (i := 6) (v := (.pointer (some ⟨w.heap.size, 4, none⟩))) (by simp only [List.getElem?_toArray, List.getElem?_cons_succ, List.getElem?_cons_zero]; rfl) (by kernel_rfl) (by kernel_rfl) (by kernel_rfl) (by exact fun _ _ _ h => h) (Or.inl ⟨by rfl, by intro W _; go_simp; all_goals first | rfl | exact ⟨rfl, rfl, rfl, rfl, rfl, rfl⟩⟩) ?_
        try simp only [Act.put, List.setIfInBounds_toArray, List.set_cons_zero, List.set_cons_succ]
        refine wpAnyL_take (i := 7) (v := (.slice (some ⟨gN, oN, none⟩) t.nums.length nc)) (by simp only [List.getElem?_toArray, List.getElem?_cons_succ, List.getElem?_cons_zero]; rfl) (by kernel_rfl) (by kernel_rfl) (by kernel_rfl) (by kernel_rfl) (by exact fun _ _ _ h => h) (Or.inl ⟨by rfl, by intro W hSw; have x0 := show W.cell? ⟨w.heap.size, 4, none⟩ = some (.slice (some ⟨gN, oN, none⟩) t.nums.length nc) from hSw.1.cell 4; go_simp; all_goals first | rfl | exact ⟨rfl, rfl, rfl, rfl, rfl, rfl⟩⟩) (by assumption) ?_
        try simp only [Act.put, List.setIfInBounds_toArray, List.set_cons_zero, List.set_cons_succ]
        refine wpAnyL_take (i := 8) (v := (.pointer (some ⟨gN, oN + 1, none⟩))) (by simp only [List.getElem?_toArray, List.getElem?_cons_succ, List.getElem?_cons_zero]; rfl) (by kernel_rfl) (by kernel_rfl) (by kernel_rfl) (by kernel_rfl) (by exact fun _ _ _ h => h) (Or.inl ⟨by rfl, by intro W hSw; have x0 := HNL.out; go_simp; all_goals first | rfl | exact ⟨rfl, rfl, rfl, rfl, rfl, rfl⟩⟩) (by assumption) ?_
        try simp only [Act.put, List.setIfInBounds_toArray, List.set_cons_zero, List.set_cons_succ]
        refine wpAnyL_take (i := 9) (v := (.int .u32 y)) (by simp only [List.getElem?_toArray, List.getElem?_cons_succ, List.getElem?_cons_zero]; rfl) (by kernel_rfl) (by kernel_rfl) (by kernel_rfl) (by kernel_rfl) (by exact fun _ _ _ h => h) (Or.inl ⟨by rfl, by intro W hSw; have x0 := (HU.out W hSw.2).2; go_simp; all_goals first | rfl | exact ⟨rfl, rfl, rfl, rfl, rfl, rfl⟩⟩) (by assumption) ?_
        try simp only [Act.put, List.setIfInBounds_toArray, List.set_cons_zero, List.set_cons_succ]
        refine wpAnyL_easy (i := 11) (v := (.pointer (some ⟨w.heap.size, 3, none⟩))) (by simp only [List.getElem?_toArray, List.getElem?_cons_succ, List.getElem?_cons_zero]; rfl) (by kernel_rfl) (by kernel_rfl) (by kernel_rfl) (by exact fun _ _ _ h => h) (Or.inl ⟨by rfl, by intro W _; go_simp; all_goals first | rfl | exact ⟨rfl, rfl, rfl, rfl, rfl, rfl⟩⟩) ?_
        try simp only [Act.put, List.setIfInBounds_toArray, List.set_cons_zero, List.set_cons_succ]
        refine wpAnyL_take (i := 12) (v := (.int .u32 t.cr)) (by simp only [List.getElem?_toArray, List.getElem?_cons_succ, List.getElem?_cons_zero]; rfl) (by kernel_rfl) (by kernel_rfl) (by kernel_rfl) (by kernel_rfl) (by exact fun _ _ _ h => h) (Or.inl ⟨by rfl, by intro W hSw; have x0 := show W.cell? ⟨w.heap.size, 3, none⟩ = some (.int .u32 t.cr) from hSw.1.cell 3; go_simp; all_goals first | rfl | exact ⟨rfl, rfl, rfl, rfl, rfl, rfl⟩⟩) (by assumption) ?_
        try simp only [Act.put, List.setIfInBounds_toArray, List.set_cons_zero, List.set_cons_succ]
        have BD := Lib.hid (show Below w4.heap.size w4 w4.drew from Below.drew (Below.refl _ _))
        have PD := Lib.hid (Pw4.out.below BD.out)
        have RD := Lib.hid (Rw4.out.more BD.out)
        clear hHeld
        generalize w4.drew = w3 at *
        refine wpAnyL_ready (rs := [5]) (by kernel_rfl) (by simp) ?_
        refine AllReadyL.cons (by simp only [List.getElem?_toArray, List.getElem?_cons_succ, List.getElem?_cons_zero]; rfl) (fun K hK => ?_) AllReadyL.nil
        go_simp
        refine (rFour_any (base := base) (x) _ PD.out.buf PD.out.size hx0 hx1 (by have := HLEN.out; have := HTX.out; have := HSZ.out; simp [fourB_len, atomB_len]; omega)).mono ?_
        rintro e w6 ⟨vw6, rfl, hres⟩
        have Pw6 := Lib.hid (PD.out.step hres)
        have Rw6 := Lib.hid (RD.out.trans HVW.out hres)
        clear hres hHeld
        refine hK.out _ _ (⟨Pw6.out.box, Pw6.out.tm⟩) (fun hHeld => ?_)
        try simp only [Act.put, List.setIfInBounds_toArray, List.set_cons_zero, List.set_cons_succ]
        refine wpAnyL_ready (rs := [10]) (by kernel_rfl) (by simp) ?_
        refine AllReadyL.cons (by simp only [List.getElem?_toArray, List.getElem?_cons_succ, List.getElem?_cons_zero]; rfl) (fun K hK => ?_) AllReadyL.nil
        go_simp
        refine (rFour_any (base := base) (y) _ Pw6.out.buf Pw6.out.size hy0 hy1 (by have := HLEN.out; have := HTX.out; have := HSZ.out; simp [fourB_len, atomB_len]; omega)).mono ?_
        rintro e w7 ⟨vw7, rfl, hres⟩
        have Pw7 := Lib.hid (Pw6.out.step hres)
        have Rw7 := Lib.hid (Rw6.out.trans HVW.out hres)
        clear hres hHeld
        refine hK.out _ _ (⟨Pw7.out.box, Pw7.out.tm⟩) (fun hHeld => ?_)
        try simp only [Act.put, List.setIfInBounds_toArray, List.set_cons_zero, List.set_cons_succ]
        refine wpAnyL_ready (rs := [13]) (by kernel_rfl) (by simp) ?_
        refine AllReadyL.cons (by simp only [List.getElem?_toArray, List.getElem?_cons_succ, List.getElem?_cons_zero]; rfl) (fun K hK => ?_) AllReadyL.nil
        go_simp
        refine (rFour_any (base := base) (t.cr) _ Pw7.out.buf Pw7.out.size hc0 hc1 (by have := HLEN.out; have := HTX.out; have := HSZ.out; simp [fourB_len, atomB_len]; omega)).mono ?_
        rintro e w8 ⟨vw8, rfl, hres⟩
        have Pw8 := Lib.hid (Pw7.out.step hres)
        have Rw8 := Lib.hid (Rw7.out.trans HVW.out hres)
        clear hres hHeld
        refine hK.out _ _ (⟨Pw8.out.box, Pw8.out.tm⟩) (fun hHeld => ?_)
        try simp only [Act.put, List.setIfInBounds_toArray, List.set_cons_zero, List.set_cons_succ]
        refine wpAnyL_easy (i := 14) (v := vw8) (by simp only [List.getElem?_toArray, List.getElem?_cons_succ, List.getElem?_cons_zero]; rfl) (by kernel_rfl) (by kernel_rfl) (by kernel_rfl) (by exact fun _ _ _ h => h) (Or.inl ⟨by rfl, by intro W _; go_simp; all_goals first | rfl | exact ⟨rfl, rfl, rfl, rfl, rfl, rfl⟩⟩) ?_
        try simp only [Act.put, List.setIfInBounds_toArray, List.set_cons_zero, List.set_cons_succ]
        refine wpAnyL_done (by kernel_rfl) ?_ _
        go_wp2
        go_ret
        refine ⟨_, rfl, ?_⟩
        rw [HENC.out, EQ.out, HNA.out]
        have hx := Rw8.out
        simp only [encTL, List.append_nil, List.append_assoc, List.cons_append, List.nil_append] at hx ⊢
        exact hx
      by_cases hk : t.kind = 5
      · have qk1 : (t.kind == 1) = false := beq_eq_false_iff_ne.2 (by omega)
        have qk2 : (t.kind == 2) = false := beq_eq_false_iff_ne.2 (by omega)
        have qk3 : (t.kind == 3) = false := beq_eq_false_iff_ne.2 (by omega)
        have qk4 : (t.kind == 4) = false := beq_eq_false_iff_ne.2 (by omega)
        have qk5 : (t.kind == 5) = true := beq_iff_eq.2 hk
        have hL0 : (0 : Int) ≤ (t.args.length : Int) := by omega
        have hL1 : (t.args.length : Int) ≤ 100000000 := by have := HPN.out; have := HLEN.out; have := HSZ.out; omega
        by_cases hs : t.args.length < 256
        · have EQ := Lib.hid (show headB t.kind t.int t.text t.cr t.nums t.args.length = [104, UInt8.ofNat t.args.length] from by
            unfold headB
            rw [if_neg (by omega), if_neg (by omega), if_pos hk, if_pos hs])
          clear hk
          have hsi : (t.args.length : Int) ≤ 255 := by omega
          have hmod : (t.args.length : Int) % 256 = t.args.length := by omega
          have HB := Lib.hid ((Below.refl w1.heap.size w1).alloc (Nat.le_refl _) (.cells #[.int .u8 104, .int .u8 t.args.length] 5 (0, 0)))
          have HD := Lib.hid (show RSl (.slice (some ⟨w1.heap.size, 0, none⟩) 2 2) [104, UInt8.ofNat t.args.length] (w1.alloc (.cells #[.int .u8 104, .int .u8 t.args.length] 5 (0, 0))) from by
            have h2 := RSl.lit w1 [104, UInt8.ofNat t.args.length] (by simp [maxLen])
            have e : (bytesV [104, UInt8.ofNat t.args.length]).toArray = #[.int .u8 104, .int .u8 t.args.length] := by
              have q1 : byteV (UInt8.ofNat t.args.length) = .int .u8 t.args.length := byteV_of _ _ (by omega)
              simp only [bytesV, List.map_cons, List.map_nil, q1]
              rfl
            rw [e] at h2
            exact h2)
          have PB := Lib.hid (P1.out.below HB.out)
          have RB := Lib.hid (R1.out.more HB.out)
          obtain ⟨a', n', c', w', hr, hres⟩ := OutR.app PB.out.buf HD.out (by have := HLEN.out; simp; omega) PB.out.size
          have P2 := Lib.hid (PB.out.step hres)
          have R2 := Lib.hid (RB.out.trans HVW.out hres)
          have HR := Lib.hid hr
          clear hr hres
          clear HD PB RB
          go_wp2_with (at_builtin; refine stop ?_)
          refine Stopped.of ?_
          refine wp_app_eq rfl (.tmp 98) (.tmp 101) _ _ rfl _ _ (.slice a' n' c') w' rfl rfl HR.out ?_
          clear HB HR
          go_wp2
          go_meet
          case rel =>
            refine ⟨_, _, rfl, P2.out, ?_⟩
            rw [EQ.out]
            simpa only [List.append_assoc, List.cons_append, List.nil_append] using R2.out
        · have hsi : ¬ (t.args.length : Int) ≤ 255 := by omega
          have EQ := Lib.hid (show headB t.kind t.int t.text t.cr t.nums t.args.length = [105] ++ fourB (t.args.length : Int) from by
            unfold headB
            rw [if_neg (by omega), if_neg (by omega), if_pos hk, if_neg hs]
            rfl)
          clear hk hs
          have hmod : (t.args.length : Int) % 4294967296 = t.args.length := by omega
          have HB := Lib.hid ((Below.refl w1.heap.size w1).alloc (Nat.le_refl _) (.cells #[.int .u8 105] 5 (0, 0)))
          have HD := Lib.hid (show RSl (.slice (some ⟨w1.heap.size, 0, none⟩) 1 1) [105] (w1.alloc (.cells #[.int .u8 105] 5 (0, 0))) from by
            have h2 := RSl.lit w1 [105] (by simp [maxLen])
            have e : (bytesV [105]).toArray = #[.int .u8 105] := by
              rfl
            rw [e] at h2
            exact h2)
          have PB := Lib.hid (P1.out.below HB.out)
          have RB := Lib.hid (R1.out.more HB.out)
          obtain ⟨a', n', c', w', hr, hres⟩ := OutR.app PB.out.buf HD.out (by have := HLEN.out; simp; omega) PB.out.size
          have P2 := Lib.hid (PB.out.step hres)
          have R2 := Lib.hid (RB.out.trans HVW.out hres)
          have HR := Lib.hid hr
          clear hr hres
          clear HD PB RB
          go_wp2_with (at_builtin; refine stop ?_)
          refine Stopped.of ?_
          refine wp_app_eq rfl (.tmp 103) (.tmp 104) _ _ rfl _ _ (.slice a' n' c') w' rfl rfl HR.out ?_
          clear HB HR
          go_wp2_with fail
          refine (rFour_any (base := base) ((t.args.length : Int)) _ P2.out.buf P2.out.size hL0 (by omega) (by have := HLEN.out; have := HTX.out; have := HSZ.out; simp [fourB_len, atomB_len]; omega)).mono ?_
          rintro e w4 ⟨vw4, rfl, hres⟩
          have Pw4 := Lib.hid (P2.out.step hres)
          have Rw4 := Lib.hid (R2.out.trans HVW.out hres)
          clear hres
          go_wp2
          go_meet
          case rel =>
            refine ⟨_, _, rfl, Pw4.out, ?_⟩
            rw [EQ.out]
            simpa only [List.append_assoc, List.cons_append, List.nil_append] using Rw4.out
      by_cases hk : t.kind = 7
      · have qk1 : (t.kind == 1) = false := beq_eq_false_iff_ne.2 (by omega)
        have qk2 : (t.kind == 2) = false := beq_eq_false_iff_ne.2 (by omega)
        have qk3 : (t.kind == 3) = false := beq_eq_false_iff_ne.2 (by omega)
        have qk4 : (t.kind == 4) = false := beq_eq_false_iff_ne.2 (by omega)
        have qk5 : (t.kind == 5) = false := beq_eq_false_iff_ne.2 (by omega)
        have qk7 : (t.kind == 7) = true := beq_iff_eq.2 hk
        have hL0 : (0 : Int) ≤ (t.args.length : Int) := by omega
        have hL1 : (t.args.length : Int) ≤ 100000000 := by have := HPN.out; have := HLEN.out; have := HSZ.out; omega
        have hL2 : (2 : Int) ≤ (t.args.length : Int) := by have := HN7.out hk; omega
        have EQ := Lib.hid (show headB t.kind t.int t.text t.cr t.nums t.args.length = [108] ++ fourB ((t.args.length : Int) - 1) from by
          unfold headB
          rw [if_neg (by omega), if_neg (by omega), if_neg (by omega), if_neg (by omega), if_pos hk]
          rfl)
        clear hk
        have hmod : ((t.args.length : Int) - 1) % 4294967296 = (t.args.length : Int) - 1 := by omega
        have HB := Lib.hid ((Below.refl w1.heap.size w1).alloc (Nat.le_refl _) (.cells #[.int .u8 108] 5 (0, 0)))
        have HD := Lib.hid (show RSl (.slice (some ⟨w1.heap.size, 0, none⟩) 1 1) [108] (w1.alloc (.cells #[.int .u8 108] 5 (0, 0))) from by
          have h2 := RSl.lit w1 [108] (by simp [maxLen])
          have e : (bytesV [108]).toArray = #[.int .u8 108] := by
            rfl
          rw [e] at h2
          exact h2)
        have PB := Lib.hid (P1.out.below HB.out)
        have RB := Lib.hid (R1.out.more HB.out)
        obtain ⟨a', n', c', w', hr, hres⟩ := OutR.app PB.out.buf HD.out (by have := HLEN.out; simp; omega) PB.out.size
        have P2 := Lib.hid (PB.out.step hres)
        have R2 := Lib.hid (RB.out.trans HVW.out hres)
        have HR := Lib.hid hr
        clear hr hres
        clear HD PB RB
        go_wp2_with (at_builtin; refine stop ?_)
        refine Stopped.of ?_
        refine wp_app_eq rfl (.tmp 111) (.tmp 112) _ _ rfl _ _ (.slice a' n' c') w' rfl rfl HR.out ?_
        clear HB HR
        go_wp2_with fail
        refine (rFour_any (base := base) ((t.args.length : Int) - 1) _ P2.out.buf P2.out.size (by omega) (by omega) (by have := HLEN.out; have := HTX.out; have := HSZ.out; simp [fourB_len, atomB_len]; omega)).mono ?_
        rintro e w4 ⟨vw4, rfl, hres⟩
        have Pw4 := Lib.hid (P2.out.step hres)
        have Rw4 := Lib.hid (R2.out.trans HVW.out hres)
        clear hres
        go_wp2
        go_meet
        case rel =>
          refine ⟨_, _, rfl, Pw4.out, ?_⟩
          rw [EQ.out]
          simpa only [List.append_assoc, List.cons_append, List.nil_append] using Rw4.out
      have hk : t.kind = 6 := HK6.out (by omega) (by omega) (by omega) (by omega) (by omega) (by omega)
      have HNA := Lib.hid (show t.args = [] from HLF.out (by omega))
      have qk1 : (t.kind == 1) = false := beq_eq_false_iff_ne.2 (by omega)
      have qk2 : (t.kind == 2) = false := beq_eq_false_iff_ne.2 (by omega)
      have qk3 : (t.kind == 3) = false := beq_eq_false_iff_ne.2 (by omega)
      have qk4 : (t.kind == 4) = false := beq_eq_false_iff_ne.2 (by omega)
      have qk5 : (t.kind == 5) = false := beq_eq_false_iff_ne.2 (by omega)
      have qk7 : (t.kind == 7) = false := beq_eq_false_iff_ne.2 (by omega)
      have EQ := Lib.hid (show headB t.kind t.int t.text t.cr t.nums t.args.length = [106] from by
        unfold headB
        rw [if_neg (by omega), if_neg (by omega), if_neg (by omega), if_pos hk])
      clear hk
      have HB := Lib.hid ((Below.refl w1.heap.size w1).alloc (Nat.le_refl _) (.cells #[.int .u8 106] 5 (0, 0)))
      have HD := Lib.hid (show RSl (.slice (some ⟨w1.heap.size, 0, none⟩) 1 1) [106] (w1.alloc (.cells #[.int .u8 106] 5 (0, 0))) from by
        have h2 := RSl.lit w1 [106] (by simp [maxLen])
        have e : (bytesV [106]).toArray = #[.int .u8 106] := by
          rfl
        rw [e] at h2
        exact h2)
      have PB := Lib.hid (P1.out.below HB.out)
      have RB := Lib.hid (R1.out.more HB.out)
      obtain ⟨a', n', c', w', hr, hres⟩ := OutR.app PB.out.buf HD.out (by have := HLEN.out; simp; omega) PB.out.size
      have P2 := Lib.hid (PB.out.step hres)
      have R2 := Lib.hid (RB.out.trans HVW.out hres)
      have HR := Lib.hid hr
      clear hr hres
      clear HN7
      clear HD PB RB
      go_wp2_with (at_builtin; refine stop ?_)
      refine Stopped.of ?_
      refine wp_app_eq rfl (.tmp 12) (.tmp 13) _ _ rfl _ _ (.slice a' n' c') w' rfl rfl HR.out ?_
      clear HB HR
      go_wp2
      go_ret
      refine ⟨_, rfl, ?_⟩
      rw [HENC.out, EQ.out, HNA.out]
      have hx := R2.out
      simp only [encTL, List.append_nil, List.append_assoc, List.cons_append, List.nil_append] at hx ⊢
      exact hx
    case rest =>
      obtain ⟨v1, l1, rfl, hps, hor⟩ := hcut
      have PC := Lib.hid hps
      have RC := Lib.hid hor
      have HL1 := Lib.hid (show l1 = l ++ headB t.kind t.int t.text t.cr t.nums t.args.length from by
        have h1 := hps.buf
        have h2 := hor.buf
        exact BufIs.inj h1 h2)
      have HHL := Lib.hid (headB_len HPO.out.1)
      clear hps hor R1 P1
      go_wp2_with fail
      go_loopw [0, 6] (fun v i wr => ∃ (kk : Nat) (v' : Value) (lk : List UInt8), kk ≤ t.args.length ∧ i = .int .i64 kk ∧ v = v' ∧ PtT S base w.heap.size t [.int .i64 t.kind, .int .i64 t.int, .string t.text, .int .u32 t.cr, .slice na t.nums.length nc, .slice a t.args.length cap] lk v' wr ∧ OutR base (.slice a0 l.length c0) w lk v' wr ∧ lk ++ encTL (t.args.drop kk) = l ++ encT t ∧ lk.length + 290 * sizeTL (t.args.drop kk) ≤ 900000000) (fun _ i _ => t.args.length - (intOf i).toNat)
      case atStart =>
        refine ⟨0, _, l1, Nat.zero_le _, rfl, rfl, PC.out, by rw [HL1.out]; exact RC.out, ?_, ?_⟩
        · rw [List.drop_zero, HL1.out, HENC.out, List.append_assoc]
        · rw [List.drop_zero, HL1.out, List.length_append]; have := HLEN.out; have := HHL.out; have := HSZ.out; omega
      case round =>
        obtain ⟨kk, v', lk, hkk, rfl, rfl, hps, hor, heq, hlk⟩ := hrel
        have P4 := Lib.hid hps
        have R4 := Lib.hid hor
        have HEQ := Lib.hid heq
        have HLK := Lib.hid hlk
        clear hps hor heq hlk PC RC
        have m5 := P4.out.box.cell 5
        simp only [List.getElem?_cons_zero, List.getElem?_cons_succ] at m5
        by_cases hk : kk < t.args.length
        · have hki : (kk : Int) < (t.args.length : Int) := by omega
          have hk0 : (0 : Int) ≤ (kk : Int) := by omega
          have hkx : (kk : Int) ≤ 100000000 := by have := HPN.out; have := HLEN.out; have := HSZ.out; omega
          obtain ⟨g2, o2, vs2, hae, _, hcs, ht2⟩ := P4.out.tm.rowAt.get kk hk
          subst hae
          have HT4 := Lib.hid ht2
          obtain ⟨_, nv3, a3, cap3, rfl, hnn3, _⟩ := ht2.parts
          obtain ⟨na3, nc3, rfl, _, _⟩ := hnn3.slice
          have e0 := hcs 0 (by decide)
          have e1 := hcs 1 (by decide)
          have e2 := hcs 2 (by decide)
          have e3 := hcs 3 (by decide)
          have e4 := hcs 4 (by decide)
          have e5 := hcs 5 (by decide)
          simp only [List.getElem?_cons_zero, List.getElem?_cons_succ, ← Nat.add_assoc, Nat.add_zero] at e0 e1 e2 e3 e4 e5
          have HDR := Lib.hid (sizeTL_drop (l := t.args) kk hk)
          have HDE := Lib.hid (encTL_drop kk hk)
          have HCALL := Lib.hid (HIH.out S t.args[kk] _ lk _ _ (by have := Tm.arg_lt hk; have := HNN.out; omega) (okTL_at HPO.out.2 kk hk) (narrowL_get HNO.out.2 kk hk) HT4.out P4.out.lo P4.out.buf P4.out.size (by have := HLK.out; have := HDR.out; omega))
          have HL2 := Lib.hid (encT_len t.args[kk] (okTL_at HPO.out.2 kk hk))
          clear hcs ht2 hnn3
          go_wp2_with fail
          refine HCALL.out.mono ?_
          rintro e w5 ⟨v5, rfl, hres⟩
          have P5 := Lib.hid (P4.out.step hres)
          have R5 := Lib.hid (R4.out.trans HVW.out hres)
          clear hres e0 e1 e2 e3 e4 e5 m5 HCALL P4 R4
          go_wp2
          go_roundw
          case rel => exact ⟨kk + 1, _, _, by omega, by go_num, rfl, P5.out, R5.out, by rw [← HEQ.out, HDE.out, List.append_assoc], by rw [List.length_append]; have := HL2.out; have := HLK.out; have := HDR.out; omega⟩
          case measure => simp [intOf]; omega
        · have hki : ¬ (kk : Int) < (t.args.length : Int) := by omega
          have HE := Lib.hid (show lk = l ++ encT t from by rw [← HEQ.out, List.drop_eq_nil_of_le (by omega), encTL, List.append_nil])
          clear m5
          go_wp2
          go_ret
          exact ⟨_, rfl, by rw [← HE.out]; exact R4.out⟩
theorem rPart_any {base : Nat} (S : Nat → Prop) (t : Tm) (vs : List Value) (l : List UInt8) (bv : Value) (w : World) (hok : okT t) (hna : narrowT t) (ht : TmAt S t vs w) (hS : ∀ b, S b → b < base) (hbuf : BufIs base bv l w) (hB : base ≤ w.heap.size) (hl : l.length ≤ 1000) (hz : sizeT t ≤ 4096) :
    Calls Tryz.prog 55 #[bv, .agg vs.toArray] w fun e w' => ∃ v', e = .returned v' ∧ OutR base bv w (l ++ encT t) v' w' :=
  rPart_ind _ S t vs l bv w (Nat.le_refl _) hok hna ht hS hbuf hB (by omega)
end Go.Proofs.YtlahagabcnmdiaaGreatDoor
end
section
/- The reference of layer 4: Encode. -/
open Go Go.RowKit
namespace Go.Proofs.YtlahagabcnmdiaaGreatDoor
set_option linter.unusedVariables false
set_option linter.unusedSimpArgs false

mutual
theorem wideT_size : ∀ (t : Tm) (n : Nat), (wideT t n).1 < 0 → (wideT t n).2 = n + sizeT t
  | .mk k i s c ns al, n, h => by
    rw [wideT] at h ⊢
    rw [sizeT]
    split at h
    · dsimp only at h; omega
    · rename_i hw
      rw [if_neg hw, wideTL_size al _ h]; omega
theorem wideTL_size : ∀ (l : List Tm) (n : Nat), (wideTL l n).1 < 0 → (wideTL l n).2 = n + sizeTL l
  | [], n, h => by rw [wideTL, sizeTL]; rfl
  | t :: r, n, h => by
    rw [wideTL] at h ⊢
    rw [sizeTL]
    split at h
    · omega
    · rename_i hw
      have h1 := wideT_size t n (by omega)
      rw [if_neg hw, wideTL_size r _ h, h1]; omega
end
mutual
theorem wrT_stays : ∀ (t : Tm) (st : Wr), 0 ≤ st.wide → (wrT t st).wide = st.wide
  | .mk k i s c ns al, st, h => by
    have e : (st.head k i s c ns al.length).wide = st.wide := by
      unfold Wr.head
      have : decide (st.wide < 0) = false := by simp; omega
      simp [this]
    rw [wrT, wrL_stays al _ (by rw [e]; exact h), e]
theorem wrL_stays : ∀ (l : List Tm) (st : Wr), 0 ≤ st.wide → (wrL l st).wide = st.wide
  | [], st, _ => by rw [wrL]
  | t :: r, st, h => by rw [wrL, wrL_stays r _ (by rw [wrT_stays t st h]; exact h), wrT_stays t st h]
end
mutual
theorem wrT_first : ∀ (t : Tm) (st : Wr), st.wide = -1 → (wrT t st).wide = (wideT t st.part).1
  | .mk k i s c ns al, st, h => by
    rw [wrT, wideT]
    cases hw : wideI k i with
    | true =>
      have e : (st.head k i s c ns al.length).wide = st.part := by unfold Wr.head; simp [hw, h]
      rw [if_pos rfl, wrL_stays al _ (by rw [e]; omega), e]
    | false =>
      have e : (st.head k i s c ns al.length).wide = -1 := by unfold Wr.head; simp [hw, h]
      rw [if_neg (by decide), wrL_first al _ e]
      rfl
theorem wrL_first : ∀ (l : List Tm) (st : Wr), st.wide = -1 → (wrL l st).wide = (wideTL l st.part).1
  | [], st, h => by rw [wrL, wideTL]; exact h
  | t :: r, st, h => by
    have h1 := wrT_first t st h
    rw [wrL, wideTL]
    split
    · rename_i hw
      rw [wrL_stays r _ (by rw [h1]; exact hw), h1]
    · rename_i hw
      have h2 := wideT_bound t st.part
      have h3 : (wrT t st).wide = -1 := by rw [h1]; omega
      rw [wrL_first r _ h3, wrT_part, wideT_size t st.part (by omega)]
end
theorem bytesT_wide (t : Tm) : (bytesT t).wide = (wideT t 0).1 := wrT_first t ⟨[131], 0, -1⟩ rfl
theorem partS_len (t : Tm) (n : Int) : (partS t n).length ≤ 2 := by
  unfold partS
  split
  · simp
  · split
    · split <;> simp
    · split
      · have := @overL_len n (quoteS t.text).2; have := quoteS_len t.text; omega
      · split
        · have h1 := @overL_len n (nodeS t.text).2.2
          have h2 : (nodeS t.text).2.2.length ≤ 1 := by unfold nodeS; split <;> simp
          omega
        · simp
mutual
theorem walkS_len : ∀ (t : Tm) (n dm d : Nat), (walkS t n dm d).1.length ≤ 2
  | .mk k i s c ns al, n, dm, d => by
    rw [walkS]
    split
    · simp
    · split
      · simp
      · split
        · exact partS_len _ _
        · exact walkLS_len al _ _ _
theorem walkLS_len : ∀ (l : List Tm) (n dm d : Nat), (walkLS l n dm d).1.length ≤ 2
  | [], n, dm, d => by rw [walkLS]; simp
  | t :: r, n, dm, d => by
    rw [walkLS]
    split
    · exact walkS_len t n dm d
    · exact walkLS_len r _ _ d
end
theorem checkS_len (t : Tm) : (checkS t).length ≤ 2 := walkS_len t 0 0 1
theorem no04_any (at_ code : Int) (w : World) :
    Calls Tryz.prog 54 #[.int .i64 at_, .int .i64 code] w fun e w' => ∃ v, e = .returned v ∧ LinksIs w.heap.size v [⟨etfL, at_, code⟩] w' ∧ Below w.heap.size w w' := by
  go_enter Tryz.func54, Tryz.ntmps54
  go_wp2_with (go_at_call 16; refine (one_any _ _ _ _).mono ?_; rintro e w' ⟨rfl, rfl⟩)
  go_ret
  exact ⟨_, rfl, LinksIs.lit ⟨etfL, at_, code⟩ (Nat.le_refl _), (Below.refl _ _).alloc (Nat.le_refl _) _⟩
theorem over04_any (at_ : Int) (lv : Value) (k : Lk) (l : List Lk) (base : Nat) (w : World) (hlk : LinksIs base lv (k :: l) w) (hl : l.length ≤ 50) :
    Calls Tryz.prog 52 #[.int .i64 at_, lv] w fun e w' => ∃ v, e = .returned v ∧ LinksIs w.heap.size v (⟨etfL, at_, k.code⟩ :: k :: l) w' ∧ Below w.heap.size w w' := by
  have HO := Lib.hid (mOver_any etfL at_ k.code lv (k :: l) base w hlk (by simp; omega))
  obtain ⟨_, hn⟩ | ⟨g, c, rfl, hbg, hgw, hgc, hgm⟩ := hlk.shape
  · cases hn
  have c2 := hlk.cells 0 (by simp) 2 (by omega)
  simp only [lkV, List.getElem_cons_zero, List.getElem?_cons_zero, List.getElem?_cons_succ, Nat.zero_mul, Nat.zero_add] at c2
  have hlen : (0 : Int) < ((k :: l).length : Int) := by simp
  clear hlk
  go_enter Tryz.func52, Tryz.ntmps52
  go_wp2_with fail
  refine HO.out.mono ?_
  rintro e w1 ⟨v, rfl, h1, hb1⟩
  go_wp2
  go_ret
  exact ⟨_, rfl, h1, hb1⟩
/-- bytes and links -/
def RetBL (w : World) (r : List UInt8 × List Lk) (e : Ending) (w' : World) : Prop := ∃ bv lv, e = .returned (.tuple #[bv, lv]) ∧ BufIs w.heap.size bv r.1 w' ∧ LinksIs w.heap.size lv r.2 w' ∧ Below w.heap.size w w'
set_option maxHeartbeats 8000000 in
set_option maxRecDepth 100000 in
theorem encodeR_any (S : Nat → Prop) (t : Tm) (vs : List Value) (w : World) (ht : TmAt S t vs w) (hS : ∀ b, S b → b < w.heap.size) :
    Calls Tryz.prog 17 #[.agg vs.toArray] w (RetBL w (encS t)) := by
  have HT := Lib.hid ht
  have HS := Lib.hid hS
  obtain ⟨hp, nv, a, cap, rfl, hnn, -⟩ := ht.parts
  obtain ⟨na, nc, rfl, _, _⟩ := hnn.slice
  have HB1 := Lib.hid ((Below.refl w.heap.size w).alloc (Nat.le_refl _) (.cells #[.int .i64 t.kind, .int .i64 t.int, .string t.text, .int .u32 t.cr, .slice na t.nums.length nc, .slice a t.args.length cap] 35 (0, 0)))
  have M1 := Lib.hid (Cells.new w 35 [.int .i64 t.kind, .int .i64 t.int, .string t.text, .int .u32 t.cr, .slice na t.nums.length nc, .slice a t.args.length cap])
  have HT1 := Lib.hid (HT.out.below HB1.out)
  have HC := Lib.hid (checkR_any S t _ _ HT1.out (fun q hq => Nat.lt_of_lt_of_le (HS.out q hq) HB1.out.size))
  have m0 := M1.out.cell 0
  have m1 := M1.out.cell 1
  have m2 := M1.out.cell 2
  have m3 := M1.out.cell 3
  have m4 := M1.out.cell 4
  have m5 := M1.out.cell 5
  simp only [List.getElem?_cons_zero, List.getElem?_cons_succ] at m0 m1 m2 m3 m4 m5
  have hne : ∀ (a : Option Addr) (n c : Nat) (w : World), (binOp .neq 45 (.slice a n c) (.slice none 0 0)).run Tryz.prog w = .ok (.bool (!a.isNone)) w := fun a n c w => run_neq_slice_nil_any (P := Tryz.prog) w 45 112 a n c 0 0 Tryz.underlying45
  clear ht hS hp hnn
  go_enter Tryz.func17, Tryz.ntmps17
  go_wp2_with fail
  generalize w.alloc (.cells #[.int .i64 t.kind, .int .i64 t.int, .string t.text, .int .u32 t.cr, .slice na t.nums.length nc, .slice a t.args.length cap] 35) = w1 at *
  refine HC.out.mono ?_
  rintro e w2 ⟨lv, rfl, hlk, hnil, hb2⟩
  have HB2 := Lib.hid (HB1.out.trans (hb2.mono HB1.out.size))
  have M2 := Lib.hid (M1.out.below hb2)
  have HT2 := Lib.hid (HT1.out.below hb2)
  have HCL := Lib.hid (checkS_len t)
  have HBM := Lib.hid hb2
  clear m0 m1 m2 m3 m4 m5 hb2 M1 HT1 HC
  have HEN := Lib.hid (show encS t = match checkS t with
    | k :: r => ([], ⟨etfL, k.at_, k.code⟩ :: k :: r)
    | [] => if 0 ≤ (wideT t 0).1 then ([], [⟨etfL, (wideT t 0).1, 80⟩]) else if 65536 < (encT t).length + 1 then ([], [⟨etfL, 0, 4⟩]) else (131 :: encT t, []) by
    unfold encS
    rw [bytesT_wide, bytesT_b]
    rfl)
  cases hc : checkS t with
  | cons k r =>
    rw [hc] at hlk hnil
    have HR := Lib.hid (show encS t = ([], ⟨etfL, k.at_, k.code⟩ :: k :: r) by rw [HEN.out, hc])
    obtain ⟨_, hn⟩ | ⟨g, c, rfl, hbg, hgw, hgc, hgm⟩ := hlk.shape
    · cases hn
    have c1 := hlk.cells 0 (by simp) 1 (by omega)
    simp only [lkV, List.getElem_cons_zero, List.getElem?_cons_zero, List.getElem?_cons_succ, Nat.zero_mul, Nat.zero_add] at c1
    have hlen : (0 : Int) < ((k :: r).length : Int) := by simp
    have HO := Lib.hid (over04_any k.at_ _ k r _ w2 hlk (by have := HCL.out; rw [hc] at this; simp at this; omega))
    clear hlk hnil hc
    go_wp2_with fail
    refine HO.out.mono ?_
    rintro e w3 ⟨v, rfl, h1, hb3⟩
    have HL := Lib.hid (h1.base HB2.out.size)
    have HB3 := Lib.hid (HB2.out.trans (hb3.mono HB2.out.size))
    clear h1 hb3
    go_wp2
    go_ret2
    rw [HR.out]
    exact ⟨_, _, rfl, BufIs.nilS _ _, HL.out, HB3.out⟩
  | nil =>
    obtain rfl := hnil hc
    have HCK := Lib.hid (checkS_ok hc)
    have HR := Lib.hid (show encS t = if 0 ≤ (wideT t 0).1 then ([], [⟨etfL, (wideT t 0).1, 80⟩]) else if 65536 < (encT t).length + 1 then ([], [⟨etfL, 0, 4⟩]) else (131 :: encT t, []) by rw [HEN.out, hc])
    have HWD := Lib.hid (rWide_any S t _ _ HT2.out HCK.out.2)
    have HBD := Lib.hid (wideT_bound t 0)
    have HNR := Lib.hid (show (wideT t 0).1 < 0 → narrowT t from fun h => (bytesT_narrow t).1 (by rw [bytesT_wide]; exact h))
    have m0 := M2.out.cell 0
    have m1 := M2.out.cell 1
    have m2 := M2.out.cell 2
    have m3 := M2.out.cell 3
    have m4 := M2.out.cell 4
    have m5 := M2.out.cell 5
    simp only [List.getElem?_cons_zero, List.getElem?_cons_succ] at m0 m1 m2 m3 m4 m5
    clear hlk hnil hc HEN
    go_wp2_with fail
    refine HWD.out.mono ?_
    rintro e w3 ⟨rfl, hb3⟩
    have HB3 := Lib.hid (HB2.out.trans (hb3.mono HB2.out.size))
    have M3 := Lib.hid (M2.out.below hb3)
    have HT3 := Lib.hid (HT2.out.below hb3)
    clear m0 m1 m2 m3 m4 m5 hb3 M2 HT2 HWD
    generalize wideT t 0 = wd at *
    obtain ⟨wa, wn⟩ := wd
    dsimp only at *
    have hwa0 : -1 ≤ wa := HBD.out.1
    have hwa1 : wa ≤ 4096 := by have := HBD.out.2.1; have := HCK.out.2; omega
    by_cases hw : (0 : Int) ≤ wa
    · have HR2 := Lib.hid (show encS t = ([], [⟨etfL, wa, 80⟩]) by rw [HR.out, if_pos hw])
      have HNO := Lib.hid (no04_any wa 80 w3)
      go_wp2_with fail
      refine HNO.out.mono ?_
      rintro e w4 ⟨v, rfl, h1, hb4⟩
      have HL := Lib.hid (h1.base HB3.out.size)
      have HB4 := Lib.hid (HB3.out.trans (hb4.mono HB3.out.size))
      clear h1 hb4
      go_wp2
      go_ret2
      rw [HR2.out]
      exact ⟨_, _, rfl, BufIs.nilS _ _, HL.out, HB4.out⟩
    · have HR2 := Lib.hid (show encS t = if 65536 < (encT t).length + 1 then ([], [⟨etfL, 0, 4⟩]) else (131 :: encT t, []) by rw [HR.out, if_neg hw])
      have BL := Lib.hid ((Below.refl w3.heap.size w3).alloc (Nat.le_refl _) (.cells #[.int .u8 131] 5 (0, 0)))
      have HLT := Lib.hid (show BufIs w3.heap.size (.slice (some ⟨w3.heap.size, 0, none⟩) 1 1) [131] (w3.alloc (.cells #[.int .u8 131] 5 (0, 0))) from BufIs.lit (base := w3.heap.size) (w := w3) [131] (Nat.le_refl _) (by decide))
      have HB4 := Lib.hid (HB3.out.trans (BL.out.mono HB3.out.size))
      have M4 := Lib.hid (M3.out.below BL.out)
      have HP := Lib.hid (rPart_any S t _ [131] _ _ HCK.out.1 (HNR.out (by omega)) (HT3.out.below BL.out) (fun q hq => Nat.lt_of_lt_of_le (HS.out q hq) HB3.out.size) HLT.out BL.out.size (by decide) HCK.out.2)
      have m0 := M4.out.cell 0
      have m1 := M4.out.cell 1
      have m2 := M4.out.cell 2
      have m3 := M4.out.cell 3
      have m4 := M4.out.cell 4
      have m5 := M4.out.cell 5
      simp only [List.getElem?_cons_zero, List.getElem?_cons_succ] at m0 m1 m2 m3 m4 m5
      clear M3 HT3
      go_wp2_with fail
      refine HP.out.mono ?_
      rintro e w5 ⟨v5, rfl, hout⟩
      have HB5 := Lib.hid (HB4.out.trans (hout.keep.toBelow BL.out.size (fun q hq => (HLT.out.block hq).1) |>.mono HB3.out.size))
      have HBU := Lib.hid hout.buf
      obtain ⟨ba, bc, rfl⟩ := BufIs.form hout.buf
      have HEL := Lib.hid (show ([131] ++ encT t).length = (encT t).length + 1 by simp)
      have HE9 := Lib.hid (encT_len t HCK.out.1)
      generalize hln : ([131] ++ encT t).length = ln at *
      have HLN := Lib.hid hln
      have hl1 : (ln : Int) ≤ 2000000 := by have := HE9.out; have := HCK.out.2; have := HEL.out; omega
      clear hout hln m0 m1 m2 m3 m4 m5 HP M4
      by_cases hlong : 65536 < ln
      · have hli : (65536 : Int) < (ln : Int) := by omega
        have HR3 := Lib.hid (show encS t = ([], [⟨etfL, 0, 4⟩]) by rw [HR2.out, if_pos (by have := HEL.out; omega)])
        have HNO := Lib.hid (no04_any 0 4 w5)
        go_wp2_with fail
        refine HNO.out.mono ?_
        rintro e w6 ⟨v, rfl, h1, hb6⟩
        have HL := Lib.hid (h1.base HB5.out.size)
        have HB6 := Lib.hid (HB5.out.trans (hb6.mono HB5.out.size))
        clear h1 hb6
        go_wp2
        go_ret2
        rw [HR3.out]
        exact ⟨_, _, rfl, BufIs.nilS _ _, HL.out, HB6.out⟩
      · have hli : ¬ (65536 : Int) < (ln : Int) := by omega
        have HR3 := Lib.hid (show encS t = (131 :: encT t, []) by rw [HR2.out, if_neg (by have := HEL.out; omega)])
        have HF := Lib.hid (show BufIs w.heap.size (.slice ba ln bc) (131 :: encT t) w5 from HBU.out.base HB3.out.size)
        go_wp2
        go_ret2
        rw [HR3.out]
        exact ⟨_, _, rfl, HF.out, LinksIs.nil _ _, HB5.out⟩
end Go.Proofs.YtlahagabcnmdiaaGreatDoor
end
section
/- heddlelaw04: EtfEncodes. -/
open Go Go.RowKit
namespace Go.Proofs.YtlahagabcnmdiaaGreatDoor
set_option linter.unusedVariables false
set_option linter.unusedSimpArgs false

theorem refused_same (ev : Value) (l : List Lk) (lv : Value) (base : Nat) (w : World) (her : ErrIs w ev l) (h1 : l.length ≤ 16) (hlk : LinksIs base lv l w) (hE : ErrT w) :
    Calls Tryz.prog 15 #[ev, lv] w fun e w' => e = .returned (.bool true) ∧ Below w.heap.size w w' :=
  (refused_links ev l l lv base w her h1 h1 hlk hE).mono fun e w' h => ⟨by rw [h.1, decide_eq_true rfl], h.2⟩
theorem encS_len (t : Tm) : (encS t).2.length ≤ 3 := by
  have h := checkS_len t
  unfold encS
  cases hc : checkS t with
  | cons k r => rw [hc] at h; simp at h ⊢; omega
  | nil =>
    dsimp only
    split
    · simp
    · split <;> simp
set_option maxHeartbeats 16000000 in
set_option maxRecDepth 100000 in
theorem etfEncodes_any (S : Nat → Prop) (t : Tm) (vs : List Value) (w : World) (ht : TmAt S t vs w) (hS : ∀ q, S q → q < w.heap.size) (hG : Gt w) :
    Calls Tryz.prog 5 #[.agg vs.toArray] w fun e w' => e = .returned (.bool true) ∧ Below w.heap.size w w' := by
  have HS := Lib.hid hS
  have HG := Lib.hid hG
  have HT := Lib.hid ht
  have HLN := Lib.hid (encS_len t)
  obtain ⟨hp, nv, a, cap, rfl, hnn, -⟩ := ht.parts
  obtain ⟨na, nc, rfl, _, _⟩ := hnn.slice
  have HB1 := Lib.hid ((Below.refl w.heap.size w).alloc (Nat.le_refl _) (.cells #[.int .i64 t.kind, .int .i64 t.int, .string t.text, .int .u32 t.cr, .slice na t.nums.length nc, .slice a t.args.length cap] 35 (0, 0)))
  have M1 := Lib.hid (Cells.new w 35 [.int .i64 t.kind, .int .i64 t.int, .string t.text, .int .u32 t.cr, .slice na t.nums.length nc, .slice a t.args.length cap])
  have HT1 := Lib.hid (HT.out.below HB1.out)
  have HE1 := Lib.hid (encode_any S t _ _ HT1.out (fun q hq => Nat.lt_of_lt_of_le (HS.out q hq) HB1.out.size) (HG.out.below HB1.out))
  have HAW := Lib.hid (fun W h => awake_any W h)
  have m0 := M1.out.cell 0
  have m1 := M1.out.cell 1
  have m2 := M1.out.cell 2
  have m3 := M1.out.cell 3
  have m4 := M1.out.cell 4
  have m5 := M1.out.cell 5
  simp only [List.getElem?_cons_zero, List.getElem?_cons_succ] at m0 m1 m2 m3 m4 m5
  clear ht hS hG hp hnn
  go_enter Tryz.func5, Tryz.ntmps5
  go_wp2_with fail
  generalize w.alloc (.cells #[.int .i64 t.kind, .int .i64 t.int, .string t.text, .int .u32 t.cr, .slice na t.nums.length nc, .slice a t.args.length cap] 35) = w1 at *
  refine HE1.out.mono ?_
  rintro e w2 ⟨bv1, ev1, rfl, hbuf1, her1, hb2⟩
  have HB2 := Lib.hid (HB1.out.trans (hb2.mono HB1.out.size))
  have M2 := Lib.hid (M1.out.below hb2)
  have HT2 := Lib.hid (HT1.out.below hb2)
  have HU2 := Lib.hid hbuf1
  have HR2 := Lib.hid her1
  have HE2 := Lib.hid (encodeR_any S t _ _ HT2.out (fun q hq => Nat.lt_of_lt_of_le (HS.out q hq) HB2.out.size))
  clear m0 m1 m2 m3 m4 m5 hbuf1 her1 hb2 M1 HE1 HT1
  have m0 := M2.out.cell 0
  have m1 := M2.out.cell 1
  have m2 := M2.out.cell 2
  have m3 := M2.out.cell 3
  have m4 := M2.out.cell 4
  have m5 := M2.out.cell 5
  simp only [List.getElem?_cons_zero, List.getElem?_cons_succ] at m0 m1 m2 m3 m4 m5
  go_wp2_with fail
  refine HE2.out.mono ?_
  rintro e w3 ⟨bv2, lv2, rfl, hbuf2, hlk2, hb3⟩
  have HB3 := Lib.hid (HB2.out.trans (hb3.mono HB2.out.size))
  have M3 := Lib.hid (M2.out.below hb3)
  have HT3 := Lib.hid (HT2.out.below hb3)
  have HU3 := Lib.hid (HU2.out.below hb3 (Nat.le_refl _))
  have HR3 := Lib.hid (ErrIs.below hb3 HR2.out)
  have HV3 := Lib.hid hbuf2
  have HK3 := Lib.hid hlk2
  have HE3 := Lib.hid (length_any S t _ _ HT3.out (fun q hq => Nat.lt_of_lt_of_le (HS.out q hq) HB3.out.size) (HG.out.below HB3.out))
  clear m0 m1 m2 m3 m4 m5 hbuf2 hlk2 hb3 M2 HE2 HT2 HU2 HR2
  have m0 := M3.out.cell 0
  have m1 := M3.out.cell 1
  have m2 := M3.out.cell 2
  have m3 := M3.out.cell 3
  have m4 := M3.out.cell 4
  have m5 := M3.out.cell 5
  simp only [List.getElem?_cons_zero, List.getElem?_cons_succ] at m0 m1 m2 m3 m4 m5
  go_wp2_with fail
  refine HE3.out.mono ?_
  rintro e w4 ⟨ev4, rfl, her4, hb4⟩
  have HB4 := Lib.hid (HB3.out.trans (hb4.mono HB3.out.size))
  have HU4 := Lib.hid (HU3.out.below hb4 (Nat.le_refl _))
  have HR4 := Lib.hid (ErrIs.below hb4 HR3.out)
  have HV4 := Lib.hid (HV3.out.below hb4 (Nat.le_refl _))
  have HK4 := Lib.hid (HK3.out.below hb4 (Nat.le_refl _))
  have HQ4 := Lib.hid her4
  have hs1 := run_buf_string HU4.out
  have hs2 := run_buf_string HV4.out
  obtain ⟨ba, bc, rfl⟩ := BufIs.form HV4.out
  have HRF1 := Lib.hid (refused_same ev1 (encS t).2 lv2 _ w4 HR4.out (by have := HLN.out; omega) HK4.out (HG.out.below HB4.out).1)
  have HRF2 := Lib.hid (fun W (hb : Below w4.heap.size w4 W) => refused_same ev4 (encS t).2 lv2 _ W (ErrIs.below hb HQ4.out) (by have := HLN.out; omega) (HK4.out.below hb (Nat.le_refl _)) ((HG.out.below HB4.out).below hb).1)
  have HLB := Lib.hid (show (encS t).1.length ≤ 65536 from by
    rcases encS_cases t with ⟨_, e, _⟩ | ⟨_, _, e, _⟩ | ⟨_, _, _, e⟩ | ⟨_, _, h, e⟩
    · rw [e]; exact Nat.zero_le _
    · rw [e]; exact Nat.zero_le _
    · rw [e]; exact Nat.zero_le _
    · rw [e]; simpa using h)
  clear m0 m1 m2 m3 m4 m5 her4 hb4 M3 HE3 HT3 HU3 HR3 HV3 HK3
  generalize (encS t).1.length = el at *
  generalize (⟨(encS t).1.toArray⟩ : ByteArray) = str at *
  generalize (encS t).2 = ers at *
  have hel : (el : Int) ≤ 65536 := by have := HLB.out; omega
  go_wp2_with fail
  refine HRF1.out.mono ?_
  rintro e w5 ⟨rfl, hb5⟩
  have HX5 := Lib.hid hb5
  clear hb5 hs1 hs2
  go_wp2_with fail
  refine (HRF2.out _ HX5.out).mono ?_
  rintro e w6 ⟨rfl, hb6⟩
  have HB6 := Lib.hid (HB4.out.trans ((HX5.out.trans (hb6.mono HX5.out.size)).mono HB4.out.size))
  clear hb6
  go_wp2_with fail
  refine (HAW.out _ (HG.out.below HB6.out)).mono ?_
  rintro e w7 ⟨rfl, hb7⟩
  have HB7 := Lib.hid (HB6.out.trans (hb7.mono HB6.out.size))
  clear hb7
  go_wp2
  go_ret
  exact ⟨rfl, HB7.out⟩
end Go.Proofs.YtlahagabcnmdiaaGreatDoor
end
