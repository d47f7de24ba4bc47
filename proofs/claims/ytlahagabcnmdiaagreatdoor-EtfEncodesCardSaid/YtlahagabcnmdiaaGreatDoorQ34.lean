/- Texts laid together: EfA, EfB. -/
import Derived.Test.YtlahagabcnmdiaaGreatDoorQ21
section
/- The reference of layer 4: bytes handed on; four bytes, a name. -/
open Go Go.RowKit
namespace Go.Proofs.YtlahagabcnmdiaaGreatDoor
set_option linter.unusedVariables false
set_option linter.unusedSimpArgs false

/-- bytes handed on: v' is bv with more bytes, of one's own -/
structure OutR (base : Nat) (bv : Value) (w : World) (l : List UInt8) (v' : Value) (w' : World) : Prop where
  buf : BufIs base v' l w'
  keep : Keep (fun q => bv.ownBlock = some q) w w'
  own : ∀ q, v'.ownBlock = some q → bv.ownBlock = some q ∨ w.heap.size ≤ q
theorem OutR.trans {base : Nat} {bv v1 v2 : Value} {w w1 w2 : World} {l1 l2 : List UInt8} (hv : ∀ q, bv.ownBlock = some q → q < w.heap.size) (h1 : OutR base bv w l1 v1 w1) (h2 : OutR base v1 w1 l2 v2 w2) : OutR base bv w l2 v2 w2 :=
  ⟨h2.buf, h1.keep.trans h2.keep (fun q hq e => by
    rcases h1.own q e with e | e
    · exact e
    · omega), fun q hq => by
    rcases h2.own q hq with e | e
    · exact h1.own q e
    · exact .inr (Nat.le_trans h1.keep.size e)⟩
theorem OutR.below {base : Nat} {bv : Value} {w w' : World} {l : List UInt8} (h : BufIs base bv l w) (hb : Below w.heap.size w w') : OutR base bv w l bv w' :=
  ⟨h.below hb (Nat.le_refl _), keepB hb, fun q hq => .inl hq⟩
theorem OutR.more {base : Nat} {bv v1 : Value} {w w1 w2 : World} {l1 : List UInt8} (h1 : OutR base bv w l1 v1 w1) (hb : Below w1.heap.size w1 w2) : OutR base bv w l1 v1 w2 :=
  ⟨h1.buf.below hb (Nat.le_refl _), h1.keep.trans (keepB (S := fun _ => False) hb) (fun _ _ h => h.elim), h1.own⟩
theorem BufIs.form {base : Nat} {bv : Value} {l : List UInt8} {w : World} (h : BufIs base bv l w) : ∃ a c, bv = .slice a l.length c := by
  rcases h.shape with ⟨rfl, hn⟩ | ⟨g, c, rfl, _⟩
  · exact ⟨none, 0, by rw [hn]; rfl⟩
  · exact ⟨_, c, rfl⟩
/-- more bytes, laid behind a literal -/
theorem OutR.app {base : Nat} {bv dv : Value} {l d : List UInt8} {w : World} (h : BufIs base bv l w) (hd : RSl dv d w) (hl : l.length + d.length ≤ 140737488355328) (hB : base ≤ w.heap.size) :
    ∃ a' n' c' w', (Builtin.append_ #[40, 40] 40 #[bv, dv]).run Tryz.prog w = .ok (.slice a' n' c') w' ∧ OutR base bv w (l ++ d) (.slice a' n' c') w' := by
  obtain ⟨v', w', hr, h2, hg, hob⟩ := h.app2 hd hl hB
  obtain ⟨a', n', c', rfl⟩ : ∃ a n c, v' = .slice a n c := by
    rcases h2.shape with ⟨rfl, _⟩ | ⟨_, _, rfl, _⟩ <;> exact ⟨_, _, _, rfl⟩
  refine ⟨a', n', c', w', hr, h2, (Keep.refl _ w).grown hg (fun k hk _ => hk), fun q hq => ?_⟩
  rcases hob with e | e
  · rw [e] at hq; exact .inl hq
  · rw [e] at hq; cases hq; exact .inr (Nat.le_refl _)
theorem OutR.appStr {base : Nat} {bv : Value} {l : List UInt8} {w : World} (h : BufIs base bv l w) (s : ByteArray) (hl : l.length + s.size ≤ 140737488355328) (hB : base ≤ w.heap.size) :
    ∃ a' n' c' w', (Builtin.append_ #[40, 9] 40 #[bv, .string s]).run Tryz.prog w = .ok (.slice a' n' c') w' ∧ OutR base bv w (l ++ s.data.toList) (.slice a' n' c') w' := by
  obtain ⟨v', w', hr, h2, hg, hob⟩ := h.appStr s hl hB
  obtain ⟨a', n', c', rfl⟩ : ∃ a n c, v' = .slice a n c := by
    rcases h2.shape with ⟨rfl, _⟩ | ⟨_, _, rfl, _⟩ <;> exact ⟨_, _, _, rfl⟩
  refine ⟨a', n', c', w', hr, h2, (Keep.refl _ w).grown hg (fun k hk _ => hk), fun q hq => ?_⟩
  rcases hob with e | e
  · rw [e] at hq; exact .inl hq
  · rw [e] at hq; cases hq; exact .inr (Nat.le_refl _)
set_option maxHeartbeats 4000000 in
set_option maxRecDepth 100000 in
theorem rFour_any {base : Nat} {l : List UInt8} {bv : Value} (n : Int) (w : World) (h : BufIs base bv l w) (hB : base ≤ w.heap.size) (h0 : 0 ≤ n) (h1 : n < 4294967296) (hl : l.length ≤ 1000000000) :
    Calls Tryz.prog 95 #[bv, .int .u32 n] w fun e w' => ∃ v', e = .returned v' ∧ OutR base bv w (l ++ fourB n) v' w' := by
  have HW := Lib.hid h
  have HB0 := Lib.hid hB
  obtain ⟨a, c, rfl⟩ := h.form
  clear h
  go_enter Tryz.func95, Tryz.ntmps95
  have HB := Lib.hid ((Below.refl w.heap.size w).alloc (Nat.le_refl _) (.cells #[.int .u8 (n / 16777216), .int .u8 (n / 65536 % 256), .int .u8 (n / 256 % 256), .int .u8 (n % 256)] 5 (0, 0)))
  have HD := Lib.hid (show RSl (.slice (some ⟨w.heap.size, 0, none⟩) 4 4) (fourB n) (w.alloc (.cells #[.int .u8 (n / 16777216), .int .u8 (n / 65536 % 256), .int .u8 (n / 256 % 256), .int .u8 (n % 256)] 5 (0, 0))) from by
    have h2 := (BufIs.lit (base := 0) (w := w) (fourB n) (Nat.zero_le _) (by simp [fourB, maxLen])).rsl
    have e : (bytesV (fourB n)).toArray = #[.int .u8 (n / 16777216), .int .u8 (n / 65536 % 256), .int .u8 (n / 256 % 256), .int .u8 (n % 256)] := by
      have q1 : byteV (UInt8.ofNat (n.toNat / 16777216)) = .int .u8 (n / 16777216) := byteV_of _ _ (by omega)
      have q2 : byteV (UInt8.ofNat (n.toNat / 65536)) = .int .u8 (n / 65536 % 256) := byteV_of _ _ (by omega)
      have q3 : byteV (UInt8.ofNat (n.toNat / 256)) = .int .u8 (n / 256 % 256) := byteV_of _ _ (by omega)
      have q4 : byteV (UInt8.ofNat n.toNat) = .int .u8 (n % 256) := byteV_of _ _ (by omega)
      simp only [fourB, bytesV, List.map_cons, List.map_nil, q1, q2, q3, q4]
    rw [e] at h2
    exact h2)
  have hlit : 0 < 1 := by decide
  obtain ⟨a', n', c', w', hr, hres⟩ := OutR.app (HW.out.below HB.out (Nat.le_refl _)) HD.out (by have : (fourB n).length = 4 := rfl; omega) (Nat.le_trans hB HB.out.size)
  have HR := Lib.hid hr
  have HRES := Lib.hid ((OutR.below HW.out HB.out).trans (fun q hq => (HW.out.block hq).2) hres)
  clear hr hres hlit
  generalize l.length = ll at *
  go_wp2_with (at_builtin; refine stop ?_)
  refine Stopped.of ?_
  refine wp_app_eq rfl (.tmp 5) (.tmp 17) _ _ rfl _ _ (.slice a' n' c') w' rfl rfl HR.out ?_
  go_wp2
  go_ret
  exact ⟨_, rfl, HRES.out⟩
set_option maxHeartbeats 4000000 in
set_option maxRecDepth 100000 in
theorem rName_any {base : Nat} {l : List UInt8} {bv : Value} (s : ByteArray) (w : World) (h : BufIs base bv l w) (hB : base ≤ w.heap.size) (hs : s.size ≤ 255) (hl : l.length ≤ 1000000000) :
    Calls Tryz.prog 96 #[bv, .string s] w fun e w' => ∃ v', e = .returned v' ∧ OutR base bv w (l ++ atomB s) v' w' := by
  have HW := Lib.hid h
  obtain ⟨a, c, rfl⟩ := h.form
  clear h
  go_enter Tryz.func96, Tryz.ntmps96
  have HB := Lib.hid ((Below.refl w.heap.size w).alloc (Nat.le_refl _) (.cells #[.int .u8 119, .int .u8 s.size] 5 (0, 0)))
  have HD := Lib.hid (show RSl (.slice (some ⟨w.heap.size, 0, none⟩) 2 2) [119, UInt8.ofNat s.size] (w.alloc (.cells #[.int .u8 119, .int .u8 s.size] 5 (0, 0))) from by
    have h2 := RSl.lit w [119, UInt8.ofNat s.size] (by simp [maxLen])
    have e : (bytesV [119, UInt8.ofNat s.size]).toArray = #[.int .u8 119, .int .u8 s.size] := by
      have q1 : byteV (UInt8.ofNat s.size) = .int .u8 s.size := byteV_of _ _ (by omega)
      simp only [bytesV, List.map_cons, List.map_nil, q1]
      rfl
    rw [e] at h2
    exact h2)
  obtain ⟨a', n', c', w', hr, hres⟩ := OutR.app (HW.out.below HB.out (Nat.le_refl _)) HD.out (by simp; omega) (Nat.le_trans hB HB.out.size)
  have HR := Lib.hid hr
  have h2 := (OutR.below HW.out HB.out).trans (fun q hq => (HW.out.block hq).2) hres
  obtain ⟨a3, n3, c3, w3, hr3, hres3⟩ := OutR.appStr h2.buf s (by simp; omega) (Nat.le_trans hB h2.keep.size)
  have HR3 := Lib.hid hr3
  have HRES := Lib.hid (h2.trans (fun q hq => (HW.out.block hq).2) hres3)
  have hsz : (s.size : Int) % 256 = s.size := by omega
  clear hr hres hr3 hres3 h2
  generalize l.length = ll at *
  go_wp2_with (at_builtin; refine stop ?_)
  refine Stopped.of ?_
  refine wp_app_eq rfl (.tmp 5) (.tmp 9) _ _ rfl _ _ (.slice a' n' c') w' rfl rfl HR.out ?_
  go_wp2_with (at_builtin; refine stop ?_)
  refine Stopped.of ?_
  refine wp_app_eq rfl (.tmp 10) (.tmp 11) _ _ rfl _ _ (.slice a3 n3 c3) w3 rfl rfl HR3.out ?_
  go_wp2
  go_ret
  exact ⟨_, rfl, by have := HRES.out; simpa [atomB] using this⟩
end Go.Proofs.YtlahagabcnmdiaaGreatDoor
end
section
/- The reference of layer 4: wide. -/
open Go Go.RowKit
namespace Go.Proofs.YtlahagabcnmdiaaGreatDoor
set_option linter.unusedVariables false
set_option linter.unusedSimpArgs false

mutual
theorem wideT_bound : ∀ (t : Tm) (n : Nat), -1 ≤ (wideT t n).1 ∧ (wideT t n).1 ≤ n + sizeT t ∧ n ≤ (wideT t n).2 ∧ (wideT t n).2 ≤ n + sizeT t
  | .mk k i s c ns al, n => by
    rw [wideT, sizeT]
    split
    · refine ⟨?_, ?_, ?_, ?_⟩ <;> dsimp only <;> omega
    · have := wideTL_bound al (n + 1)
      refine ⟨?_, ?_, ?_, ?_⟩ <;> omega
theorem wideTL_bound : ∀ (l : List Tm) (n : Nat), -1 ≤ (wideTL l n).1 ∧ (wideTL l n).1 ≤ n + sizeTL l ∧ n ≤ (wideTL l n).2 ∧ (wideTL l n).2 ≤ n + sizeTL l
  | [], n => by rw [wideTL, sizeTL]; refine ⟨?_, ?_, ?_, ?_⟩ <;> dsimp only <;> omega
  | t :: r, n => by
    rw [wideTL, sizeTL]
    have h1 := wideT_bound t n
    have h2 := wideTL_bound r (wideT t n).2
    split
    · refine ⟨?_, ?_, ?_, ?_⟩ <;> omega
    · refine ⟨?_, ?_, ?_, ?_⟩ <;> omega
end
theorem wideTL_drop {l : List Tm} (i : Nat) (h : i < l.length) (n : Nat) : wideTL (l.drop i) n = if 0 ≤ (wideT l[i] n).1 then wideT l[i] n else wideTL (l.drop (i + 1)) (wideT l[i] n).2 := by
  rw [List.drop_eq_getElem_cons h, wideTL]
theorem sizeTL_drop {l : List Tm} (i : Nat) (h : i < l.length) : sizeTL (l.drop i) = sizeT l[i] + sizeTL (l.drop (i + 1)) := by
  rw [List.drop_eq_getElem_cons h, sizeTL]
theorem wideT_eq (t : Tm) (n : Nat) : wideT t n = if wideI t.kind t.int then ((n : Int), n + 1) else wideTL t.args (n + 1) := by
  cases t; rw [wideT]; rfl
theorem sizeT_eq (t : Tm) : sizeT t = 1 + sizeTL t.args := by cases t; rw [sizeT]; rfl
set_option maxHeartbeats 8000000 in
set_option maxRecDepth 100000 in
theorem rWide_ind : ∀ (N : Nat) (S : Nat → Prop) (t : Tm) (vs : List Value) (n : Nat) (w : World), SizeOf.sizeOf t ≤ N → TmAt S t vs w → n + sizeT t ≤ 1000000 →
    Calls Tryz.prog 53 #[.agg vs.toArray, .int .i64 n] w fun e w' => e = .returned (.tuple #[.int .i64 (wideT t n).1, .int .i64 (wideT t n).2]) ∧ Below w.heap.size w w' := by
  intro N
  induction N with
  | zero => intro S t vs n w h; cases t; simp at h
  | succ N ih =>
    intro S t vs n w hN ht hn
    have HIH := Lib.hid ih
    have HNN := Lib.hid hN
    obtain ⟨hp, nv, a, cap, rfl, hnn, ⟨hc, hcm⟩, hcap, ha⟩ := ht.parts
    obtain ⟨na, nc, rfl, -, -⟩ := hnn.slice
    have HA := Lib.hid ha
    have hal : t.args.length ≤ 140737488351232 := by omega
    have HW := Lib.hid (wideT_eq t n)
    have HZ := Lib.hid (sizeT_eq t)
    have HB0 := Lib.hid ((Below.refl _ w).alloc (Nat.le_refl _) (.cells #[.int .i64 t.kind, .int .i64 t.int, .string t.text, .int .u32 t.cr, .slice na t.nums.length nc, .slice a t.args.length cap] 35 (0, 0)))
    have M1 := Lib.hid (Cells.new w 35 [.int .i64 t.kind, .int .i64 t.int, .string t.text, .int .u32 t.cr, .slice na t.nums.length nc, .slice a t.args.length cap])
    have hn1 : (n : Int) ≤ 1000000 := by omega
    have hn0 : (0 : Int) ≤ (n : Int) := by omega
    have HSZ := Lib.hid hn
    have HK0 := Lib.hid hp.i0
    have HK1 := Lib.hid hp.i1
    clear ih hN ht hnn ha hcm hp hc hcap hn
    go_enter Tryz.func53, Tryz.ntmps53
    go_upto_region 1 with (fail)
    generalize w.alloc (.cells #[.int .i64 t.kind, .int .i64 t.int, .string t.text, .int .u32 t.cr, .slice na t.nums.length nc, .slice a t.args.length cap] 35 (0, 0)) = w1 at *
    have p0 := M1.out.cell 0
    have p1 := M1.out.cell 1
    have p5 := M1.out.cell 5
    simp only [List.getElem?_cons_zero, List.getElem?_cons_succ] at p0 p1 p5
    by_cases hw : wideI t.kind t.int = true
    · have HR := Lib.hid (show wideT t n = ((n : Int), n + 1) by rw [HW.out, if_pos hw])
      unfold wideI at hw
      simp only [Bool.and_eq_true, Bool.or_eq_true, decide_eq_true_eq] at hw
      obtain ⟨hk, hw⟩ := hw
      have qk : (t.kind == 1) = true := beq_iff_eq.2 hk
      by_cases hlo : t.int < -2147483648
      · clear hw hk
        go_wp2
        go_ret2
        rw [HR.out]
        exact ⟨by simp, HB0.out⟩
      · have hhi : 2147483647 < t.int := hw.resolve_left hlo
        clear hw hk
        go_wp2
        go_ret2
        rw [HR.out]
        exact ⟨by simp, HB0.out⟩
    · have HR := Lib.hid (show wideT t n = wideTL t.args (n + 1) by rw [HW.out, if_neg hw])
      have hcase : t.kind ≠ 1 ∨ (t.kind = 1 ∧ ¬ t.int < -2147483648 ∧ ¬ 2147483647 < t.int) := by
        by_cases hk : t.kind = 1
        · refine .inr ⟨hk, fun h => hw ?_, fun h => hw ?_⟩
          · unfold wideI; simp [hk, h]
          · unfold wideI; simp [hk, h]
        · exact .inl hk
      clear hw
      have HN2 := Lib.hid (show n + 1 + sizeTL t.args ≤ 1000000 by have := HSZ.out; rw [HZ.out] at this; omega)
      rcases hcase with hk | ⟨hk, hlo, hhi⟩
      all_goals
        first
          | (have qk : (t.kind == 1) = true := beq_iff_eq.2 hk)
          | (have qk : (t.kind == 1) = false := beq_eq_false_iff_ne.2 hk)
        clear hk
        go_wp2
        clear p0 p1 p5
        go_loopw [1, 6] (fun m i wr => ∃ kk n' : Nat, kk ≤ t.args.length ∧ i = .int .i64 kk ∧ m = .int .i64 n' ∧ n' + sizeTL (t.args.drop kk) ≤ 1000000 ∧ wideTL (t.args.drop kk) n' = wideTL t.args (n + 1) ∧ Below w1.heap.size w1 wr) (fun _ i _ => t.args.length - (intOf i).toNat)
        case atStart => exact ⟨0, n + 1, Nat.zero_le _, rfl, by simp, HN2.out, by simp, Below.refl _ _⟩
        case round =>
          obtain ⟨kk, n', hkk, rfl, rfl, hsz, hwd, hbr⟩ := hrel
          have HBR := Lib.hid hbr
          have HSD := Lib.hid hsz
          have HWD := Lib.hid hwd
          clear hbr hsz hwd
          have p5 := (M1.out.below HBR.out).cell 5
          simp only [List.getElem?_cons_zero, List.getElem?_cons_succ] at p5
          have hn'1 : (n' : Int) ≤ 1000000 := by have := HSD.out; omega
          have hn'0 : (0 : Int) ≤ (n' : Int) := by omega
          by_cases hk : kk < t.args.length
          · obtain ⟨g, o, vs, rfl, -, hcs, ht⟩ := HA.out.get kk hk
            obtain ⟨-, mv, b, bap, rfl, hmm, -⟩ := ht.parts
            obtain ⟨ma, mc, rfl, -, -⟩ := hmm.slice
            have e0 := hcs 0 (by decide)
            have hgl : g < w.heap.size := World.block_lt_of_cell? w _ e0
            have HBW := Lib.hid (HB0.out.trans (HBR.out.mono HB0.out.size))
            have HT := Lib.hid (ht.below HBW.out)
            have e0 := (HBW.out.cell (p := ⟨g, o + (kk * 6 + 0), none⟩) hgl).trans (hcs 0 (by decide))
            have e1 := (HBW.out.cell (p := ⟨g, o + (kk * 6 + 1), none⟩) hgl).trans (hcs 1 (by decide))
            have e2 := (HBW.out.cell (p := ⟨g, o + (kk * 6 + 2), none⟩) hgl).trans (hcs 2 (by decide))
            have e3 := (HBW.out.cell (p := ⟨g, o + (kk * 6 + 3), none⟩) hgl).trans (hcs 3 (by decide))
            have e4 := (HBW.out.cell (p := ⟨g, o + (kk * 6 + 4), none⟩) hgl).trans (hcs 4 (by decide))
            have e5 := (HBW.out.cell (p := ⟨g, o + (kk * 6 + 5), none⟩) hgl).trans (hcs 5 (by decide))
            simp only [List.getElem?_cons_zero, List.getElem?_cons_succ, Nat.add_zero, ← Nat.add_assoc] at e0 e1 e2 e3 e4 e5
            have hki : (kk : Int) < (t.args.length : Int) := by omega
            have hk0 : (0 : Int) ≤ (kk : Int) := by omega
            have hk1 : (kk : Int) ≤ 140737488351232 := by omega
            have HDR := Lib.hid (wideTL_drop kk hk n')
            have HSR := Lib.hid (sizeTL_drop (l := t.args) kk hk)
            have HCALL := Lib.hid (HIH.out S t.args[kk] _ n' wr (by have := Tm.arg_lt hk; have := HNN.out; omega) HT.out (by have := HSD.out; have := HSR.out; omega))
            have hb1 := wideT_bound t.args[kk] n'
            have HB1 := Lib.hid hb1
            clear hcs ht hmm hgl hb1
            go_wp2_with fail
            refine HCALL.out.mono ?_
            rintro e w3 ⟨rfl, hb3⟩
            have HB3 := Lib.hid (HBR.out.trans (hb3.mono HBR.out.size))
            clear hb3 e0 e1 e2 e3 e4 e5 p5
            generalize wideT t.args[kk] n' = r at *
            obtain ⟨ra, rn⟩ := r
            dsimp only at *
            have hra0 : -1 ≤ ra := HB1.out.1
            have hra1 : ra ≤ 1000000 := by have := HB1.out.2.1; have := HSD.out; have := HSR.out; omega
            have hrn0 : (0 : Int) ≤ (rn : Int) := by omega
            have hrn1 : (rn : Int) ≤ 1000000 := by have := HB1.out.2.2.2; have := HSD.out; have := HSR.out; omega
            by_cases hneg : (0 : Int) ≤ ra
            · have HF := Lib.hid (show wideT t n = (ra, rn) by rw [HR.out, ← HWD.out, HDR.out, if_pos hneg])
              go_wp2
              go_ret2
              rw [HF.out]
              exact ⟨rfl, HB0.out.trans (HB3.out.mono HB0.out.size)⟩
            · have HF := Lib.hid (show wideTL (t.args.drop (kk + 1)) rn = wideTL t.args (n + 1) by rw [← HWD.out, HDR.out, if_neg hneg])
              have HSF := Lib.hid (show rn + sizeTL (t.args.drop (kk + 1)) ≤ 1000000 by have := HB1.out.2.2.2; have := HSD.out; have := HSR.out; omega)
              go_wp2
              go_roundw
              case rel => exact ⟨kk + 1, rn, by omega, by go_num, rfl, HSF.out, HF.out, HB3.out⟩
              case measure => simp [intOf]; omega
          · have hki : ¬ (kk : Int) < (t.args.length : Int) := by omega
            have HF := Lib.hid (show wideT t n = (-1, n') by rw [HR.out, ← HWD.out, List.drop_eq_nil_of_le (by omega), wideTL])
            have HBF := Lib.hid (HB0.out.trans (HBR.out.mono HB0.out.size))
            clear hk hkk
            go_wp2
            go_ret2
            rw [HF.out]
            exact ⟨rfl, HBF.out⟩
theorem rWide_any (S : Nat → Prop) (t : Tm) (vs : List Value) (w : World) (ht : TmAt S t vs w) (hn : sizeT t ≤ 4096) :
    Calls Tryz.prog 53 #[.agg vs.toArray, .int .i64 0] w fun e w' => e = .returned (.tuple #[.int .i64 (wideT t 0).1, .int .i64 (wideT t 0).2]) ∧ Below w.heap.size w w' :=
  rWide_ind _ S t vs 0 w (Nat.le_refl _) ht (by omega)
end Go.Proofs.YtlahagabcnmdiaaGreatDoor
end
