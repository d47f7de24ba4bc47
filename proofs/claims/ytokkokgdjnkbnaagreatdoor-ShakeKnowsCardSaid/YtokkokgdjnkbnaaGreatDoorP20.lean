/- Texts laid together: BBs, ShkR. -/
import Derived.Test.YtokkokgdjnkbnaaGreatDoorP19
import Derived.Test.YtokkokgdjnkbnaaGreatDoorP13
import Derived.WideShapes
import Derived.Test.YtokkokgdjnkbnaaGreatDoorP18
section
/- Lists of lists of bytes. No function of the program is looked at here. -/
open Go Go.RowKit
namespace Go.Proofs.YtokkokgdjnkbnaaGreatDoor

/-- the value v is a list of lists of bytes that the call owns: nil, or in a block from base on -/
def BBs (base : Nat) (v : Value) (l : List (List UInt8)) (w : World) : Prop :=
  ∃ vs : List Value, vs.length = l.length ∧ w.ownsRow base 25 1 v l.length vs ∧ ∀ i (hv : i < vs.length) (hl : i < l.length), BufIs 0 vs[i] l[i] w
theorem BBs.nil (base : Nat) (w : World) : BBs base (.slice none 0 0) [] w := ⟨[], rfl, ⟨rfl, .inl ⟨rfl, rfl⟩⟩, fun _ h => absurd h (Nat.not_lt_zero _)⟩
theorem own_one {base : Nat} {v : Value} {l : List UInt8} {w : World} (h : BufIs base v l w) : v.oneCell' = true := by
  rcases h.shape with ⟨rfl, _⟩ | ⟨g, c, rfl, _⟩ <;> rfl
theorem BBs.one {l : List (List UInt8)} {w : World} (vs : List Value) (hn : vs.length = l.length) (he : ∀ i (hv : i < vs.length) (hl : i < l.length), BufIs 0 vs[i] l[i] w) : ∀ u ∈ vs, u.oneCell' = true := by
  intro u hu
  obtain ⟨i, hi, rfl⟩ := List.getElem_of_mem hu
  exact own_one (he i hi (by omega))
theorem BufIs.etype {base : Nat} {v : Value} {l : List UInt8} {w : World} (h : BufIs base v l w) {g : Nat} (hg : v.ownBlock = some g) : ∃ cur, w.heap[g]? = some (.cells cur 5 (0, 0)) := by
  obtain ⟨_, ⟨hv, _⟩ | ⟨g', cap, cur, hv, hbg, hcell, _⟩⟩ := h
  · rw [hv] at hg; cases hg
  · rw [hv] at hg
    cases hg
    exact ⟨cur, hcell⟩
theorem BufIs.ne_cells {base : Nat} {v : Value} {l : List UInt8} {w : World} (h : BufIs base v l w) {g : Nat} {t : TypeId} {cs : Array Value} {f : Nat × Nat} (hc : w.heap[g]? = some (.cells cs t f)) (ht : t ≠ 5) : v.ownBlock ≠ some g := by
  intro e
  obtain ⟨cur, hcur⟩ := h.etype e
  rw [hc] at hcur
  injection hcur with hcur
  injection hcur with _ h2
  exact ht h2
theorem BufIs.keep {S : Nat → Prop} {base : Nat} {v : Value} {l : List UInt8} {w w' : World} (h : BufIs base v l w) (k : Keep S w w') (hS : ∀ g, v.ownBlock = some g → ¬ S g) : BufIs base v l w' :=
  h.frame fun g hg => k.block g (h.block hg).2 (hS g hg)
theorem BufIs.keepC {base : Nat} {v : Value} {l : List UInt8} {w w' : World} (h : BufIs base v l w) {g : Nat} (k : Keep (Blk1 g) w w') {t : TypeId} {cs : List Value} (hc : Cells w g t cs) (ht : t ≠ 5) : BufIs base v l w' :=
  h.keep k fun j hj e => h.ne_cells hc ht (by rw [hj]; exact congrArg some e)
theorem BBs.block {base : Nat} {v : Value} {l : List (List UInt8)} {w : World} (h : BBs base v l w) {g : Nat} (hg : v.ownBlock = some g) : base ≤ g ∧ g < w.heap.size ∧ ∃ cur, w.heap[g]? = some (.cells cur 25 (0, 0)) := by
  obtain ⟨vs, _, ⟨_, ⟨hv, _⟩ | ⟨g', cap, cur, hv, hbg, hcell, _⟩⟩, _⟩ := h
  · rw [hv] at hg; cases hg
  · rw [hv] at hg
    cases hg
    exact ⟨hbg, (Array.getElem?_eq_some_iff.1 hcell).1, cur, hcell⟩
theorem BBs.frame {base : Nat} {v : Value} {l : List (List UInt8)} {w w' : World} (h : BBs base v l w) (hb : ∀ g, v.ownBlock = some g → w'.heap[g]? = w.heap[g]?) (he : ∀ u b, BufIs 0 u b w → BufIs 0 u b w') : BBs base v l w' := by
  obtain ⟨vs, hn, ⟨h1, h2⟩, h3⟩ := h
  refine ⟨vs, hn, ⟨h1, h2.imp_right ?_⟩, fun i hv hl => he _ _ (h3 i hv hl)⟩
  rintro ⟨g, cap, cur, hv, hbg, hg, rest⟩
  exact ⟨g, cap, cur, hv, hbg, (hb g (by rw [hv]; rfl)).trans hg, rest⟩
theorem BBs.below {base B : Nat} {v : Value} {l : List (List UInt8)} {w w' : World} (h : BBs base v l w) (hb : Below B w w') (hB : w.heap.size ≤ B) : BBs base v l w' :=
  h.frame (fun _ hg => hb.block _ (Nat.lt_of_lt_of_le (h.block hg).2.1 hB)) (fun _ _ hu => hu.below hb hB)
theorem BBs.alloc {base : Nat} {v : Value} {l : List (List UInt8)} {w : World} (h : BBs base v l w) (o : Obj) : BBs base v l (w.alloc o) := h.below ((Below.refl _ _).alloc (Nat.le_refl _) o) (Nat.le_refl _)
theorem BBs.drewN {base : Nat} {v : Value} {l : List (List UInt8)} {w : World} (h : BBs base v l w) (n : Nat) : BBs base v l (w.drewN n) := h.frame (fun _ _ => rfl) (fun _ _ hu => hu.drewN n)
theorem BBs.base {base base' : Nat} {v : Value} {l : List (List UInt8)} {w : World} (h : BBs base v l w) (hb : base' ≤ base) : BBs base' v l w := by
  obtain ⟨vs, hn, ⟨h1, h2⟩, h3⟩ := h
  refine ⟨vs, hn, ⟨h1, h2.imp_right ?_⟩, h3⟩
  rintro ⟨g, cap, cur, hv, hbg, rest⟩
  exact ⟨g, cap, cur, hv, by omega, rest⟩
theorem BBs.keepC {base : Nat} {v : Value} {l : List (List UInt8)} {w w' : World} (h : BBs base v l w) {g : Nat} (k : Keep (Blk1 g) w w') {t : TypeId} {cs : List Value} (hc : Cells w g t cs) (ht : t ≠ 5) (ht2 : t ≠ 25) : BBs base v l w' :=
  h.frame (fun j hj => k.block j (h.block hj).2.1 (fun e => by
    obtain ⟨_, _, cur, hcur⟩ := h.block hj
    cases e
    unfold Cells at hc
    rw [hc] at hcur
    injection hcur with hcur
    injection hcur with _ h2
    exact ht2 h2)) (fun _ _ hu => hu.keepC k hc ht)
theorem BBs.shape {base : Nat} {v : Value} {l : List (List UInt8)} {w : World} (h : BBs base v l w) : (v = .slice none 0 0 ∧ l = []) ∨ ∃ g c, v = .slice (some ⟨g, 0, none⟩) l.length c ∧ base ≤ g ∧ g < w.heap.size ∧ l.length ≤ c ∧ c ≤ maxLen := by
  obtain ⟨vs, hn, ⟨h1, ⟨hv, hn0⟩ | ⟨g, cap, cur, hv, hbg, hcell, hnn, hc, _⟩⟩, _⟩ := h
  · exact .inl ⟨hv, List.eq_nil_of_length_eq_zero hn0⟩
  · exact .inr ⟨g, cap, hv, hbg, (Array.getElem?_eq_some_iff.1 hcell).1, hnn, hc⟩
/-- a list's i-th, as the walk reads it -/
theorem BBs.at_ {base : Nat} {l : List (List UInt8)} {w : World} {g n c : Nat} (h : BBs base (.slice (some ⟨g, 0, none⟩) n c) l w) (i : Nat) (hi : i < l.length) : ∃ u, w.cell? ⟨g, i, none⟩ = some u ∧ BufIs 0 u l[i] w := by
  obtain ⟨vs, hn, ⟨h1, ⟨h2, _⟩ | ⟨g', cap, cur, hv, hbg, hcell, hnn, hc, hcs, htake⟩⟩, h3⟩ := h
  · cases h2
  · cases hv
    refine ⟨vs[i]'(by omega), ?_, h3 i (by omega) hi⟩
    have h2 : cur.toList[i]? = some (vs[i]'(by omega)) := by
      rw [← List.getElem?_eq_getElem (by omega), ← htake, List.getElem?_take_of_lt (by omega)]
    have h3 : cur[i]? = some (vs[i]'(by omega)) := by rw [← h2]; simp
    simp only [World.cell?, hcell]
    simpa using h3
theorem BBs.lit {base : Nat} {w : World} {u : Value} {b : List UInt8} (hu : BufIs 0 u b w) (hb : base ≤ w.heap.size) :
    BBs base (.slice (some ⟨w.heap.size, 0, none⟩) 1 1) [b] (w.alloc (.cells #[u] 25 (0, 0))) := by
  refine ⟨[u], rfl, ⟨rfl, .inr ⟨w.heap.size, 1, _, rfl, hb, alloc_get _ _, Nat.le_refl _, by decide, rfl, rfl⟩⟩, ?_⟩
  intro i hv hl
  match i, hv, hl with
  | 0, _, _ => exact hu.alloc _
  | i + 1, hv, _ => simp at hv
theorem run_bbs_len {base : Nat} {v : Value} {l : List (List UInt8)} {w : World} (h : BBs base v l w) (w2 : World) : (Builtin.len_ #[55] 3 #[v]).run Tryz.prog w2 = .ok (.int .i64 l.length) w2 := by
  have hu := Tryz.underlying55
  rcases h.shape with ⟨rfl, rfl⟩ | ⟨g, c, rfl, _⟩
  · go_simp
  · go_simp
theorem Tryz.infoBytes : (Tryz.prog.info? 25).map (fun i => (i.zero, i.size, i.bytes)) = some (some (.slice none 0 0), 1, 24) := by kernel_rfl

theorem BBs.app {base base' : Nat} {v lv : Value} {l d : List (List UInt8)} {w : World} (h : BBs base v l w) (hs : BBs base' lv d w) (hl : l.length + d.length ≤ 1000) (hB : base ≤ w.heap.size) :
    ∃ v' w', (Builtin.append_ #[55, 55] 55 #[v, lv]).run Tryz.prog w = .ok v' w' ∧ BBs base v' (l ++ d) w' ∧ w.grownBy w' v.ownBlock := by
  obtain ⟨i0, hi, hz0, hz1, hz2⟩ := info_parts Tryz.infoBytes
  rcases hs.shape with ⟨rfl, rfl⟩ | ⟨g, c, rfl, hbg, hgw, hgc, hgm⟩
  · refine ⟨v, w, ?_, by simpa using h, ⟨rfl, rfl, rfl, Nat.le_refl _, fun _ _ _ => rfl⟩⟩
    have ht := Tryz.underlying55
    rcases h.shape with ⟨rfl, rfl⟩ | ⟨g, cap, rfl, _, _, hnc, _⟩
    · simp [Builtin.append_, run_underlying ht, sizeOf, typeInfo, hi, Builtin.lenOf, Builtin.firstCells]
    · simp [Builtin.append_, run_underlying ht, sizeOf, typeInfo, hi, Builtin.lenOf, Builtin.firstCells, hnc, storeCells]
  · obtain ⟨ds, hdn, hdo, hde⟩ := hs
    have hblk : ∀ {g : Nat}, v.ownBlock = some g → base ≤ g ∧ g < w.heap.size ∧ ∃ cur, w.heap[g]? = some (.cells cur 25 (0, 0)) := fun hg => h.block hg
    obtain ⟨vs, hvn, hvo, hve⟩ := h
    have hcells : ∀ j u, ds[j]? = some u → w.cell? ((⟨g, 0, none⟩ : Addr).add j) = some u := by
      obtain ⟨h1, ⟨h2, _⟩ | ⟨g', cap, cur, hv, hbg, hcell, hn, hc, hcs, htake⟩⟩ := hdo
      · cases h2
      · cases hv
        intro j u hu
        have hlt : j < ds.length := by
          rcases Nat.lt_or_ge j ds.length with h | h
          · exact h
          · rw [List.getElem?_eq_none h] at hu; cases hu
        rw [WideShapes.add_plain, Nat.zero_add]
        have e : (cur.toList.take (d.length * 1))[j]? = some u := by rw [htake]; exact hu
        rw [List.getElem?_take_of_lt (by omega)] at e
        simp only [World.cell?, hcell]
        simpa using e
    obtain ⟨v', w', hr, h2, h3, _⟩ := run_append_own_at (P := Tryz.prog) w base 55 55 25 i0 _ 1 24 Tryz.underlying55 hi hz0 hz1 hz2 rfl (by decide) v l.length vs hvo ⟨g, 0, none⟩ d.length c ds (by omega) hcells (BBs.one ds hdn hde) (by unfold maxLen; omega) (by omega) hB
    have hkeep : ∀ u b, BufIs 0 u b w → BufIs 0 u b w' := fun u b hu => hu.frame fun j hj => h3.block j (hu.block hj).2 (fun e => by
      obtain ⟨_, _, cur, hcur⟩ := hblk e.symm
      exact hu.ne_cells hcur (by decide) hj)
    refine ⟨v', w', hr, ⟨vs ++ ds, by simp [hvn, hdn], ?_, ?_⟩, h3⟩
    · rw [List.length_append]; exact h2
    · intro i hv hl
      by_cases hi2 : i < vs.length
      · rw [List.getElem_append_left hi2, List.getElem_append_left (by omega)]
        exact hkeep _ _ (hve i hi2 (by omega))
      · rw [List.getElem_append_right (by omega), List.getElem_append_right (by omega)]
        simp only [hvn]
        exact hkeep _ _ (hde _ _ _)
end Go.Proofs.YtokkokgdjnkbnaaGreatDoor
end
section
/- The reference of the handshake: faults, bytes of numbers. -/
open Go Go.RowKit
namespace Go.Proofs.YtokkokgdjnkbnaaGreatDoor

def RetL (B : Nat) (w : World) (l : List Lk) (e : Ending) (w' : World) : Prop := ∃ v, e = .returned v ∧ LinksIs B v l w' ∧ Below B w w'
theorem no08_any (at_ code : Int) (w : World) :
    Calls Tryz.prog 34 #[.int .i64 at_, .int .i64 code] w (RetL w.heap.size w [⟨shakeL, at_, code⟩]) := by
  go_enter Tryz.func34, Tryz.ntmps34
  go_wp2_with (go_at_call 41; refine (one_any _ _ _ _).mono ?_; rintro e w' ⟨rfl, rfl⟩)
  go_ret
  exact ⟨_, rfl, LinksIs.lit ⟨shakeL, at_, code⟩ (Nat.le_refl _), (Below.refl _ _).alloc (Nat.le_refl _) _⟩
theorem over08_any (at_ : Int) (lv : Value) (k : Lk) (l : List Lk) (base : Nat) (w : World) (hlk : LinksIs base lv (k :: l) w) (hl : l.length ≤ 50) :
    Calls Tryz.prog 37 #[.int .i64 at_, lv] w (RetL w.heap.size w (⟨shakeL, at_, k.code⟩ :: k :: l)) := by
  have HO := Lib.hid (mOver_any shakeL at_ k.code lv (k :: l) base w hlk (by simp; omega))
  obtain ⟨_, hn⟩ | ⟨g, c, rfl, hbg, hgw, hgc, hgm⟩ := hlk.shape
  · cases hn
  have c2 := hlk.cells 0 (by simp) 2 (by omega)
  simp only [lkV, List.getElem_cons_zero, List.getElem?_cons_zero, List.getElem?_cons_succ, Nat.zero_mul, Nat.zero_add] at c2
  have hlen : (0 : Int) < ((k :: l).length : Int) := by simp
  clear hlk
  go_enter Tryz.func37, Tryz.ntmps37
  go_wp2_with fail
  refine HO.out.mono ?_
  rintro e w1 ⟨v, rfl, h1, hb1⟩
  go_wp2
  go_ret
  exact ⟨_, rfl, h1, hb1⟩

theorem b8_val (n d : Int) : ((b8 n d).toNat : Int) = n / d % 256 := by
  unfold b8
  have h0 : 0 ≤ n / d % 256 := Int.emod_nonneg _ (by decide)
  have h1 : n / d % 256 < 256 := Int.emod_lt_of_pos _ (by decide)
  simp; omega
theorem four_cells (n : Int) : [Value.int .u8 (n / 16777216 % 256), .int .u8 (n / 65536 % 256), .int .u8 (n / 256 % 256), .int .u8 (n % 256)] = bytesV (beN n 4) := by
  simp only [beN, bytesV, List.map_cons, List.map_nil, byteV, b8_val]
  simp
set_option maxHeartbeats 4000000 in
set_option maxRecDepth 100000 in
theorem four_any (base : Nat) (v : Value) (l : List UInt8) (n : Int) (w : World) (h0 : 0 ≤ n) (h1 : n < 4294967296) (hv : BufIs base v l w) (hB : base ≤ w.heap.size) (hl : l.length ≤ 1000) :
    Calls Tryz.prog 35 #[v, .int .u32 n] w fun e w' => ∃ v', e = .returned v' ∧ BufIs base v' (l ++ beN n 4) w' ∧ Below base w w' := by
  have HV := Lib.hid hv
  have HSZ := Lib.hid hB
  have HL := Lib.hid hl
  clear hv hB hl
  go_enter Tryz.func35, Tryz.ntmps35
  go_wp2_with (at_builtin; refine stop ?_)
  refine Stopped.of ?_
  refine wp_app_row rfl (.tmp 5) (.tmp 17) rfl base v l rfl (HV.out.alloc _) ⟨w.heap.size, 0, none⟩ 4 4 (beN n 4) rfl rfl ?_ (by have := HL.out; simp [beN_length]; omega) (by have := HSZ.out; simp; omega) ?_
  · have := lit_cells w (beN n 4) _ rfl
    rw [← four_cells, show n / 16777216 % 256 = n / 16777216 by omega] at this
    exact this
  intro v' w2 hb2 hg2
  have W2 := Lib.hid (below_grown ((Below.refl base w).alloc HSZ.out _) (HV.out.alloc _) (Nat.le_refl _) (by have := HSZ.out; simp; omega) hg2)
  have H2 := Lib.hid hb2
  clear hb2 hg2
  go_wp2
  go_ret
  exact ⟨_, rfl, H2.out, W2.out⟩

/-- A call that hands back bytes of its own and links. -/
def RetBL (B : Nat) (w : World) (r : List UInt8 × List Lk) (e : Ending) (w' : World) : Prop := ∃ v lv, e = .returned (.tuple #[v, lv]) ∧ BufIs B v r.1 w' ∧ LinksIs B lv r.2 w' ∧ Below B w w'

set_option maxHeartbeats 8000000 in
set_option maxRecDepth 100000 in
theorem writeR_bad (m : Msg) (dv : Value) (w : World) (hd : RSl dv m.digest w) (hf : formS m = false) :
    Calls Tryz.prog 10 #[m.val dv] w (RetBL w.heap.size w (writeS m)) := by
  have HR := Lib.hid (show writeS m = ([], [⟨shakeL, 0, 1⟩]) by unfold writeS; rw [if_pos hf])
  have HF := Lib.hid (fields_any m dv (w.alloc (.cells [.int .i64 m.kind, .int .u64 m.flags, .int .u32 m.creation, .int .u32 m.challenge, .string m.name, .string m.status, dv].toArray 27)) (hd.alloc _))
  rw [hf] at HF
  obtain ⟨a, c, rfl, _, _⟩ := hd.shape
  clear hd hf
  unfold Msg.val at *
  go_enter Tryz.func10, Tryz.ntmps10
  go_wp2_with fail
  refine HF.out.mono ?_
  rintro e w1 ⟨rfl, hb1⟩
  have HB := Lib.hid (((Below.refl _ w).alloc (Nat.le_refl _) _).trans (hb1.mono (B' := w.heap.size) (by simp)))
  clear hb1
  go_wp2_with fail
  refine (no08_any _ _ _).mono ?_
  rintro e w2 ⟨ev, rfl, her, hb2⟩
  go_wp2
  go_ret2
  rw [HR.out]
  exact ⟨_, _, rfl, BufIs.nil _ _, her.base HB.out.size, HB.out.trans (hb2.mono HB.out.size)⟩

set_option maxHeartbeats 8000000 in
set_option maxRecDepth 100000 in
theorem writeR_2 (fl cr ch : Int) (nm st : ByteArray) (dg : List UInt8) (dv : Value) (w : World) (hd : RSl dv dg w) (hz : st.size ≤ 140737488351232) (hf : formS ⟨2, fl, cr, ch, nm, st, dg⟩ = true) :
    Calls Tryz.prog 10 #[(Msg.mk 2 fl cr ch nm st dg).val dv] w (RetBL w.heap.size w (writeS ⟨2, fl, cr, ch, nm, st, dg⟩)) := by
  have HR := Lib.hid (show writeS ⟨2, fl, cr, ch, nm, st, dg⟩ = (115 :: st.data.toList, []) by unfold writeS; rw [if_neg (by rw [hf]; decide)]; simp)
  have HF := Lib.hid (fields_any ⟨2, fl, cr, ch, nm, st, dg⟩ dv (w.alloc (.cells [.int .i64 2, .int .u64 fl, .int .u32 cr, .int .u32 ch, .string nm, .string st, dv].toArray 27)) (hd.alloc _))
  rw [hf] at HF
  obtain ⟨a, c, rfl, _, _⟩ := hd.shape
  clear hd hf
  unfold Msg.val at *
  go_enter Tryz.func10, Tryz.ntmps10
  go_wp2_with fail
  refine HF.out.mono ?_
  rintro e w1 ⟨rfl, hb1⟩
  have HB := Lib.hid (((Below.refl _ w).alloc (Nat.le_refl _) _).trans (hb1.mono (B' := w.heap.size) (by simp)))
  have hwz := hb1.size
  simp at hwz
  have hC1 := (Cells.new w _ _).below hb1
  have c0 := hC1.cell 0
  have c5 := hC1.cell 5
  have hD := hC1.alloc (.cells #[.int .u8 115] 5)
  have d0 := hD.cell 0
  have d5 := hD.cell 5
  simp only [List.getElem?_cons_zero, List.getElem?_cons_succ] at c0 c5 d0 d5
  have V1 := Lib.hid (BufIs.one (w := w1) 115)
  clear hb1 hC1 hD
  go_wp2_with (at_builtin; refine stop ?_)
  refine Stopped.of ?_
  refine wp_app_str rfl (.tmp 16) (.tmp 18) rfl w1.heap.size _ [115] rfl V1.out st rfl (by simp; omega) (by simp) ?_
  intro v' w3 hb3 hg3
  have W3 := Lib.hid (below_grown ((Below.refl w1.heap.size w1).alloc (Nat.le_refl _) _) V1.out (Nat.le_refl _) (by simp) hg3)
  have H3 := Lib.hid hb3
  clear hb3 hg3
  go_wp2
  go_ret2
  rw [HR.out]
  exact ⟨_, _, rfl, H3.out.base (by omega), LinksIs.nil _ _, HB.out.trans (W3.out.mono (by omega))⟩

set_option maxHeartbeats 8000000 in
set_option maxRecDepth 100000 in
theorem writeR_5 (fl cr ch : Int) (nm st : ByteArray) (dg : List UInt8) (dv : Value) (w : World) (hd : RSl dv dg w) (hz : dg.length ≤ 140737488351232) (hf : formS ⟨5, fl, cr, ch, nm, st, dg⟩ = true) :
    Calls Tryz.prog 10 #[(Msg.mk 5 fl cr ch nm st dg).val dv] w (RetBL w.heap.size w (writeS ⟨5, fl, cr, ch, nm, st, dg⟩)) := by
  have HR := Lib.hid (show writeS ⟨5, fl, cr, ch, nm, st, dg⟩ = (97 :: dg, []) by unfold writeS; rw [if_neg (by rw [hf]; decide)]; simp)
  have HF := Lib.hid (fields_any ⟨5, fl, cr, ch, nm, st, dg⟩ dv (w.alloc (.cells [.int .i64 5, .int .u64 fl, .int .u32 cr, .int .u32 ch, .string nm, .string st, dv].toArray 27)) (hd.alloc _))
  rw [hf] at HF
  have HD := Lib.hid hd
  obtain ⟨a, c, rfl, _, _⟩ := hd.shape
  clear hd hf
  unfold Msg.val at *
  go_enter Tryz.func10, Tryz.ntmps10
  go_wp2_with fail
  refine HF.out.mono ?_
  rintro e w1 ⟨rfl, hb1⟩
  have hb1' := ((Below.refl _ w).alloc (Nat.le_refl _) _).trans (hb1.mono (B' := w.heap.size) (by simp))
  have HB := Lib.hid hb1'
  have hwz := hb1.size
  simp at hwz
  have hC1 := (Cells.new w _ _).below hb1
  have c0 := hC1.cell 0
  have c6 := hC1.cell 6
  have hD := hC1.alloc (.cells #[.int .u8 97] 5)
  have d0 := hD.cell 0
  have d6 := hD.cell 6
  simp only [List.getElem?_cons_zero, List.getElem?_cons_succ] at c0 c6 d0 d6
  have HD1 := Lib.hid (HD.out.below hb1')
  have V1 := Lib.hid (BufIs.one (w := w1) 97)
  obtain ⟨v', w3, hrun, hb3, hg3⟩ := V1.out.app (HD1.out.alloc _) (by simp; omega) (by simp)
  have W3 := Lib.hid (below_grown ((Below.refl w1.heap.size w1).alloc (Nat.le_refl _) _) V1.out (Nat.le_refl _) (by simp) hg3)
  have H3 := Lib.hid hb3
  have HRUN := Lib.hid hrun
  clear hb3 hg3 hrun hb1 hb1' HD hC1 hD
  go_wp2_with (at_builtin; refine stop ?_)
  refine Stopped.of ?_
  refine wp_app_eq rfl (.tmp 31) (.tmp 33) _ _ rfl _ _ v' w3 rfl rfl HRUN.out ?_
  go_wp2
  go_ret2
  rw [HR.out]
  exact ⟨_, _, rfl, H3.out.base (by omega), LinksIs.nil _ _, HB.out.trans (W3.out.mono (by omega))⟩

set_option maxHeartbeats 8000000 in
set_option maxRecDepth 100000 in
theorem writeR_4 (fl cr ch : Int) (nm st : ByteArray) (dg : List UInt8) (dv : Value) (w : World) (hd : RSl dv dg w) (h0 : 0 ≤ ch) (h1 : ch < 4294967296) (hz : dg.length ≤ 140737488351232) (hf : formS ⟨4, fl, cr, ch, nm, st, dg⟩ = true) :
    Calls Tryz.prog 10 #[(Msg.mk 4 fl cr ch nm st dg).val dv] w (RetBL w.heap.size w (writeS ⟨4, fl, cr, ch, nm, st, dg⟩)) := by
  have HR := Lib.hid (show writeS ⟨4, fl, cr, ch, nm, st, dg⟩ = (114 :: (beN ch 4 ++ dg), []) by unfold writeS; rw [if_neg (by rw [hf]; decide)]; simp)
  have HF := Lib.hid (fields_any ⟨4, fl, cr, ch, nm, st, dg⟩ dv (w.alloc (.cells [.int .i64 4, .int .u64 fl, .int .u32 cr, .int .u32 ch, .string nm, .string st, dv].toArray 27)) (hd.alloc _))
  rw [hf] at HF
  have HD := Lib.hid hd
  obtain ⟨a, c, rfl, _, _⟩ := hd.shape
  clear hd hf
  unfold Msg.val at *
  go_enter Tryz.func10, Tryz.ntmps10
  go_wp2_with fail
  refine HF.out.mono ?_
  rintro e w1 ⟨rfl, hb1⟩
  have hb1' := ((Below.refl _ w).alloc (Nat.le_refl _) _).trans (hb1.mono (B' := w.heap.size) (by simp))
  have HB := Lib.hid hb1'
  have hwz := hb1.size
  simp at hwz
  have hC1 := (Cells.new w _ _).below hb1
  have C1 := Lib.hid hC1
  have c0 := hC1.cell 0
  have c3 := hC1.cell 3
  have c6 := hC1.cell 6
  have hD := hC1.drew.alloc (.cells #[.int .u8 114] 5)
  have d3 := hD.cell 3
  have d6 := hD.cell 6
  simp only [List.getElem?_cons_zero, List.getElem?_cons_succ] at c0 c3 c6 d3 d6
  have HD1 := Lib.hid (HD.out.below hb1')
  have V1 := Lib.hid (BufIs.one (w := w1.drew) 114)
  clear hb1 hb1' HD hC1 hD
  go_wp2_with fail
  go_region_held3 (fun w' => w'.cell? ⟨w.heap.size, 3, none⟩ = some (.int .u32 ch) ∧ w'.cell? ⟨w.heap.size, 6, none⟩ = some (.slice a dg.length c)) (go_keep)
    (first
      | (go_at_call 35; refine (four_any w1.heap.size _ [114] ch _ h0 h1 V1.out (by simp) (by simp)).mono ?_; rintro e w3 ⟨v3, rfl, hv3, hb3⟩
         have hb13 : Below w1.heap.size w1 w3 := (Below.drew (Below.refl w1.heap.size w1)).alloc (Nat.le_refl _) _ |>.trans hb3
         have hC3 := C1.out.belowB hb13 (by omega)
         have e3 := hC3.cell 3
         have e6 := hC3.cell 6
         simp only [List.getElem?_cons_zero, List.getElem?_cons_succ] at e3 e6
         have HV3 := Lib.hid hv3
         have B13 := Lib.hid hb13
         obtain ⟨v', w4, hrun, hb4, hg4⟩ := hv3.app (HD1.out.belowB hb13 (Nat.le_refl _)) (by simp [beN_length]; omega) hb13.size
         have W4 := Lib.hid (below_grown hb13 hv3 (Nat.le_refl _) hb13.size hg4)
         have H4 := Lib.hid hb4
         have HRUN := Lib.hid hrun
         have hC4 := hC3.grown hg4 (fun e => by have := (hv3.block e).1; omega)
         have g3 := hC4.cell 3
         have g6 := hC4.cell 6
         simp only [List.getElem?_cons_zero, List.getElem?_cons_succ] at g3 g6
         clear hb3 hb13 hC3 hv3 hrun hb4 hg4 hC4)
      | (refine step_app_eq (by rfl) _ _ _ _ (by rfl) _ _ v' w4 (by rfl) (by rfl) HRUN.out ?_))
  go_wp2
  go_ret2
  rw [HR.out]
  exact ⟨_, _, rfl, by have := H4.out.base (base' := w.heap.size) (by omega); simpa using this, LinksIs.nil _ _, HB.out.trans (W4.out.mono (by omega))⟩
end Go.Proofs.YtokkokgdjnkbnaaGreatDoor
end
