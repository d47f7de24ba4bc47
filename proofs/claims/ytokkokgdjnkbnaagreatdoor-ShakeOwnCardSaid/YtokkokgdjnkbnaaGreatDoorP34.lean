/- Texts laid together: ShkOwn. -/
import Derived.Test.YtokkokgdjnkbnaaGreatDoorP26
import Derived.Test.YtokkokgdjnkbnaaGreatDoorP30
import Derived.Test.YtokkokgdjnkbnaaGreatDoorP31
import Derived.Test.YtokkokgdjnkbnaaGreatDoorP33
import Derived.StillTailTactics
section
/- Law ShakeOwn: the walk. -/
open Go Go.RowKit Go.Extern.Stop Go.Stop Go.Extern
namespace Go.Proofs.YtokkokgdjnkbnaaGreatDoor
set_option linter.unusedSimpArgs false

theorem BufIs.rows {base : Nat} {l : List UInt8} {w : World} {g n c : Nat} (h : BufIs base (.slice (some ⟨g, 0, none⟩) n c) l w) : ∃ cs, Cells w g 5 cs ∧ l.length ≤ cs.length := by
  obtain ⟨h1, ⟨h2, _⟩ | ⟨g', cap, cur, hv, hbg, hcell, hn, hc, hcs, htake⟩⟩ := h
  · cases h2
  · cases hv
    refine ⟨cur.toList, by unfold Cells; simpa using hcell, ?_⟩
    have := congrArg List.length htake
    rw [List.length_take, bytesV_length] at this
    omega
/-- a list of bytes that is written to, and nothing else -/
structure OwnI (v : Value) (n : Nat) (w0 wr : World) : Prop where
  keep : Keep (fun j => v.ownBlock = some j) w0 wr
  row : ∀ g m c, v = .slice (some ⟨g, 0, none⟩) m c → ∃ cs, Cells wr g 5 cs ∧ n ≤ cs.length
theorem OwnI.mk' {base : Nat} {v : Value} {l : List UInt8} {w : World} (h : BufIs base v l w) : OwnI v l.length w w := ⟨Keep.refl _ _, fun _ _ _ e => by subst e; exact h.rows⟩
theorem OwnI.set_ {g m c n : Nat} {w0 wr : World} (h : OwnI (.slice (some ⟨g, 0, none⟩) m c) n w0 wr) (k : Nat) (u : Value) : OwnI (.slice (some ⟨g, 0, none⟩) m c) n w0 (wr.setCell ⟨g, k, none⟩ u) := by
  refine ⟨h.keep.setCell (p := ⟨g, k, none⟩) (fun _ => rfl) u, fun g' m' c' e => ?_⟩
  cases e
  obtain ⟨cs, h1, h2⟩ := h.row _ _ _ rfl
  exact ⟨_, h1.set_ k u, by rw [List.length_set]; exact h2⟩
theorem OwnI.below {v : Value} {n B : Nat} {w0 wr : World} (h : OwnI v n w0 wr) (hB : B ≤ w0.heap.size) (hv : ∀ j, v.ownBlock = some j → B ≤ j) : Below B w0 wr := h.keep.toBelow hB hv

/-- Read: the message's digest stays as it is whatever happens to the blocks that were there before -/
def RdO (w : World) (r : Msg × List Lk) (e : Ending) (w' : World) : Prop := ∃ dv ev, e = .returned (.tuple #[r.1.val dv, ev]) ∧ RSl dv r.1.digest w' ∧
  (∀ w'', (∀ j, w.heap.size ≤ j → j < w'.heap.size → w''.heap[j]? = w'.heap[j]?) → RSl dv r.1.digest w'') ∧ Below w.heap.size w w'
theorem readS_ne (k : Int) (b : List UInt8) (h : (readS k b).1.digest ≠ []) : (k = 4 ∨ k = 5) ∧ b.head? = some (letS k) ∧ ¬ b.length < wantS k := by
  unfold readS at h
  split at h
  · exact absurd rfl h
  · split at h
    · exact absurd rfl h
    · rename_i h2
      split at h
      · split at h <;> exact absurd rfl h
      · split at h
        · exact absurd rfl h
        · rename_i h4
          split at h
          · rename_i h5
            exact ⟨h5, Classical.byContradiction fun e => h2 e, h4⟩
          · simp only at h
            split at h
            · exact absurd rfl h
            · split at h
              · exact absurd rfl h
              · split at h <;> exact absurd rfl h
theorem readO_any (k : Int) (bv : Value) (b : List UInt8) (w : World) (hb : RSl bv b w) (hz : b.length ≤ 140737488351232) (hE : ErrT w) :
    Calls Tryz.prog 13 #[.int .i64 k, bv] w (RdO w (readS k b)) := by
  by_cases hd : (readS k b).1.digest = []
  · refine (read_any k bv b w hb hz hE).mono ?_
    rintro e w' ⟨dv, ev, rfl, hdv, _, hbw⟩
    refine ⟨dv, ev, rfl, hdv, fun w'' _ => ?_, hbw⟩
    rw [hd] at hdv ⊢
    obtain ⟨a, c, h1, h2, h3, _⟩ := hdv
    exact ⟨a, c, h1, h2, h3, fun j hj => absurd hj (Nat.not_lt_zero _)⟩
  · obtain ⟨h45, hh, hl⟩ := readS_ne k b hd
    have go : Calls Tryz.prog 13 #[.int .i64 k, bv] w (RetMO w.heap.size w (readS k b)) := by
      rcases h45 with rfl | rfl
      · exact read_4_own bv b w hb hz hh (by have : wantS 4 = 21 := rfl; omega)
      · exact read_5_own bv b w hb hz hh (by have : wantS 5 = 17 := rfl; omega)
    refine go.mono ?_
    rintro e w' ⟨dv, ev, rfl, hdv, _, hbw⟩
    exact ⟨dv, ev, rfl, hdv.rsl, fun w'' hw => (hdv.frame fun j hj => hw j (hdv.block hj).1 (hdv.block hj).2).rsl, hbw⟩

/-- blocks of a range are written to, rows of bytes stay rows -/
structure Own2 (lo hi : Nat) (w0 wr : World) : Prop where
  keep : Keep (fun j => lo ≤ j ∧ j < hi) w0 wr
  row : ∀ g cs, Cells w0 g 5 cs → ∃ cs', Cells wr g 5 cs' ∧ cs'.length = cs.length
theorem Own2.refl (lo hi : Nat) (w : World) : Own2 lo hi w w := ⟨Keep.refl _ _, fun _ cs h => ⟨cs, h, rfl⟩⟩
theorem Own2.set_ {lo hi : Nat} {w0 wr : World} (h : Own2 lo hi w0 wr) (g k : Nat) (u : Value) (hg : lo ≤ g ∧ g < hi) : Own2 lo hi w0 (wr.setCell ⟨g, k, none⟩ u) := by
  refine ⟨h.keep.setCell (p := ⟨g, k, none⟩) (fun _ => hg) u, fun g' cs hc => ?_⟩
  obtain ⟨cs', h1, h2⟩ := h.row g' cs hc
  by_cases e : g' = g
  · subst e
    exact ⟨_, h1.set_ k u, by rw [List.length_set]; exact h2⟩
  · exact ⟨cs', h1.far (p := ⟨g, k, none⟩) e u, h2⟩

set_option maxHeartbeats 8000000 in
set_option maxRecDepth 100000 in
theorem own8_walk (m : Msg) (dv : Value) (k : Int) (cv : Value) (c : List UInt8) (w : World) (hd : RSl dv m.digest w) (hm : m.Ok) (hc : RSl cv c w) (hz : c.length ≤ 140737488351232) (hG : Gl w) :
    Calls Tryz.prog 8 #[m.val dv, .int .i64 k, cv] w fun e w' => e = .returned (.bool true) ∧ Below w.heap.size w w' := by
  have HM := Lib.hid hm
  have HG := Lib.hid hG
  have HCV := Lib.hid hc
  have HDV := Lib.hid hd
  have HZ := Lib.hid hz
  have hlz : IntKind.i64.wrap (c.length : Int) = c.length := IntWalk.i64_in _ (by omega)
  have hdz := hm.dz
  obtain ⟨da, dc, rfl, _, _⟩ := hd.shape
  obtain ⟨ca, cc, rfl, _, _⟩ := hc.shape
  generalize hcvv : (Value.slice ca c.length cc) = cv at *
  clear hcvv
  have HB0 := Lib.hid ((Below.refl w.heap.size w).alloc (Nat.le_refl _) (.cells #[.int .i64 m.kind, .int .u64 m.flags, .int .u32 m.creation, .int .u32 m.challenge, .string m.name, .string m.status, (.slice da m.digest.length dc)] 27 (0, 0)))
  have CM0 := Lib.hid (Cells.new w 27 [.int .i64 m.kind, .int .u64 m.flags, .int .u32 m.creation, .int .u32 m.challenge, .string m.name, .string m.status, (.slice da m.digest.length dc)])
  obtain ⟨v7, w1, hrun1, hv7, hg1⟩ := (BufIs.lit (base := (w.alloc (.cells #[.int .i64 m.kind, .int .u64 m.flags, .int .u32 m.creation, .int .u32 m.challenge, .string m.name, .string m.status, (.slice da m.digest.length dc)] 27 (0, 0))).heap.size) (w := w.alloc (.cells #[.int .i64 m.kind, .int .u64 m.flags, .int .u32 m.creation, .int .u32 m.challenge, .string m.name, .string m.status, (.slice da m.digest.length dc)] 27 (0, 0))) [] (Nat.le_refl _) (Nat.zero_le _)).app ((HCV.out.below HB0.out).alloc (.cells (bytesV []).toArray 5 (0, 0))) (by simp; omega) (by simp)
  rw [List.nil_append] at hv7
  have HB1 := Lib.hid ((HB0.out.alloc HB0.out.size (.cells (bytesV []).toArray 5 (0, 0))).grown hg1 (Nat.le_trans HB0.out.size (by simp)) (fun j hj => by rw [← Option.some.inj hj]; exact HB0.out.size))
  have CM1 := Lib.hid ((CM0.out.alloc (.cells (bytesV []).toArray 5 (0, 0))).grown hg1 (fun e => by have := Option.some.inj e; simp at this))
  have HRUN1 := Lib.hid (by have h := hrun1; simp only [World.size_alloc] at h; exact h)
  have V71 := Lib.hid hv7
  have CN2 := Lib.hid (Cells.new w1 27 [.int .i64 m.kind, .int .u64 m.flags, .int .u32 m.creation, .int .u32 m.challenge, .string m.name, .string m.status, (.slice da m.digest.length dc)])
  have HB2 := Lib.hid (HB1.out.alloc HB1.out.size (.cells #[.int .i64 m.kind, .int .u64 m.flags, .int .u32 m.creation, .int .u32 m.challenge, .string m.name, .string m.status, (.slice da m.digest.length dc)] 27 (0, 0)))
  have CM2 := Lib.hid (CM1.out.alloc (.cells #[.int .i64 m.kind, .int .u64 m.flags, .int .u32 m.creation, .int .u32 m.challenge, .string m.name, .string m.status, (.slice da m.digest.length dc)] 27 (0, 0)))
  have V72 := Lib.hid (hv7.alloc (.cells #[.int .i64 m.kind, .int .u64 m.flags, .int .u32 m.creation, .int .u32 m.challenge, .string m.name, .string m.status, (.slice da m.digest.length dc)] 27 (0, 0)))
  obtain ⟨v26, w3, hrun2, hv26, hg3⟩ := (BufIs.lit (base := (w1.alloc (.cells #[.int .i64 m.kind, .int .u64 m.flags, .int .u32 m.creation, .int .u32 m.challenge, .string m.name, .string m.status, (.slice da m.digest.length dc)] 27 (0, 0))).heap.size) (w := w1.alloc (.cells #[.int .i64 m.kind, .int .u64 m.flags, .int .u32 m.creation, .int .u32 m.challenge, .string m.name, .string m.status, (.slice da m.digest.length dc)] 27 (0, 0))) [] (Nat.le_refl _) (Nat.zero_le _)).app ((HDV.out.below HB2.out).alloc (.cells (bytesV []).toArray 5 (0, 0))) (by simp; omega) (by simp)
  rw [List.nil_append] at hv26
  have n1 : w.heap.size < w1.heap.size := CM1.out.lt
  have hmb : some (w1.alloc (.cells #[.int .i64 m.kind, .int .u64 m.flags, .int .u32 m.creation, .int .u32 m.challenge, .string m.name, .string m.status, (.slice da m.digest.length dc)] 27 (0, 0))).heap.size ≠ some w.heap.size := fun e => by have := Option.some.inj e; simp at this; omega
  have hnb : some (w1.alloc (.cells #[.int .i64 m.kind, .int .u64 m.flags, .int .u32 m.creation, .int .u32 m.challenge, .string m.name, .string m.status, (.slice da m.digest.length dc)] 27 (0, 0))).heap.size ≠ some w1.heap.size := fun e => by have := Option.some.inj e; simp at this
  have HB3 := Lib.hid ((HB2.out.alloc HB2.out.size (.cells (bytesV []).toArray 5 (0, 0))).grown hg3 (Nat.le_trans HB2.out.size (by simp)) (fun j hj => by rw [← Option.some.inj hj]; exact HB2.out.size))
  have CM3 := Lib.hid ((CM2.out.alloc (.cells (bytesV []).toArray 5 (0, 0))).grown hg3 hmb)
  have CN3 := Lib.hid ((CN2.out.alloc (.cells (bytesV []).toArray 5 (0, 0))).grown hg3 hnb)
  have V73 := Lib.hid ((V72.out.alloc (.cells (bytesV []).toArray 5 (0, 0))).frame (w' := w3) (fun j hj => hg3.block j (by have := (V72.out.block hj).2; simp at this ⊢; omega) (fun e => by have := Option.some.inj e; have h2 := (V72.out.block hj).2; rw [this] at h2; exact Nat.lt_irrefl _ h2)))
  have HRUN2 := Lib.hid (by have h := hrun2; simp only [World.size_alloc] at h; exact h)
  have V263 := Lib.hid hv26
  have m6 := CM2.out.cell 6
  have x6 := CN3.out.cell 6
  have fx6 := CN3.out.frozen 6
  simp only [List.getElem?_cons_zero, List.getElem?_cons_succ] at m6 x6
  have HB4 := Lib.hid (HB3.out.setCell (p := ⟨w1.heap.size, 6, none⟩) (Nat.le_of_lt n1) v26)
  have CM4 := Lib.hid (CM3.out.far (p := ⟨w1.heap.size, 6, none⟩) (Nat.ne_of_lt n1) v26)
  have CN4 := Lib.hid (CN3.out.set_ 6 v26)
  have f7 : v7.ownBlock ≠ some w1.heap.size := V73.out.ne_cells CN3.out (by decide)
  have f26 : v26.ownBlock ≠ some w1.heap.size := V263.out.ne_cells CN3.out (by decide)
  have V74 := Lib.hid (V73.out.frame (w' := w3.setCell ⟨w1.heap.size, 6, none⟩ v26) (fun j hj => Below.heap_setCell _ _ _ j (fun e => f7 (by rw [hj]; exact congrArg some e))))
  have V264 := Lib.hid (V263.out.frame (w' := w3.setCell ⟨w1.heap.size, 6, none⟩ v26) (fun j hj => Below.heap_setCell _ _ _ j (fun e => f26 (by rw [hj]; exact congrArg some e))))
  have HL7 := Lib.hid (fun j (hj : v7.ownBlock = some j) => (⟨Nat.le_trans HB0.out.size (V71.out.block hj).1, (V71.out.block hj).2⟩ : w.heap.size ≤ j ∧ j < w1.heap.size))
  have HL26 := Lib.hid (fun j (hj : v26.ownBlock = some j) => (⟨(V263.out.block hj).1, (V263.out.block hj).2⟩ : (w1.alloc (.cells #[.int .i64 m.kind, .int .u64 m.flags, .int .u32 m.creation, .int .u32 m.challenge, .string m.name, .string m.status, (.slice da m.digest.length dc)] 27 (0, 0))).heap.size ≤ j ∧ j < w3.heap.size))
  have HRD := Lib.hid (readO_any k v7 c _ V74.out.rsl hz (HG.out.below HB4.out).e)
  have HRS := Lib.hid (fun W (h : Below w.heap.size w W) => readR_any k cv c W (HCV.out.below h) HZ.out)
  clear hrun1 hv7 hg1 hrun2 hv26 hg3 hmb hnb f7 f26 hd hc hm hG hz hdz
  generalize readS k c = rr at *
  obtain ⟨x, xl⟩ := rr
  unfold Msg.val
  go_enter Tryz.func8, Tryz.ntmps8
  go_wp2_with (at_builtin; refine stop ?_)
  refine Stopped.of ?_
  refine wp_app_eq rfl (.tmp 19) (.tmp 20) _ _ rfl _ _ v7 w1 rfl rfl HRUN1.out ?_
  have a0 := CM1.out.cell 0
  have a1 := CM1.out.cell 1
  have a2 := CM1.out.cell 2
  have a3 := CM1.out.cell 3
  have a4 := CM1.out.cell 4
  have a5 := CM1.out.cell 5
  have a6 := CM1.out.cell 6
  simp only [List.set_cons_succ, List.set_cons_zero, List.getElem?_cons_zero, List.getElem?_cons_succ] at a0 a1 a2 a3 a4 a5 a6
  have alt := CM1.out.lt
  go_wp2_with (at_builtin; refine stop ?_)
  refine Stopped.of ?_
  refine wp_app_eq rfl (.tmp 23) (.tmp 25) _ _ rfl _ _ v26 w3 rfl rfl HRUN2.out ?_
  clear a0 a1 a2 a3 a4 a5 a6 alt m6 HRUN1 HRUN2
  rcases V263.out.shape with ⟨rfl, -⟩ | ⟨g26, q26, rfl, -⟩
  all_goals
    go_wp2_with fail
    refine HRD.out.mono ?_
    rintro e w5 ⟨dvx, ev, rfl, hdx, hown, hb5⟩
    have HB5 := Lib.hid (HB4.out.trans (hb5.mono HB4.out.size))
    have CM5 := CM4.out.below hb5
    have CN5 := CN4.out.below hb5
    have V75 := V74.out.below hb5 (Nat.le_refl _)
    have V265 := V264.out.below hb5 (Nat.le_refl _)
    have hs5 := hb5.size
    simp only [World.size_setCell] at hs5
    obtain ⟨xa, xc, rfl, _, _⟩ := hdx.shape
    have HOWN := Lib.hid hown
    have CX6 := Lib.hid (Cells.new w5 27 [.int .i64 x.kind, .int .u64 x.flags, .int .u32 x.creation, .int .u32 x.challenge, .string x.name, .string x.status, (.slice xa x.digest.length xc)])
    have HB6 := Lib.hid (HB5.out.alloc HB5.out.size (.cells #[.int .i64 x.kind, .int .u64 x.flags, .int .u32 x.creation, .int .u32 x.challenge, .string x.name, .string x.status, (.slice xa x.digest.length xc)] 27 (0, 0)))
    have CM6 := Lib.hid (CM5.alloc (.cells #[.int .i64 x.kind, .int .u64 x.flags, .int .u32 x.creation, .int .u32 x.challenge, .string x.name, .string x.status, (.slice xa x.digest.length xc)] 27 (0, 0)))
    have CN6 := Lib.hid (CN5.alloc (.cells #[.int .i64 x.kind, .int .u64 x.flags, .int .u32 x.creation, .int .u32 x.challenge, .string x.name, .string x.status, (.slice xa x.digest.length xc)] 27 (0, 0)))
    have V76 := Lib.hid (V75.alloc (.cells #[.int .i64 x.kind, .int .u64 x.flags, .int .u32 x.creation, .int .u32 x.challenge, .string x.name, .string x.status, (.slice xa x.digest.length xc)] 27 (0, 0)))
    have V266 := Lib.hid (V265.alloc (.cells #[.int .i64 x.kind, .int .u64 x.flags, .int .u32 x.creation, .int .u32 x.challenge, .string x.name, .string x.status, (.slice xa x.digest.length xc)] 27 (0, 0)))
    have HW := write_any m _ _ V266.out.rsl HM.out (HG.out.below HB6.out).e
    unfold Msg.val at HW
    replace HW := Lib.hid HW
    clear hdx hown hb5 CM5 CN5 V75 V265 HRD HB4 CM4 CN4 V74 V264
    have b0 := CN6.out.cell 0
    have b1 := CN6.out.cell 1
    have b2 := CN6.out.cell 2
    have b3 := CN6.out.cell 3
    have b4 := CN6.out.cell 4
    have b5 := CN6.out.cell 5
    have b6 := CN6.out.cell 6
    simp only [List.set_cons_succ, List.set_cons_zero, List.getElem?_cons_zero, List.getElem?_cons_succ] at b0 b1 b2 b3 b4 b5 b6
    have blt := CN6.out.lt
    unfold Msg.val
    go_wp2_with fail
    refine HW.out.mono ?_
    rintro e w7 ⟨bv, ev2, rfl, hbv, _, hb7⟩
    have Y7 := Lib.hid hbv
    have HB7 := Lib.hid (HB6.out.trans (hb7.mono HB6.out.size))
    have HEQ7 := Lib.hid (fun j (h : j < w5.heap.size) => ((hb7.block j (by simp; omega)).trans (Below.heap_alloc w5 _ j h) : w7.heap[j]? = w5.heap[j]?))
    have CM7 := Lib.hid (CM6.out.below hb7)
    have CN7 := Lib.hid (CN6.out.below hb7)
    have CX7 := Lib.hid (CX6.out.below hb7)
    have V77 := Lib.hid (V76.out.below hb7 (Nat.le_refl _))
    have V267 := Lib.hid (V266.out.below hb7 (Nat.le_refl _))
    clear b0 b1 b2 b3 b4 b5 b6 blt hbv hb7 HW CM6 CN6 CX6 V76 V266
    have b0 := CN7.out.cell 0
    have b1 := CN7.out.cell 1
    have b2 := CN7.out.cell 2
    have b3 := CN7.out.cell 3
    have b4 := CN7.out.cell 4
    have b5 := CN7.out.cell 5
    have b6 := CN7.out.cell 6
    simp only [List.set_cons_succ, List.set_cons_zero, List.getElem?_cons_zero, List.getElem?_cons_succ] at b0 b1 b2 b3 b4 b5 b6
    have a0 := CM7.out.cell 0
    have a1 := CM7.out.cell 1
    have a2 := CM7.out.cell 2
    have a3 := CM7.out.cell 3
    have a4 := CM7.out.cell 4
    have a5 := CM7.out.cell 5
    have a6 := CM7.out.cell 6
    simp only [List.set_cons_succ, List.set_cons_zero, List.getElem?_cons_zero, List.getElem?_cons_succ] at a0 a1 a2 a3 a4 a5 a6
    have blt := CN7.out.lt
    have alt := CM7.out.lt
    have s1 := run_slice_string V77.out.rsl.slice
    have s2 := run_slice_string (HCV.out.below HB7.out).slice
    have HS := sameR_self m _ _ w7 V267.out.rsl (HDV.out.below HB7.out)
    unfold Msg.val at HS
    replace HS := Lib.hid HS
    go_wp2_with fail
    refine HS.out.mono ?_
    rintro e w8 ⟨rfl, hb8⟩
    have HA := Lib.hid (awake_any w8 (HG.out.below (HB7.out.trans (hb8.mono HB7.out.size))))
    clear s1 s2 HS b0 b1 b2 b3 b4 b5 b6 a0 a1 a2 a3 a4 a5 a6 blt alt
    go_wp2_with fail
    refine HA.out.mono ?_
    rintro e w9 ⟨rfl, hb9⟩
    have hb79 := hb8.trans (hb9.mono hb8.size)
    have HB9 := Lib.hid (HB7.out.trans (hb79.mono HB7.out.size))
    have CM9 := Lib.hid (CM7.out.below hb79)
    have CN9 := Lib.hid (CN7.out.below hb79)
    have CX9 := Lib.hid (CX7.out.below hb79)
    have V79 := Lib.hid (V77.out.below hb79 (Nat.le_refl _))
    have V269 := Lib.hid (V267.out.below hb79 (Nat.le_refl _))
    have Y9 := Lib.hid (Y7.out.below hb79 (Nat.le_refl _))
    have hs79 : w5.heap.size ≤ w9.heap.size := by have h1 := CX9.out.lt; omega
    have HS59 := Lib.hid hs79
    have HEQ9 := Lib.hid (fun j (h : j < w5.heap.size) => ((hb79.block j (by have := CX7.out.lt; omega)).trans (HEQ7.out j h) : w9.heap[j]? = w5.heap[j]?))
    have HSA := Lib.hid hs5
    have HD9 := Lib.hid (fun (W : World) (h : ∀ j, w3.heap.size ≤ j → j < w5.heap.size → W.heap[j]? = w9.heap[j]?) => HOWN.out W (fun j h1 h2 => by
      simp only [World.size_setCell] at h1
      rw [h j h1 h2]
      exact HEQ9.out j h2))
    clear hb8 hb9 hb79 HA CM7 CN7 CX7 V77 V267 Y7 HB7 hs79 hs5
    have hlen7 := run_buf_len V79.out
    go_wp2_with fail
    go_loopw [56] (fun i wr => ∃ kk : Nat, kk ≤ c.length ∧ i = .int .i64 kk ∧ OwnI v7 c.length w9 wr) (fun i _ => c.length - (intOf i).toNat)
    case atStart => exact ⟨0, Nat.zero_le _, rfl, OwnI.mk' V79.out⟩
    case round =>
      obtain ⟨kk, hkk, rfl, hi⟩ := hrel
      by_cases hlt : kk < c.length
      · have hw2 : IntKind.i64.wrap ((kk : Int) + 1) = (kk : Int) + 1 := IntWalk.i64_in _ (by have := HZ.out; omega)
        have hki : (kk : Int) < (c.length : Int) := by omega
        have hk0 : (0 : Int) ≤ (kk : Int) := by omega
        rcases V79.out.shape with ⟨_, hnil⟩ | ⟨g7, q7, h7, _⟩
        · rw [hnil] at hlt; exact absurd hlt (Nat.not_lt_zero _)
        subst h7
        obtain ⟨cs, hcs, hle⟩ := hi.row _ _ _ rfl
        obtain ⟨old, hx⟩ : ∃ old, wr.cell? ⟨g7, kk, none⟩ = some old := ⟨cs[kk]'(by omega), by rw [hcs.cell kk, List.getElem?_eq_getElem]⟩
        have hfx := hcs.frozen kk
        have HI := Lib.hid (hi.set_ kk (.int .u8 1))
        clear hi hcs hle
        go_wp2
        go_roundw
        case rel => exact ⟨kk + 1, by omega, by go_num, HI.out⟩
        case measure => simp [intOf]; omega
      · have hki : ¬ (kk : Int) < (c.length : Int) := by omega
        have n3 := CN3.out.lt
        have hsa := HSA.out
        have K1 := hi.keep
        have HB10 := Lib.hid (HB9.out.trans (hi.below HB9.out.size (fun j hj => (HL7.out j hj).1)))
        have CM10 := Lib.hid (CM9.out.keep K1 (fun e => V79.out.ne_cells CM9.out (by decide) e))
        have CN10 := Lib.hid (CN9.out.keep K1 (fun e => V79.out.ne_cells CN9.out (by decide) e))
        have CX10 := Lib.hid (CX9.out.keep K1 (fun e => V79.out.ne_cells CX9.out (by decide) e))
        have V2610 := Lib.hid (V269.out.keep K1 (fun j hj e => by have h1 := (HL7.out j e).2; have h2 := (HL26.out j hj).1; simp at h2; omega))
        have Y10 := Lib.hid (Y9.out.keep K1 (fun j hj e => by have h1 := (HL7.out j e).2; have h2 := (Y9.out.block hj).1; simp at h2; omega))
        have HK10 := Lib.hid (fun j (h : w3.heap.size ≤ j) (h2 : j < w9.heap.size) => (K1.block j h2 (fun e => by have h1 := (HL7.out j e).2; omega) : wr.heap[j]? = w9.heap[j]?))
        have hlen26 := run_buf_len V2610.out
        clear hi K1 hlen7 V79 V269 Y9 CM9 CN9 CX9 HB9
        rename World => wA
        have b0 := CN10.out.cell 0
        have b1 := CN10.out.cell 1
        have b2 := CN10.out.cell 2
        have b3 := CN10.out.cell 3
        have b4 := CN10.out.cell 4
        have b5 := CN10.out.cell 5
        have b6 := CN10.out.cell 6
        simp only [List.set_cons_succ, List.set_cons_zero, List.getElem?_cons_zero, List.getElem?_cons_succ] at b0 b1 b2 b3 b4 b5 b6
        have blt := CN10.out.lt
        go_wp2_with fail
        go_loopw [66] (fun i wr2 => ∃ kk2 : Nat, kk2 ≤ m.digest.length ∧ i = .int .i64 kk2 ∧ Own2 (w1.heap.size + 1) w3.heap.size wA wr2) (fun i _ => m.digest.length - (intOf i).toNat)
        case atStart => exact ⟨0, Nat.zero_le _, rfl, Own2.refl _ _ _⟩
        case round =>
          obtain ⟨kk2, hkk2, rfl, hi2⟩ := hrel
          clear b0 b1 b2 b3 b4 b5 b6 blt
          have CN11 := CN10.out.keep hi2.keep (fun e => by have := e.1; omega)
          have x6' := CN11.cell 6
          simp only [List.set_cons_succ, List.set_cons_zero, List.getElem?_cons_zero, List.getElem?_cons_succ] at x6'
          by_cases hlt2 : kk2 < m.digest.length
          · have hw2 : IntKind.i64.wrap ((kk2 : Int) + 1) = (kk2 : Int) + 1 := IntWalk.i64_in _ (by have := HM.out.dz; omega)
            have hki2 : (kk2 : Int) < (m.digest.length : Int) := by omega
            have hk0 : (0 : Int) ≤ (kk2 : Int) := by omega
            rcases V2610.out.shape with ⟨_, hnil⟩ | ⟨gq, qq, hx26, _⟩
            · rw [hnil] at hlt2; exact absurd hlt2 (Nat.not_lt_zero _)
            have hrow := V2610.out
            have hrg := HL26.out gq (by rw [hx26]; rfl)
            rw [hx26] at hrow
            obtain ⟨cs, hcs, hle⟩ := hrow.rows
            obtain ⟨cs', hcs', hl'⟩ := hi2.row _ _ hcs
            obtain ⟨old, hx⟩ : ∃ old, wr.cell? ⟨gq, kk2, none⟩ = some old := ⟨cs'[kk2]'(by omega), by rw [hcs'.cell kk2, List.getElem?_eq_getElem]⟩
            have hfx := hcs'.frozen kk2
            have HI := Lib.hid (hi2.set_ gq kk2 (.int .u8 1) (by simpa using hrg))
            clear hi2 hcs hcs' hle hl' hrow hrg CN11
            cases hx26 <;> (
              go_wp2
              go_roundw
              case rel => exact ⟨kk2 + 1, by omega, by go_num, HI.out⟩
              case measure => simp [intOf]; omega)
          · have hki2 : ¬ (kk2 : Int) < (m.digest.length : Int) := by omega
            have K2 := hi2.keep
            have HB12 := Lib.hid (HB10.out.trans (K2.toBelow HB10.out.size (fun j hj => by have := hj.1; omega)))
            have CM12 := Lib.hid (CM10.out.keep K2 (fun e => by have := e.1; omega))
            have CX12 := Lib.hid (CX10.out.keep K2 (fun e => by have := e.2; omega))
            have Y12 := Lib.hid (Y10.out.keep K2 (fun j hj e => by have h1 := e.2; have h2 := (Y10.out.block hj).1; simp at h2; omega))
            have hsz9 := HS59.out
            have DX12 := Lib.hid (HD9.out wr (fun j h1 h2 => (K2.block j (by have := CX10.out.lt; omega) (fun e => by have := e.2; omega)).trans (HK10.out j h1 (by omega))))
            have HRS2 := Lib.hid (HRS.out wr HB12.out)
            clear hi2 K2 CN11 x6' hlen26 HRS
            go_wp2_with fail
            refine HRS2.out.mono ?_
            rintro e w13 ⟨dvu, lu, rfl, hdu, _, _, hb13⟩
            obtain ⟨ua, uc, rfl, _, _⟩ := hdu.shape
            have hn13 := (Below.refl w13.heap.size w13).alloc (Nat.le_refl _) (.cells #[.int .i64 x.kind, .int .u64 x.flags, .int .u32 x.creation, .int .u32 x.challenge, .string x.name, .string x.status, (.slice ua x.digest.length uc)] 27 (0, 0))
            have hb14 := hb13.trans (hn13.mono hb13.size)
            have HB14 := Lib.hid (HB12.out.trans (hb14.mono HB12.out.size))
            have CM14 := Lib.hid (CM12.out.below hb14)
            have CX14 := Lib.hid (CX12.out.below hb14)
            have CU14 := Lib.hid (Cells.new w13 27 [.int .i64 x.kind, .int .u64 x.flags, .int .u32 x.creation, .int .u32 x.challenge, .string x.name, .string x.status, (.slice ua x.digest.length uc)])
            have Y14 := Lib.hid (Y12.out.below hb14 (Nat.le_refl _))
            have DX14 := Lib.hid (DX12.out.below hb14)
            have DU14 := Lib.hid (hdu.below hn13)
            have HWR := writeR_any m _ _ (HDV.out.below HB14.out) HM.out
            unfold Msg.val at HWR ⊢
            replace HWR := Lib.hid HWR
            clear hb13 hb14 hn13 hdu HRS2 CM12 CX12 Y12 DX12
            have a0 := CM14.out.cell 0
            have a1 := CM14.out.cell 1
            have a2 := CM14.out.cell 2
            have a3 := CM14.out.cell 3
            have a4 := CM14.out.cell 4
            have a5 := CM14.out.cell 5
            have a6 := CM14.out.cell 6
            simp only [List.set_cons_succ, List.set_cons_zero, List.getElem?_cons_zero, List.getElem?_cons_succ] at a0 a1 a2 a3 a4 a5 a6
            have alt := CM14.out.lt
            go_wp2_with fail
            refine HWR.out.mono ?_
            rintro e w15 ⟨yv, ly, rfl, hyv, _, hb15⟩
            have HB15 := Lib.hid (HB14.out.trans (hb15.mono HB14.out.size))
            have HS2 := sameR_self x _ _ w15 (DX14.out.below hb15) (DU14.out.below hb15)
            unfold Msg.val at HS2
            replace HS2 := Lib.hid HS2
            have CX15 := Lib.hid (CX14.out.below hb15)
            have CU15 := Lib.hid (CU14.out.below hb15)
            have Y15 := Lib.hid (Y14.out.below hb15 (Nat.le_refl _))
            clear a0 a1 a2 a3 a4 a5 a6 alt hb15 HWR CX14 CU14 Y14 DX14 DU14
            have x0 := CX15.out.cell 0
            have x1 := CX15.out.cell 1
            have x2 := CX15.out.cell 2
            have x3 := CX15.out.cell 3
            have x4 := CX15.out.cell 4
            have x5 := CX15.out.cell 5
            have x6 := CX15.out.cell 6
            simp only [List.set_cons_succ, List.set_cons_zero, List.getElem?_cons_zero, List.getElem?_cons_succ] at x0 x1 x2 x3 x4 x5 x6
            have u0 := CU15.out.cell 0
            have u1 := CU15.out.cell 1
            have u2 := CU15.out.cell 2
            have u3 := CU15.out.cell 3
            have u4 := CU15.out.cell 4
            have u5 := CU15.out.cell 5
            have u6 := CU15.out.cell 6
            simp only [List.set_cons_succ, List.set_cons_zero, List.getElem?_cons_zero, List.getElem?_cons_succ] at u0 u1 u2 u3 u4 u5 u6
            have xlt := CX15.out.lt
            have ult := CU15.out.lt
            go_wp2_with fail
            refine HS2.out.mono ?_
            rintro e w16 ⟨rfl, hb16⟩
            have s3 := run_slice_string (Y15.out.rsl.below hb16).slice
            have s4 := run_slice_string (hyv.rsl.below hb16).slice
            have HB16 := HB15.out.trans (hb16.mono HB15.out.size)
            clear x0 x1 x2 x3 x4 x5 x6 u0 u1 u2 u3 u4 u5 u6 xlt ult
            go_wp2
            go_ret
            exact ⟨rfl, HB16⟩
end Go.Proofs.YtokkokgdjnkbnaaGreatDoor
end
