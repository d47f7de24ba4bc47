/- Tables that nobody made: AtomNobody. -/
import Derived.Test.YtdafikemndaeeaaDoorAtomL
open Go Go.RowKit
namespace Go.Proofs.YtdafikemndaeeaaDoor

def Dead (w : World) (t : Value) : Prop := t = .pointer none ∨ ∃ b, t = .pointer (some ⟨b, 0, none⟩) ∧ w.cell? ⟨b, 0, none⟩ = some (.bool false)
theorem Dead.below {w w' : World} {t : Value} (h : Dead w t) (hb : Below w.heap.size w w') : Dead w' t := by
  rcases h with h | ⟨b, h, hc⟩
  · exact .inl h
  · refine .inr ⟨b, h, ?_⟩
    rw [hb.cell (p := ⟨b, 0, none⟩) (World.block_lt_of_cell? w _ hc)]
    exact hc
theorem ok_dead (t : Value) (w : World) (h : Dead w t) : Calls Tryd.prog 67 #[t] w fun e w' => e = .returned (.bool false) ∧ w' = w := by
  rcases h with rfl | ⟨b, rfl, hc⟩
  · go_enter Tryd.func67, Tryd.ntmps67
    go_wp2
    go_ret
    exact ⟨rfl, rfl⟩
  · go_enter Tryd.func67, Tryd.ntmps67
    go_wp2
    go_ret
    exact ⟨rfl, rfl⟩
theorem put_dead (t : Value) (s : ByteArray) (w : World) (h : Dead w t) : Calls Tryd.prog 33 #[t, .string s] w fun e w' => ∃ ev, e = .returned (.tuple #[.int .i64 0, ev]) ∧ ErrIs w' ev [⟨atomL, 0, 3⟩] ∧ Below w.heap.size w w' := by
  have HO := Lib.hid (ok_dead t w h)
  clear h
  go_enter Tryd.func33, Tryd.ntmps33
  go_wp2_with (first | (go_at_call 67; refine HO.out.mono ?_; rintro e w' ⟨rfl, rfl⟩) | (go_at_call 48; refine (refused_any _ _ _).mono ?_; rintro e w' ⟨rfl, rfl⟩))
  go_ret2
  exact ⟨_, rfl, ErrIs.one, (Below.refl _ _).alloc (Nat.le_refl _) _⟩
theorem text_dead (t : Value) (n : Int) (w : World) (h : Dead w t) : Calls Tryd.prog 34 #[t, .int .i64 n] w fun e w' => ∃ ev, e = .returned (.tuple #[.string ⟨#[]⟩, ev]) ∧ ErrIs w' ev [⟨atomL, 0, 3⟩] ∧ Below w.heap.size w w' := by
  have HO := Lib.hid (ok_dead t w h)
  clear h
  go_enter Tryd.func34, Tryd.ntmps34
  go_wp2_with (first | (go_at_call 67; refine HO.out.mono ?_; rintro e w' ⟨rfl, rfl⟩) | (go_at_call 48; refine (refused_any _ _ _).mono ?_; rintro e w' ⟨rfl, rfl⟩))
  go_ret2
  exact ⟨_, rfl, ErrIs.one, (Below.refl _ _).alloc (Nat.le_refl _) _⟩
theorem find_dead (t : Value) (s : ByteArray) (w : World) (h : Dead w t) : Calls Tryd.prog 35 #[t, .string s] w fun e w' => e = .returned (.tuple #[.int .i64 0, .bool false]) ∧ w' = w := by
  have HO := Lib.hid (ok_dead t w h)
  clear h
  go_enter Tryd.func35, Tryd.ntmps35
  go_wp2_with (go_at_call 67; refine HO.out.mono ?_; rintro e w' ⟨rfl, rfl⟩)
  go_ret2
  exact ⟨rfl, rfl⟩
theorem len_dead (t : Value) (w : World) (h : Dead w t) : Calls Tryd.prog 37 #[t] w fun e w' => e = .returned (.int .i64 0) ∧ w' = w := by
  have HO := Lib.hid (ok_dead t w h)
  clear h
  go_enter Tryd.func37, Tryd.ntmps37
  go_wp2_with (go_at_call 67; refine HO.out.mono ?_; rintro e w' ⟨rfl, rfl⟩)
  go_ret
  exact ⟨rfl, rfl⟩
theorem free_dead (t : Value) (w : World) (h : Dead w t) : Calls Tryd.prog 38 #[t] w fun e w' => e = .returned (.int .i64 0) ∧ w' = w := by
  have HO := Lib.hid (ok_dead t w h)
  clear h
  go_enter Tryd.func38, Tryd.ntmps38
  go_wp2_with (go_at_call 67; refine HO.out.mono ?_; rintro e w' ⟨rfl, rfl⟩)
  go_ret
  exact ⟨rfl, rfl⟩

/-- the row [nil, &Table{}] -/
def ArrIs (w : World) (n : Nat) : Prop := w.heap[n + 1]? = some (.cells #[.pointer none, .pointer (some ⟨n, 0, none⟩)] 57 (0, 0))
theorem arr_below {w w' : World} {n : Nat} (h : ArrIs w n) (hb : Below w.heap.size w w') : ArrIs w' n := by
  unfold ArrIs at *
  rw [hb.block _ (Array.getElem?_eq_some_iff.1 h).1]
  exact h
theorem arr_mk (w : World) : ArrIs ((w.alloc (Obj.cells #[.bool false, .int .i64 0, .slice none 0 0, .map none] 61 (0, 0))).alloc (Obj.cells #[.pointer none, .pointer (some ⟨w.heap.size, 0, none⟩)] 57 (0, 0))) w.heap.size := by
  unfold ArrIs
  have := alloc_get (w.alloc (Obj.cells #[.bool false, .int .i64 0, .slice none 0 0, .map none] 61 (0, 0))) (Obj.cells #[.pointer none, .pointer (some ⟨w.heap.size, 0, none⟩)] 57 (0, 0))
  simpa using this
set_option maxHeartbeats 8000000 in
set_option maxRecDepth 100000 in
theorem nobody_walk (s : ByteArray) (n : Int) (w : World) (hT : Lib.Utf8Tabs 2 3 w) (hE : ErrT w) :
    Calls Tryd.prog 9 #[.string s, .int .i64 n] w fun e w' => e = .returned (.bool true) ∧ Below w.heap.size w w' := by
  have HA := fun w1 (h : Below w.heap.size w w1) => Lib.hid (alive01 w1 (Utf8Tabs_below hT h))
  have HF := fun ev lv base w1 (her : ErrIs w1 ev [⟨atomL, 0, 3⟩]) (hlk : LinksIs base lv [⟨atomL, 0, 3⟩] w1) (h : Below w.heap.size w w1) =>
    Lib.hid (refused_links ev [⟨atomL, 0, 3⟩] [⟨atomL, 0, 3⟩] lv base w1 her (by simp) (by simp) hlk (hE.below h))
  have hself : decide ([(⟨atomL, 0, 3⟩ : Lk)] = [⟨atomL, 0, 3⟩]) = true := by simp
  rw [hself] at HF
  clear hself
  have hcur : Below w.heap.size w ((w.alloc (Obj.cells #[.bool false, .int .i64 0, .slice none 0 0, .map none] 61 (0, 0))).alloc (Obj.cells #[.pointer none, .pointer (some ⟨w.heap.size, 0, none⟩)] 57 (0, 0))) := ((Below.refl _ w).alloc (Nat.le_refl _) _).alloc (by simp) _
  have hD : Dead ((w.alloc (Obj.cells #[.bool false, .int .i64 0, .slice none 0 0, .map none] 61 (0, 0))).alloc (Obj.cells #[.pointer none, .pointer (some ⟨w.heap.size, 0, none⟩)] 57 (0, 0))) (.pointer (some ⟨w.heap.size, 0, none⟩)) :=
    .inr ⟨_, rfl, by rw [((Below.refl _ (w.alloc (Obj.cells #[.bool false, .int .i64 0, .slice none 0 0, .map none] 61 (0, 0)))).alloc (Nat.le_refl _) _).cell (p := ⟨w.heap.size, 0, none⟩) (by simp)]; exact World.cell?_alloc_new _ _ _ _⟩
  have hA := arr_mk w
  go_enter Tryd.func9, Tryd.ntmps9
  go_wp2_with fail
  refine wp_loop_rounds 3 ?_
  rw [rounds_succ]
  go_wp2_with fail
  generalize hW : (w.alloc (Obj.cells #[.bool false, .int .i64 0, .slice none 0 0, .map none] 61 (0, 0))).alloc (Obj.cells #[.pointer none, .pointer (some ⟨w.heap.size, 0, none⟩)] 57 (0, 0)) = W0 at *
  clear hW
  refine (put_dead _ _ _ (.inl rfl)).mono ?_
  rintro e wa1 ⟨ev, rfl, her, hba⟩
  have hc := hcur.trans (hba.mono hcur.size)
  have hd := hD.below hba
  have ha := arr_below hA hba
  clear hcur hD hA; have hcur := hc; have hD := hd; have hA := ha; clear hc hd ha
  go_wp2_with fail
  refine (text_dead _ _ _ (.inl rfl)).mono ?_
  rintro e wb1 ⟨fv, rfl, hfr, hbb⟩
  have her2 := her.below hbb; clear her
  have hc := hcur.trans (hbb.mono hcur.size)
  have hd := hD.below hbb
  have ha := arr_below hA hbb
  clear hcur hD hA; have hcur := hc; have hD := hd; have hA := ha; clear hc hd ha
  go_wp2_with fail
  refine (find_dead _ _ _ (.inl rfl)).mono ?_
  rintro e wc1 ⟨rfl, rfl⟩
  go_wp2_with fail
  refine (one_any _ _ _ _).mono ?_
  rintro e wd1 ⟨rfl, rfl⟩
  have hbd := (Below.refl wc1.heap.size wc1).alloc (Nat.le_refl _) (.cells #[.string ⟨#[97, 116, 111, 109]⟩, .int .i64 0, .int .i64 3] 104 (0, 0))
  have her3 := her2.below hbd; have hfr3 := hfr.below hbd; clear her2 hfr
  have HL := LinksIs.lit (base := wc1.heap.size) (w := wc1) ⟨atomL, 0, 3⟩ (Nat.le_refl _)
  have hc := hcur.trans (hbd.mono hcur.size)
  have hd := hD.below hbd
  have ha := arr_below hA hbd
  clear hcur hD hA; have hcur := hc; have hD := hd; have hA := ha; clear hc hd ha
  have HF2 := HF ev _ _ _ her3 HL hcur; clear her3 HL
  go_wp2_with fail
  refine HF2.out.mono ?_; clear HF2
  rintro e we1 ⟨rfl, hbe⟩
  have hfr4 := hfr3.below hbe; clear hfr3
  have hc := hcur.trans (hbe.mono hcur.size)
  have hd := hD.below hbe
  have ha := arr_below hA hbe
  clear hcur hD hA; have hcur := hc; have hD := hd; have hA := ha; clear hc hd ha
  go_wp2_with fail
  refine (one_any _ _ _ _).mono ?_
  rintro e wf1 ⟨rfl, rfl⟩
  have hbf := (Below.refl we1.heap.size we1).alloc (Nat.le_refl _) (.cells #[.string ⟨#[97, 116, 111, 109]⟩, .int .i64 0, .int .i64 3] 104 (0, 0))
  have hfr5 := hfr4.below hbf; clear hfr4
  have HL := LinksIs.lit (base := we1.heap.size) (w := we1) ⟨atomL, 0, 3⟩ (Nat.le_refl _)
  have hc := hcur.trans (hbf.mono hcur.size)
  have hd := hD.below hbf
  have ha := arr_below hA hbf
  clear hcur hD hA; have hcur := hc; have hD := hd; have hA := ha; clear hc hd ha
  have HF2 := HF fv _ _ _ hfr5 HL hcur; clear hfr5 HL
  go_wp2_with fail
  refine HF2.out.mono ?_; clear HF2
  rintro e w1h ⟨rfl, hbg⟩
  have hc := hcur.trans (hbg.mono hcur.size)
  have hd := hD.below hbg
  have ha := arr_below hA hbg
  clear hcur hD hA; have hcur := hc; have hD := hd; have hA := ha; clear hc hd ha
  go_wp2_with fail
  refine (len_dead _ _ (.inl rfl)).mono ?_
  rintro e wi1 ⟨rfl, rfl⟩
  go_wp2_with fail
  refine (free_dead _ _ (.inl rfl)).mono ?_
  rintro e wj1 ⟨rfl, rfl⟩
  go_wp2_with fail
  have hcl : wj1.cell? ⟨w.heap.size + 1, 1, none⟩ = some (.pointer (some ⟨w.heap.size, 0, none⟩)) := cell_of_block hA 1
  rw [rounds_succ]
  go_wp2_with fail
  clear hcl
  refine (put_dead _ _ _ hD).mono ?_
  rintro e wa2 ⟨ev, rfl, her, hba⟩
  have hc := hcur.trans (hba.mono hcur.size)
  have hd := hD.below hba
  have ha := arr_below hA hba
  clear hcur hD hA; have hcur := hc; have hD := hd; have hA := ha; clear hc hd ha
  go_wp2_with fail
  refine (text_dead _ _ _ hD).mono ?_
  rintro e wb2 ⟨fv, rfl, hfr, hbb⟩
  have her2 := her.below hbb; clear her
  have hc := hcur.trans (hbb.mono hcur.size)
  have hd := hD.below hbb
  have ha := arr_below hA hbb
  clear hcur hD hA; have hcur := hc; have hD := hd; have hA := ha; clear hc hd ha
  go_wp2_with fail
  refine (find_dead _ _ _ hD).mono ?_
  rintro e wc2 ⟨rfl, rfl⟩
  go_wp2_with fail
  refine (one_any _ _ _ _).mono ?_
  rintro e wd2 ⟨rfl, rfl⟩
  have hbd := (Below.refl wc2.heap.size wc2).alloc (Nat.le_refl _) (.cells #[.string ⟨#[97, 116, 111, 109]⟩, .int .i64 0, .int .i64 3] 104 (0, 0))
  have her3 := her2.below hbd; have hfr3 := hfr.below hbd; clear her2 hfr
  have HL := LinksIs.lit (base := wc2.heap.size) (w := wc2) ⟨atomL, 0, 3⟩ (Nat.le_refl _)
  have hc := hcur.trans (hbd.mono hcur.size)
  have hd := hD.below hbd
  have ha := arr_below hA hbd
  clear hcur hD hA; have hcur := hc; have hD := hd; have hA := ha; clear hc hd ha
  have HF2 := HF ev _ _ _ her3 HL hcur; clear her3 HL
  go_wp2_with fail
  refine HF2.out.mono ?_; clear HF2
  rintro e we2 ⟨rfl, hbe⟩
  have hfr4 := hfr3.below hbe; clear hfr3
  have hc := hcur.trans (hbe.mono hcur.size)
  have hd := hD.below hbe
  have ha := arr_below hA hbe
  clear hcur hD hA; have hcur := hc; have hD := hd; have hA := ha; clear hc hd ha
  go_wp2_with fail
  refine (one_any _ _ _ _).mono ?_
  rintro e wf2 ⟨rfl, rfl⟩
  have hbf := (Below.refl we2.heap.size we2).alloc (Nat.le_refl _) (.cells #[.string ⟨#[97, 116, 111, 109]⟩, .int .i64 0, .int .i64 3] 104 (0, 0))
  have hfr5 := hfr4.below hbf; clear hfr4
  have HL := LinksIs.lit (base := we2.heap.size) (w := we2) ⟨atomL, 0, 3⟩ (Nat.le_refl _)
  have hc := hcur.trans (hbf.mono hcur.size)
  have hd := hD.below hbf
  have ha := arr_below hA hbf
  clear hcur hD hA; have hcur := hc; have hD := hd; have hA := ha; clear hc hd ha
  have HF2 := HF fv _ _ _ hfr5 HL hcur; clear hfr5 HL
  go_wp2_with fail
  refine HF2.out.mono ?_; clear HF2
  rintro e w2h ⟨rfl, hbg⟩
  have hc := hcur.trans (hbg.mono hcur.size)
  have hd := hD.below hbg
  have ha := arr_below hA hbg
  clear hcur hD hA; have hcur := hc; have hD := hd; have hA := ha; clear hc hd ha
  go_wp2_with fail
  refine (len_dead _ _ hD).mono ?_
  rintro e wi2 ⟨rfl, rfl⟩
  go_wp2_with fail
  refine (free_dead _ _ hD).mono ?_
  rintro e wj2 ⟨rfl, rfl⟩
  go_wp2_with fail
  rw [rounds_succ]
  go_wp2_with fail
  refine (HA _ hcur).out.mono ?_
  rintro e w6 ⟨rfl, hb6⟩
  go_wp2
  go_ret
  exact ⟨rfl, hcur.trans (hb6.mono hcur.size)⟩
end Go.Proofs.YtdafikemndaeeaaDoor
