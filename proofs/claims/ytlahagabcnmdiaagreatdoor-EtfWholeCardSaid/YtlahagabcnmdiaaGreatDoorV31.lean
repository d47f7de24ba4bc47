/- Texts laid together: RfI, RfJ, RfK, RfL, RfM, EsA, RfN, RfO, RfP, EsB, EsC. -/
import Derived.Test.YtlahagabcnmdiaaGreatDoorV27
import Derived.Test.YtlahagabcnmdiaaGreatDoorV28
import Derived.Test.YtlahagabcnmdiaaGreatDoorV30
import Derived.Test.YtlahagabcnmdiaaGreatDoorV29
section
/- The reference of layer 4: which atoms are fresh; decode. -/
open Go Go.RowKit
namespace Go.Proofs.YtlahagabcnmdiaaGreatDoor
set_option linter.unusedVariables false
set_option linter.unusedSimpArgs false

/-- the texts that are not in a table, each once -/
def stepF (tl acc : List ByteArray) (s : ByteArray) : List ByteArray := if (idxM tl s.data.toList).isSome then acc else addB acc s
def freshS (tl atoms : List ByteArray) : List ByteArray := atoms.foldl (stepF tl) []
theorem freshS_take (tl : List ByteArray) (atoms : List ByteArray) (k : Nat) (h : k < atoms.length) : freshS tl (atoms.take (k + 1)) = stepF tl (freshS tl (atoms.take k)) atoms[k] := by
  unfold freshS
  rw [List.take_succ_eq_append_getElem h, List.foldl_append]
  rfl
theorem stepF_len (tl acc : List ByteArray) (s : ByteArray) : (stepF tl acc s).length ≤ acc.length + 1 := by
  unfold stepF addB
  split
  · omega
  · split
    · omega
    · simp
theorem freshS_len (tl atoms : List ByteArray) : (freshS tl atoms).length ≤ atoms.length := by
  have key : ∀ (a acc : List ByteArray), (a.foldl (stepF tl) acc).length ≤ acc.length + a.length := by
    intro a
    induction a with
    | nil => intro acc; simp
    | cons s r ih =>
      intro acc
      rw [List.foldl_cons, List.length_cons]
      have h1 := ih (stepF tl acc s)
      have h2 := stepF_len tl acc s
      omega
  simpa [freshS] using key atoms []
/-- texts are put into a table's list, one after the other -/
def putAll (limit : Int) (tl : List ByteArray) (l : List ByteArray) : List ByteArray := l.foldl (fun a s => (putS limit a s).2.2) tl
theorem idxM_some {l : List ByteArray} {k : List UInt8} : (idxM l k).isSome = memB l k := by
  unfold idxM memB
  rw [Option.isSome_map, List.findIdx?_isSome]
theorem putS_list (limit : Int) (l : List ByteArray) (s : ByteArray) : (putS limit l s).2.2 = l ∨ ((putS limit l s).2.2 = l ++ [s] ∧ (quoteS s).2 = [] ∧ memB l s.data.toList = false ∧ (l.length : Int) < limit) := by
  unfold putS
  split
  · exact .inl rfl
  · rename_i hq
    have hq' := Classical.not_not.1 hq
    cases hi : idxM l s.data.toList with
    | some i => exact .inl rfl
    | none =>
      dsimp only
      by_cases hl : (l.length : Int) < limit
      · rw [if_pos hl]
        exact .inr ⟨rfl, hq', by rw [← idxM_some, hi]; rfl, hl⟩
      · rw [if_neg hl]; exact .inl rfl
theorem memB_more {l l' : List ByteArray} {k : List UInt8} (h : memB l k = true) : memB (l ++ l') k = true := by
  unfold memB at h ⊢
  rw [List.any_append, h]; rfl
theorem putS_there {limit : Int} {l : List ByteArray} {s : ByteArray} (h : memB l s.data.toList = true) : (putS limit l s).2.2 = l := by
  rcases putS_list limit l s with e | ⟨_, _, h1, _⟩
  · exact e
  · rw [h] at h1; cases h1
/-- the table takes s no more -/
def Shut (limit : Int) (l : List ByteArray) (s : List UInt8) : Prop := ∀ x : ByteArray, x.data.toList = s → (putS limit l x).2.2 = l
theorem shut_more {limit : Int} {l l' : List ByteArray} {s : ByteArray} (h : (putS limit l s).2.2 = l) : (putS limit (l ++ l') s).2.2 = l ++ l' := by
  rcases putS_list limit (l ++ l') s with e | ⟨_, hq, hm, hl⟩
  · exact e
  · exfalso
    unfold putS at h
    rw [if_neg (fun e => e hq)] at h
    have h2 : memB l s.data.toList = false := by
      cases hm2 : memB l s.data.toList with
      | false => rfl
      | true => rw [memB_more hm2] at hm; cases hm
    rw [← idxM_some] at h2
    cases hi : idxM l s.data.toList with
    | some i => rw [hi] at h2; cases h2
    | none =>
      rw [hi] at h
      dsimp only at h
      rw [List.length_append] at hl
      rw [if_pos (by omega)] at h
      have := congrArg List.length h
      simp at this
theorem putAll_ext (limit : Int) : ∀ (l tl : List ByteArray), ∃ m, putAll limit tl l = tl ++ m
  | [], tl => ⟨[], by simp [putAll]⟩
  | s :: r, tl => by
    obtain ⟨m, hm⟩ := putAll_ext limit r (putS limit tl s).2.2
    unfold putAll at hm ⊢
    rw [List.foldl_cons]
    rcases putS_list limit tl s with e | ⟨e, _⟩
    · rw [e] at hm ⊢; exact ⟨m, hm⟩
    · rw [e] at hm ⊢; exact ⟨[s] ++ m, by rw [hm, List.append_assoc]⟩
theorem bytes_eq {a b : ByteArray} (h : (a.data.toList == b.data.toList) = true) : a = b := chars_inj (beq_iff_eq.1 h)
theorem putAll_mem (limit : Int) : ∀ (l tl : List ByteArray) (s : ByteArray), memB l s.data.toList = true → (putS limit (putAll limit tl l) s).2.2 = putAll limit tl l
  | [], tl, s, h => by cases h
  | x :: r, tl, s, h => by
    unfold memB at h
    rw [List.any_cons, Bool.or_eq_true] at h
    have e : putAll limit tl (x :: r) = putAll limit (putS limit tl x).2.2 r := rfl
    rw [e]
    rcases h with h | h
    · have := bytes_eq h
      subst this
      obtain ⟨m, hm⟩ := putAll_ext limit r (putS limit tl x).2.2
      rw [hm]
      refine shut_more ?_
      rcases putS_list limit tl x with e | ⟨e, _⟩
      · rw [e]; exact e
      · rw [e]; exact putS_there (by unfold memB; simp)
    · exact putAll_mem limit r _ s h
theorem putAll_snoc (limit : Int) (tl l : List ByteArray) (s : ByteArray) : putAll limit tl (l ++ [s]) = (putS limit (putAll limit tl l) s).2.2 := by
  unfold putAll
  rw [List.foldl_append]; rfl
/-- the fresh ones alone do -/
theorem putAll_fresh (limit : Int) (tl : List ByteArray) (atoms : List ByteArray) : putAll limit tl (freshS tl atoms) = putAll limit tl atoms := by
  have key : ∀ n, n ≤ atoms.length → putAll limit tl (freshS tl (atoms.take n)) = putAll limit tl (atoms.take n) := by
    intro n
    induction n with
    | zero => intro _; simp [freshS, putAll]
    | succ n ih =>
      intro hn
      have hlt : n < atoms.length := by omega
      rw [freshS_take tl atoms n hlt, List.take_succ_eq_append_getElem hlt, putAll_snoc, ← ih (by omega)]
      unfold stepF
      by_cases h1 : (idxM tl atoms[n].data.toList).isSome = true
      · rw [if_pos h1]
        rw [idxM_some] at h1
        obtain ⟨m, hm⟩ := putAll_ext limit (freshS tl (atoms.take n)) tl
        rw [hm]
        exact (putS_there (memB_more h1)).symm
      · rw [if_neg h1]
        unfold addB
        by_cases h2 : memB (freshS tl (atoms.take n)) atoms[n].data.toList = true
        · rw [if_pos h2]
          exact (putAll_mem limit _ tl _ h2).symm
        · rw [if_neg h2, putAll_snoc]
  have := key atoms.length (Nat.le_refl _)
  rwa [List.take_length] at this
end Go.Proofs.YtlahagabcnmdiaaGreatDoor
end
section
/- The reference of layer 4: which atoms are fresh: the walk. -/
open Go Go.RowKit
namespace Go.Proofs.YtlahagabcnmdiaaGreatDoor
set_option linter.unusedVariables false
set_option linter.unusedSimpArgs false

theorem StrsIs.get {v : Value} {l : List ByteArray} {w : World} (h : StrsIs v l w) : ∃ a c, v = .slice a l.length c ∧ ∀ i (hi : i < l.length), ∃ g, a = some ⟨g, 0, none⟩ ∧ w.cell? ⟨g, i, none⟩ = some (.string l[i]) := by
  rcases h.shape with ⟨rfl, rfl⟩ | ⟨g, c, rfl, _⟩
  · exact ⟨none, 0, rfl, fun i hi => absurd hi (Nat.not_lt_zero _)⟩
  · exact ⟨_, c, rfl, fun i hi => ⟨g, rfl, h.cell i hi⟩⟩
theorem StrsIs.below {v : Value} {l : List ByteArray} {w w' : World} (h : StrsIs v l w) (hb : Below w.heap.size w w') : StrsIs v l w' := h.frame fun q hq => hb.block q (h.lt hq).1
theorem RTabIs.below {limit : Int} {g : Nat} {l : List ByteArray} {F : Nat → Prop} {w w' : World} (h : RTabIs limit g l F w) (hb : Below w.heap.size w w') : RTabIs limit g l F w' := h.keep (S := fun _ => False) (keepB hb) (fun _ h => h.elim)
theorem memB_take (out : List ByteArray) (s : List UInt8) (k : Nat) (hk : k < out.length) : memB (out.take (k + 1)) s = (memB (out.take k) s || out[k].data.toList == s) := by
  unfold memB
  rw [List.take_succ_eq_append_getElem hk, List.any_append]
  simp
theorem stepF_eq (tl acc : List ByteArray) (s : ByteArray) : stepF tl acc s = if ((idxM tl s.data.toList).isSome || memB acc s.data.toList) = true then acc else acc ++ [s] := by
  unfold stepF addB
  by_cases h1 : (idxM tl s.data.toList).isSome = true
  · rw [if_pos h1, if_pos (by rw [h1]; rfl)]
  · rw [if_neg h1]
    by_cases h2 : memB acc s.data.toList = true
    · rw [if_pos h2, if_pos (by rw [h2, Bool.or_true])]
    · rw [if_neg h2, if_neg (by simp only [Bool.or_eq_true]; exact fun e => e.elim h1 h2)]
set_option maxHeartbeats 16000000 in
set_option maxRecDepth 100000 in
theorem freshR_any {limit : Int} {g : Nat} {tl atoms : List ByteArray} {F : Nat → Prop} {w : World} {av : Value} (h : RTabIs limit g tl F w) (ha : StrsIs av atoms w) (hal : atoms.length ≤ 5000) :
    Calls Tryz.prog 100 #[av, .pointer (some ⟨g, 0, none⟩)] w fun e w' => ∃ fv, e = .returned fv ∧ StrsIs fv (freshS tl atoms) w' ∧ (∀ q, fv.ownBlock = some q → w.heap.size ≤ q) ∧ Below w.heap.size w w' := by
  have HTB := Lib.hid h
  have HA := Lib.hid ha
  have hla := run_strs_len ha
  have hal1 : (atoms.length : Int) ≤ 5000 := by omega
  clear h ha
  go_enter Tryz.func100, Tryz.ntmps100
  go_wp2_with fail
  go_loopw [5, 6] (fun o i wr => ∃ k : Nat, k ≤ atoms.length ∧ i = .int .i64 k ∧ StrsIs o (freshS tl (atoms.take k)) wr ∧ (∀ q, o.ownBlock = some q → w.heap.size ≤ q) ∧ Below w.heap.size w wr) (fun _ i _ => atoms.length - (intOf i).toNat)
  case atStart => exact ⟨0, Nat.zero_le _, rfl, StrsIs.nil _, (fun q hq => nomatch hq), Below.refl _ _⟩
  case round =>
    obtain ⟨k, hk, rfl, hs, hown, hbr⟩ := hrel
    have HS := Lib.hid hs
    have HOW := Lib.hid hown
    have HBR := Lib.hid hbr
    clear hs hown hbr
    by_cases hlt : k < atoms.length
    · have hki : (k : Int) < (atoms.length : Int) := by omega
      have hk0 : (0 : Int) ≤ (k : Int) := by omega
      have HFL := Lib.hid (Nat.le_trans (freshS_len tl (atoms.take k)) (show (atoms.take k).length ≤ k by rw [List.length_take]; omega))
      have HNX := Lib.hid ((freshS_take tl atoms k hlt).trans (stepF_eq _ _ _))
      have HF := Lib.hid (findR_live (HTB.out.below HBR.out) atoms[k])
      generalize freshS tl (atoms.take k) = out at *
      obtain ⟨aa, ac, rfl, hget⟩ := (HA.out.below HBR.out).get
      obtain ⟨ag, rfl, hx⟩ := hget k hlt
      obtain ⟨oa, oc, rfl, hog⟩ := HS.out.get
      have HOG := Lib.hid hog
      have hlo := run_strs_len HS.out
      have hol : (out.length : Int) ≤ 5000 := by have := HFL.out; omega
      generalize hsv : atoms[k] = s at *
      clear hget hog
      go_wp2_with (go_at_call 101; refine HF.out.mono ?_; rintro e w' ⟨rfl, rfl⟩)
      obtain ⟨wo, rfl⟩ : ∃ wo : World, wo = wr := ⟨_, rfl⟩
      go_loopw [8, 9] (fun x i wr => ∃ kk n : Nat, kk ≤ out.length ∧ i = .int .i64 kk ∧ x = .bool ((idxM tl s.data.toList).isSome || memB (out.take kk) s.data.toList) ∧ wr = wo.drewN n) (fun _ i _ => out.length - (intOf i).toNat)
      case atStart => exact ⟨0, 0, Nat.zero_le _, rfl, by simp [memB], rfl⟩
      case round =>
        obtain ⟨kk, n, hkk, rfl, rfl, rfl⟩ := hrel
        by_cases hl2 : kk < out.length
        · have hkki : (kk : Int) < (out.length : Int) := by omega
          have hkk0 : (0 : Int) ≤ (kk : Int) := by omega
          have HMT := Lib.hid (memB_take out s.data.toList kk hl2)
          obtain ⟨q, rfl, hy⟩ := HOG.out kk hl2
          generalize hbv : ((idxM tl s.data.toList).isSome || memB (out.take kk) s.data.toList) = bv at *
          have HBV := Lib.hid hbv
          clear hbv
          cases bv with
          | true =>
            clear hx hy
            go_wp2
            go_quiet (fail)
            go_wp2
            go_roundw
            case rel => exact ⟨kk + 1, _, by omega, by go_num, by rw [HMT.out, ← Bool.or_assoc, HBV.out]; rfl, rfl⟩
            case measure => simp [intOf]; omega
          | false =>
            have hx1 : (wo.drewN n).cell? ⟨ag, k, none⟩ = some (.string s) := hx
            have hy1 : (wo.drewN n).cell? ⟨q, kk, none⟩ = some (.string out[kk]) := hy
            have HEQ := Lib.hid (show (out[kk].data.toList == s.data.toList) = (out[kk].toList == s.toList) by rw [toList_data, toList_data])
            go_wp2
            go_quiet (fail)
            go_wp2
            go_roundw
            case rel => exact ⟨kk + 1, _, by omega, by go_num, by rw [HMT.out, ← Bool.or_assoc, HBV.out, HEQ.out]; rfl, rfl⟩
            case measure => simp [intOf]; omega
        · have hkki : ¬ (kk : Int) < (out.length : Int) := by omega
          rw [List.take_of_length_le (by omega)]
          generalize hbv : ((idxM tl s.data.toList).isSome || memB out s.data.toList) = bv at *
          cases bv with
          | true =>
            rw [if_pos rfl] at HNX
            clear hx hkk
            go_wp2
            go_roundw
            case rel => exact ⟨k + 1, by omega, by go_num, by rw [HNX.out]; exact HS.out.drewN _, HOW.out, below_drewN HBR.out _⟩
            case measure => simp [intOf]; omega
          | false =>
            rw [if_neg (by decide)] at HNX
            have hx1 : (wo.drewN n).cell? ⟨ag, k, none⟩ = some (.string s) := hx
            have S5 := Lib.hid (HS.out.drewN n)
            have B5 := Lib.hid (below_drewN HBR.out n)
            clear hx hkk
            generalize wo.drewN n = w5 at *
            obtain ⟨v', w6, hrun, hs6, hg6, hat⟩ := S5.out.app s (by omega)
            have S6 := Lib.hid hs6
            have B6 := Lib.hid ((B5.out.alloc B5.out.size (.cells #[.string s] 9 (0, 0))).grown hg6 (by have := B5.out.size; simp; omega) (fun q hq => HOW.out q hq))
            have O6 := Lib.hid (show ∀ q, v'.ownBlock = some q → w.heap.size ≤ q from fun q hq => by
              rcases hat with e | e
              · exact HOW.out q (e ▸ hq)
              · rw [e] at hq; cases hq; have := B5.out.size; omega)
            clear hs6 hg6 hat
            go_wp2_with (at_builtin; refine stop ?_)
            refine Stopped.of ?_
            refine wp_app_eq rfl (.tmp 45) (.tmp 50) _ _ rfl _ _ v' w6 rfl rfl hrun ?_
            clear hrun
            obtain ⟨_, hno⟩ | ⟨sb, sc, hv', hsb, _, _⟩ := S6.out.shape
            · simp at hno
            obtain rfl := hv'
            go_wp2
            go_roundw
            case rel => exact ⟨k + 1, by omega, by go_num, by rw [HNX.out]; have := S6.out; rwa [show (out ++ [s]).length = out.length + 1 by simp] at this, O6.out, B6.out⟩
            case measure => simp [intOf]; omega
    · have hki : ¬ (k : Int) < (atoms.length : Int) := by omega
      rw [List.take_of_length_le (by omega)] at HS
      go_wp2
      go_ret
      exact ⟨_, rfl, HS.out, HOW.out, HBR.out⟩
end Go.Proofs.YtlahagabcnmdiaaGreatDoor
end
section
/- The reference of layer 4: decode. Printed by wip/rfk.py. -/
open Go Go.RowKit
namespace Go.Proofs.YtlahagabcnmdiaaGreatDoor
set_option linter.unusedVariables false
set_option linter.unusedSimpArgs false

/-- what decode comes to, a table being there or not: the term, and the atoms that the table lacks -/
def decP (r : Res Tm) (tb : Option (Int × List ByteArray)) : Res Tm × List ByteArray :=
  match r with
  | .bad k => (.bad k, [])
  | .ok t st =>
    match tb with
    | none => (.ok t st, [])
    | some (limit, tl) => if limit - tl.length < ((freshS tl st.atoms).length : Int) then (.bad [⟨etfL, 0, 85⟩], []) else (.ok t st, freshS tl st.atoms)
def DecRR (w : World) (r : Res Tm × List ByteArray) (e : Ending) (w' : World) : Prop :=
  match r.1 with
  | .ok t st => ∃ vs fv, e = .returned (.tuple #[.agg vs.toArray, .int .i64 st.at_, fv, .slice none 0 0]) ∧ TmAt (fun q => w.heap.size ≤ q ∧ fv.ownBlock ≠ some q) t vs w' ∧ StrsIs fv r.2 w' ∧ (∀ q, fv.ownBlock = some q → w.heap.size ≤ q) ∧ Below w.heap.size w w'
  | .bad k => ∃ lv, e = .returned (.tuple #[.agg termZ.toArray, .int .i64 0, .slice none 0 0, lv]) ∧ LinksIs w.heap.size lv k w' ∧ k ≠ [] ∧ Below w.heap.size w w'
set_option maxHeartbeats 8000000 in
set_option maxRecDepth 100000 in
theorem decR_bad (l : List UInt8) (v tv : Value) (w : World) (hv : RSl v l w) (hb : ¬ (l.getD 0 0 = 131 ∧ l ≠ [])) :
    Calls Tryz.prog 58 #[v, tv] w (DecRR w (.bad [⟨etfL, 0, 81⟩], [])) := by
  obtain ⟨a, c, rfl, hcc⟩ : ∃ a c, v = .slice a l.length c ∧ l.length ≤ maxLen := by obtain ⟨a, c, e, h1, h2, _⟩ := hv; exact ⟨a, c, e, by omega⟩
  have HNO := Lib.hid (fun W => noR_any 0 81 W)
  have BX := Lib.hid ((Below.refl w.heap.size w).alloc (Nat.le_refl _) (.cells #[.int .i64 0, .int .i64 0, .string ⟨#[]⟩, .int .u32 0, .slice none 0 0, .slice none 0 0] 35 (0, 0)))
  have R1 := Lib.hid (show Cells (w.alloc (.cells #[.int .i64 0, .int .i64 0, .string ⟨#[]⟩, .int .u32 0, .slice none 0 0, .slice none 0 0] 35 (0, 0))) w.heap.size 35 termZ from Cells.new w 35 termZ)
  have SZ1 := Lib.hid (show (w.alloc (.cells #[.int .i64 0, .int .i64 0, .string ⟨#[]⟩, .int .u32 0, .slice none 0 0, .slice none 0 0] 35 (0, 0))).heap.size = w.heap.size + 1 from by simp)
  by_cases hl : l = []
  · subst hl
    clear hb hcc
    go_enter Tryz.func58, Tryz.ntmps58
    go_upto_region 1 with (fail)
    generalize w.alloc (.cells #[.int .i64 0, .int .i64 0, .string ⟨#[]⟩, .int .u32 0, .slice none 0 0, .slice none 0 0] 35 (0, 0)) = w1 at *
    unfold termZ at *
    go_wp2_with fail
    refine (HNO.out _).mono ?_
    rintro e w2 ⟨lv, rfl, hl, hb⟩
    have R2 := Lib.hid (R1.out.below hb)
    have HL := Lib.hid (hl.base (show w.heap.size ≤ w1.heap.size from BX.out.size))
    have B2 := Lib.hid (BX.out.trans (hb.mono BX.out.size))
    clear hl hb
    go_wp2_with (refine wpList_store_blk rfl _ (.tmp 4) (.tmp 20) rfl w.heap.size 0 [.int .i64 0, .int .i64 0, .string ⟨#[]⟩, .int .u32 0, .slice none 0 0, .slice none 0 0] (by rfl) (by rfl) (by kernel_rfl) (by simp [Value.oneCell']) 35 _ R2.out (by show 0 + 6 ≤ 6; decide) ?_; intro wz hCz hgz; refine stop ?_)
    refine Stopped.of ?_
    have C0 : Cells wz w.heap.size 35 [.int .i64 0, .int .i64 0, .string ⟨#[]⟩, .int .u32 0, .slice none 0 0, .slice none 0 0] := hCz
    have KZ := Lib.hid (show Keep (fun q => q = w.heap.size) w2 wz from (Keep.refl _ _).grown hgz (fun k hk _ => by cases hk; rfl))
    clear hCz hgz
    have z0 := C0.cell 0
    have z1 := C0.cell 1
    have z2 := C0.cell 2
    have z3 := C0.cell 3
    have z4 := C0.cell 4
    have z5 := C0.cell 5
    simp only [List.getElem?_cons_zero, List.getElem?_cons_succ] at z0 z1 z2 z3 z4 z5
    clear C0
    go_wp2
    refine bodyPost_ret (v := .tuple #[.agg #[.int .i64 0, .int .i64 0, .string ⟨#[]⟩, .int .u32 0, .slice none 0 0, .slice none 0 0], .int .i64 0, .slice none 0 0, lv]) (by simp [results, Tryz.results58, go_sem, z0, z1, z2, z3, z4, z5]) rfl ?_
    refine ⟨lv, rfl, HL.out.frame (fun q hq => KZ.out.block q (HL.out.block hq).2 (HL.out.ne_cells R2.out (by decide) hq)), by simp, B2.out.trans (KZ.out.toBelow B2.out.size (fun q (hq : q = w.heap.size) => by omega))⟩
  · obtain ⟨q, o, rfl, hx⟩ := (hv.below BX.out).get 0 (List.length_pos_iff.2 hl)
    rw [Nat.add_zero] at hx
    have q1 : (((l.getD 0 0).toNat : Int) != 131) = true := by
      have : (l.getD 0 0).toNat ≠ 131 := fun e => hb ⟨UInt8.toNat_inj.1 e, hl⟩
      exact bne_iff_ne.2 (by omega)
    have q2 : ((l.length : Int) == 0) = false := beq_eq_false_iff_ne.2 (by have := List.length_pos_iff.2 hl; omega)
    have q3 : (0 : Int) < (l.length : Int) := by have := List.length_pos_iff.2 hl; omega
    clear hb hcc hl hv
    generalize (l.getD 0 0).toNat = bv at *
    go_enter Tryz.func58, Tryz.ntmps58
    go_upto_region 1 with (fail)
    generalize w.alloc (.cells #[.int .i64 0, .int .i64 0, .string ⟨#[]⟩, .int .u32 0, .slice none 0 0, .slice none 0 0] 35 (0, 0)) = w1 at *
    unfold termZ at *
    go_wp2_with fail
    refine (HNO.out _).mono ?_
    rintro e w2 ⟨lv, rfl, hl, hb⟩
    have R2 := Lib.hid (R1.out.below hb)
    have HL := Lib.hid (hl.base (show w.heap.size ≤ w1.heap.size from BX.out.size))
    have B2 := Lib.hid (BX.out.trans (hb.mono BX.out.size))
    clear hl hb
    go_wp2_with (refine wpList_store_blk rfl _ (.tmp 4) (.tmp 20) rfl w.heap.size 0 [.int .i64 0, .int .i64 0, .string ⟨#[]⟩, .int .u32 0, .slice none 0 0, .slice none 0 0] (by rfl) (by rfl) (by kernel_rfl) (by simp [Value.oneCell']) 35 _ R2.out (by show 0 + 6 ≤ 6; decide) ?_; intro wz hCz hgz; refine stop ?_)
    refine Stopped.of ?_
    have C0 : Cells wz w.heap.size 35 [.int .i64 0, .int .i64 0, .string ⟨#[]⟩, .int .u32 0, .slice none 0 0, .slice none 0 0] := hCz
    have KZ := Lib.hid (show Keep (fun q => q = w.heap.size) w2 wz from (Keep.refl _ _).grown hgz (fun k hk _ => by cases hk; rfl))
    clear hCz hgz
    have z0 := C0.cell 0
    have z1 := C0.cell 1
    have z2 := C0.cell 2
    have z3 := C0.cell 3
    have z4 := C0.cell 4
    have z5 := C0.cell 5
    simp only [List.getElem?_cons_zero, List.getElem?_cons_succ] at z0 z1 z2 z3 z4 z5
    clear C0
    go_wp2
    refine bodyPost_ret (v := .tuple #[.agg #[.int .i64 0, .int .i64 0, .string ⟨#[]⟩, .int .u32 0, .slice none 0 0, .slice none 0 0], .int .i64 0, .slice none 0 0, lv]) (by simp [results, Tryz.results58, go_sem, z0, z1, z2, z3, z4, z5]) rfl ?_
    refine ⟨lv, rfl, HL.out.frame (fun q hq => KZ.out.block q (HL.out.block hq).2 (HL.out.ne_cells R2.out (by decide) hq)), by simp, B2.out.trans (KZ.out.toBelow B2.out.size (fun q (hq : q = w.heap.size) => by omega))⟩
set_option maxHeartbeats 8000000 in
set_option maxRecDepth 100000 in
theorem decR_nil (l : List UInt8) (v : Value) (w : World) (hv : RSl v l w) (hb : l.getD 0 0 = 131) (hne : l ≠ []) :
    Calls Tryz.prog 58 #[v, .pointer none] w (DecRR w (decP (termS l 256 ⟨1, 0, []⟩) none)) := by
  obtain ⟨a, c, rfl, hcc⟩ : ∃ a c, v = .slice a l.length c ∧ l.length ≤ maxLen := by obtain ⟨a, c, e, h1, h2, _⟩ := hv; exact ⟨a, c, e, by omega⟩
  have hel := run_neqLinks
  have BX := Lib.hid ((Below.refl w.heap.size w).alloc (Nat.le_refl _) (.cells #[.int .i64 0, .int .i64 0, .string ⟨#[]⟩, .int .u32 0, .slice none 0 0, .slice none 0 0] 35 (0, 0)))
  have R1 := Lib.hid (show Cells (w.alloc (.cells #[.int .i64 0, .int .i64 0, .string ⟨#[]⟩, .int .u32 0, .slice none 0 0, .slice none 0 0] 35 (0, 0))) w.heap.size 35 termZ from Cells.new w 35 termZ)
  have SZ1 := Lib.hid (show (w.alloc (.cells #[.int .i64 0, .int .i64 0, .string ⟨#[]⟩, .int .u32 0, .slice none 0 0, .slice none 0 0] 35 (0, 0))).heap.size = w.heap.size + 1 from by simp)
  have hlen := List.length_pos_iff.2 hne
  obtain ⟨q, o, rfl, hx⟩ := (hv.below BX.out).get 0 hlen
  rw [Nat.add_zero, hb] at hx
  replace hx : (w.alloc (.cells #[.int .i64 0, .int .i64 0, .string ⟨#[]⟩, .int .u32 0, .slice none 0 0, .slice none 0 0] 35 (0, 0))).cell? ⟨q, o, none⟩ = some (.int .u8 131) := hx
  have HBF := Lib.hid (hv.below BX.out)
  have HQ := Lib.hid (show q < w.heap.size from by
    obtain ⟨g0, o0, e0, hx0⟩ := hv.get 0 hlen
    injection e0 with e0
    injection e0 with e0
    rw [e0]
    exact World.block_lt_of_cell? w _ hx0)
  have q2 : ((l.length : Int) == 0) = false := beq_eq_false_iff_ne.2 (by omega)
  have q3 : (0 : Int) < (l.length : Int) := by omega
  have HLEN := Lib.hid hlen
  clear hb hcc hne hlen hv
  go_enter Tryz.func58, Tryz.ntmps58
  go_upto_region 1 with (fail)
  generalize w.alloc (.cells #[.int .i64 0, .int .i64 0, .string ⟨#[]⟩, .int .u32 0, .slice none 0 0, .slice none 0 0] 35 (0, 0)) = w1 at *
  unfold termZ at *
  go_upto_region 4 with (fail)
  have SZ2 := Lib.hid (show w1.heap.size = w.heap.size + 1 from SZ1.out)
  have BR := Lib.hid ((Below.refl w1.heap.size w1).alloc (Nat.le_refl _) (.cells #[.slice (some ⟨q, o, none⟩) l.length c, .int .i64 1, .int .i64 0, .slice none 0 0, .slice none 0 0] 178 (0, 0)))
  have HR := Lib.hid (show RfIs w.heap.size w1.heap.size l (.slice (some ⟨q, o, none⟩) l.length c) ⟨1, 0, []⟩ (.slice none 0 0) (.slice none 0 0) [] (w1.alloc (.cells #[.slice (some ⟨q, o, none⟩) l.length c, .int .i64 1, .int .i64 0, .slice none 0 0, .slice none 0 0] 178 (0, 0))) from
    ⟨by have := SZ2.out; omega, Cells.new w1 178 [.slice (some ⟨q, o, none⟩) l.length c, .int .i64 1, .int .i64 0, .slice none 0 0, .slice none 0 0], HBF.out.below BR.out, fun ad n c' _ e => by injection e with e; injection e with e; rw [← e]; exact HQ.out, StrsIs.nil _, (fun q hq => nomatch hq), LinksIs.nil _ _, fun _ => rfl, ⟨by decide, by show 1 ≤ l.length; have := HLEN.out; omega, Nat.zero_le _, Nat.zero_le _⟩⟩)
  have HP := Lib.hid (show Calls Tryz.prog 99 #[.pointer (some ⟨w1.heap.size, 0, none⟩), .int .i64 1] _ _ from rfPart_any 256 (Nat.le_refl _) _ _ _ _ _ _ _ _ HR.out (Nat.zero_le _))
  have R2 := Lib.hid (R1.out.below BR.out)
  have B2 := Lib.hid (BX.out.trans (BR.out.mono BX.out.size))
  have G2 := Lib.hid HR.out.cells.lt
  clear HR BR hx q2 q3 HBF HLEN R1 BX
  generalize w1.alloc (.cells #[.slice (some ⟨q, o, none⟩) l.length c, .int .i64 1, .int .i64 0, .slice none 0 0, .slice none 0 0] 178) = w2 at *
  go_wp2_with fail
  refine HP.out.mono ?_
  rintro e w3 ⟨t, st, av, lv, k, vs, rfl, ht, hrr, _, _, hm⟩
  obtain ⟨_, nv5, a5, cap5, rfl, hnn5, -⟩ := ht.parts
  obtain ⟨na5, nc5, rfl, -, -⟩ := hnn5.slice
  have HT3 := Lib.hid ht
  have HRR := Lib.hid hrr
  have HM := Lib.hid hm
  have HGN := Lib.hid (show ¬ LsK w1.heap.size (.slice none 0 0) w.heap.size from fun e => by
    rcases e with e | e
    · have := SZ2.out; omega
    · cases e)
  have R3 := Lib.hid (R2.out.keep hrr.keep HGN.out)
  have B3 := Lib.hid (B2.out.trans (hrr.keep.toBelow B2.out.size (fun q hq => by
    rcases hq with hq | hq
    · have := SZ2.out; omega
    · cases hq)))
  have W23 := Lib.hid hrr.keep.size
  clear ht hnn5 hrr hm HP R2 B2
  have BT := Lib.hid ((Below.refl w3.heap.size w3).alloc (Nat.le_refl _) (.cells #[.int .i64 t.kind, .int .i64 t.int, .string t.text, .int .u32 t.cr, .slice na5 t.nums.length nc5, .slice a5 t.args.length cap5] 35 (0, 0)))
  have T4 := Lib.hid (Cells.new w3 35 [.int .i64 t.kind, .int .i64 t.int, .string t.text, .int .u32 t.cr, .slice na5 t.nums.length nc5, .slice a5 t.args.length cap5])
  have R4 := Lib.hid (R3.out.below BT.out)
  have B4 := Lib.hid (B3.out.trans (BT.out.mono B3.out.size))
  have HT4 := Lib.hid (HT3.out.below BT.out)
  have HR4 := Lib.hid (HRR.out.is_.below BT.out)
  have NE := Lib.hid (show w.heap.size < w3.heap.size ∧ w1.heap.size < w3.heap.size ∧ w.heap.size ≠ w1.heap.size from ⟨R3.out.lt, HRR.out.is_.cells.lt, by have := SZ2.out; omega⟩)
  go_upto_region 5 with (fail)
  generalize w3.alloc (.cells #[.int .i64 t.kind, .int .i64 t.int, .string t.text, .int .u32 t.cr, .slice na5 t.nums.length nc5, .slice a5 t.args.length cap5] 35) = w4 at *
  clear BT HT3 R3 B3
  have c4 := HR4.out.cells.cell 4
  simp only [List.getElem?_cons_zero, List.getElem?_cons_succ] at c4
  rcases HR4.out.lform with ⟨rfl, rfl⟩ | ⟨hk, hsome⟩
  · have HTE := Lib.hid (show termS l 256 ⟨1, 0, []⟩ = .ok t st ∧ st.part ≤ 4096 from by
      have hm := HM.out
      cases hr : termS l 256 ⟨1, 0, []⟩ with
      | ok x s => rw [hr] at hm; obtain ⟨_, rfl, rfl, h4⟩ := hm; exact ⟨rfl, h4⟩
      | bad kk => rw [hr] at hm; obtain ⟨rfl, h2⟩ := hm; exact absurd rfl h2)
    clear HM
    go_wp2_with fail
    clear c4
    refine wp_region_L (S := fun X => Cells X w3.heap.size 35 [.int .i64 t.kind, .int .i64 t.int, .string t.text, .int .u32 t.cr, .slice na5 t.nums.length nc5, .slice a5 t.args.length cap5] ∧ Cells X w1.heap.size 178 [.slice (some ⟨q, o, none⟩) l.length c, .int .i64 st.at_, .int .i64 st.part, av, .slice none 0 0]) (F := []) (by kernel_rfl) (⟨T4.out.below (Below.drew (Below.refl _ _)), HR4.out.cells.below (Below.drew (Below.refl _ _))⟩) (fun hHeld => ?_)
    refine wpAnyL_take (i := 0) (v := (.agg #[.int .i64 t.kind, .int .i64 t.int, .string t.text, .int .u32 t.cr, .slice na5 t.nums.length nc5, .slice a5 t.args.length cap5])) (by simp only [List.getElem?_toArray, List.getElem?_cons_succ, List.getElem?_cons_zero]; rfl) (by kernel_rfl) (by kernel_rfl) (by kernel_rfl) (by kernel_rfl) (by exact fun _ _ _ h => h) (Or.inl ⟨by rfl, by intro W hSw; have x0 := hSw.1.cell 0; have x1 := hSw.1.cell 1; have x2 := hSw.1.cell 2; have x3 := hSw.1.cell 3; have x4 := hSw.1.cell 4; have x5 := hSw.1.cell 5; simp only [List.getElem?_cons_zero, List.getElem?_cons_succ, ← Nat.add_assoc, Nat.add_zero] at x0 x1 x2 x3 x4 x5; go_simp; all_goals first | rfl | exact ⟨rfl, rfl, rfl, rfl, rfl, rfl⟩⟩) (by assumption) ?_
    try simp only [Act.put, List.setIfInBounds_toArray, List.set_cons_zero, List.set_cons_succ]
    refine wpAnyL_easy (i := 1) (v := (.pointer (some ⟨w1.heap.size, 0, none⟩))) (by simp only [List.getElem?_toArray, List.getElem?_cons_succ, List.getElem?_cons_zero]; rfl) (by kernel_rfl) (by kernel_rfl) (by kernel_rfl) (by exact fun _ _ _ h => h) (Or.inl ⟨by rfl, fun _ _ => rfl⟩) ?_
    try simp only [Act.put, List.setIfInBounds_toArray, List.set_cons_zero, List.set_cons_succ]
    refine wpAnyL_easy (i := 2) (v := (.pointer (some ⟨w1.heap.size, 0, none⟩))) (by simp only [List.getElem?_toArray, List.getElem?_cons_succ, List.getElem?_cons_zero]; rfl) (by kernel_rfl) (by kernel_rfl) (by kernel_rfl) (by exact fun _ _ _ h => h) (Or.inl ⟨by rfl, by intro W _; go_simp; all_goals first | rfl | exact ⟨rfl, rfl, rfl, rfl, rfl, rfl⟩⟩) ?_
    try simp only [Act.put, List.setIfInBounds_toArray, List.set_cons_zero, List.set_cons_succ]
    refine wpAnyL_easy (i := 3) (v := (.pointer (some ⟨w1.heap.size, 1, none⟩))) (by simp only [List.getElem?_toArray, List.getElem?_cons_succ, List.getElem?_cons_zero]; rfl) (by kernel_rfl) (by kernel_rfl) (by kernel_rfl) (by exact fun _ _ _ h => h) (Or.inl ⟨by rfl, fun _ _ => rfl⟩) ?_
    try simp only [Act.put, List.setIfInBounds_toArray, List.set_cons_zero, List.set_cons_succ]
    refine wpAnyL_take (i := 4) (v := (.int .i64 st.at_)) (by simp only [List.getElem?_toArray, List.getElem?_cons_succ, List.getElem?_cons_zero]; rfl) (by kernel_rfl) (by kernel_rfl) (by kernel_rfl) (by kernel_rfl) (by exact fun _ _ _ h => h) (Or.inl ⟨by rfl, by intro W hSw; have x0 := show W.cell? ⟨w1.heap.size, 1, none⟩ = some (.int .i64 st.at_) from hSw.2.cell 1; go_simp; all_goals first | rfl | exact ⟨rfl, rfl, rfl, rfl, rfl, rfl⟩⟩) (by assumption) ?_
    try simp only [Act.put, List.setIfInBounds_toArray, List.set_cons_zero, List.set_cons_succ]
    have BD := Lib.hid (show Below w4.heap.size w4 w4.drew from Below.drew (Below.refl _ _))
    have D0 := Lib.hid (R4.out.below BD.out)
    have D1 := Lib.hid (T4.out.below BD.out)
    have DR := Lib.hid (HR4.out.below BD.out)
    have DT := Lib.hid (HT4.out.below BD.out)
    have DB := Lib.hid (B4.out.trans (BD.out.mono B4.out.size))
    clear R4 T4 HR4 HT4 B4 hHeld
    generalize w4.drew = wd at *
    refine wpAnyL_ready (rs := [5]) (by kernel_rfl) (by simp) ?_
    refine AllReadyL.cons (by simp only [List.getElem?_toArray, List.getElem?_cons_succ, List.getElem?_cons_zero]; rfl) (fun K hK => ?_) AllReadyL.nil
    refine step_store_blk (by rfl) _ (.tmp 4) (.tmp 39) (by rfl) w.heap.size 0 [.int .i64 t.kind, .int .i64 t.int, .string t.text, .int .u32 t.cr, .slice na5 t.nums.length nc5, .slice a5 t.args.length cap5] (by rfl) (by rfl) (by kernel_rfl) (by simp [Value.oneCell']) 35 _ D0.out (by show 0 + 6 ≤ 6; decide) ?_
    intro wz hCe hge
    have C0 : Cells wz w.heap.size 35 [.int .i64 t.kind, .int .i64 t.int, .string t.text, .int .u32 t.cr, .slice na5 t.nums.length nc5, .slice a5 t.args.length cap5] := hCe
    have KZ := Lib.hid (show Keep (fun q => q = w.heap.size) wd wz from (Keep.refl _ _).grown hge (fun k hk _ => by cases hk; rfl))
    have E0 := Lib.hid (D1.out.keep KZ.out (by have := NE.out; omega))
    have EG := Lib.hid (DR.out.cells.keep KZ.out (by have := NE.out; omega))
    clear hCe hge
    refine hK.out _ _ (⟨E0.out, EG.out⟩) (fun hHeld => ?_)
    try simp only [Act.put, List.setIfInBounds_toArray, List.set_cons_zero, List.set_cons_succ]
    refine wpAnyL_ready (rs := [6]) (by kernel_rfl) (by simp) ?_
    refine AllReadyL.cons (by simp only [List.getElem?_toArray, List.getElem?_cons_succ, List.getElem?_cons_zero]; rfl) (fun K hK => ?_) AllReadyL.nil
    go_simp
    refine hK.out _ _ (⟨E0.out, EG.out⟩) (fun hHeld => ?_)
    try simp only [Act.put, List.setIfInBounds_toArray, List.set_cons_zero, List.set_cons_succ]
    refine wpAnyL_ready (rs := [7]) (by kernel_rfl) (by simp) ?_
    refine AllReadyL.cons (by simp only [List.getElem?_toArray, List.getElem?_cons_succ, List.getElem?_cons_zero]; rfl) (fun K hK => ?_) AllReadyL.nil
    go_simp
    refine hK.out _ _ (⟨E0.out, EG.out⟩) (fun hHeld => ?_)
    try simp only [Act.put, List.setIfInBounds_toArray, List.set_cons_zero, List.set_cons_succ]
    refine wpAnyL_ready (rs := [8]) (by kernel_rfl) (by simp) ?_
    refine AllReadyL.cons (by simp only [List.getElem?_toArray, List.getElem?_cons_succ, List.getElem?_cons_zero]; rfl) (fun K hK => ?_) AllReadyL.nil
    go_simp
    refine hK.out _ _ (⟨E0.out, EG.out⟩) (fun hHeld => ?_)
    try simp only [Act.put, List.setIfInBounds_toArray, List.set_cons_zero, List.set_cons_succ]
    refine wpAnyL_done (by kernel_rfl) ?_ _
    have z0 := C0.cell 0
    have z1 := C0.cell 1
    have z2 := C0.cell 2
    have z3 := C0.cell 3
    have z4 := C0.cell 4
    have z5 := C0.cell 5
    simp only [List.getElem?_cons_zero, List.getElem?_cons_succ] at z0 z1 z2 z3 z4 z5
    clear C0
    go_wp2
    refine bodyPost_ret (v := .tuple #[.agg #[.int .i64 t.kind, .int .i64 t.int, .string t.text, .int .u32 t.cr, .slice na5 t.nums.length nc5, .slice a5 t.args.length cap5], .int .i64 st.at_, .slice none 0 0, .slice none 0 0]) (by simp [results, Tryz.results58, go_sem, z0, z1, z2, z3, z4, z5]) rfl ?_
    rw [HTE.out.1]
    show DecRR w (.ok t st, []) _ _
    refine ⟨_, _, rfl, ?_, StrsIs.nil _, (fun q hq => nomatch hq), DB.out.trans (KZ.out.toBelow DB.out.size (fun q (hq : q = w.heap.size) => by omega))⟩
    refine (DT.out.keep KZ.out (fun q _ hq (e : q = w.heap.size) => ?_)).mono (fun q _ hq => ?_)
    · have := hq.1; have := W23.out; have := G2.out; have := SZ2.out; omega
    · exact ⟨by have := hq.1; have := W23.out; have := G2.out; have := SZ2.out; omega, (fun e => nomatch e)⟩
  · obtain ⟨s0, n0, c0, rfl⟩ := hsome
    have HTE := Lib.hid (show termS l 256 ⟨1, 0, []⟩ = .bad k from by
      have hm := HM.out
      cases hr : termS l 256 ⟨1, 0, []⟩ with
      | ok x s => rw [hr] at hm; exact absurd hm.1 hk
      | bad kk => rw [hr] at hm; rw [hm.1])
    have HK := Lib.hid hk
    clear hk HM
    go_wp2_with fail
    clear c4
    refine wp_region_L (S := fun X => Cells X w3.heap.size 35 [.int .i64 t.kind, .int .i64 t.int, .string t.text, .int .u32 t.cr, .slice na5 t.nums.length nc5, .slice a5 t.args.length cap5] ∧ Cells X w1.heap.size 178 [.slice (some ⟨q, o, none⟩) l.length c, .int .i64 st.at_, .int .i64 st.part, av, .slice (some ⟨s0, 0, none⟩) n0 c0]) (F := []) (by kernel_rfl) (⟨T4.out.below (Below.drew (Below.refl _ _)), HR4.out.cells.below (Below.drew (Below.refl _ _))⟩) (fun hHeld => ?_)
    refine wpAnyL_easy (i := 0) (v := (.agg #[.int .i64 0, .int .i64 0, .string ⟨#[]⟩, .int .u32 0, .slice none 0 0, .slice none 0 0])) (by simp only [List.getElem?_toArray, List.getElem?_cons_succ, List.getElem?_cons_zero]; rfl) (by kernel_rfl) (by kernel_rfl) (by kernel_rfl) (by exact fun _ _ _ h => h) (Or.inl ⟨by rfl, by intro W _; go_simp; all_goals first | rfl | exact ⟨rfl, rfl, rfl, rfl, rfl, rfl⟩⟩) ?_
    try simp only [Act.put, List.setIfInBounds_toArray, List.set_cons_zero, List.set_cons_succ]
    refine wpAnyL_easy (i := 1) (v := (.pointer (some ⟨w1.heap.size, 0, none⟩))) (by simp only [List.getElem?_toArray, List.getElem?_cons_succ, List.getElem?_cons_zero]; rfl) (by kernel_rfl) (by kernel_rfl) (by kernel_rfl) (by exact fun _ _ _ h => h) (Or.inl ⟨by rfl, fun _ _ => rfl⟩) ?_
    try simp only [Act.put, List.setIfInBounds_toArray, List.set_cons_zero, List.set_cons_succ]
    refine wpAnyL_easy (i := 2) (v := (.pointer (some ⟨w1.heap.size, 0, none⟩))) (by simp only [List.getElem?_toArray, List.getElem?_cons_succ, List.getElem?_cons_zero]; rfl) (by kernel_rfl) (by kernel_rfl) (by kernel_rfl) (by exact fun _ _ _ h => h) (Or.inl ⟨by rfl, by intro W _; go_simp; all_goals first | rfl | exact ⟨rfl, rfl, rfl, rfl, rfl, rfl⟩⟩) ?_
    try simp only [Act.put, List.setIfInBounds_toArray, List.set_cons_zero, List.set_cons_succ]
    refine wpAnyL_easy (i := 3) (v := (.pointer (some ⟨w1.heap.size, 4, none⟩))) (by simp only [List.getElem?_toArray, List.getElem?_cons_succ, List.getElem?_cons_zero]; rfl) (by kernel_rfl) (by kernel_rfl) (by kernel_rfl) (by exact fun _ _ _ h => h) (Or.inl ⟨by rfl, fun _ _ => rfl⟩) ?_
    try simp only [Act.put, List.setIfInBounds_toArray, List.set_cons_zero, List.set_cons_succ]
    refine wpAnyL_take (i := 4) (v := (.slice (some ⟨s0, 0, none⟩) n0 c0)) (by simp only [List.getElem?_toArray, List.getElem?_cons_succ, List.getElem?_cons_zero]; rfl) (by kernel_rfl) (by kernel_rfl) (by kernel_rfl) (by kernel_rfl) (by exact fun _ _ _ h => h) (Or.inl ⟨by rfl, by intro W hSw; have x0 := show W.cell? ⟨w1.heap.size, 4, none⟩ = some (.slice (some ⟨s0, 0, none⟩) n0 c0) from hSw.2.cell 4; go_simp; all_goals first | rfl | exact ⟨rfl, rfl, rfl, rfl, rfl, rfl⟩⟩) (by assumption) ?_
    try simp only [Act.put, List.setIfInBounds_toArray, List.set_cons_zero, List.set_cons_succ]
    have BD := Lib.hid (show Below w4.heap.size w4 w4.drew from Below.drew (Below.refl _ _))
    have D0 := Lib.hid (R4.out.below BD.out)
    have D1 := Lib.hid (T4.out.below BD.out)
    have DR := Lib.hid (HR4.out.below BD.out)
    have DT := Lib.hid (HT4.out.below BD.out)
    have DB := Lib.hid (B4.out.trans (BD.out.mono B4.out.size))
    clear R4 T4 HR4 HT4 B4 hHeld
    generalize w4.drew = wd at *
    refine wpAnyL_ready (rs := [5]) (by kernel_rfl) (by simp) ?_
    refine AllReadyL.cons (by simp only [List.getElem?_toArray, List.getElem?_cons_succ, List.getElem?_cons_zero]; rfl) (fun K hK => ?_) AllReadyL.nil
    refine step_store_blk (by rfl) _ (.tmp 4) (.tmp 32) (by rfl) w.heap.size 0 [.int .i64 0, .int .i64 0, .string ⟨#[]⟩, .int .u32 0, .slice none 0 0, .slice none 0 0] (by rfl) (by rfl) (by kernel_rfl) (by simp [Value.oneCell']) 35 _ D0.out (by show 0 + 6 ≤ 6; decide) ?_
    intro wz hCe hge
    have C0 : Cells wz w.heap.size 35 [.int .i64 0, .int .i64 0, .string ⟨#[]⟩, .int .u32 0, .slice none 0 0, .slice none 0 0] := hCe
    have KZ := Lib.hid (show Keep (fun q => q = w.heap.size) wd wz from (Keep.refl _ _).grown hge (fun k hk _ => by cases hk; rfl))
    have E0 := Lib.hid (D1.out.keep KZ.out (by have := NE.out; omega))
    have EG := Lib.hid (DR.out.cells.keep KZ.out (by have := NE.out; omega))
    clear hCe hge
    refine hK.out _ _ (⟨E0.out, EG.out⟩) (fun hHeld => ?_)
    try simp only [Act.put, List.setIfInBounds_toArray, List.set_cons_zero, List.set_cons_succ]
    refine wpAnyL_ready (rs := [6]) (by kernel_rfl) (by simp) ?_
    refine AllReadyL.cons (by simp only [List.getElem?_toArray, List.getElem?_cons_succ, List.getElem?_cons_zero]; rfl) (fun K hK => ?_) AllReadyL.nil
    go_simp
    refine hK.out _ _ (⟨E0.out, EG.out⟩) (fun hHeld => ?_)
    try simp only [Act.put, List.setIfInBounds_toArray, List.set_cons_zero, List.set_cons_succ]
    refine wpAnyL_ready (rs := [7]) (by kernel_rfl) (by simp) ?_
    refine AllReadyL.cons (by simp only [List.getElem?_toArray, List.getElem?_cons_succ, List.getElem?_cons_zero]; rfl) (fun K hK => ?_) AllReadyL.nil
    go_simp
    refine hK.out _ _ (⟨E0.out, EG.out⟩) (fun hHeld => ?_)
    try simp only [Act.put, List.setIfInBounds_toArray, List.set_cons_zero, List.set_cons_succ]
    refine wpAnyL_ready (rs := [8]) (by kernel_rfl) (by simp) ?_
    refine AllReadyL.cons (by simp only [List.getElem?_toArray, List.getElem?_cons_succ, List.getElem?_cons_zero]; rfl) (fun K hK => ?_) AllReadyL.nil
    go_simp
    refine hK.out _ _ (⟨E0.out, EG.out⟩) (fun hHeld => ?_)
    try simp only [Act.put, List.setIfInBounds_toArray, List.set_cons_zero, List.set_cons_succ]
    refine wpAnyL_done (by kernel_rfl) ?_ _
    have z0 := C0.cell 0
    have z1 := C0.cell 1
    have z2 := C0.cell 2
    have z3 := C0.cell 3
    have z4 := C0.cell 4
    have z5 := C0.cell 5
    simp only [List.getElem?_cons_zero, List.getElem?_cons_succ] at z0 z1 z2 z3 z4 z5
    clear C0
    go_wp2
    refine bodyPost_ret (v := .tuple #[.agg #[.int .i64 0, .int .i64 0, .string ⟨#[]⟩, .int .u32 0, .slice none 0 0, .slice none 0 0], .int .i64 0, .slice none 0 0, .slice (some ⟨s0, 0, none⟩) n0 c0]) (by simp [results, Tryz.results58, go_sem, z0, z1, z2, z3, z4, z5]) rfl ?_
    rw [HTE.out]
    refine ⟨_, rfl, DR.out.links.frame (fun q hq => KZ.out.block q (DR.out.links.block hq).2 (DR.out.links.ne_cells D0.out (by decide) hq)), HK.out, DB.out.trans (KZ.out.toBelow DB.out.size (fun q (hq : q = w.heap.size) => by omega))⟩
end Go.Proofs.YtlahagabcnmdiaaGreatDoor
end
section
/- The reference of layer 4: decode, where there is a table. Printed by wip/rfk.py. -/
open Go Go.RowKit
namespace Go.Proofs.YtlahagabcnmdiaaGreatDoor
set_option linter.unusedVariables false
set_option linter.unusedSimpArgs false

set_option maxHeartbeats 8000000 in
set_option maxRecDepth 100000 in
theorem decR_tab {limit : Int} {gt : Nat} {tl : List ByteArray} {F : Nat → Prop} (l : List UInt8) (v : Value) (w : World) (hv : RSl v l w) (hb : l.getD 0 0 = 131) (hne : l ≠ []) (htb : RTabIs limit gt tl F w) :
    Calls Tryz.prog 58 #[v, .pointer (some ⟨gt, 0, none⟩)] w (DecRR w (decP (termS l 256 ⟨1, 0, []⟩) (some (limit, tl)))) := by
  have HTB := Lib.hid htb
  have HNO := Lib.hid (fun W => noR_any 0 85 W)
  clear htb
  obtain ⟨a, c, rfl, hcc⟩ : ∃ a c, v = .slice a l.length c ∧ l.length ≤ maxLen := by obtain ⟨a, c, e, h1, h2, _⟩ := hv; exact ⟨a, c, e, by omega⟩
  have hel := run_neqLinks
  have BX := Lib.hid ((Below.refl w.heap.size w).alloc (Nat.le_refl _) (.cells #[.int .i64 0, .int .i64 0, .string ⟨#[]⟩, .int .u32 0, .slice none 0 0, .slice none 0 0] 35 (0, 0)))
  have R1 := Lib.hid (show Cells (w.alloc (.cells #[.int .i64 0, .int .i64 0, .string ⟨#[]⟩, .int .u32 0, .slice none 0 0, .slice none 0 0] 35 (0, 0))) w.heap.size 35 termZ from Cells.new w 35 termZ)
  have SZ1 := Lib.hid (show (w.alloc (.cells #[.int .i64 0, .int .i64 0, .string ⟨#[]⟩, .int .u32 0, .slice none 0 0, .slice none 0 0] 35 (0, 0))).heap.size = w.heap.size + 1 from by simp)
  have hlen := List.length_pos_iff.2 hne
  obtain ⟨q, o, rfl, hx⟩ := (hv.below BX.out).get 0 hlen
  rw [Nat.add_zero, hb] at hx
  replace hx : (w.alloc (.cells #[.int .i64 0, .int .i64 0, .string ⟨#[]⟩, .int .u32 0, .slice none 0 0, .slice none 0 0] 35 (0, 0))).cell? ⟨q, o, none⟩ = some (.int .u8 131) := hx
  have HBF := Lib.hid (hv.below BX.out)
  have HQ := Lib.hid (show q < w.heap.size from by
    obtain ⟨g0, o0, e0, hx0⟩ := hv.get 0 hlen
    injection e0 with e0
    injection e0 with e0
    rw [e0]
    exact World.block_lt_of_cell? w _ hx0)
  have q2 : ((l.length : Int) == 0) = false := beq_eq_false_iff_ne.2 (by omega)
  have q3 : (0 : Int) < (l.length : Int) := by omega
  have HLEN := Lib.hid hlen
  clear hb hcc hne hlen hv
  go_enter Tryz.func58, Tryz.ntmps58
  go_upto_region 1 with (fail)
  generalize w.alloc (.cells #[.int .i64 0, .int .i64 0, .string ⟨#[]⟩, .int .u32 0, .slice none 0 0, .slice none 0 0] 35 (0, 0)) = w1 at *
  unfold termZ at *
  go_upto_region 4 with (fail)
  have SZ2 := Lib.hid (show w1.heap.size = w.heap.size + 1 from SZ1.out)
  have BR := Lib.hid ((Below.refl w1.heap.size w1).alloc (Nat.le_refl _) (.cells #[.slice (some ⟨q, o, none⟩) l.length c, .int .i64 1, .int .i64 0, .slice none 0 0, .slice none 0 0] 178 (0, 0)))
  have HR := Lib.hid (show RfIs w.heap.size w1.heap.size l (.slice (some ⟨q, o, none⟩) l.length c) ⟨1, 0, []⟩ (.slice none 0 0) (.slice none 0 0) [] (w1.alloc (.cells #[.slice (some ⟨q, o, none⟩) l.length c, .int .i64 1, .int .i64 0, .slice none 0 0, .slice none 0 0] 178 (0, 0))) from
    ⟨by have := SZ2.out; omega, Cells.new w1 178 [.slice (some ⟨q, o, none⟩) l.length c, .int .i64 1, .int .i64 0, .slice none 0 0, .slice none 0 0], HBF.out.below BR.out, fun ad n c' _ e => by injection e with e; injection e with e; rw [← e]; exact HQ.out, StrsIs.nil _, (fun q hq => nomatch hq), LinksIs.nil _ _, fun _ => rfl, ⟨by decide, by show 1 ≤ l.length; have := HLEN.out; omega, Nat.zero_le _, Nat.zero_le _⟩⟩)
  have HP := Lib.hid (show Calls Tryz.prog 99 #[.pointer (some ⟨w1.heap.size, 0, none⟩), .int .i64 1] _ _ from rfPart_any 256 (Nat.le_refl _) _ _ _ _ _ _ _ _ HR.out (Nat.zero_le _))
  have R2 := Lib.hid (R1.out.below BR.out)
  have B2 := Lib.hid (BX.out.trans (BR.out.mono BX.out.size))
  have G2 := Lib.hid HR.out.cells.lt
  clear HR BR hx q2 q3 HBF HLEN R1 BX
  generalize w1.alloc (.cells #[.slice (some ⟨q, o, none⟩) l.length c, .int .i64 1, .int .i64 0, .slice none 0 0, .slice none 0 0] 178) = w2 at *
  go_wp2_with fail
  refine HP.out.mono ?_
  rintro e w3 ⟨t, st, av, lv, k, vs, rfl, ht, hrr, _, _, hm⟩
  obtain ⟨_, nv5, a5, cap5, rfl, hnn5, -⟩ := ht.parts
  obtain ⟨na5, nc5, rfl, -, -⟩ := hnn5.slice
  have HT3 := Lib.hid ht
  have HRR := Lib.hid hrr
  have HM := Lib.hid hm
  have HGN := Lib.hid (show ¬ LsK w1.heap.size (.slice none 0 0) w.heap.size from fun e => by
    rcases e with e | e
    · have := SZ2.out; omega
    · cases e)
  have R3 := Lib.hid (R2.out.keep hrr.keep HGN.out)
  have B3 := Lib.hid (B2.out.trans (hrr.keep.toBelow B2.out.size (fun q hq => by
    rcases hq with hq | hq
    · have := SZ2.out; omega
    · cases hq)))
  have W23 := Lib.hid hrr.keep.size
  clear ht hnn5 hrr hm HP R2 B2
  have BT := Lib.hid ((Below.refl w3.heap.size w3).alloc (Nat.le_refl _) (.cells #[.int .i64 t.kind, .int .i64 t.int, .string t.text, .int .u32 t.cr, .slice na5 t.nums.length nc5, .slice a5 t.args.length cap5] 35 (0, 0)))
  have T4 := Lib.hid (Cells.new w3 35 [.int .i64 t.kind, .int .i64 t.int, .string t.text, .int .u32 t.cr, .slice na5 t.nums.length nc5, .slice a5 t.args.length cap5])
  have R4 := Lib.hid (R3.out.below BT.out)
  have B4 := Lib.hid (B3.out.trans (BT.out.mono B3.out.size))
  have HT4 := Lib.hid (HT3.out.below BT.out)
  have HR4 := Lib.hid (HRR.out.is_.below BT.out)
  have NE := Lib.hid (show w.heap.size < w3.heap.size ∧ w1.heap.size < w3.heap.size ∧ w.heap.size ≠ w1.heap.size from ⟨R3.out.lt, HRR.out.is_.cells.lt, by have := SZ2.out; omega⟩)
  go_upto_region 5 with (fail)
  generalize w3.alloc (.cells #[.int .i64 t.kind, .int .i64 t.int, .string t.text, .int .u32 t.cr, .slice na5 t.nums.length nc5, .slice a5 t.args.length cap5] 35) = w4 at *
  clear BT HT3 R3 B3
  have c4 := HR4.out.cells.cell 4
  simp only [List.getElem?_cons_zero, List.getElem?_cons_succ] at c4
  rcases HR4.out.lform with ⟨rfl, rfl⟩ | ⟨hk, hsome⟩
  · have HTE := Lib.hid (show termS l 256 ⟨1, 0, []⟩ = .ok t st ∧ st.part ≤ 4096 from by
      have hm := HM.out
      cases hr : termS l 256 ⟨1, 0, []⟩ with
      | ok x s => rw [hr] at hm; obtain ⟨_, rfl, rfl, h4⟩ := hm; exact ⟨rfl, h4⟩
      | bad kk => rw [hr] at hm; obtain ⟨rfl, h2⟩ := hm; exact absurd rfl h2)
    clear HM
    obtain ⟨aa, ac, rfl⟩ := HR4.out.aform
    have LW := Lib.hid B4.out.size
    have HT4' := Lib.hid (HT4.out.mono (S' := fun q => w2.heap.size ≤ q ∧ q < w4.heap.size) (fun q hlt hq => ⟨hq.1, hlt⟩))
    have HFR := Lib.hid (freshR_any (HTB.out.below B4.out) HR4.out.atoms (by have := HR4.out.ok.atoms; have := HTE.out.2; omega))
    have HTB4 := Lib.hid (HTB.out.below B4.out)
    have c3 := HR4.out.cells.cell 3
    simp only [List.getElem?_cons_zero, List.getElem?_cons_succ] at c3
    clear HT4
    go_wp2_with fail
    clear c3 c4
    refine HFR.out.mono ?_
    rintro e w5 ⟨fv, rfl, hfs, hfo, hb5⟩
    have HTB5 := Lib.hid (HTB4.out.below hb5)
    have HFO := Lib.hid hfo
    have R5 := Lib.hid (R4.out.below hb5)
    have T5 := Lib.hid (T4.out.below hb5)
    have HR5 := Lib.hid (HR4.out.below hb5)
    have HT5 := Lib.hid (HT4'.out.below hb5)
    have B5 := Lib.hid (B4.out.trans (hb5.mono B4.out.size))
    have HF5 := Lib.hid hfs
    have hlf := run_strs_len hfs
    obtain ⟨fa, fc, rfl⟩ : ∃ a c, fv = .slice a (freshS tl st.atoms).length c := by
      obtain ⟨a, c, e, _⟩ := hfs.get
      exact ⟨a, c, e⟩
    have hfln : ((freshS tl st.atoms).length : Int) ≤ 5000 := by have := freshS_len tl st.atoms; have := HR4.out.ok.atoms; have := HTE.out.2; omega
    obtain ⟨⟨sv, hC, hS, -, -⟩, ⟨a1, a2, a3⟩, -⟩ := HTB5.out
    have t0 := hC.cell 0
    have t1 := hC.cell 1
    simp only [List.getElem?_cons_zero, List.getElem?_cons_succ] at t0 t1
    have hlt := run_strs_len hS
    obtain ⟨sa, sc, rfl, -⟩ := hS.get
    have hwr : IntKind.i64.wrap (limit - tl.length) = limit - tl.length := IntWalk.i64_in _ (by omega)
    clear R4 T4 HR4 HT4' B4 hfs hfo hb5 HTB4 HTB5 HFR hC hS HTB
    generalize hfg : freshS tl st.atoms = fl at HF5 HFO hlf hfln ⊢
    have HFL := Lib.hid hfg
    clear hfg
    go_wp2
    go_quiet (fail)
    clear hwr t0 t1 hlt hlf
    generalize hW : World.drewN _ _ = w6 at *
    have BW := Lib.hid (show Below w5.heap.size w5 w6 from by rw [← hW]; exact below_drewN (Below.refl _ _) _)
    clear hW
    have R6 := Lib.hid (R5.out.below BW.out)
    have T6 := Lib.hid (T5.out.below BW.out)
    have HR6 := Lib.hid (HR5.out.below BW.out)
    have HT6 := Lib.hid (HT5.out.below BW.out)
    have HF6 := Lib.hid (HF5.out.below BW.out)
    have B6 := Lib.hid (B5.out.trans (BW.out.mono B5.out.size))
    clear R5 T5 HR5 HT5 HF5 B5 BW
    by_cases h85 : limit - tl.length < (fl.length : Int)
    · have HDP := Lib.hid (show decP (.ok t st) (some (limit, tl)) = (.bad [⟨etfL, 0, 85⟩], []) from by
        show (if limit - tl.length < ((freshS tl st.atoms).length : Int) then _ else _) = _
        rw [HFL.out, if_pos h85])
      go_wp2_with fail
      clear h85
      refine (HNO.out _).mono ?_
      rintro e w7 ⟨l11, rfl, hl, hb⟩
      have R7 := Lib.hid (R6.out.below hb)
      have HL := Lib.hid (hl.base (show w.heap.size ≤ w6.heap.size from B6.out.size))
      have B7 := Lib.hid (B6.out.trans (hb.mono B6.out.size))
      clear hl hb
      go_wp2_with (refine wpList_store_blk rfl _ (.tmp 4) (.tmp 63) rfl w.heap.size 0 [.int .i64 0, .int .i64 0, .string ⟨#[]⟩, .int .u32 0, .slice none 0 0, .slice none 0 0] (by rfl) (by rfl) (by kernel_rfl) (by simp [Value.oneCell']) 35 _ R7.out (by show 0 + 6 ≤ 6; decide) ?_; intro wz hCz hgz; refine stop ?_)
      refine Stopped.of ?_
      have C0 : Cells wz w.heap.size 35 [.int .i64 0, .int .i64 0, .string ⟨#[]⟩, .int .u32 0, .slice none 0 0, .slice none 0 0] := hCz
      have KZ := Lib.hid (show Keep (fun q => q = w.heap.size) w7 wz from (Keep.refl _ _).grown hgz (fun k hk _ => by cases hk; rfl))
      clear hCz hgz
      have z0 := C0.cell 0
      have z1 := C0.cell 1
      have z2 := C0.cell 2
      have z3 := C0.cell 3
      have z4 := C0.cell 4
      have z5 := C0.cell 5
      simp only [List.getElem?_cons_zero, List.getElem?_cons_succ] at z0 z1 z2 z3 z4 z5
      clear C0
      go_wp2
      refine bodyPost_ret (v := .tuple #[.agg #[.int .i64 0, .int .i64 0, .string ⟨#[]⟩, .int .u32 0, .slice none 0 0, .slice none 0 0], .int .i64 0, .slice none 0 0, l11]) (by simp [results, Tryz.results58, go_sem, z0, z1, z2, z3, z4, z5]) rfl ?_
      rw [HTE.out.1, HDP.out]
      refine ⟨l11, rfl, HL.out.frame (fun q hq => KZ.out.block q (HL.out.block hq).2 (HL.out.ne_cells R7.out (by decide) hq)), by simp, B7.out.trans (KZ.out.toBelow B7.out.size (fun q (hq : q = w.heap.size) => by omega))⟩
    · have HDP := Lib.hid (show decP (.ok t st) (some (limit, tl)) = (.ok t st, fl) from by
        show (if limit - tl.length < ((freshS tl st.atoms).length : Int) then _ else _) = _
        rw [HFL.out, if_neg h85])
      go_wp2_with fail
      clear h85
      refine wp_region_L (S := fun X => Cells X w3.heap.size 35 [.int .i64 t.kind, .int .i64 t.int, .string t.text, .int .u32 t.cr, .slice na5 t.nums.length nc5, .slice a5 t.args.length cap5] ∧ Cells X w1.heap.size 178 [.slice (some ⟨q, o, none⟩) l.length c, .int .i64 st.at_, .int .i64 st.part, .slice aa st.atoms.length ac, .slice none 0 0]) (F := []) (by kernel_rfl) (⟨T6.out.below (Below.drew (Below.refl _ _)), HR6.out.cells.below (Below.drew (Below.refl _ _))⟩) (fun hHeld => ?_)
      refine wpAnyL_take (i := 0) (v := (.agg #[.int .i64 t.kind, .int .i64 t.int, .string t.text, .int .u32 t.cr, .slice na5 t.nums.length nc5, .slice a5 t.args.length cap5])) (by simp only [List.getElem?_toArray, List.getElem?_cons_succ, List.getElem?_cons_zero]; rfl) (by kernel_rfl) (by kernel_rfl) (by kernel_rfl) (by kernel_rfl) (by exact fun _ _ _ h => h) (Or.inl ⟨by rfl, by intro W hSw; have x0 := hSw.1.cell 0; have x1 := hSw.1.cell 1; have x2 := hSw.1.cell 2; have x3 := hSw.1.cell 3; have x4 := hSw.1.cell 4; have x5 := hSw.1.cell 5; simp only [List.getElem?_cons_zero, List.getElem?_cons_succ, ← Nat.add_assoc, Nat.add_zero] at x0 x1 x2 x3 x4 x5; go_simp; all_goals first | rfl | exact ⟨rfl, rfl, rfl, rfl, rfl, rfl⟩⟩) (by assumption) ?_
      try simp only [Act.put, List.setIfInBounds_toArray, List.set_cons_zero, List.set_cons_succ]
      refine wpAnyL_easy (i := 1) (v := (.pointer (some ⟨w1.heap.size, 0, none⟩))) (by simp only [List.getElem?_toArray, List.getElem?_cons_succ, List.getElem?_cons_zero]; rfl) (by kernel_rfl) (by kernel_rfl) (by kernel_rfl) (by exact fun _ _ _ h => h) (Or.inl ⟨by rfl, fun _ _ => rfl⟩) ?_
      try simp only [Act.put, List.setIfInBounds_toArray, List.set_cons_zero, List.set_cons_succ]
      refine wpAnyL_easy (i := 2) (v := (.pointer (some ⟨w1.heap.size, 0, none⟩))) (by simp only [List.getElem?_toArray, List.getElem?_cons_succ, List.getElem?_cons_zero]; rfl) (by kernel_rfl) (by kernel_rfl) (by kernel_rfl) (by exact fun _ _ _ h => h) (Or.inl ⟨by rfl, by intro W _; go_simp; all_goals first | rfl | exact ⟨rfl, rfl, rfl, rfl, rfl, rfl⟩⟩) ?_
      try simp only [Act.put, List.setIfInBounds_toArray, List.set_cons_zero, List.set_cons_succ]
      refine wpAnyL_easy (i := 3) (v := (.pointer (some ⟨w1.heap.size, 1, none⟩))) (by simp only [List.getElem?_toArray, List.getElem?_cons_succ, List.getElem?_cons_zero]; rfl) (by kernel_rfl) (by kernel_rfl) (by kernel_rfl) (by exact fun _ _ _ h => h) (Or.inl ⟨by rfl, fun _ _ => rfl⟩) ?_
      try simp only [Act.put, List.setIfInBounds_toArray, List.set_cons_zero, List.set_cons_succ]
      refine wpAnyL_take (i := 4) (v := (.int .i64 st.at_)) (by simp only [List.getElem?_toArray, List.getElem?_cons_succ, List.getElem?_cons_zero]; rfl) (by kernel_rfl) (by kernel_rfl) (by kernel_rfl) (by kernel_rfl) (by exact fun _ _ _ h => h) (Or.inl ⟨by rfl, by intro W hSw; have x0 := show W.cell? ⟨w1.heap.size, 1, none⟩ = some (.int .i64 st.at_) from hSw.2.cell 1; go_simp; all_goals first | rfl | exact ⟨rfl, rfl, rfl, rfl, rfl, rfl⟩⟩) (by assumption) ?_
      try simp only [Act.put, List.setIfInBounds_toArray, List.set_cons_zero, List.set_cons_succ]
      refine wpAnyL_easy (i := 5) (v := (.slice fa fl.length fc)) (by simp only [List.getElem?_toArray, List.getElem?_cons_succ, List.getElem?_cons_zero]; rfl) (by kernel_rfl) (by kernel_rfl) (by kernel_rfl) (by exact fun _ _ _ h => h) (Or.inl ⟨by rfl, fun _ _ => rfl⟩) ?_
      try simp only [Act.put, List.setIfInBounds_toArray, List.set_cons_zero, List.set_cons_succ]
      have BD := Lib.hid (show Below w6.heap.size w6 w6.drew from Below.drew (Below.refl _ _))
      have D0 := Lib.hid (R6.out.below BD.out)
      have D1 := Lib.hid (T6.out.below BD.out)
      have DR := Lib.hid (HR6.out.below BD.out)
      have DT := Lib.hid (HT6.out.below BD.out)
      have DB := Lib.hid (B6.out.trans (BD.out.mono B6.out.size))
      have DF := Lib.hid (HF6.out.below BD.out)
      clear HF6
      clear R6 T6 HR6 HT6 B6 hHeld
      generalize w6.drew = wd at *
      refine wpAnyL_ready (rs := [6]) (by kernel_rfl) (by simp) ?_
      refine AllReadyL.cons (by simp only [List.getElem?_toArray, List.getElem?_cons_succ, List.getElem?_cons_zero]; rfl) (fun K hK => ?_) AllReadyL.nil
      refine step_store_blk (by rfl) _ (.tmp 4) (.tmp 65) (by rfl) w.heap.size 0 [.int .i64 t.kind, .int .i64 t.int, .string t.text, .int .u32 t.cr, .slice na5 t.nums.length nc5, .slice a5 t.args.length cap5] (by rfl) (by rfl) (by kernel_rfl) (by simp [Value.oneCell']) 35 _ D0.out (by show 0 + 6 ≤ 6; decide) ?_
      intro wz hCe hge
      have C0 : Cells wz w.heap.size 35 [.int .i64 t.kind, .int .i64 t.int, .string t.text, .int .u32 t.cr, .slice na5 t.nums.length nc5, .slice a5 t.args.length cap5] := hCe
      have KZ := Lib.hid (show Keep (fun q => q = w.heap.size) wd wz from (Keep.refl _ _).grown hge (fun k hk _ => by cases hk; rfl))
      have E0 := Lib.hid (D1.out.keep KZ.out (by have := NE.out; omega))
      have EG := Lib.hid (DR.out.cells.keep KZ.out (by have := NE.out; omega))
      clear hCe hge
      refine hK.out _ _ (⟨E0.out, EG.out⟩) (fun hHeld => ?_)
      try simp only [Act.put, List.setIfInBounds_toArray, List.set_cons_zero, List.set_cons_succ]
      refine wpAnyL_ready (rs := [7]) (by kernel_rfl) (by simp) ?_
      refine AllReadyL.cons (by simp only [List.getElem?_toArray, List.getElem?_cons_succ, List.getElem?_cons_zero]; rfl) (fun K hK => ?_) AllReadyL.nil
      go_simp
      refine hK.out _ _ (⟨E0.out, EG.out⟩) (fun hHeld => ?_)
      try simp only [Act.put, List.setIfInBounds_toArray, List.set_cons_zero, List.set_cons_succ]
      refine wpAnyL_ready (rs := [8]) (by kernel_rfl) (by simp) ?_
      refine AllReadyL.cons (by simp only [List.getElem?_toArray, List.getElem?_cons_succ, List.getElem?_cons_zero]; rfl) (fun K hK => ?_) AllReadyL.nil
      go_simp
      refine hK.out _ _ (⟨E0.out, EG.out⟩) (fun hHeld => ?_)
      try simp only [Act.put, List.setIfInBounds_toArray, List.set_cons_zero, List.set_cons_succ]
      refine wpAnyL_ready (rs := [9]) (by kernel_rfl) (by simp) ?_
      refine AllReadyL.cons (by simp only [List.getElem?_toArray, List.getElem?_cons_succ, List.getElem?_cons_zero]; rfl) (fun K hK => ?_) AllReadyL.nil
      go_simp
      refine hK.out _ _ (⟨E0.out, EG.out⟩) (fun hHeld => ?_)
      try simp only [Act.put, List.setIfInBounds_toArray, List.set_cons_zero, List.set_cons_succ]
      refine wpAnyL_done (by kernel_rfl) ?_ _
      have z0 := C0.cell 0
      have z1 := C0.cell 1
      have z2 := C0.cell 2
      have z3 := C0.cell 3
      have z4 := C0.cell 4
      have z5 := C0.cell 5
      simp only [List.getElem?_cons_zero, List.getElem?_cons_succ] at z0 z1 z2 z3 z4 z5
      clear C0
      go_wp2
      refine bodyPost_ret (v := .tuple #[.agg #[.int .i64 t.kind, .int .i64 t.int, .string t.text, .int .u32 t.cr, .slice na5 t.nums.length nc5, .slice a5 t.args.length cap5], .int .i64 st.at_, .slice fa fl.length fc, .slice none 0 0]) (by simp [results, Tryz.results58, go_sem, z0, z1, z2, z3, z4, z5]) rfl ?_
      rw [HTE.out.1, HDP.out]
      show DecRR w (.ok t st, fl) _ _
      refine ⟨_, _, rfl, ?_, DF.out.keep KZ.out (fun q hq (e : q = w.heap.size) => DF.out.ne_cells D0.out (by decide) (e ▸ hq)), (fun q hq => Nat.le_trans LW.out (HFO.out q hq)), DB.out.trans (KZ.out.toBelow DB.out.size (fun q (hq : q = w.heap.size) => by omega))⟩
      refine (DT.out.keep KZ.out (fun q _ hq (e : q = w.heap.size) => ?_)).mono (fun q _ hq => ?_)
      · have := hq.1; have := W23.out; have := G2.out; have := SZ2.out; omega
      · exact ⟨by have := hq.1; have := W23.out; have := G2.out; have := SZ2.out; omega, fun e => by have := HFO.out q e; have := hq.2; omega⟩
  · obtain ⟨s0, n0, c0, rfl⟩ := hsome
    have HTE := Lib.hid (show termS l 256 ⟨1, 0, []⟩ = .bad k from by
      have hm := HM.out
      cases hr : termS l 256 ⟨1, 0, []⟩ with
      | ok x s => rw [hr] at hm; exact absurd hm.1 hk
      | bad kk => rw [hr] at hm; rw [hm.1])
    have HK := Lib.hid hk
    clear hk HM
    go_wp2_with fail
    clear c4
    refine wp_region_L (S := fun X => Cells X w3.heap.size 35 [.int .i64 t.kind, .int .i64 t.int, .string t.text, .int .u32 t.cr, .slice na5 t.nums.length nc5, .slice a5 t.args.length cap5] ∧ Cells X w1.heap.size 178 [.slice (some ⟨q, o, none⟩) l.length c, .int .i64 st.at_, .int .i64 st.part, av, .slice (some ⟨s0, 0, none⟩) n0 c0]) (F := []) (by kernel_rfl) (⟨T4.out.below (Below.drew (Below.refl _ _)), HR4.out.cells.below (Below.drew (Below.refl _ _))⟩) (fun hHeld => ?_)
    refine wpAnyL_easy (i := 0) (v := (.agg #[.int .i64 0, .int .i64 0, .string ⟨#[]⟩, .int .u32 0, .slice none 0 0, .slice none 0 0])) (by simp only [List.getElem?_toArray, List.getElem?_cons_succ, List.getElem?_cons_zero]; rfl) (by kernel_rfl) (by kernel_rfl) (by kernel_rfl) (by exact fun _ _ _ h => h) (Or.inl ⟨by rfl, by intro W _; go_simp; all_goals first | rfl | exact ⟨rfl, rfl, rfl, rfl, rfl, rfl⟩⟩) ?_
    try simp only [Act.put, List.setIfInBounds_toArray, List.set_cons_zero, List.set_cons_succ]
    refine wpAnyL_easy (i := 1) (v := (.pointer (some ⟨w1.heap.size, 0, none⟩))) (by simp only [List.getElem?_toArray, List.getElem?_cons_succ, List.getElem?_cons_zero]; rfl) (by kernel_rfl) (by kernel_rfl) (by kernel_rfl) (by exact fun _ _ _ h => h) (Or.inl ⟨by rfl, fun _ _ => rfl⟩) ?_
    try simp only [Act.put, List.setIfInBounds_toArray, List.set_cons_zero, List.set_cons_succ]
    refine wpAnyL_easy (i := 2) (v := (.pointer (some ⟨w1.heap.size, 0, none⟩))) (by simp only [List.getElem?_toArray, List.getElem?_cons_succ, List.getElem?_cons_zero]; rfl) (by kernel_rfl) (by kernel_rfl) (by kernel_rfl) (by exact fun _ _ _ h => h) (Or.inl ⟨by rfl, by intro W _; go_simp; all_goals first | rfl | exact ⟨rfl, rfl, rfl, rfl, rfl, rfl⟩⟩) ?_
    try simp only [Act.put, List.setIfInBounds_toArray, List.set_cons_zero, List.set_cons_succ]
    refine wpAnyL_easy (i := 3) (v := (.pointer (some ⟨w1.heap.size, 4, none⟩))) (by simp only [List.getElem?_toArray, List.getElem?_cons_succ, List.getElem?_cons_zero]; rfl) (by kernel_rfl) (by kernel_rfl) (by kernel_rfl) (by exact fun _ _ _ h => h) (Or.inl ⟨by rfl, fun _ _ => rfl⟩) ?_
    try simp only [Act.put, List.setIfInBounds_toArray, List.set_cons_zero, List.set_cons_succ]
    refine wpAnyL_take (i := 4) (v := (.slice (some ⟨s0, 0, none⟩) n0 c0)) (by simp only [List.getElem?_toArray, List.getElem?_cons_succ, List.getElem?_cons_zero]; rfl) (by kernel_rfl) (by kernel_rfl) (by kernel_rfl) (by kernel_rfl) (by exact fun _ _ _ h => h) (Or.inl ⟨by rfl, by intro W hSw; have x0 := show W.cell? ⟨w1.heap.size, 4, none⟩ = some (.slice (some ⟨s0, 0, none⟩) n0 c0) from hSw.2.cell 4; go_simp; all_goals first | rfl | exact ⟨rfl, rfl, rfl, rfl, rfl, rfl⟩⟩) (by assumption) ?_
    try simp only [Act.put, List.setIfInBounds_toArray, List.set_cons_zero, List.set_cons_succ]
    have BD := Lib.hid (show Below w4.heap.size w4 w4.drew from Below.drew (Below.refl _ _))
    have D0 := Lib.hid (R4.out.below BD.out)
    have D1 := Lib.hid (T4.out.below BD.out)
    have DR := Lib.hid (HR4.out.below BD.out)
    have DT := Lib.hid (HT4.out.below BD.out)
    have DB := Lib.hid (B4.out.trans (BD.out.mono B4.out.size))
    clear R4 T4 HR4 HT4 B4 hHeld
    generalize w4.drew = wd at *
    refine wpAnyL_ready (rs := [5]) (by kernel_rfl) (by simp) ?_
    refine AllReadyL.cons (by simp only [List.getElem?_toArray, List.getElem?_cons_succ, List.getElem?_cons_zero]; rfl) (fun K hK => ?_) AllReadyL.nil
    refine step_store_blk (by rfl) _ (.tmp 4) (.tmp 32) (by rfl) w.heap.size 0 [.int .i64 0, .int .i64 0, .string ⟨#[]⟩, .int .u32 0, .slice none 0 0, .slice none 0 0] (by rfl) (by rfl) (by kernel_rfl) (by simp [Value.oneCell']) 35 _ D0.out (by show 0 + 6 ≤ 6; decide) ?_
    intro wz hCe hge
    have C0 : Cells wz w.heap.size 35 [.int .i64 0, .int .i64 0, .string ⟨#[]⟩, .int .u32 0, .slice none 0 0, .slice none 0 0] := hCe
    have KZ := Lib.hid (show Keep (fun q => q = w.heap.size) wd wz from (Keep.refl _ _).grown hge (fun k hk _ => by cases hk; rfl))
    have E0 := Lib.hid (D1.out.keep KZ.out (by have := NE.out; omega))
    have EG := Lib.hid (DR.out.cells.keep KZ.out (by have := NE.out; omega))
    clear hCe hge
    refine hK.out _ _ (⟨E0.out, EG.out⟩) (fun hHeld => ?_)
    try simp only [Act.put, List.setIfInBounds_toArray, List.set_cons_zero, List.set_cons_succ]
    refine wpAnyL_ready (rs := [6]) (by kernel_rfl) (by simp) ?_
    refine AllReadyL.cons (by simp only [List.getElem?_toArray, List.getElem?_cons_succ, List.getElem?_cons_zero]; rfl) (fun K hK => ?_) AllReadyL.nil
    go_simp
    refine hK.out _ _ (⟨E0.out, EG.out⟩) (fun hHeld => ?_)
    try simp only [Act.put, List.setIfInBounds_toArray, List.set_cons_zero, List.set_cons_succ]
    refine wpAnyL_ready (rs := [7]) (by kernel_rfl) (by simp) ?_
    refine AllReadyL.cons (by simp only [List.getElem?_toArray, List.getElem?_cons_succ, List.getElem?_cons_zero]; rfl) (fun K hK => ?_) AllReadyL.nil
    go_simp
    refine hK.out _ _ (⟨E0.out, EG.out⟩) (fun hHeld => ?_)
    try simp only [Act.put, List.setIfInBounds_toArray, List.set_cons_zero, List.set_cons_succ]
    refine wpAnyL_ready (rs := [8]) (by kernel_rfl) (by simp) ?_
    refine AllReadyL.cons (by simp only [List.getElem?_toArray, List.getElem?_cons_succ, List.getElem?_cons_zero]; rfl) (fun K hK => ?_) AllReadyL.nil
    go_simp
    refine hK.out _ _ (⟨E0.out, EG.out⟩) (fun hHeld => ?_)
    try simp only [Act.put, List.setIfInBounds_toArray, List.set_cons_zero, List.set_cons_succ]
    refine wpAnyL_done (by kernel_rfl) ?_ _
    have z0 := C0.cell 0
    have z1 := C0.cell 1
    have z2 := C0.cell 2
    have z3 := C0.cell 3
    have z4 := C0.cell 4
    have z5 := C0.cell 5
    simp only [List.getElem?_cons_zero, List.getElem?_cons_succ] at z0 z1 z2 z3 z4 z5
    clear C0
    go_wp2
    refine bodyPost_ret (v := .tuple #[.agg #[.int .i64 0, .int .i64 0, .string ⟨#[]⟩, .int .u32 0, .slice none 0 0, .slice none 0 0], .int .i64 0, .slice none 0 0, .slice (some ⟨s0, 0, none⟩) n0 c0]) (by simp [results, Tryz.results58, go_sem, z0, z1, z2, z3, z4, z5]) rfl ?_
    rw [HTE.out]
    refine ⟨_, rfl, DR.out.links.frame (fun q hq => KZ.out.block q (DR.out.links.block hq).2 (DR.out.links.ne_cells D0.out (by decide) hq)), HK.out, DB.out.trans (KZ.out.toBelow DB.out.size (fun q (hq : q = w.heap.size) => by omega))⟩

theorem decR_any (l : List UInt8) (v : Value) (w : World) (hv : RSl v l w) :
    Calls Tryz.prog 58 #[v, .pointer none] w (DecRR w (decP (readS l) none)) := by
  unfold readS
  by_cases h : l.getD 0 0 = 131 ∧ l ≠ []
  · rw [if_pos h]; exact decR_nil l v w hv h.1 h.2
  · rw [if_neg h]; exact decR_bad l v _ w hv h
theorem decR_with {limit : Int} {gt : Nat} {tl : List ByteArray} {F : Nat → Prop} (l : List UInt8) (v : Value) (w : World) (hv : RSl v l w) (htb : RTabIs limit gt tl F w) :
    Calls Tryz.prog 58 #[v, .pointer (some ⟨gt, 0, none⟩)] w (DecRR w (decP (readS l) (some (limit, tl)))) := by
  unfold readS
  by_cases h : l.getD 0 0 = 131 ∧ l ≠ []
  · rw [if_pos h]; exact decR_tab l v w hv h.1 h.2 htb
  · rw [if_neg h]; exact decR_bad l v _ w hv h
end Go.Proofs.YtlahagabcnmdiaaGreatDoor
end
section
/- What is read bears no text of more than 65536 bytes. No function of the program is looked at here. -/
open Go Go.RowKit
namespace Go.Proofs.YtlahagabcnmdiaaGreatDoor
set_option linter.unusedVariables false
set_option linter.unusedSimpArgs false

def smallA (st : Rd) : Prop := (∀ s ∈ st.atoms, s.size ≤ 65536) ∧ st.at_ ≤ 65536
def Small {α : Type} (f : Rd → Res α) : Prop := ∀ st x st2, smallA st → f st = .ok x st2 → smallA st2
theorem Small.bind {α β : Type} {f : Rd → Res α} {g : α → Rd → Res β} (hf : Small f) (hg : ∀ x, Small (g x)) : Small fun st => (f st).bind fun x s => g x s := by
  intro st y st2 hs h
  replace h : (f st).bind (fun x s => g x s) = .ok y st2 := h
  cases hx : f st with
  | bad k => rw [hx] at h; cases h
  | ok x s1 => rw [hx] at h; exact hg x s1 y st2 (hf st x s1 hs hx) h
theorem Small.ok {α : Type} (x : Rd → α) : Small fun st => .ok (x st) st := fun st y st2 hs h => by injection h with _ h; rwa [← h]
theorem Small.bad {α : Type} (k : Rd → List Lk) : Small fun st => (.bad (k st) : Res α) := fun st y st2 hs h => by cases h
theorem Small.ite {α : Type} {c : Rd → Prop} [∀ s, Decidable (c s)] {f g : Rd → Res α} (hf : Small f) (hg : Small g) : Small fun st => if c st then f st else g st := fun st y st2 hs h => by
  by_cases hc : c st
  · simp only [if_pos hc] at h; exact hf _ _ _ hs h
  · simp only [if_neg hc] at h; exact hg _ _ _ hs h
theorem small_need (l : List UInt8) (tag n : Nat) : Small (needS l tag n) := fun st x st2 hs h => by
  unfold needS at h
  split at h
  · cases h
  · split at h
    · cases h
    · injection h with _ h; rw [← h]; exact ⟨hs.1, by show st.at_ + n ≤ 65536; omega⟩
theorem small_four (l : List UInt8) (tag : Nat) : Small (fourS l tag) := fun st x st2 hs h => by
  unfold fourS at h
  cases hx : needS l tag 4 st with
  | bad k => rw [hx] at h; cases h
  | ok y s1 => rw [hx] at h; injection h with _ h; rw [← h]; exact small_need l tag 4 st y s1 hs hx
theorem need_ok {l : List UInt8} {tag n : Nat} {st st2 : Rd} {x : Unit} (h : needS l tag n st = .ok x st2) : st2 = ⟨st.at_ + n, st.part, st.atoms⟩ ∧ st.at_ + n ≤ 65536 := by
  unfold needS at h
  split at h
  · cases h
  · split at h
    · cases h
    · injection h with _ h; exact ⟨h.symm, by omega⟩
theorem small_txt {l : List UInt8} {tag behind : Nat} {wide : Bool} {st st2 : Rd} {s : ByteArray} (h : txtS l tag wide behind st = .ok s st2) : st2.atoms = st.atoms ∧ s.size ≤ 65536 ∧ st2.at_ ≤ 65536 := by
  unfold txtS at h
  cases hx : needS l tag (if wide then 2 else 1) st with
  | bad k => rw [hx] at h; cases h
  | ok y s1 =>
    rw [hx] at h
    obtain ⟨rfl, h1⟩ := need_ok hx
    simp only [Res.bind] at h
    cases hy : needS l tag (numS (cutB l st.at_ (if wide then 2 else 1)) + behind) ⟨st.at_ + (if wide then 2 else 1), st.part, st.atoms⟩ with
    | bad k => rw [hy] at h; cases h
    | ok z s2 =>
      rw [hy] at h
      obtain ⟨rfl, h2⟩ := need_ok hy
      injection h with h3 h4
      rw [← h3, ← h4]
      refine ⟨rfl, ?_, by simp only at h2 ⊢; omega⟩
      show ((cutB l (st.at_ + (if wide then 2 else 1)) (numS (cutB l st.at_ (if wide then 2 else 1))))).toArray.size ≤ 65536
      rw [List.size_toArray]
      have : (cutB l (st.at_ + (if wide then 2 else 1)) (numS (cutB l st.at_ (if wide then 2 else 1)))).length ≤ numS (cutB l st.at_ (if wide then 2 else 1)) := by unfold cutB; rw [List.length_take]; omega
      simp only at h2
      omega
theorem smallA.snoc {st : Rd} (h : smallA st) {s : ByteArray} {a p : Nat} (hs : s.size ≤ 65536 ∧ a ≤ 65536) : smallA ⟨a, p, st.atoms ++ [s]⟩ := by
  refine ⟨fun x hx => ?_, hs.2⟩
  rcases List.mem_append.1 hx with hx | hx
  · exact h.1 x hx
  · rw [List.mem_singleton] at hx; rw [hx]; exact hs.1
theorem small_nam (l : List UInt8) (tag behind : Nat) : Small (namS l tag behind) := fun st x st2 hs h => by
  unfold namS at h
  cases hx : needS l tag 1 st with
  | bad k => rw [hx] at h; cases h
  | ok y s1 =>
    have h1 := small_need l tag 1 st y s1 hs hx
    rw [hx] at h
    simp only [Res.bind] at h
    split at h
    · cases h
    · cases hy : txtS l tag (l.getD st.at_ 0 == 118) behind s1 with
      | bad k => rw [hy] at h; cases h
      | ok z s2 =>
        obtain ⟨e, h2⟩ := small_txt hy
        rw [hy] at h
        simp only at h
        split at h
        · cases h
        · injection h with _ h
          rw [← h, e]
          exact h1.snoc h2
theorem small_nums (l : List UInt8) (tag : Nat) : ∀ n, Small (numsS l tag n)
  | 0 => fun st x st2 hs h => by unfold numsS at h; injection h with _ h; rw [← h]; exact hs
  | n + 1 => fun st x st2 hs h => by
    unfold numsS at h
    exact (Small.bind (small_four l tag) fun x => Small.bind (small_nums l tag n) fun r => Small.ok fun _ => ((x : Int) :: r)) st _ st2 hs h
theorem small_row {rd : Rd → Res Tm} (hr : Small rd) : ∀ n, Small (rowS rd n)
  | 0 => fun st x st2 hs h => by unfold rowS at h; injection h with _ h; rw [← h]; exact hs
  | n + 1 => fun st x st2 hs h => by
    unfold rowS at h
    exact (Small.bind hr fun x => Small.bind (small_row hr n) fun r => Small.ok fun _ => (x :: r)) st _ st2 hs h
theorem small_count (l : List UInt8) (tag : Nat) (k : UInt8) : Small (countS l tag k) := fun st x st2 hs h => by
  unfold countS at h
  split at h
  · cases hx : needS l tag 1 st with
    | bad k => rw [hx] at h; cases h
    | ok y s1 => rw [hx] at h; injection h with _ h; rw [← h]; exact small_need l tag 1 st y s1 hs hx
  · exact (Small.bind (small_four l tag) fun n => Small.ite (c := fun _ => k = 108 ∧ n = 0) (Small.bad fun _ => [⟨etfL, tag, 84⟩]) (Small.ok fun _ => n)) st _ st2 hs h
theorem small_far (l : List UInt8) (tag : Nat) (k : UInt8) : Small (farS l tag k) := fun st x st2 hs h => by
  unfold farS at h
  split at h
  · unfold pidS at h
    exact (Small.bind (small_nam l tag 12) fun s => Small.bind (small_four l tag) fun a => Small.bind (small_four l tag) fun b => Small.bind (small_four l tag) fun c => Small.ok fun _ => (.mk 4 0 s c [(a : Int), (b : Int)] [] : Tm)) st _ st2 hs h
  · unfold refS at h
    cases hx : needS l tag 2 st with
    | bad k => rw [hx] at h; cases h
    | ok y s1 =>
      rw [hx] at h
      simp only [Res.bind] at h
      split at h
      · cases h
      · exact (Small.bind (small_nam l tag 16) fun s => Small.bind (small_four l tag) fun c => Small.bind (small_nums l tag 3) fun ns => Small.ok fun _ => (.mk 3 0 s c ns [] : Tm)) s1 _ st2 (small_need l tag 2 st y s1 hs hx) h
theorem small_body (l : List UInt8) {rd : Rd → Res Tm} (hr : Small rd) (tag : Nat) (k : UInt8) : Small (bodyS l rd tag k) := fun st x st2 hs h => by
  unfold bodyS at h
  split at h
  · cases hx : needS l tag 1 st with
    | bad k => rw [hx] at h; cases h
    | ok y s1 => rw [hx] at h; injection h with _ h; rw [← h]; exact small_need l tag 1 st y s1 hs hx
  · split at h
    · exact (Small.bind (small_four l tag) fun n => Small.ok fun _ => (.mk 1 (sInt n) ⟨#[]⟩ 0 [] [] : Tm)) st _ st2 hs h
    · split at h
      · cases hy : txtS l tag (k == 118) 0 st with
        | bad k => rw [hy] at h; cases h
        | ok z s2 =>
          obtain ⟨e, h2⟩ := small_txt hy
          rw [hy] at h
          simp only [Res.bind] at h
          split at h
          · cases h
          · injection h with _ h
            rw [← h, e]
            exact hs.snoc h2
      · split at h
        · exact (Small.bind (small_count l tag k) fun n => Small.bind (small_row hr n) fun r => Small.ok fun _ => (.mk 5 0 ⟨#[]⟩ 0 [] r : Tm)) st _ st2 hs h
        · split at h
          · injection h with _ h; rw [← h]; exact hs
          · split at h
            · exact (Small.bind (small_count l tag k) fun n => Small.bind (small_row hr n) fun r => Small.bind hr fun t => Small.ok fun _ => joinS r t) st _ st2 hs h
            · exact small_far l tag k st x st2 hs h
theorem small_term (l : List UInt8) : ∀ f, Small (termS l f)
  | 0 => fun st x st2 hs h => by unfold termS at h; split at h <;> cases h
  | f + 1 => fun st x st2 hs h => by
    rw [termS] at h
    split at h
    · cases h
    · split at h
      · cases h
      · split at h
        · cases h
        · exact (Small.bind (small_need l st.at_ 1) fun _ => small_body l (small_term l f) st.at_ (l.getD st.at_ 0)) ⟨st.at_, st.part + 1, st.atoms⟩ x st2 hs h
theorem read_small_at {l : List UInt8} {t : Tm} {st : Rd} (h : readS l = .ok t st) : smallA st := by
  unfold readS at h
  split at h
  · exact small_term l 256 ⟨1, 0, []⟩ t st ⟨fun s hs => (nomatch hs), by decide⟩ h
  · cases h
theorem read_small {l : List UInt8} {t : Tm} {st : Rd} (h : readS l = .ok t st) : ∀ s ∈ st.atoms, s.size ≤ 65536 := (read_small_at h).1
theorem read_at {l : List UInt8} {t : Tm} {st : Rd} (h : readS l = .ok t st) : st.at_ ≤ 65536 := (read_small_at h).2
theorem freshS_mem {tl atoms : List ByteArray} {s : ByteArray} (h : s ∈ freshS tl atoms) : s ∈ atoms := by
  have key : ∀ (a acc : List ByteArray), s ∈ a.foldl (stepF tl) acc → s ∈ acc ∨ s ∈ a := by
    intro a
    induction a with
    | nil => intro acc h; exact .inl h
    | cons x r ih =>
      intro acc h
      rw [List.foldl_cons] at h
      rcases ih _ h with h | h
      · unfold stepF addB at h
        split at h
        · exact .inl h
        · split at h
          · exact .inl h
          · rcases List.mem_append.1 h with h | h
            · exact .inl h
            · rw [List.mem_singleton] at h; rw [h]; exact .inr (List.mem_cons_self ..)
      · exact .inr (List.mem_cons_of_mem _ h)
  rcases key atoms [] h with h | h
  · cases h
  · exact h
/-- what decode hands on is small -/
theorem decP_small (l : List UInt8) (tb : Option (Int × List ByteArray)) : ∀ s ∈ (decP (readS l) tb).2, s.size ≤ 140737488351232 := by
  intro s hs
  cases hr : readS l with
  | bad k => rw [hr] at hs; cases hs
  | ok t st =>
    rw [hr] at hs
    unfold decP at hs
    cases tb with
    | none => cases hs
    | some p =>
      obtain ⟨limit, tl⟩ := p
      simp only at hs
      split at hs
      · cases hs
      · have := read_small hr s (freshS_mem hs)
        omega
end Go.Proofs.YtlahagabcnmdiaaGreatDoor
end
section
/- Package etf: room and put, where there is a table. -/
open Go Go.RowKit
namespace Go.Proofs.YtlahagabcnmdiaaGreatDoor
set_option linter.unusedVariables false
set_option linter.unusedSimpArgs false

theorem TabIs.below {limit : Int} {g : Nat} {l : List ByteArray} {F : Nat → Prop} {w w' : World} (h : TabIs limit g l F w) (hb : Below w.heap.size w w') : TabIs limit g l F w' := h.keep (S := fun _ => False) (keepB hb) (fun _ h => h.elim)
theorem stepF_there {tl acc : List ByteArray} {s : ByteArray} (h : (idxM tl s.data.toList).isSome = true) : stepF tl acc s = acc := by
  unfold stepF; rw [if_pos h]
theorem stepF_new {tl acc : List ByteArray} {s : ByteArray} (h : (idxM tl s.data.toList).isSome = false) : stepF tl acc s = addB acc s := by
  unfold stepF; rw [if_neg (by rw [h]; decide)]
/-- room's answer -/
def RoomR (w : World) (full : Bool) (e : Ending) (w' : World) : Prop :=
  (match full with
  | true => ∃ b, e = .returned (.iface 96 (.pointer (some ⟨b, 0, none⟩))) ∧ ErrIs w' (.iface 96 (.pointer (some ⟨b, 0, none⟩))) [⟨etfL, 0, 85⟩]
  | false => e = .returned .nilIface) ∧ Below w.heap.size w w'
def fullS (limit : Int) (tl atoms : List ByteArray) : Bool := decide (limit - tl.length < ((freshS tl atoms).length : Int))
set_option maxHeartbeats 16000000 in
set_option maxRecDepth 100000 in
theorem room_any {limit : Int} {g : Nat} {tl atoms : List ByteArray} {F : Nat → Prop} {w : World} {av : Value} (h : TabIs limit g tl F w) (ha : StrsIs av atoms w) (hal : atoms.length ≤ 5000) (hsm : ∀ s ∈ atoms, s.size ≤ 65536) :
    Calls Tryz.prog 65 #[av, .pointer (some ⟨g, 0, none⟩)] w (RoomR w (fullS limit tl atoms)) := by
  have HTB := Lib.hid h
  have HA := Lib.hid ha
  have HSM := Lib.hid hsm
  have hla := run_strs_len ha
  have hal1 : (atoms.length : Int) ≤ 5000 := by omega
  have S0 := Lib.hid (SetS.made w)
  have B0 := Lib.hid ((Below.refl w.heap.size w).alloc (Nat.le_refl _) (.map #[] 0))
  clear h ha hsm
  have hmm := @run_makeMap Tryz.prog
  go_enter Tryz.func65, Tryz.ntmps65
  go_upto_region 4 with (fail)
  generalize w.alloc (.map #[] 0) = w1 at *
  obtain ⟨aa, ac, rfl, -⟩ := HA.out.get
  go_wp2_with fail
  go_loopw [7, 8, 9, 15] (fun _ _ _ i wr => ∃ k : Nat, k ≤ atoms.length ∧ i = .int .i64 k ∧ SetS w.heap.size (freshS tl (atoms.take k)) wr ∧ Below w.heap.size w wr) (fun _ _ _ i _ => atoms.length - (intOf i).toNat)
  case atStart => exact ⟨0, Nat.zero_le _, rfl, S0.out, B0.out⟩
  case round =>
    obtain ⟨k, hk, rfl, hs, hbr⟩ := hrel
    have HS := Lib.hid hs
    have HBR := Lib.hid hbr
    clear hs hbr
    by_cases hlt : k < atoms.length
    · have hki : (k : Int) < (atoms.length : Int) := by omega
      have hk0 : (0 : Int) ≤ (k : Int) := by omega
      have HFL := Lib.hid (Nat.le_trans (freshS_len tl (atoms.take k)) (show (atoms.take k).length ≤ k by rw [List.length_take]; omega))
      have HNX := Lib.hid (freshS_take tl atoms k hlt)
      have HSS := Lib.hid (HSM.out _ (List.getElem_mem hlt))
      have HF := Lib.hid (find_live (HTB.out.below HBR.out) atoms[k] (by have := HSS.out; unfold maxLen; omega))
      generalize freshS tl (atoms.take k) = out at *
      obtain ⟨a', c', e', hget⟩ := (HA.out.below HBR.out).get
      cases e'
      obtain ⟨ag, rfl, hx⟩ := hget k hlt
      generalize hsv : atoms[k] = s at *
      clear hget hsv
      cases hi : (idxM tl s.data.toList).isSome with
      | true =>
        rw [hi] at HF
        have HN2 := Lib.hid (HNX.out.trans (stepF_there hi))
        go_wp2_with (go_at_call 107; refine HF.out.mono ?_; rintro e w' ⟨rfl, rfl⟩)
        go_roundw
        case rel => exact ⟨k + 1, by omega, by go_num, by rw [HN2.out]; exact HS.out, HBR.out⟩
        case measure => simp [intOf]; omega
      | false =>
        rw [hi] at HF
        have HN2 := Lib.hid (HNX.out.trans (stepF_new hi))
        go_wp2_with (first | (go_at_call 107; refine HF.out.mono ?_; rintro e w' ⟨rfl, rfl⟩) | (refine wpList_setS_set rfl (.tmp 27) (.tmp 28) (.const (.bool true)) rfl w.heap.size out rfl HS.out (by have := HFL.out; omega) s (by have := HSS.out; unfold maxLen; omega) rfl rfl ?_; intro w5 hs5 hg5; refine stop ?_))
        refine Stopped.of ?_
        have S5 := Lib.hid hs5
        have B5 := Lib.hid (HBR.out.grown hg5 (by have := HBR.out.size; omega) (fun q hq => by cases hq; exact Nat.le_refl _))
        clear hs5 hg5 hx
        go_wp2
        go_roundw
        case rel => exact ⟨k + 1, by omega, by go_num, by rw [HN2.out]; exact S5.out, B5.out⟩
        case measure => simp [intOf]; omega
    · have hki : ¬ (k : Int) < (atoms.length : Int) := by omega
      rw [List.take_of_length_le (by omega)] at HS
      have HLN := Lib.hid (HS.out.len)
      have HFR := Lib.hid (free_live (HTB.out.below HBR.out))
      have HFA := Lib.hid (fun W => etFault_any 0 85 .nilIface [] W rfl)
      have hmap := HLN.out 3
      go_wp2_with fail
      refine HFR.out.mono ?_
      rintro e w6 ⟨rfl, n, rfl⟩
      have B6 := Lib.hid (below_drewN HBR.out n)
      by_cases hfu : limit - tl.length < ((freshS tl atoms).length : Int)
      · have HX := Lib.hid (show fullS limit tl atoms = true from decide_eq_true hfu)
        generalize hgf : (freshS tl atoms).length = fn at *
        clear hgf
        go_wp2_with fail
        refine (HFA.out _).mono ?_
        rintro e w7 ⟨b, rfl, her, hb⟩
        go_wp2
        go_ret
        rw [HX.out]
        exact ⟨⟨b, rfl, her⟩, B6.out.trans (hb.mono B6.out.size)⟩
      · have HX := Lib.hid (show fullS limit tl atoms = false from decide_eq_false hfu)
        generalize hgf : (freshS tl atoms).length = fn at *
        clear hgf
        go_wp2
        go_ret
        rw [HX.out]
        exact ⟨rfl, B6.out⟩
/-- what a table becomes -/
def PutP (limit : Int) (g : Nat) (l : List ByteArray) (F : Nat → Prop) (w w' : World) : Prop := ∃ F', TabIs limit g l F' w' ∧ Keep F w w' ∧ ∀ b, F' b → F b ∨ w.heap.size ≤ b
/-- put's answer -/
def PutA (limit : Int) (g : Nat) (tl atoms : List ByteArray) (F : Nat → Prop) (w : World) (e : Ending) (w' : World) : Prop :=
  match fullS limit tl atoms with
  | true => (∃ b, e = .returned (.iface 96 (.pointer (some ⟨b, 0, none⟩))) ∧ ErrIs w' (.iface 96 (.pointer (some ⟨b, 0, none⟩))) [⟨etfL, 0, 85⟩]) ∧ Below w.heap.size w w'
  | false => e = .returned .nilIface ∧ PutP limit g (putAll limit tl atoms) F w w'
set_option maxHeartbeats 16000000 in
set_option maxRecDepth 100000 in
theorem put_any {limit : Int} {g : Nat} {tl atoms : List ByteArray} {F : Nat → Prop} {w0 w : World} {av : Value} (h : TabIs limit g tl F w) (ha : StrsIs av atoms w) (hav : ∀ q, av.ownBlock = some q → ¬ F q) (hal : atoms.length ≤ 5000) (hsm : ∀ s ∈ atoms, s.size ≤ 65536)
    (hw : Below w0.heap.size w0 w) (hF : ∀ b, F b → w0.heap.size ≤ b) (hT : Lib.Utf8Tabs 1 2 w0) (hE : ErrT w0) :
    Calls Tryz.prog 57 #[av, .pointer (some ⟨g, 0, none⟩)] w (PutA limit g tl atoms F w) := by
  have HRO := Lib.hid (room_any h ha hal hsm)
  have HTB := Lib.hid h
  have HA := Lib.hid ha
  have HAV := Lib.hid hav
  have HSM := Lib.hid hsm
  have HW := Lib.hid hw
  have HFB := Lib.hid hF
  have HT := Lib.hid (fun w1 (h : Below w0.heap.size w0 w1) => Utf8Tabs_below hT h)
  have HE := Lib.hid (fun w1 (h : Below w0.heap.size w0 w1) => hE.below h)
  have hla := run_strs_len ha
  have hal1 : (atoms.length : Int) ≤ 5000 := by omega
  obtain ⟨aa, ac, rfl, -⟩ := ha.get
  clear h ha hsm hav hw hF hT hE
  go_enter Tryz.func57, Tryz.ntmps57
  go_wp2_with fail
  refine HRO.out.mono ?_
  intro e w1 hr
  cases hf : fullS limit tl atoms with
  | true =>
    rw [hf] at hr
    have HX := Lib.hid hf
    obtain ⟨⟨b, rfl, her⟩, hb⟩ := hr
    clear hf
    go_wp2
    go_ret
    unfold PutA
    rw [HX.out]
    exact ⟨⟨b, rfl, her⟩, hb⟩
  | false =>
    rw [hf] at hr
    have HX := Lib.hid hf
    obtain ⟨rfl, hb⟩ := hr
    have T1 := Lib.hid (HTB.out.below hb)
    have K1 := Lib.hid (keepB (S := F) hb)
    clear hf hb
    go_wp2_with fail
    go_loopw [7, 20] (fun _ i wr => ∃ (k : Nat) (F' : Nat → Prop), k ≤ atoms.length ∧ i = .int .i64 k ∧ TabIs limit g (putAll limit tl (atoms.take k)) F' wr ∧ Keep F w wr ∧ ∀ b, F' b → F b ∨ w.heap.size ≤ b) (fun _ i _ => atoms.length - (intOf i).toNat)
    case atStart => exact ⟨0, F, Nat.zero_le _, rfl, T1.out, K1.out, fun b h => .inl h⟩
    case round =>
      obtain ⟨k, F', hk, rfl, htb, hkp, hf'⟩ := hrel
      have HTK := Lib.hid htb
      have HK := Lib.hid hkp
      have HF' := Lib.hid hf'
      clear htb hkp hf'
      by_cases hlt : k < atoms.length
      · have hki : (k : Int) < (atoms.length : Int) := by omega
        have hk0 : (0 : Int) ≤ (k : Int) := by omega
        have HNX := Lib.hid (show putAll limit tl (atoms.take (k + 1)) = (putS limit (putAll limit tl (atoms.take k)) atoms[k]).2.2 from by rw [List.take_succ_eq_append_getElem hlt, putAll_snoc])
        obtain ⟨a', c', e', hget⟩ := (HA.out.keep HK.out (fun q hq => HAV.out q hq)).get
        cases e'
        obtain ⟨ag, rfl, hx⟩ := hget k hlt
        have hbw : Below w0.heap.size w0 wr := below_keep HW.out HK.out HW.out.size HFB.out
        have HP := Lib.hid (put_live HTK.out atoms[k] (by have := HSM.out _ (List.getElem_mem hlt); omega) (HT.out _ hbw) (HE.out _ hbw))
        generalize atoms[k] = s at *
        clear hget hbw
        go_wp2_with fail
        refine HP.out.mono ?_
        rintro e w9 ⟨ev9, F9, rfl, -, h9, k9, f9⟩
        have H9 := Lib.hid h9
        have K9 := Lib.hid k9
        have F9' := Lib.hid f9
        clear hx h9 k9 f9
        go_wp2
        go_roundw
        case rel => exact ⟨k + 1, F9, by omega, by go_num, by rw [HNX.out]; exact H9.out, HK.out.trans K9.out (fun q hq e => (HF'.out q e).elim id (fun h => absurd hq (by omega))), fun b hb => by
          rcases F9'.out b hb with h | h
          · exact HF'.out b h
          · exact .inr (Nat.le_trans HK.out.size h)⟩
        case measure => simp [intOf]; omega
      · have hki : ¬ (k : Int) < (atoms.length : Int) := by omega
        rw [List.take_of_length_le (by omega)] at HTK
        go_wp2
        go_ret
        unfold PutA
        rw [HX.out]
        exact ⟨rfl, F', HTK.out, HK.out, HF'.out⟩
end Go.Proofs.YtlahagabcnmdiaaGreatDoor
end
section
/- The reference of layer 4: Decode and Whole. Printed by wip/rfn.py. -/
open Go Go.RowKit
namespace Go.Proofs.YtlahagabcnmdiaaGreatDoor
set_option linter.unusedVariables false
set_option linter.unusedSimpArgs false

/-- what a table becomes -/
def PutT (limit : Int) (gt : Nat) (l : List ByteArray) (F : Nat → Prop) (w w' : World) : Prop := ∃ F', RTabIs limit gt l F' w' ∧ Keep F w w' ∧ ∀ b, F' b → F b ∨ w.heap.size ≤ b
def DocR (w : World) (r : Res Tm) (e : Ending) (w' : World) : Prop :=
  match r with
  | .ok t st => ∃ vs, e = .returned (.tuple #[.agg vs.toArray, .int .i64 st.at_, .slice none 0 0]) ∧ TmAt (fun q => w.heap.size ≤ q) t vs w'
  | .bad k => ∃ lv, e = .returned (.tuple #[.agg termZ.toArray, .int .i64 0, lv]) ∧ LinksIs w.heap.size lv k w' ∧ k ≠ []
def WhoR (w : World) (r : Res Tm) (e : Ending) (w' : World) : Prop :=
  match r with
  | .ok t st => ∃ vs, e = .returned (.tuple #[.agg vs.toArray, .slice none 0 0]) ∧ TmAt (fun q => w.heap.size ≤ q) t vs w'
  | .bad k => ∃ lv, e = .returned (.tuple #[.agg termZ.toArray, lv]) ∧ LinksIs w.heap.size lv k w' ∧ k ≠ []
/-- what Whole comes to -/
def whoP (n : Nat) (r : Res Tm × List ByteArray) : Res Tm × List ByteArray :=
  match r.1 with
  | .ok t st => if st.at_ < n then (.bad [⟨etfL, st.at_, 86⟩], []) else r
  | .bad k => (.bad k, [])
theorem TmAt.nums5 {S : Nat → Prop} {t : Tm} {vs : List Value} {w : World} (h : TmAt S t vs w) : ∃ na nc a cap, vs = [.int .i64 t.kind, .int .i64 t.int, .string t.text, .int .u32 t.cr, .slice na t.nums.length nc, .slice a t.args.length cap] := by
  obtain ⟨_, nv, a, cap, rfl, hnn, -⟩ := h.parts
  obtain ⟨na, nc, rfl, -, -⟩ := hnn.slice
  exact ⟨na, nc, a, cap, rfl⟩
set_option maxHeartbeats 8000000 in
set_option maxRecDepth 100000 in
theorem docR_nil (l : List UInt8) (v : Value) (w : World) (hv : RSl v l w) :
    Calls Tryz.prog 20 #[v, .pointer none] w fun e w' => DocR w (readS l) e w' ∧ Below w.heap.size w w' := by
  obtain ⟨va, vc, rfl⟩ : ∃ a c, v = .slice a l.length c := by obtain ⟨a, c, e, _⟩ := hv; exact ⟨a, c, e⟩
  have BX := Lib.hid ((Below.refl w.heap.size w).alloc (Nat.le_refl _) (.cells #[.int .i64 0, .int .i64 0, .string ⟨#[]⟩, .int .u32 0, .slice none 0 0, .slice none 0 0] 35 (0, 0)))
  have R1 := Lib.hid (show Cells (w.alloc (.cells #[.int .i64 0, .int .i64 0, .string ⟨#[]⟩, .int .u32 0, .slice none 0 0, .slice none 0 0] 35 (0, 0))) w.heap.size 35 termZ from Cells.new w 35 termZ)
  have SZ1 := Lib.hid (show (w.alloc (.cells #[.int .i64 0, .int .i64 0, .string ⟨#[]⟩, .int .u32 0, .slice none 0 0, .slice none 0 0] 35 (0, 0))).heap.size = w.heap.size + 1 from by simp)
  have HD := Lib.hid (decR_any l (.slice va l.length vc) _ (hv.below BX.out))
  have HDE := Lib.hid (show decP (readS l) none = (readS l, []) from by cases readS l <;> rfl)
  rw [HDE.out] at HD
  generalize readS l = r at *
  clear hv HDE
  go_enter Tryz.func20, Tryz.ntmps20
  go_upto_region 1 with (fail)
  generalize w.alloc (.cells #[.int .i64 0, .int .i64 0, .string ⟨#[]⟩, .int .u32 0, .slice none 0 0, .slice none 0 0] 35 (0, 0)) = w1 at *
  unfold termZ at *
  go_wp2_with fail
  refine HD.out.mono ?_
  intro e w2 hr
  have HRR := Lib.hid hr
  clear hr
  cases r with
  | ok t st =>
    obtain ⟨vs, fv, rfl, ht, hfs, hfo, hb⟩ := HRR.out
    replace hfs : StrsIs fv ([] : List ByteArray) w2 := hfs
    obtain ⟨na5, nc5, a5, cap5, rfl⟩ := ht.nums5
    have R2 := Lib.hid (R1.out.below hb)
    have B2 := Lib.hid (BX.out.trans (hb.mono BX.out.size))
    have BT := Lib.hid ((Below.refl w2.heap.size w2).alloc (Nat.le_refl _) (.cells #[.int .i64 t.kind, .int .i64 t.int, .string t.text, .int .u32 t.cr, .slice na5 t.nums.length nc5, .slice a5 t.args.length cap5] 35 (0, 0)))
    have T3 := Lib.hid (Cells.new w2 35 [.int .i64 t.kind, .int .i64 t.int, .string t.text, .int .u32 t.cr, .slice na5 t.nums.length nc5, .slice a5 t.args.length cap5])
    have R3 := Lib.hid (R2.out.below BT.out)
    have B3 := Lib.hid (B2.out.trans (BT.out.mono B2.out.size))
    have LW := Lib.hid B2.out.size
    have HT3 := Lib.hid (ht.below BT.out)
    have hlf := run_strs_len hfs
    obtain ⟨fa, fc, rfl⟩ : ∃ a c, fv = .slice a ([] : List ByteArray).length c := by
      obtain ⟨a, c, e, _⟩ := hfs.get
      exact ⟨a, c, e⟩
    clear ht hfs hfo hb HD HRR
    go_upto_region 2 with (fail)
    generalize w2.alloc (.cells #[.int .i64 t.kind, .int .i64 t.int, .string t.text, .int .u32 t.cr, .slice na5 t.nums.length nc5, .slice a5 t.args.length cap5] 35) = w3 at *
    clear BT B2 BX R1 R2
    go_wp2_with fail
    go_loopw [11] (fun i wr => i = .int .i64 0 ∧ w3 = wr) (fun _ _ => 0)
    case atStart => exact ⟨rfl, rfl⟩
    case round =>
      obtain ⟨rfl, rfl⟩ := hrel
      have hki : ¬ (0 : Int) < ((0 : Nat) : Int) := by omega
      have m0 := T3.out.cell 0
      have m1 := T3.out.cell 1
      have m2 := T3.out.cell 2
      have m3 := T3.out.cell 3
      have m4 := T3.out.cell 4
      have m5 := T3.out.cell 5
      simp only [List.getElem?_cons_zero, List.getElem?_cons_succ] at m0 m1 m2 m3 m4 m5
      go_wp2_with (refine wpList_store_blk rfl _ (.tmp 4) (.tmp 32) rfl w.heap.size 0 [.int .i64 t.kind, .int .i64 t.int, .string t.text, .int .u32 t.cr, .slice na5 t.nums.length nc5, .slice a5 t.args.length cap5] (by rfl) (by rfl) (by kernel_rfl) (by simp [Value.oneCell']) 35 _ R3.out (by show 0 + 6 ≤ 6; decide) ?_; intro wz hCz hgz; refine stop ?_)
      refine Stopped.of ?_
      clear m0 m1 m2 m3 m4 m5
      have C0 : Cells wz w.heap.size 35 [.int .i64 t.kind, .int .i64 t.int, .string t.text, .int .u32 t.cr, .slice na5 t.nums.length nc5, .slice a5 t.args.length cap5] := hCz
      have z0 := C0.cell 0
      have z1 := C0.cell 1
      have z2 := C0.cell 2
      have z3 := C0.cell 3
      have z4 := C0.cell 4
      have z5 := C0.cell 5
      simp only [List.getElem?_cons_zero, List.getElem?_cons_succ] at z0 z1 z2 z3 z4 z5
      have KZ := Lib.hid (show Keep (fun q => q = w.heap.size) w3 wz from (Keep.refl _ _).grown hgz (fun k hk _ => by cases hk; rfl))
      clear C0 hCz hgz
      go_wp2
      refine bodyPost_ret (v := .tuple #[.agg #[.int .i64 t.kind, .int .i64 t.int, .string t.text, .int .u32 t.cr, .slice na5 t.nums.length nc5, .slice a5 t.args.length cap5], .int .i64 st.at_, .slice none 0 0]) (by simp [results, Tryz.results20, go_sem, z0, z1, z2, z3, z4, z5]) rfl ?_
      refine ⟨⟨_, rfl, (HT3.out.keep KZ.out (fun q _ hq (e : q = w.heap.size) => by have := hq.1; have := SZ1.out; omega)).mono (fun q _ hq => by have := hq.1; have := SZ1.out; omega)⟩, B3.out.trans (KZ.out.toBelow B3.out.size (fun q (hq : q = w.heap.size) => by omega))⟩
  | bad k =>
    obtain ⟨lv, rfl, hl, hne, hb⟩ := HRR.out
    have R2 := Lib.hid (R1.out.below hb)
    have B2 := Lib.hid (BX.out.trans (hb.mono BX.out.size))
    have BT := Lib.hid ((Below.refl w2.heap.size w2).alloc (Nat.le_refl _) (.cells #[.int .i64 0, .int .i64 0, .string ⟨#[]⟩, .int .u32 0, .slice none 0 0, .slice none 0 0] 35 (0, 0)))
    have T3 := Lib.hid (Cells.new w2 35 [.int .i64 0, .int .i64 0, .string ⟨#[]⟩, .int .u32 0, .slice none 0 0, .slice none 0 0])
    have R3 := Lib.hid (R2.out.below BT.out)
    have B3 := Lib.hid (B2.out.trans (BT.out.mono B2.out.size))
    have LW := Lib.hid B2.out.size
    have HL3 := Lib.hid (hl.below BT.out (Nat.le_refl _))
    have HNE := Lib.hid hne
    clear hl hne hb HD HRR
    unfold termZ at *
    go_upto_region 2 with (fail)
    generalize w2.alloc (.cells #[.int .i64 0, .int .i64 0, .string ⟨#[]⟩, .int .u32 0, .slice none 0 0, .slice none 0 0] 35) = w3 at *
    clear BT B2 BX R1 R2
    go_wp2_with fail
    go_loopw [11] (fun i wr => i = .int .i64 0 ∧ w3 = wr) (fun _ _ => 0)
    case atStart => exact ⟨rfl, rfl⟩
    case round =>
      obtain ⟨rfl, rfl⟩ := hrel
      have hki : ¬ (0 : Int) < ((0 : Nat) : Int) := by omega
      have m0 := T3.out.cell 0
      have m1 := T3.out.cell 1
      have m2 := T3.out.cell 2
      have m3 := T3.out.cell 3
      have m4 := T3.out.cell 4
      have m5 := T3.out.cell 5
      simp only [List.getElem?_cons_zero, List.getElem?_cons_succ] at m0 m1 m2 m3 m4 m5
      go_wp2_with (refine wpList_store_blk rfl _ (.tmp 4) (.tmp 32) rfl w.heap.size 0 [.int .i64 0, .int .i64 0, .string ⟨#[]⟩, .int .u32 0, .slice none 0 0, .slice none 0 0] (by rfl) (by rfl) (by kernel_rfl) (by simp [Value.oneCell']) 35 _ R3.out (by show 0 + 6 ≤ 6; decide) ?_; intro wz hCz hgz; refine stop ?_)
      refine Stopped.of ?_
      clear m0 m1 m2 m3 m4 m5
      have C0 : Cells wz w.heap.size 35 [.int .i64 0, .int .i64 0, .string ⟨#[]⟩, .int .u32 0, .slice none 0 0, .slice none 0 0] := hCz
      have z0 := C0.cell 0
      have z1 := C0.cell 1
      have z2 := C0.cell 2
      have z3 := C0.cell 3
      have z4 := C0.cell 4
      have z5 := C0.cell 5
      simp only [List.getElem?_cons_zero, List.getElem?_cons_succ] at z0 z1 z2 z3 z4 z5
      have KZ := Lib.hid (show Keep (fun q => q = w.heap.size) w3 wz from (Keep.refl _ _).grown hgz (fun k hk _ => by cases hk; rfl))
      clear C0 hCz hgz
      go_wp2
      refine bodyPost_ret (v := .tuple #[.agg #[.int .i64 0, .int .i64 0, .string ⟨#[]⟩, .int .u32 0, .slice none 0 0, .slice none 0 0], .int .i64 0, lv]) (by simp [results, Tryz.results20, go_sem, z0, z1, z2, z3, z4, z5]) rfl ?_
      refine ⟨⟨lv, rfl, (HL3.out.frame (fun q hq => KZ.out.block q (HL3.out.block hq).2 (fun e => by have := (HL3.out.block hq).1; have := SZ1.out; omega))).base (show w.heap.size ≤ w1.heap.size by have := SZ1.out; omega), HNE.out⟩, B3.out.trans (KZ.out.toBelow B3.out.size (fun q (hq : q = w.heap.size) => by omega))⟩
set_option maxHeartbeats 8000000 in
set_option maxRecDepth 100000 in
theorem docR_tab {limit : Int} {gt : Nat} {tl : List ByteArray} {F : Nat → Prop} (l : List UInt8) (v : Value) (w : World) (hv : RSl v l w) (htb : RTabIs limit gt tl F w) :
    Calls Tryz.prog 20 #[v, .pointer (some ⟨gt, 0, none⟩)] w fun e w' => DocR w (decP (readS l) (some (limit, tl))).1 e w' ∧ PutT limit gt (putAll limit tl (decP (readS l) (some (limit, tl))).2) F w w' := by
  obtain ⟨va, vc, rfl⟩ : ∃ a c, v = .slice a l.length c := by obtain ⟨a, c, e, _⟩ := hv; exact ⟨a, c, e⟩
  have BX := Lib.hid ((Below.refl w.heap.size w).alloc (Nat.le_refl _) (.cells #[.int .i64 0, .int .i64 0, .string ⟨#[]⟩, .int .u32 0, .slice none 0 0, .slice none 0 0] 35 (0, 0)))
  have R1 := Lib.hid (show Cells (w.alloc (.cells #[.int .i64 0, .int .i64 0, .string ⟨#[]⟩, .int .u32 0, .slice none 0 0, .slice none 0 0] 35 (0, 0))) w.heap.size 35 termZ from Cells.new w 35 termZ)
  have SZ1 := Lib.hid (show (w.alloc (.cells #[.int .i64 0, .int .i64 0, .string ⟨#[]⟩, .int .u32 0, .slice none 0 0, .slice none 0 0] 35 (0, 0))).heap.size = w.heap.size + 1 from by simp)
  have HD := Lib.hid (decR_with l (.slice va l.length vc) _ (hv.below BX.out) (htb.below BX.out))
  have HSM := Lib.hid (decP_small l (some (limit, tl)))
  have HTB0 := Lib.hid htb
  have HFL := Lib.hid (show ∀ b, F b → b < w.heap.size from fun b h => (htb.nf b h).1)
  have HBD := Lib.hid (show ∀ k, (decP (readS l) (some (limit, tl))).1 = .bad k → (decP (readS l) (some (limit, tl))).2 = [] from fun k h => by
    cases hr : readS l with
    | bad _ => rfl
    | ok t st =>
      rw [hr] at h
      unfold decP at h ⊢
      simp only at h ⊢
      split at h
      · rename_i hc; rw [if_pos hc]
      · cases h)
  generalize decP (readS l) (some (limit, tl)) = res at *
  clear hv htb
  go_enter Tryz.func20, Tryz.ntmps20
  go_upto_region 1 with (fail)
  generalize w.alloc (.cells #[.int .i64 0, .int .i64 0, .string ⟨#[]⟩, .int .u32 0, .slice none 0 0, .slice none 0 0] 35 (0, 0)) = w1 at *
  unfold termZ at *
  go_wp2_with fail
  refine HD.out.mono ?_
  intro e w2 hr
  have HRR := Lib.hid hr
  clear hr
  obtain ⟨r, fl⟩ := res
  cases r with
  | ok t st =>
    obtain ⟨vs, fv, rfl, ht, hfs, hfo, hb⟩ := HRR.out
    replace hfs : StrsIs fv fl w2 := hfs
    obtain ⟨na5, nc5, a5, cap5, rfl⟩ := ht.nums5
    have R2 := Lib.hid (R1.out.below hb)
    have B2 := Lib.hid (BX.out.trans (hb.mono BX.out.size))
    have BT := Lib.hid ((Below.refl w2.heap.size w2).alloc (Nat.le_refl _) (.cells #[.int .i64 t.kind, .int .i64 t.int, .string t.text, .int .u32 t.cr, .slice na5 t.nums.length nc5, .slice a5 t.args.length cap5] 35 (0, 0)))
    have T3 := Lib.hid (Cells.new w2 35 [.int .i64 t.kind, .int .i64 t.int, .string t.text, .int .u32 t.cr, .slice na5 t.nums.length nc5, .slice a5 t.args.length cap5])
    have R3 := Lib.hid (R2.out.below BT.out)
    have B3 := Lib.hid (B2.out.trans (BT.out.mono B2.out.size))
    have LW := Lib.hid B2.out.size
    have HT3 := Lib.hid (ht.below BT.out)
    have hlf := run_strs_len hfs
    obtain ⟨fa, fc, rfl⟩ : ∃ a c, fv = .slice a fl.length c := by
      obtain ⟨a, c, e, _⟩ := hfs.get
      exact ⟨a, c, e⟩
    have HTB3 := Lib.hid (HTB0.out.below B3.out)
    have hfl9 : (fl.length : Int) ≤ 9223372036854775807 := by
      rcases hfs.shape with ⟨_, e⟩ | ⟨_, c, e, _, h1, h2⟩
      · rw [e]; decide
      · unfold maxLen at h2; omega
    have HFG := Lib.hid (show ∀ wr, Keep F (w2.alloc (.cells #[.int .i64 t.kind, .int .i64 t.int, .string t.text, .int .u32 t.cr, .slice na5 t.nums.length nc5, .slice a5 t.args.length cap5] 35 (0, 0))) wr → ∀ k (hk : k < fl.length), ∃ g, fa = some ⟨g, 0, none⟩ ∧ wr.cell? ⟨g, k, none⟩ = some (.string fl[k]) from fun wr hK => by
      obtain ⟨a', c', e, h⟩ := ((hfs.below BT.out).keep hK (fun q hq e => by have := HFL.out q e; have := hfo q hq; have := SZ1.out; omega)).get
      injection e with e1 _ e3
      subst e1
      exact h)
    clear ht hfs hfo hb HD HRR
    go_upto_region 2 with (fail)
    generalize w2.alloc (.cells #[.int .i64 t.kind, .int .i64 t.int, .string t.text, .int .u32 t.cr, .slice na5 t.nums.length nc5, .slice a5 t.args.length cap5] 35) = w3 at *
    clear BT B2 BX R1 R2
    go_wp2_with fail
    go_loopw [11] (fun i wr => ∃ (k : Nat) (F' : Nat → Prop), k ≤ fl.length ∧ i = .int .i64 k ∧ RTabIs limit gt (putAll limit tl (fl.take k)) F' wr ∧ Keep F w3 wr ∧ ∀ b, F' b → F b ∨ w3.heap.size ≤ b) (fun i _ => fl.length - (intOf i).toNat)
    case atStart => exact ⟨0, F, Nat.zero_le _, rfl, HTB3.out, Keep.refl _ _, fun b h => .inl h⟩
    case round =>
      obtain ⟨k, F', hk, rfl, htb, hkp, hf'⟩ := hrel
      have HTB := Lib.hid htb
      have HK := Lib.hid hkp
      have HF' := Lib.hid hf'
      clear htb hkp hf'
      by_cases hlt : k < fl.length
      · have hki : (k : Int) < (fl.length : Int) := by omega
        have hk0 : (0 : Int) ≤ (k : Int) := by omega
        have HNX := Lib.hid (show putAll limit tl (fl.take (k + 1)) = (putS limit (putAll limit tl (fl.take k)) fl[k]).2.2 from by rw [List.take_succ_eq_append_getElem hlt, putAll_snoc])
        obtain ⟨fg, rfl, hx⟩ := HFG.out _ HK.out k hlt
        have HP := Lib.hid (putR_live HTB.out fl[k] (HSM.out _ (List.getElem_mem hlt)))
        generalize fl[k] = s at *
        go_wp2_with fail
        refine HP.out.mono ?_
        rintro e w9 ⟨lv9, F9, rfl, -, h9, k9, f9⟩
        have H9 := Lib.hid h9
        have K9 := Lib.hid k9
        have F9' := Lib.hid f9
        clear hx h9 k9 f9
        go_wp2
        go_roundw
        case rel => exact ⟨k + 1, F9, by omega, by go_num, by rw [HNX.out]; exact H9.out, HK.out.trans K9.out (fun q hq e => (HF'.out q e).elim id (fun h => absurd hq (by omega))), fun b hb => by
          rcases F9'.out b hb with h | h
          · exact HF'.out b h
          · exact .inr (Nat.le_trans HK.out.size h)⟩
        case measure => simp [intOf]; omega
      · have hki : ¬ (k : Int) < (fl.length : Int) := by omega
        rw [List.take_of_length_le (by omega)] at HTB
        have R9 := Lib.hid (R3.out.keep HK.out (fun e => by have := HFL.out _ e; omega))
        have T9 := Lib.hid (T3.out.keep HK.out (fun e => by have := HFL.out _ e; have := LW.out; omega))
        have HT9 := Lib.hid (HT3.out.keep HK.out (fun q _ hq e => by have := HFL.out _ e; have := hq.1; have := SZ1.out; omega))
        obtain ⟨w9, rfl⟩ : ∃ w9 : World, w9 = wr := ⟨_, rfl⟩
        have m0 := T9.out.cell 0
        have m1 := T9.out.cell 1
        have m2 := T9.out.cell 2
        have m3 := T9.out.cell 3
        have m4 := T9.out.cell 4
        have m5 := T9.out.cell 5
        simp only [List.getElem?_cons_zero, List.getElem?_cons_succ] at m0 m1 m2 m3 m4 m5
        go_wp2_with (refine wpList_store_blk rfl _ (.tmp 4) (.tmp 32) rfl w.heap.size 0 [.int .i64 t.kind, .int .i64 t.int, .string t.text, .int .u32 t.cr, .slice na5 t.nums.length nc5, .slice a5 t.args.length cap5] (by rfl) (by rfl) (by kernel_rfl) (by simp [Value.oneCell']) 35 _ R9.out (by show 0 + 6 ≤ 6; decide) ?_; intro wz hCz hgz; refine stop ?_)
        refine Stopped.of ?_
        clear m0 m1 m2 m3 m4 m5
        have C0 : Cells wz w.heap.size 35 [.int .i64 t.kind, .int .i64 t.int, .string t.text, .int .u32 t.cr, .slice na5 t.nums.length nc5, .slice a5 t.args.length cap5] := hCz
        have z0 := C0.cell 0
        have z1 := C0.cell 1
        have z2 := C0.cell 2
        have z3 := C0.cell 3
        have z4 := C0.cell 4
        have z5 := C0.cell 5
        simp only [List.getElem?_cons_zero, List.getElem?_cons_succ] at z0 z1 z2 z3 z4 z5
        have KZ := Lib.hid (show Keep (fun q => q = w.heap.size) w9 wz from (Keep.refl _ _).grown hgz (fun k hk _ => by cases hk; rfl))
        clear C0 hCz hgz
        go_wp2
        refine bodyPost_ret (v := .tuple #[.agg #[.int .i64 t.kind, .int .i64 t.int, .string t.text, .int .u32 t.cr, .slice na5 t.nums.length nc5, .slice a5 t.args.length cap5], .int .i64 st.at_, .slice none 0 0]) (by simp [results, Tryz.results20, go_sem, z0, z1, z2, z3, z4, z5]) rfl ?_
        refine ⟨⟨_, rfl, (HT9.out.keep KZ.out (fun q _ hq (e : q = w.heap.size) => by have := hq.1; have := SZ1.out; omega)).mono (fun q _ hq => by have := hq.1; have := SZ1.out; omega)⟩, ⟨F', HTB.out.keep KZ.out (fun b (e : b = w.heap.size) h => (HF'.out b h).elim (fun h => by have := HFL.out b h; omega) (fun h => by have := R3.out.lt; omega)), (((keepB (S := F) B3.out).trans HK.out (fun _ _ h => h)).trans KZ.out (fun q hq (e : q = w.heap.size) => absurd hq (by omega))), fun b h => (HF'.out b h).imp id (Nat.le_trans B3.out.size)⟩⟩
  | bad k =>
    obtain ⟨lv, rfl, hl, hne, hb⟩ := HRR.out
    have R2 := Lib.hid (R1.out.below hb)
    have B2 := Lib.hid (BX.out.trans (hb.mono BX.out.size))
    have BT := Lib.hid ((Below.refl w2.heap.size w2).alloc (Nat.le_refl _) (.cells #[.int .i64 0, .int .i64 0, .string ⟨#[]⟩, .int .u32 0, .slice none 0 0, .slice none 0 0] 35 (0, 0)))
    have T3 := Lib.hid (Cells.new w2 35 [.int .i64 0, .int .i64 0, .string ⟨#[]⟩, .int .u32 0, .slice none 0 0, .slice none 0 0])
    have R3 := Lib.hid (R2.out.below BT.out)
    have B3 := Lib.hid (B2.out.trans (BT.out.mono B2.out.size))
    have LW := Lib.hid B2.out.size
    have HL3 := Lib.hid (hl.below BT.out (Nat.le_refl _))
    have HNE := Lib.hid hne
    clear hl hne hb HD HRR
    unfold termZ at *
    obtain rfl : fl = [] := HBD.out _ rfl
    go_upto_region 2 with (fail)
    generalize w2.alloc (.cells #[.int .i64 0, .int .i64 0, .string ⟨#[]⟩, .int .u32 0, .slice none 0 0, .slice none 0 0] 35) = w3 at *
    clear BT B2 BX R1 R2
    go_wp2_with fail
    go_loopw [11] (fun i wr => i = .int .i64 0 ∧ w3 = wr) (fun _ _ => 0)
    case atStart => exact ⟨rfl, rfl⟩
    case round =>
      obtain ⟨rfl, rfl⟩ := hrel
      have hki : ¬ (0 : Int) < ((0 : Nat) : Int) := by omega
      have m0 := T3.out.cell 0
      have m1 := T3.out.cell 1
      have m2 := T3.out.cell 2
      have m3 := T3.out.cell 3
      have m4 := T3.out.cell 4
      have m5 := T3.out.cell 5
      simp only [List.getElem?_cons_zero, List.getElem?_cons_succ] at m0 m1 m2 m3 m4 m5
      go_wp2_with (refine wpList_store_blk rfl _ (.tmp 4) (.tmp 32) rfl w.heap.size 0 [.int .i64 0, .int .i64 0, .string ⟨#[]⟩, .int .u32 0, .slice none 0 0, .slice none 0 0] (by rfl) (by rfl) (by kernel_rfl) (by simp [Value.oneCell']) 35 _ R3.out (by show 0 + 6 ≤ 6; decide) ?_; intro wz hCz hgz; refine stop ?_)
      refine Stopped.of ?_
      clear m0 m1 m2 m3 m4 m5
      have C0 : Cells wz w.heap.size 35 [.int .i64 0, .int .i64 0, .string ⟨#[]⟩, .int .u32 0, .slice none 0 0, .slice none 0 0] := hCz
      have z0 := C0.cell 0
      have z1 := C0.cell 1
      have z2 := C0.cell 2
      have z3 := C0.cell 3
      have z4 := C0.cell 4
      have z5 := C0.cell 5
      simp only [List.getElem?_cons_zero, List.getElem?_cons_succ] at z0 z1 z2 z3 z4 z5
      have KZ := Lib.hid (show Keep (fun q => q = w.heap.size) w3 wz from (Keep.refl _ _).grown hgz (fun k hk _ => by cases hk; rfl))
      clear C0 hCz hgz
      go_wp2
      refine bodyPost_ret (v := .tuple #[.agg #[.int .i64 0, .int .i64 0, .string ⟨#[]⟩, .int .u32 0, .slice none 0 0, .slice none 0 0], .int .i64 0, lv]) (by simp [results, Tryz.results20, go_sem, z0, z1, z2, z3, z4, z5]) rfl ?_
      refine ⟨⟨lv, rfl, (HL3.out.frame (fun q hq => KZ.out.block q (HL3.out.block hq).2 (fun e => by have := (HL3.out.block hq).1; have := SZ1.out; omega))).base (show w.heap.size ≤ w1.heap.size by have := SZ1.out; omega), HNE.out⟩, ⟨F, (HTB0.out.below B3.out).keep KZ.out (fun b (e : b = w.heap.size) h => by have := HFL.out b h; omega), (keepB (S := F) B3.out).trans KZ.out (fun q hq (e : q = w.heap.size) => absurd hq (by omega)), fun b h => .inl h⟩⟩
end Go.Proofs.YtlahagabcnmdiaaGreatDoor
end
section
/- The reference of layer 4: Whole. Printed by wip/rfn.py. -/
open Go Go.RowKit
namespace Go.Proofs.YtlahagabcnmdiaaGreatDoor
set_option linter.unusedVariables false
set_option linter.unusedSimpArgs false

set_option maxHeartbeats 8000000 in
set_option maxRecDepth 100000 in
theorem whoR_nil (l : List UInt8) (v : Value) (w : World) (hv : RSl v l w) :
    Calls Tryz.prog 25 #[v, .pointer none] w fun e w' => WhoR w (whoP l.length ((readS l, []))).1 e w' ∧ Below w.heap.size w w' := by
  obtain ⟨va, vc, rfl⟩ : ∃ a c, v = .slice a l.length c := by obtain ⟨a, c, e, _⟩ := hv; exact ⟨a, c, e⟩
  have hel := run_neqLinks
  have HNO := Lib.hid (fun n W => noR_any n 86 W)
  have BX := Lib.hid ((Below.refl w.heap.size w).alloc (Nat.le_refl _) (.cells #[.int .i64 0, .int .i64 0, .string ⟨#[]⟩, .int .u32 0, .slice none 0 0, .slice none 0 0] 35 (0, 0)))
  have R1 := Lib.hid (show Cells (w.alloc (.cells #[.int .i64 0, .int .i64 0, .string ⟨#[]⟩, .int .u32 0, .slice none 0 0, .slice none 0 0] 35 (0, 0))) w.heap.size 35 termZ from Cells.new w 35 termZ)
  have SZ1 := Lib.hid (show (w.alloc (.cells #[.int .i64 0, .int .i64 0, .string ⟨#[]⟩, .int .u32 0, .slice none 0 0, .slice none 0 0] 35 (0, 0))).heap.size = w.heap.size + 1 from by simp)
  have HD := Lib.hid (decR_any l (.slice va l.length vc) _ (hv.below BX.out))
  have HDE := Lib.hid (show decP (readS l) none = (readS l, []) from by cases readS l <;> rfl)
  rw [HDE.out] at HD
  generalize readS l = r at *
  clear hv HDE
  go_enter Tryz.func25, Tryz.ntmps25
  go_upto_region 1 with (fail)
  generalize w.alloc (.cells #[.int .i64 0, .int .i64 0, .string ⟨#[]⟩, .int .u32 0, .slice none 0 0, .slice none 0 0] 35 (0, 0)) = w1 at *
  unfold termZ at *
  go_wp2_with fail
  refine HD.out.mono ?_
  intro e w2 hr
  have HRR := Lib.hid hr
  clear hr
  cases r with
  | ok t st =>
    obtain ⟨vs, fv, rfl, ht, hfs, hfo, hb⟩ := HRR.out
    replace hfs : StrsIs fv ([] : List ByteArray) w2 := hfs
    obtain ⟨na5, nc5, a5, cap5, rfl⟩ := ht.nums5
    have R2 := Lib.hid (R1.out.below hb)
    have B2 := Lib.hid (BX.out.trans (hb.mono BX.out.size))
    have BT := Lib.hid ((Below.refl w2.heap.size w2).alloc (Nat.le_refl _) (.cells #[.int .i64 t.kind, .int .i64 t.int, .string t.text, .int .u32 t.cr, .slice na5 t.nums.length nc5, .slice a5 t.args.length cap5] 35 (0, 0)))
    have T3 := Lib.hid (Cells.new w2 35 [.int .i64 t.kind, .int .i64 t.int, .string t.text, .int .u32 t.cr, .slice na5 t.nums.length nc5, .slice a5 t.args.length cap5])
    have R3 := Lib.hid (R2.out.below BT.out)
    have B3 := Lib.hid (B2.out.trans (BT.out.mono B2.out.size))
    have LW := Lib.hid B2.out.size
    have HT3 := Lib.hid (ht.below BT.out)
    have hlf := run_strs_len hfs
    obtain ⟨fa, fc, rfl⟩ : ∃ a c, fv = .slice a ([] : List ByteArray).length c := by
      obtain ⟨a, c, e, _⟩ := hfs.get
      exact ⟨a, c, e⟩
    clear ht hfs hfo hb HD HRR
    go_upto_region 2 with (fail)
    generalize w2.alloc (.cells #[.int .i64 t.kind, .int .i64 t.int, .string t.text, .int .u32 t.cr, .slice na5 t.nums.length nc5, .slice a5 t.args.length cap5] 35) = w3 at *
    clear BT B2 BX R1 R2
    by_cases hr : st.at_ < l.length
    · have hri : (st.at_ : Int) < (l.length : Int) := by omega
      have HWP := Lib.hid (show whoP l.length (.ok t st, []) = (.bad [⟨etfL, st.at_, 86⟩], []) from if_pos hr)
      clear hr
      go_wp2_with fail
      clear hri
      refine (HNO.out _ _).mono ?_
      rintro e w4 ⟨lv, rfl, hl, hb⟩
      have HL4 := Lib.hid hl
      have R4 := Lib.hid (R3.out.below hb)
      have B4 := Lib.hid (B3.out.trans (hb.mono B3.out.size))
      clear hl hb
      go_wp2_with (refine wpList_store_blk rfl _ (.tmp 4) (.tmp 27) rfl w.heap.size 0 [.int .i64 0, .int .i64 0, .string ⟨#[]⟩, .int .u32 0, .slice none 0 0, .slice none 0 0] (by rfl) (by rfl) (by kernel_rfl) (by simp [Value.oneCell']) 35 _ R4.out (by show 0 + 6 ≤ 6; decide) ?_; intro wz hCz hgz; refine stop ?_)
      refine Stopped.of ?_
      have C0 : Cells wz w.heap.size 35 [.int .i64 0, .int .i64 0, .string ⟨#[]⟩, .int .u32 0, .slice none 0 0, .slice none 0 0] := hCz
      have z0 := C0.cell 0
      have z1 := C0.cell 1
      have z2 := C0.cell 2
      have z3 := C0.cell 3
      have z4 := C0.cell 4
      have z5 := C0.cell 5
      simp only [List.getElem?_cons_zero, List.getElem?_cons_succ] at z0 z1 z2 z3 z4 z5
      have KZ := Lib.hid (show Keep (fun q => q = w.heap.size) w4 wz from (Keep.refl _ _).grown hgz (fun k hk _ => by cases hk; rfl))
      clear C0 hCz hgz
      go_wp2
      refine bodyPost_ret (v := .tuple #[.agg #[.int .i64 0, .int .i64 0, .string ⟨#[]⟩, .int .u32 0, .slice none 0 0, .slice none 0 0], lv]) (by simp [results, Tryz.results25, go_sem, z0, z1, z2, z3, z4, z5]) rfl ?_
      rw [HWP.out]
      refine ⟨⟨lv, rfl, (HL4.out.frame (fun q hq => KZ.out.block q (HL4.out.block hq).2 (fun e => by have := (HL4.out.block hq).1; have := R3.out.lt; omega))).base B3.out.size, by simp⟩, B4.out.trans (KZ.out.toBelow B4.out.size (fun q (hq : q = w.heap.size) => by omega))⟩
    · have hri : ¬ (st.at_ : Int) < (l.length : Int) := by omega
      have HWP := Lib.hid (show whoP l.length (.ok t st, []) = (.ok t st, []) from if_neg hr)
      clear hr
      go_wp2_with fail
      go_loopw [10] (fun i wr => i = .int .i64 0 ∧ w3 = wr) (fun _ _ => 0)
      case atStart => exact ⟨rfl, rfl⟩
      case round =>
        obtain ⟨rfl, rfl⟩ := hrel
        have hki : ¬ (0 : Int) < ((0 : Nat) : Int) := by omega
        have m0 := T3.out.cell 0
        have m1 := T3.out.cell 1
        have m2 := T3.out.cell 2
        have m3 := T3.out.cell 3
        have m4 := T3.out.cell 4
        have m5 := T3.out.cell 5
        simp only [List.getElem?_cons_zero, List.getElem?_cons_succ] at m0 m1 m2 m3 m4 m5
        go_wp2_with (refine wpList_store_blk rfl _ (.tmp 4) (.tmp 42) rfl w.heap.size 0 [.int .i64 t.kind, .int .i64 t.int, .string t.text, .int .u32 t.cr, .slice na5 t.nums.length nc5, .slice a5 t.args.length cap5] (by rfl) (by rfl) (by kernel_rfl) (by simp [Value.oneCell']) 35 _ R3.out (by show 0 + 6 ≤ 6; decide) ?_; intro wz hCz hgz; refine stop ?_)
        refine Stopped.of ?_
        clear m0 m1 m2 m3 m4 m5
        have C0 : Cells wz w.heap.size 35 [.int .i64 t.kind, .int .i64 t.int, .string t.text, .int .u32 t.cr, .slice na5 t.nums.length nc5, .slice a5 t.args.length cap5] := hCz
        have z0 := C0.cell 0
        have z1 := C0.cell 1
        have z2 := C0.cell 2
        have z3 := C0.cell 3
        have z4 := C0.cell 4
        have z5 := C0.cell 5
        simp only [List.getElem?_cons_zero, List.getElem?_cons_succ] at z0 z1 z2 z3 z4 z5
        have KZ := Lib.hid (show Keep (fun q => q = w.heap.size) w3 wz from (Keep.refl _ _).grown hgz (fun k hk _ => by cases hk; rfl))
        clear C0 hCz hgz
        go_wp2
        refine bodyPost_ret (v := .tuple #[.agg #[.int .i64 t.kind, .int .i64 t.int, .string t.text, .int .u32 t.cr, .slice na5 t.nums.length nc5, .slice a5 t.args.length cap5], .slice none 0 0]) (by simp [results, Tryz.results25, go_sem, z0, z1, z2, z3, z4, z5]) rfl ?_
        rw [HWP.out]
        refine ⟨⟨_, rfl, (HT3.out.keep KZ.out (fun q _ hq (e : q = w.heap.size) => by have := hq.1; have := SZ1.out; omega)).mono (fun q _ hq => by have := hq.1; have := SZ1.out; omega)⟩, B3.out.trans (KZ.out.toBelow B3.out.size (fun q (hq : q = w.heap.size) => by omega))⟩
  | bad k =>
    obtain ⟨lv, rfl, hl, hne, hb⟩ := HRR.out
    have R2 := Lib.hid (R1.out.below hb)
    have B2 := Lib.hid (BX.out.trans (hb.mono BX.out.size))
    have BT := Lib.hid ((Below.refl w2.heap.size w2).alloc (Nat.le_refl _) (.cells #[.int .i64 0, .int .i64 0, .string ⟨#[]⟩, .int .u32 0, .slice none 0 0, .slice none 0 0] 35 (0, 0)))
    have T3 := Lib.hid (Cells.new w2 35 [.int .i64 0, .int .i64 0, .string ⟨#[]⟩, .int .u32 0, .slice none 0 0, .slice none 0 0])
    have R3 := Lib.hid (R2.out.below BT.out)
    have B3 := Lib.hid (B2.out.trans (BT.out.mono B2.out.size))
    have LW := Lib.hid B2.out.size
    have HL3 := Lib.hid (hl.below BT.out (Nat.le_refl _))
    obtain ⟨s0, n0, c0, rfl⟩ : ∃ g n c, lv = .slice (some ⟨g, 0, none⟩) n c := by
      rcases hl.shape with ⟨_, e⟩ | ⟨q, c, rfl, _⟩
      · exact absurd e hne
      · exact ⟨q, _, c, rfl⟩
    have HNE := Lib.hid hne
    clear hl hne hb HD HRR
    unfold termZ at *
    go_upto_region 2 with (fail)
    generalize w2.alloc (.cells #[.int .i64 0, .int .i64 0, .string ⟨#[]⟩, .int .u32 0, .slice none 0 0, .slice none 0 0] 35) = w3 at *
    clear BT B2 BX R1 R2
    go_wp2_with (refine wpList_store_blk rfl _ (.tmp 4) (.tmp 21) rfl w.heap.size 0 [.int .i64 0, .int .i64 0, .string ⟨#[]⟩, .int .u32 0, .slice none 0 0, .slice none 0 0] (by rfl) (by rfl) (by kernel_rfl) (by simp [Value.oneCell']) 35 _ R3.out (by show 0 + 6 ≤ 6; decide) ?_; intro wz hCz hgz; refine stop ?_)
    refine Stopped.of ?_
    have C0 : Cells wz w.heap.size 35 [.int .i64 0, .int .i64 0, .string ⟨#[]⟩, .int .u32 0, .slice none 0 0, .slice none 0 0] := hCz
    have z0 := C0.cell 0
    have z1 := C0.cell 1
    have z2 := C0.cell 2
    have z3 := C0.cell 3
    have z4 := C0.cell 4
    have z5 := C0.cell 5
    simp only [List.getElem?_cons_zero, List.getElem?_cons_succ] at z0 z1 z2 z3 z4 z5
    have KZ := Lib.hid (show Keep (fun q => q = w.heap.size) w3 wz from (Keep.refl _ _).grown hgz (fun k hk _ => by cases hk; rfl))
    clear C0 hCz hgz
    go_wp2
    refine bodyPost_ret (v := .tuple #[.agg #[.int .i64 0, .int .i64 0, .string ⟨#[]⟩, .int .u32 0, .slice none 0 0, .slice none 0 0], .slice (some ⟨s0, 0, none⟩) n0 c0]) (by simp [results, Tryz.results25, go_sem, z0, z1, z2, z3, z4, z5]) rfl ?_
    refine ⟨⟨_, rfl, (HL3.out.frame (fun q hq => KZ.out.block q (HL3.out.block hq).2 (fun e => by have := (HL3.out.block hq).1; have := SZ1.out; omega))).base (show w.heap.size ≤ w1.heap.size by have := SZ1.out; omega), HNE.out⟩, B3.out.trans (KZ.out.toBelow B3.out.size (fun q (hq : q = w.heap.size) => by omega))⟩
set_option maxHeartbeats 8000000 in
set_option maxRecDepth 100000 in
theorem whoR_tab {limit : Int} {gt : Nat} {tl : List ByteArray} {F : Nat → Prop} (l : List UInt8) (v : Value) (w : World) (hv : RSl v l w) (htb : RTabIs limit gt tl F w) :
    Calls Tryz.prog 25 #[v, .pointer (some ⟨gt, 0, none⟩)] w fun e w' => WhoR w (whoP l.length (decP (readS l) (some (limit, tl)))).1 e w' ∧ PutT limit gt (putAll limit tl (whoP l.length (decP (readS l) (some (limit, tl)))).2) F w w' := by
  obtain ⟨va, vc, rfl⟩ : ∃ a c, v = .slice a l.length c := by obtain ⟨a, c, e, _⟩ := hv; exact ⟨a, c, e⟩
  have hel := run_neqLinks
  have HNO := Lib.hid (fun n W => noR_any n 86 W)
  have BX := Lib.hid ((Below.refl w.heap.size w).alloc (Nat.le_refl _) (.cells #[.int .i64 0, .int .i64 0, .string ⟨#[]⟩, .int .u32 0, .slice none 0 0, .slice none 0 0] 35 (0, 0)))
  have R1 := Lib.hid (show Cells (w.alloc (.cells #[.int .i64 0, .int .i64 0, .string ⟨#[]⟩, .int .u32 0, .slice none 0 0, .slice none 0 0] 35 (0, 0))) w.heap.size 35 termZ from Cells.new w 35 termZ)
  have SZ1 := Lib.hid (show (w.alloc (.cells #[.int .i64 0, .int .i64 0, .string ⟨#[]⟩, .int .u32 0, .slice none 0 0, .slice none 0 0] 35 (0, 0))).heap.size = w.heap.size + 1 from by simp)
  have HD := Lib.hid (decR_with l (.slice va l.length vc) _ (hv.below BX.out) (htb.below BX.out))
  have HSM := Lib.hid (decP_small l (some (limit, tl)))
  have HTB0 := Lib.hid htb
  have HFL := Lib.hid (show ∀ b, F b → b < w.heap.size from fun b h => (htb.nf b h).1)
  have HBD := Lib.hid (show ∀ k, (decP (readS l) (some (limit, tl))).1 = .bad k → (decP (readS l) (some (limit, tl))).2 = [] from fun k h => by
    cases hr : readS l with
    | bad _ => rfl
    | ok t st =>
      rw [hr] at h
      unfold decP at h ⊢
      simp only at h ⊢
      split at h
      · rename_i hc; rw [if_pos hc]
      · cases h)
  generalize decP (readS l) (some (limit, tl)) = res at *
  clear hv htb
  go_enter Tryz.func25, Tryz.ntmps25
  go_upto_region 1 with (fail)
  generalize w.alloc (.cells #[.int .i64 0, .int .i64 0, .string ⟨#[]⟩, .int .u32 0, .slice none 0 0, .slice none 0 0] 35 (0, 0)) = w1 at *
  unfold termZ at *
  go_wp2_with fail
  refine HD.out.mono ?_
  intro e w2 hr
  have HRR := Lib.hid hr
  clear hr
  obtain ⟨r, fl⟩ := res
  cases r with
  | ok t st =>
    obtain ⟨vs, fv, rfl, ht, hfs, hfo, hb⟩ := HRR.out
    replace hfs : StrsIs fv fl w2 := hfs
    obtain ⟨na5, nc5, a5, cap5, rfl⟩ := ht.nums5
    have R2 := Lib.hid (R1.out.below hb)
    have B2 := Lib.hid (BX.out.trans (hb.mono BX.out.size))
    have BT := Lib.hid ((Below.refl w2.heap.size w2).alloc (Nat.le_refl _) (.cells #[.int .i64 t.kind, .int .i64 t.int, .string t.text, .int .u32 t.cr, .slice na5 t.nums.length nc5, .slice a5 t.args.length cap5] 35 (0, 0)))
    have T3 := Lib.hid (Cells.new w2 35 [.int .i64 t.kind, .int .i64 t.int, .string t.text, .int .u32 t.cr, .slice na5 t.nums.length nc5, .slice a5 t.args.length cap5])
    have R3 := Lib.hid (R2.out.below BT.out)
    have B3 := Lib.hid (B2.out.trans (BT.out.mono B2.out.size))
    have LW := Lib.hid B2.out.size
    have HT3 := Lib.hid (ht.below BT.out)
    have hlf := run_strs_len hfs
    obtain ⟨fa, fc, rfl⟩ : ∃ a c, fv = .slice a fl.length c := by
      obtain ⟨a, c, e, _⟩ := hfs.get
      exact ⟨a, c, e⟩
    have HTB3 := Lib.hid (HTB0.out.below B3.out)
    have hfl9 : (fl.length : Int) ≤ 9223372036854775807 := by
      rcases hfs.shape with ⟨_, e⟩ | ⟨_, c, e, _, h1, h2⟩
      · rw [e]; decide
      · unfold maxLen at h2; omega
    have HFG := Lib.hid (show ∀ wr, Keep F (w2.alloc (.cells #[.int .i64 t.kind, .int .i64 t.int, .string t.text, .int .u32 t.cr, .slice na5 t.nums.length nc5, .slice a5 t.args.length cap5] 35 (0, 0))) wr → ∀ k (hk : k < fl.length), ∃ g, fa = some ⟨g, 0, none⟩ ∧ wr.cell? ⟨g, k, none⟩ = some (.string fl[k]) from fun wr hK => by
      obtain ⟨a', c', e, h⟩ := ((hfs.below BT.out).keep hK (fun q hq e => by have := HFL.out q e; have := hfo q hq; have := SZ1.out; omega)).get
      injection e with e1 _ e3
      subst e1
      exact h)
    clear ht hfs hfo hb HD HRR
    go_upto_region 2 with (fail)
    generalize w2.alloc (.cells #[.int .i64 t.kind, .int .i64 t.int, .string t.text, .int .u32 t.cr, .slice na5 t.nums.length nc5, .slice a5 t.args.length cap5] 35) = w3 at *
    clear BT B2 BX R1 R2
    by_cases hr : st.at_ < l.length
    · have hri : (st.at_ : Int) < (l.length : Int) := by omega
      have HWP := Lib.hid (show whoP l.length (.ok t st, fl) = (.bad [⟨etfL, st.at_, 86⟩], []) from if_pos hr)
      clear hr
      go_wp2_with fail
      clear hri
      refine (HNO.out _ _).mono ?_
      rintro e w4 ⟨lv, rfl, hl, hb⟩
      have HL4 := Lib.hid hl
      have R4 := Lib.hid (R3.out.below hb)
      have B4 := Lib.hid (B3.out.trans (hb.mono B3.out.size))
      clear hl hb
      go_wp2_with (refine wpList_store_blk rfl _ (.tmp 4) (.tmp 27) rfl w.heap.size 0 [.int .i64 0, .int .i64 0, .string ⟨#[]⟩, .int .u32 0, .slice none 0 0, .slice none 0 0] (by rfl) (by rfl) (by kernel_rfl) (by simp [Value.oneCell']) 35 _ R4.out (by show 0 + 6 ≤ 6; decide) ?_; intro wz hCz hgz; refine stop ?_)
      refine Stopped.of ?_
      have C0 : Cells wz w.heap.size 35 [.int .i64 0, .int .i64 0, .string ⟨#[]⟩, .int .u32 0, .slice none 0 0, .slice none 0 0] := hCz
      have z0 := C0.cell 0
      have z1 := C0.cell 1
      have z2 := C0.cell 2
      have z3 := C0.cell 3
      have z4 := C0.cell 4
      have z5 := C0.cell 5
      simp only [List.getElem?_cons_zero, List.getElem?_cons_succ] at z0 z1 z2 z3 z4 z5
      have KZ := Lib.hid (show Keep (fun q => q = w.heap.size) w4 wz from (Keep.refl _ _).grown hgz (fun k hk _ => by cases hk; rfl))
      clear C0 hCz hgz
      go_wp2
      refine bodyPost_ret (v := .tuple #[.agg #[.int .i64 0, .int .i64 0, .string ⟨#[]⟩, .int .u32 0, .slice none 0 0, .slice none 0 0], lv]) (by simp [results, Tryz.results25, go_sem, z0, z1, z2, z3, z4, z5]) rfl ?_
      rw [HWP.out]
      refine ⟨⟨lv, rfl, (HL4.out.frame (fun q hq => KZ.out.block q (HL4.out.block hq).2 (fun e => by have := (HL4.out.block hq).1; have := R3.out.lt; omega))).base B3.out.size, by simp⟩, ⟨F, (HTB0.out.below B4.out).keep KZ.out (fun b (e : b = w.heap.size) h => by have := HFL.out b h; omega), (keepB (S := F) B4.out).trans KZ.out (fun q hq (e : q = w.heap.size) => absurd hq (by omega)), fun b h => .inl h⟩⟩
    · have hri : ¬ (st.at_ : Int) < (l.length : Int) := by omega
      have HWP := Lib.hid (show whoP l.length (.ok t st, fl) = (.ok t st, fl) from if_neg hr)
      clear hr
      go_wp2_with fail
      go_loopw [10] (fun i wr => ∃ (k : Nat) (F' : Nat → Prop), k ≤ fl.length ∧ i = .int .i64 k ∧ RTabIs limit gt (putAll limit tl (fl.take k)) F' wr ∧ Keep F w3 wr ∧ ∀ b, F' b → F b ∨ w3.heap.size ≤ b) (fun i _ => fl.length - (intOf i).toNat)
      case atStart => exact ⟨0, F, Nat.zero_le _, rfl, HTB3.out, Keep.refl _ _, fun b h => .inl h⟩
      case round =>
        obtain ⟨k, F', hk, rfl, htb, hkp, hf'⟩ := hrel
        have HTB := Lib.hid htb
        have HK := Lib.hid hkp
        have HF' := Lib.hid hf'
        clear htb hkp hf'
        by_cases hlt : k < fl.length
        · have hki : (k : Int) < (fl.length : Int) := by omega
          have hk0 : (0 : Int) ≤ (k : Int) := by omega
          have HNX := Lib.hid (show putAll limit tl (fl.take (k + 1)) = (putS limit (putAll limit tl (fl.take k)) fl[k]).2.2 from by rw [List.take_succ_eq_append_getElem hlt, putAll_snoc])
          obtain ⟨fg, rfl, hx⟩ := HFG.out _ HK.out k hlt
          have HP := Lib.hid (putR_live HTB.out fl[k] (HSM.out _ (List.getElem_mem hlt)))
          generalize fl[k] = s at *
          go_wp2_with fail
          refine HP.out.mono ?_
          rintro e w9 ⟨lv9, F9, rfl, -, h9, k9, f9⟩
          have H9 := Lib.hid h9
          have K9 := Lib.hid k9
          have F9' := Lib.hid f9
          clear hx h9 k9 f9
          go_wp2
          go_roundw
          case rel => exact ⟨k + 1, F9, by omega, by go_num, by rw [HNX.out]; exact H9.out, HK.out.trans K9.out (fun q hq e => (HF'.out q e).elim id (fun h => absurd hq (by omega))), fun b hb => by
            rcases F9'.out b hb with h | h
            · exact HF'.out b h
            · exact .inr (Nat.le_trans HK.out.size h)⟩
          case measure => simp [intOf]; omega
        · have hki : ¬ (k : Int) < (fl.length : Int) := by omega
          rw [List.take_of_length_le (by omega)] at HTB
          have R9 := Lib.hid (R3.out.keep HK.out (fun e => by have := HFL.out _ e; omega))
          have T9 := Lib.hid (T3.out.keep HK.out (fun e => by have := HFL.out _ e; have := LW.out; omega))
          have HT9 := Lib.hid (HT3.out.keep HK.out (fun q _ hq e => by have := HFL.out _ e; have := hq.1; have := SZ1.out; omega))
          obtain ⟨w9, rfl⟩ : ∃ w9 : World, w9 = wr := ⟨_, rfl⟩
          have m0 := T9.out.cell 0
          have m1 := T9.out.cell 1
          have m2 := T9.out.cell 2
          have m3 := T9.out.cell 3
          have m4 := T9.out.cell 4
          have m5 := T9.out.cell 5
          simp only [List.getElem?_cons_zero, List.getElem?_cons_succ] at m0 m1 m2 m3 m4 m5
          go_wp2_with (refine wpList_store_blk rfl _ (.tmp 4) (.tmp 42) rfl w.heap.size 0 [.int .i64 t.kind, .int .i64 t.int, .string t.text, .int .u32 t.cr, .slice na5 t.nums.length nc5, .slice a5 t.args.length cap5] (by rfl) (by rfl) (by kernel_rfl) (by simp [Value.oneCell']) 35 _ R9.out (by show 0 + 6 ≤ 6; decide) ?_; intro wz hCz hgz; refine stop ?_)
          refine Stopped.of ?_
          clear m0 m1 m2 m3 m4 m5
          have C0 : Cells wz w.heap.size 35 [.int .i64 t.kind, .int .i64 t.int, .string t.text, .int .u32 t.cr, .slice na5 t.nums.length nc5, .slice a5 t.args.length cap5] := hCz
          have z0 := C0.cell 0
          have z1 := C0.cell 1
          have z2 := C0.cell 2
          have z3 := C0.cell 3
          have z4 := C0.cell 4
          have z5 := C0.cell 5
          simp only [List.getElem?_cons_zero, List.getElem?_cons_succ] at z0 z1 z2 z3 z4 z5
          have KZ := Lib.hid (show Keep (fun q => q = w.heap.size) w9 wz from (Keep.refl _ _).grown hgz (fun k hk _ => by cases hk; rfl))
          clear C0 hCz hgz
          go_wp2
          refine bodyPost_ret (v := .tuple #[.agg #[.int .i64 t.kind, .int .i64 t.int, .string t.text, .int .u32 t.cr, .slice na5 t.nums.length nc5, .slice a5 t.args.length cap5], .slice none 0 0]) (by simp [results, Tryz.results25, go_sem, z0, z1, z2, z3, z4, z5]) rfl ?_
          rw [HWP.out]
          refine ⟨⟨_, rfl, (HT9.out.keep KZ.out (fun q _ hq (e : q = w.heap.size) => by have := hq.1; have := SZ1.out; omega)).mono (fun q _ hq => by have := hq.1; have := SZ1.out; omega)⟩, ⟨F', HTB.out.keep KZ.out (fun b (e : b = w.heap.size) h => (HF'.out b h).elim (fun h => by have := HFL.out b h; omega) (fun h => by have := R3.out.lt; omega)), (((keepB (S := F) B3.out).trans HK.out (fun _ _ h => h)).trans KZ.out (fun q hq (e : q = w.heap.size) => absurd hq (by omega))), fun b h => (HF'.out b h).imp id (Nat.le_trans B3.out.size)⟩⟩
  | bad k =>
    obtain ⟨lv, rfl, hl, hne, hb⟩ := HRR.out
    have R2 := Lib.hid (R1.out.below hb)
    have B2 := Lib.hid (BX.out.trans (hb.mono BX.out.size))
    have BT := Lib.hid ((Below.refl w2.heap.size w2).alloc (Nat.le_refl _) (.cells #[.int .i64 0, .int .i64 0, .string ⟨#[]⟩, .int .u32 0, .slice none 0 0, .slice none 0 0] 35 (0, 0)))
    have T3 := Lib.hid (Cells.new w2 35 [.int .i64 0, .int .i64 0, .string ⟨#[]⟩, .int .u32 0, .slice none 0 0, .slice none 0 0])
    have R3 := Lib.hid (R2.out.below BT.out)
    have B3 := Lib.hid (B2.out.trans (BT.out.mono B2.out.size))
    have LW := Lib.hid B2.out.size
    have HL3 := Lib.hid (hl.below BT.out (Nat.le_refl _))
    obtain ⟨s0, n0, c0, rfl⟩ : ∃ g n c, lv = .slice (some ⟨g, 0, none⟩) n c := by
      rcases hl.shape with ⟨_, e⟩ | ⟨q, c, rfl, _⟩
      · exact absurd e hne
      · exact ⟨q, _, c, rfl⟩
    have HNE := Lib.hid hne
    clear hl hne hb HD HRR
    unfold termZ at *
    obtain rfl : fl = [] := HBD.out _ rfl
    go_upto_region 2 with (fail)
    generalize w2.alloc (.cells #[.int .i64 0, .int .i64 0, .string ⟨#[]⟩, .int .u32 0, .slice none 0 0, .slice none 0 0] 35) = w3 at *
    clear BT B2 BX R1 R2
    go_wp2_with (refine wpList_store_blk rfl _ (.tmp 4) (.tmp 21) rfl w.heap.size 0 [.int .i64 0, .int .i64 0, .string ⟨#[]⟩, .int .u32 0, .slice none 0 0, .slice none 0 0] (by rfl) (by rfl) (by kernel_rfl) (by simp [Value.oneCell']) 35 _ R3.out (by show 0 + 6 ≤ 6; decide) ?_; intro wz hCz hgz; refine stop ?_)
    refine Stopped.of ?_
    have C0 : Cells wz w.heap.size 35 [.int .i64 0, .int .i64 0, .string ⟨#[]⟩, .int .u32 0, .slice none 0 0, .slice none 0 0] := hCz
    have z0 := C0.cell 0
    have z1 := C0.cell 1
    have z2 := C0.cell 2
    have z3 := C0.cell 3
    have z4 := C0.cell 4
    have z5 := C0.cell 5
    simp only [List.getElem?_cons_zero, List.getElem?_cons_succ] at z0 z1 z2 z3 z4 z5
    have KZ := Lib.hid (show Keep (fun q => q = w.heap.size) w3 wz from (Keep.refl _ _).grown hgz (fun k hk _ => by cases hk; rfl))
    clear C0 hCz hgz
    go_wp2
    refine bodyPost_ret (v := .tuple #[.agg #[.int .i64 0, .int .i64 0, .string ⟨#[]⟩, .int .u32 0, .slice none 0 0, .slice none 0 0], .slice (some ⟨s0, 0, none⟩) n0 c0]) (by simp [results, Tryz.results25, go_sem, z0, z1, z2, z3, z4, z5]) rfl ?_
    refine ⟨⟨_, rfl, (HL3.out.frame (fun q hq => KZ.out.block q (HL3.out.block hq).2 (fun e => by have := (HL3.out.block hq).1; have := SZ1.out; omega))).base (show w.heap.size ≤ w1.heap.size by have := SZ1.out; omega), HNE.out⟩, ⟨F, (HTB0.out.below B3.out).keep KZ.out (fun b (e : b = w.heap.size) h => by have := HFL.out b h; omega), (keepB (S := F) B3.out).trans KZ.out (fun q hq (e : q = w.heap.size) => absurd hq (by omega)), fun b h => .inl h⟩⟩
end Go.Proofs.YtlahagabcnmdiaaGreatDoor
end
section
/- What is read bears no more atoms than parts. No function of the program is looked at here. -/
open Go Go.RowKit
namespace Go.Proofs.YtlahagabcnmdiaaGreatDoor
set_option linter.unusedVariables false
set_option linter.unusedSimpArgs false

def Few {α : Type} (p q : Nat) (f : Rd → Res α) : Prop := ∀ st x st2, st.atoms.length + p ≤ st.part → st.part ≤ 4096 → f st = .ok x st2 → st2.atoms.length + q ≤ st2.part ∧ st2.part ≤ 4096
theorem Few.bind {α β : Type} {p q r : Nat} {f : Rd → Res α} {g : α → Rd → Res β} (hf : Few p q f) (hg : ∀ x, Few q r (g x)) : Few p r fun st => (f st).bind fun x s => g x s := by
  intro st y st2 h1 h2 h
  replace h : (f st).bind (fun x s => g x s) = .ok y st2 := h
  cases hx : f st with
  | bad k => rw [hx] at h; cases h
  | ok x s1 =>
    rw [hx] at h
    obtain ⟨h3, h4⟩ := hf st x s1 h1 h2 hx
    exact hg x s1 y st2 h3 h4 h
theorem Few.ok {α : Type} {p : Nat} (x : Rd → α) : Few p p fun st => .ok (x st) st := fun st y st2 h1 h2 h => by injection h with _ h; rw [← h]; exact ⟨h1, h2⟩
theorem Few.bad {α : Type} {p q : Nat} (k : Rd → List Lk) : Few p q fun st => (.bad (k st) : Res α) := fun st y st2 _ _ h => by cases h
theorem Few.ite {α : Type} {p q : Nat} {c : Rd → Prop} [∀ s, Decidable (c s)] {f g : Rd → Res α} (hf : Few p q f) (hg : Few p q g) : Few p q fun st => if c st then f st else g st := fun st y st2 h1 h2 h => by
  by_cases hc : c st
  · simp only [if_pos hc] at h; exact hf _ _ _ h1 h2 h
  · simp only [if_neg hc] at h; exact hg _ _ _ h1 h2 h
theorem few_need (p : Nat) (l : List UInt8) (tag n : Nat) : Few p p (needS l tag n) := fun st x st2 h1 h2 h => by
  obtain ⟨rfl, _⟩ := need_ok h
  exact ⟨h1, h2⟩
theorem few_four (p : Nat) (l : List UInt8) (tag : Nat) : Few p p (fourS l tag) := fun st x st2 h1 h2 h => by
  unfold fourS at h
  cases hx : needS l tag 4 st with
  | bad k => rw [hx] at h; cases h
  | ok y s1 => rw [hx] at h; injection h with _ h; rw [← h]; exact few_need p l tag 4 st y s1 h1 h2 hx
theorem few_txt {p : Nat} {l : List UInt8} {tag behind : Nat} {wide : Bool} : Few p p (txtS l tag wide behind) := fun st s st2 h1 h2 h => by
  unfold txtS at h
  cases hx : needS l tag (if wide then 2 else 1) st with
  | bad k => rw [hx] at h; cases h
  | ok y s1 =>
    rw [hx] at h
    obtain ⟨rfl, _⟩ := need_ok hx
    simp only [Res.bind] at h
    cases hy : needS l tag (numS (cutB l st.at_ (if wide then 2 else 1)) + behind) ⟨st.at_ + (if wide then 2 else 1), st.part, st.atoms⟩ with
    | bad k => rw [hy] at h; cases h
    | ok z s2 =>
      rw [hy] at h
      obtain ⟨rfl, _⟩ := need_ok hy
      injection h with h3 h4
      rw [← h4]
      exact ⟨h1, h2⟩
theorem few_nam (l : List UInt8) (tag behind : Nat) : Few 1 0 (namS l tag behind) := fun st x st2 h1 h2 h => by
  unfold namS at h
  cases hx : needS l tag 1 st with
  | bad k => rw [hx] at h; cases h
  | ok y s1 =>
    obtain ⟨h3, h4⟩ := few_need 1 l tag 1 st y s1 h1 h2 hx
    rw [hx] at h
    simp only [Res.bind] at h
    split at h
    · cases h
    · cases hy : txtS l tag (l.getD st.at_ 0 == 118) behind s1 with
      | bad k => rw [hy] at h; cases h
      | ok z s2 =>
        obtain ⟨h5, h6⟩ := few_txt (p := 1) s1 z s2 h3 h4 hy
        rw [hy] at h
        simp only at h
        split at h
        · cases h
        · injection h with _ h
          rw [← h]
          exact ⟨by rw [List.length_append]; exact h5, h6⟩
theorem few_nums (p : Nat) (l : List UInt8) (tag : Nat) : ∀ n, Few p p (numsS l tag n)
  | 0 => fun st x st2 h1 h2 h => by unfold numsS at h; injection h with _ h; rw [← h]; exact ⟨h1, h2⟩
  | n + 1 => fun st x st2 h1 h2 h => by
    unfold numsS at h
    exact (Few.bind (few_four p l tag) fun x => Few.bind (few_nums p l tag n) fun r => Few.ok fun _ => ((x : Int) :: r)) st _ st2 h1 h2 h
theorem few_row {rd : Rd → Res Tm} (hr : Few 0 0 rd) : ∀ n, Few 0 0 (rowS rd n)
  | 0 => fun st x st2 h1 h2 h => by unfold rowS at h; injection h with _ h; rw [← h]; exact ⟨h1, h2⟩
  | n + 1 => fun st x st2 h1 h2 h => by
    unfold rowS at h
    exact (Few.bind hr fun x => Few.bind (few_row hr n) fun r => Few.ok fun _ => (x :: r)) st _ st2 h1 h2 h
theorem few_count (p : Nat) (l : List UInt8) (tag : Nat) (k : UInt8) : Few p p (countS l tag k) := fun st x st2 h1 h2 h => by
  unfold countS at h
  split at h
  · cases hx : needS l tag 1 st with
    | bad k => rw [hx] at h; cases h
    | ok y s1 => rw [hx] at h; injection h with _ h; rw [← h]; exact few_need p l tag 1 st y s1 h1 h2 hx
  · exact (Few.bind (few_four p l tag) fun n => Few.ite (c := fun _ => k = 108 ∧ n = 0) (Few.bad fun _ => [⟨etfL, tag, 84⟩]) (Few.ok fun _ => n)) st _ st2 h1 h2 h
theorem few_far (l : List UInt8) (tag : Nat) (k : UInt8) : Few 1 0 (farS l tag k) := fun st x st2 h1 h2 h => by
  unfold farS at h
  split at h
  · unfold pidS at h
    exact (Few.bind (few_nam l tag 12) fun s => Few.bind (few_four 0 l tag) fun a => Few.bind (few_four 0 l tag) fun b => Few.bind (few_four 0 l tag) fun c => Few.ok fun _ => (.mk 4 0 s c [(a : Int), (b : Int)] [] : Tm)) st _ st2 h1 h2 h
  · unfold refS at h
    cases hx : needS l tag 2 st with
    | bad k => rw [hx] at h; cases h
    | ok y s1 =>
      obtain ⟨h3, h4⟩ := few_need 1 l tag 2 st y s1 h1 h2 hx
      rw [hx] at h
      simp only [Res.bind] at h
      split at h
      · cases h
      · exact (Few.bind (few_nam l tag 16) fun s => Few.bind (few_four 0 l tag) fun c => Few.bind (few_nums 0 l tag 3) fun ns => Few.ok fun _ => (.mk 3 0 s c ns [] : Tm)) s1 _ st2 h3 h4 h
theorem few_body (l : List UInt8) {rd : Rd → Res Tm} (hr : Few 0 0 rd) (tag : Nat) (k : UInt8) : Few 1 0 (bodyS l rd tag k) := fun st x st2 h1 h2 h => by
  have h0 : st.atoms.length + 0 ≤ st.part := by omega
  unfold bodyS at h
  split at h
  · cases hx : needS l tag 1 st with
    | bad k => rw [hx] at h; cases h
    | ok y s1 => rw [hx] at h; injection h with _ h; rw [← h]; exact few_need 0 l tag 1 st y s1 h0 h2 hx
  · split at h
    · exact (Few.bind (few_four 0 l tag) fun n => Few.ok fun _ => (.mk 1 (sInt n) ⟨#[]⟩ 0 [] [] : Tm)) st _ st2 h0 h2 h
    · split at h
      · cases hy : txtS l tag (k == 118) 0 st with
        | bad k => rw [hy] at h; cases h
        | ok z s2 =>
          obtain ⟨h5, h6⟩ := few_txt (p := 1) st z s2 h1 h2 hy
          rw [hy] at h
          simp only [Res.bind] at h
          split at h
          · cases h
          · injection h with _ h
            rw [← h]
            exact ⟨by rw [List.length_append]; exact h5, h6⟩
      · split at h
        · exact (Few.bind (few_count 0 l tag k) fun n => Few.bind (few_row hr n) fun r => Few.ok fun _ => (.mk 5 0 ⟨#[]⟩ 0 [] r : Tm)) st _ st2 h0 h2 h
        · split at h
          · injection h with _ h; rw [← h]; exact ⟨h0, h2⟩
          · split at h
            · exact (Few.bind (few_count 0 l tag k) fun n => Few.bind (few_row hr n) fun r => Few.bind hr fun t => Few.ok fun _ => joinS r t) st _ st2 h0 h2 h
            · exact few_far l tag k st x st2 h1 h2 h
theorem few_term (l : List UInt8) : ∀ f, Few 0 0 (termS l f)
  | 0 => fun st x st2 _ _ h => by unfold termS at h; split at h <;> cases h
  | f + 1 => fun st x st2 h1 h2 h => by
    rw [termS] at h
    split at h
    · cases h
    · rename_i hp
      split at h
      · cases h
      · split at h
        · cases h
        · exact (Few.bind (few_need 1 l st.at_ 1) fun _ => few_body l (few_term l f) st.at_ (l.getD st.at_ 0)) ⟨st.at_, st.part + 1, st.atoms⟩ x st2 (by show st.atoms.length + 1 ≤ st.part + 1; omega) (by show st.part + 1 ≤ 4096; omega) h
theorem read_few {l : List UInt8} {t : Tm} {st : Rd} (h : readS l = .ok t st) : st.atoms.length ≤ 5000 := by
  unfold readS at h
  split at h
  · have := few_term l 256 ⟨1, 0, []⟩ t st (Nat.le_refl _) (Nat.zero_le _) h
    omega
  · cases h
end Go.Proofs.YtlahagabcnmdiaaGreatDoor
end
section
/- Package etf: Decode, where there is a table. Printed by wip/esb.py. -/
open Go Go.RowKit
namespace Go.Proofs.YtlahagabcnmdiaaGreatDoor
set_option linter.unusedVariables false
set_option linter.unusedSimpArgs false

def DocP (w : World) (r : Res Tm) (e : Ending) (w' : World) : Prop :=
  match r with
  | .ok t st => ∃ vs, e = .returned (.tuple #[.agg vs.toArray, .int .i64 st.at_, .nilIface]) ∧ TmAt (fun q => w.heap.size ≤ q) t vs w'
  | .bad k => ∃ b, e = .returned (.tuple #[.agg termZ.toArray, .int .i64 0, .iface 96 (.pointer (some ⟨b, 0, none⟩))]) ∧ ErrIs w' (.iface 96 (.pointer (some ⟨b, 0, none⟩))) k ∧ k ≠ []
def WhoP (w : World) (r : Res Tm) (e : Ending) (w' : World) : Prop :=
  match r with
  | .ok t st => ∃ vs, e = .returned (.tuple #[.agg vs.toArray, .nilIface]) ∧ TmAt (fun q => w.heap.size ≤ q) t vs w'
  | .bad k => ∃ b, e = .returned (.tuple #[.agg termZ.toArray, .iface 96 (.pointer (some ⟨b, 0, none⟩))]) ∧ ErrIs w' (.iface 96 (.pointer (some ⟨b, 0, none⟩))) k ∧ k ≠ []
theorem decP_full {limit : Int} {tl : List ByteArray} {t : Tm} {st : Rd} (h : fullS limit tl st.atoms = true) : decP (.ok t st) (some (limit, tl)) = (.bad [⟨etfL, 0, 85⟩], []) := by
  unfold decP
  exact if_pos (of_decide_eq_true h)
theorem decP_room {limit : Int} {tl : List ByteArray} {t : Tm} {st : Rd} (h : fullS limit tl st.atoms = false) : decP (.ok t st) (some (limit, tl)) = (.ok t st, freshS tl st.atoms) := by
  unfold decP
  exact if_neg (of_decide_eq_false h)
set_option maxHeartbeats 8000000 in
set_option maxRecDepth 100000 in
theorem decode_tab {limit : Int} {gt : Nat} {tl : List ByteArray} {F : Nat → Prop} {w0 : World} (l : List UInt8) (v : Value) (w : World) (hv : RSl v l w) (hG : Gt w) (htb : TabIs limit gt tl F w) (hw : Below w0.heap.size w0 w) (hF : ∀ b, F b → w0.heap.size ≤ b) (hG0 : Gt w0) :
    Calls Tryz.prog 19 #[v, .pointer (some ⟨gt, 0, none⟩)] w fun e w' => DocP w (decP (readS l) (some (limit, tl))).1 e w' ∧ PutP limit gt (putAll limit tl (decP (readS l) (some (limit, tl))).2) F w w' := by
  obtain ⟨va, vc, rfl⟩ : ∃ a c, v = .slice a l.length c := by obtain ⟨a, c, e, _⟩ := hv; exact ⟨a, c, e⟩
  have BX := Lib.hid ((Below.refl w.heap.size w).alloc (Nat.le_refl _) (.cells #[.int .i64 0, .int .i64 0, .string ⟨#[]⟩, .int .u32 0, .slice none 0 0, .slice none 0 0] 35 (0, 0)))
  have R1 := Lib.hid (show Cells (w.alloc (.cells #[.int .i64 0, .int .i64 0, .string ⟨#[]⟩, .int .u32 0, .slice none 0 0, .slice none 0 0] 35 (0, 0))) w.heap.size 35 termZ from Cells.new w 35 termZ)
  have SZ1 := Lib.hid (show (w.alloc (.cells #[.int .i64 0, .int .i64 0, .string ⟨#[]⟩, .int .u32 0, .slice none 0 0, .slice none 0 0] 35 (0, 0))).heap.size = w.heap.size + 1 from by simp)
  have HD := Lib.hid (read_any l (.slice va l.length vc) _ (hv.below BX.out) (hG.below BX.out))
  have HFW := Lib.hid (fun t st (h : readS l = .ok t st) => read_few h)
  have HSW := Lib.hid (fun t st (h : readS l = .ok t st) => read_small h)
  have HTB0 := Lib.hid htb
  have HFL := Lib.hid (show ∀ b, F b → b < w.heap.size from fun b h => (htb.nf b h).1)
  have HW0 := Lib.hid hw
  have HFB := Lib.hid hF
  have HG0 := Lib.hid hG0
  generalize readS l = r at *
  clear hv htb hG hw hF hG0
  go_enter Tryz.func19, Tryz.ntmps19
  go_upto_region 1 with (fail)
  generalize w.alloc (.cells #[.int .i64 0, .int .i64 0, .string ⟨#[]⟩, .int .u32 0, .slice none 0 0, .slice none 0 0] 35 (0, 0)) = w1 at *
  unfold termZ at *
  go_wp2_with fail
  refine HD.out.mono ?_
  intro e w2 hr
  have HRR := Lib.hid hr
  clear hr
  cases r with
  | ok t st =>
    have HFX := Lib.hid (HFW.out t st rfl)
    have HSX := Lib.hid (HSW.out t st rfl)
    obtain ⟨vs, av, rfl, ht, has, hao, hb⟩ := HRR.out
    obtain ⟨na5, nc5, a5, cap5, rfl⟩ := ht.nums5
    have R2 := Lib.hid (R1.out.below hb)
    have B2 := Lib.hid (BX.out.trans (hb.mono BX.out.size))
    have BT := Lib.hid ((Below.refl w2.heap.size w2).alloc (Nat.le_refl _) (.cells #[.int .i64 t.kind, .int .i64 t.int, .string t.text, .int .u32 t.cr, .slice na5 t.nums.length nc5, .slice a5 t.args.length cap5] 35 (0, 0)))
    have T3 := Lib.hid (Cells.new w2 35 [.int .i64 t.kind, .int .i64 t.int, .string t.text, .int .u32 t.cr, .slice na5 t.nums.length nc5, .slice a5 t.args.length cap5])
    have R3 := Lib.hid (R2.out.below BT.out)
    have B3 := Lib.hid (B2.out.trans (BT.out.mono B2.out.size))
    have LW := Lib.hid B2.out.size
    have HT3 := Lib.hid (ht.below BT.out)
    obtain ⟨a6, c6, rfl⟩ : ∃ a c, av = .slice a st.atoms.length c := by
      obtain ⟨a, c, e, _⟩ := has.get
      exact ⟨a, c, e⟩
    have HTB3 := Lib.hid (HTB0.out.below B3.out)
    have HAS3 := Lib.hid (has.below BT.out)
    have HAV := Lib.hid (show ∀ q, (Value.slice a6 st.atoms.length c6).ownBlock = some q → ¬ F q from fun q hq e => by have := HFL.out q e; have := hao q hq; have := SZ1.out; omega)
    have HBW := Lib.hid (HW0.out.trans (B3.out.mono HW0.out.size))
    have HPU := Lib.hid (put_any HTB3.out HAS3.out HAV.out HFX.out (fun s hs => HSX.out s hs) HBW.out HFB.out HG0.out.t HG0.out.e)
    clear ht has hao hb HD HRR HFW HSW
    go_upto_region 2 with (fail)
    generalize w2.alloc (.cells #[.int .i64 t.kind, .int .i64 t.int, .string t.text, .int .u32 t.cr, .slice na5 t.nums.length nc5, .slice a5 t.args.length cap5] 35) = w3 at *
    clear BT B2 BX R1 R2
    go_wp2_with fail
    refine HPU.out.mono ?_
    intro e w9 hr9
    cases hf : fullS limit tl st.atoms with
    | true =>
      unfold PutA at hr9
      rw [hf] at hr9
      obtain ⟨⟨b, rfl, her⟩, hb9⟩ := hr9
      have HDX := Lib.hid (decP_full (t := t) hf)
      have R9 := Lib.hid (R3.out.below hb9)
      have B9 := Lib.hid (B3.out.trans (hb9.mono B3.out.size))
      have HE9 := Lib.hid her
      clear her hb9 hf
      go_wp2_with (refine wpList_store_blk rfl _ (.tmp 4) (.tmp 25) rfl w.heap.size 0 [.int .i64 0, .int .i64 0, .string ⟨#[]⟩, .int .u32 0, .slice none 0 0, .slice none 0 0] (by rfl) (by rfl) (by kernel_rfl) (by simp [Value.oneCell']) 35 _ R9.out (by show 0 + 6 ≤ 6; decide) ?_; intro wz hCz hgz; refine stop ?_)
      refine Stopped.of ?_
      have C0 : Cells wz w.heap.size 35 [.int .i64 0, .int .i64 0, .string ⟨#[]⟩, .int .u32 0, .slice none 0 0, .slice none 0 0] := hCz
      have z0 := C0.cell 0
      have z1 := C0.cell 1
      have z2 := C0.cell 2
      have z3 := C0.cell 3
      have z4 := C0.cell 4
      have z5 := C0.cell 5
      simp only [List.getElem?_cons_zero, List.getElem?_cons_succ] at z0 z1 z2 z3 z4 z5
      have KZ := Lib.hid (show Keep (fun q => q = w.heap.size) w9 wz from (Keep.refl _ _).grown hgz (fun k hk _ => by cases hk; rfl))
      clear C0 hCz hgz
      go_wp2
      refine bodyPost_ret (v := .tuple #[.agg #[.int .i64 0, .int .i64 0, .string ⟨#[]⟩, .int .u32 0, .slice none 0 0, .slice none 0 0], .int .i64 0, .iface 96 (.pointer (some ⟨b, 0, none⟩))]) (by simp [results, Tryz.results19, go_sem, z0, z1, z2, z3, z4, z5]) rfl ?_
      rw [HDX.out]
      refine ⟨⟨b, rfl, HE9.out.keepT KZ.out (fun q (hq : q = w.heap.size) => by rw [hq]; exact ⟨_, _, R9.out, by decide⟩), by simp⟩, ⟨F, (HTB0.out.below B9.out).keep KZ.out (fun b (e : b = w.heap.size) h => by have := HFL.out b h; omega), (keepB (S := F) B9.out).trans KZ.out (fun q hq (e : q = w.heap.size) => absurd hq (by omega)), fun b h => .inl h⟩⟩
    | false =>
      unfold PutA at hr9
      rw [hf] at hr9
      obtain ⟨rfl, F', htb, hkp, hf'⟩ := hr9
      have HDX := Lib.hid (decP_room (t := t) hf)
      have HTB := Lib.hid htb
      have HK := Lib.hid hkp
      have HF' := Lib.hid hf'
      have R9 := Lib.hid (R3.out.keep HK.out (fun e => by have := HFL.out _ e; omega))
      have T9 := Lib.hid (T3.out.keep HK.out (fun e => by have := HFL.out _ e; have := LW.out; omega))
      have HT9 := Lib.hid (HT3.out.keep HK.out (fun q _ hq e => by have := HFL.out _ e; have := hq.1; have := SZ1.out; omega))
      clear htb hkp hf' hf
      have m0 := T9.out.cell 0
      have m1 := T9.out.cell 1
      have m2 := T9.out.cell 2
      have m3 := T9.out.cell 3
      have m4 := T9.out.cell 4
      have m5 := T9.out.cell 5
      simp only [List.getElem?_cons_zero, List.getElem?_cons_succ] at m0 m1 m2 m3 m4 m5
      go_wp2_with (refine wpList_store_blk rfl _ (.tmp 4) (.tmp 27) rfl w.heap.size 0 [.int .i64 t.kind, .int .i64 t.int, .string t.text, .int .u32 t.cr, .slice na5 t.nums.length nc5, .slice a5 t.args.length cap5] (by rfl) (by rfl) (by kernel_rfl) (by simp [Value.oneCell']) 35 _ R9.out (by show 0 + 6 ≤ 6; decide) ?_; intro wz hCz hgz; refine stop ?_)
      refine Stopped.of ?_
      clear m0 m1 m2 m3 m4 m5
      have C0 : Cells wz w.heap.size 35 [.int .i64 t.kind, .int .i64 t.int, .string t.text, .int .u32 t.cr, .slice na5 t.nums.length nc5, .slice a5 t.args.length cap5] := hCz
      have z0 := C0.cell 0
      have z1 := C0.cell 1
      have z2 := C0.cell 2
      have z3 := C0.cell 3
      have z4 := C0.cell 4
      have z5 := C0.cell 5
      simp only [List.getElem?_cons_zero, List.getElem?_cons_succ] at z0 z1 z2 z3 z4 z5
      have KZ := Lib.hid (show Keep (fun q => q = w.heap.size) w9 wz from (Keep.refl _ _).grown hgz (fun k hk _ => by cases hk; rfl))
      clear C0 hCz hgz
      go_wp2
      refine bodyPost_ret (v := .tuple #[.agg #[.int .i64 t.kind, .int .i64 t.int, .string t.text, .int .u32 t.cr, .slice na5 t.nums.length nc5, .slice a5 t.args.length cap5], .int .i64 st.at_, .nilIface]) (by simp [results, Tryz.results19, go_sem, z0, z1, z2, z3, z4, z5]) rfl ?_
      rw [HDX.out]
      show DocP w (.ok t st) _ _ ∧ PutP limit gt (putAll limit tl (freshS tl st.atoms)) F w _
      rw [putAll_fresh]
      refine ⟨⟨_, rfl, (HT9.out.keep KZ.out (fun q _ hq (e : q = w.heap.size) => by have := hq.1; have := SZ1.out; omega)).mono (fun q _ hq => by have := hq.1; have := SZ1.out; omega)⟩, ⟨F', HTB.out.keep KZ.out (fun b (e : b = w.heap.size) h => (HF'.out b h).elim (fun h => by have := HFL.out b h; omega) (fun h => by have := R3.out.lt; omega)), (((keepB (S := F) B3.out).trans HK.out (fun _ _ h => h)).trans KZ.out (fun q hq (e : q = w.heap.size) => absurd hq (by omega))), fun b h => (HF'.out b h).imp id (Nat.le_trans B3.out.size)⟩⟩
  | bad k =>
    obtain ⟨b, rfl, he, hne, hb⟩ := HRR.out
    have R2 := Lib.hid (R1.out.below hb)
    have B2 := Lib.hid (BX.out.trans (hb.mono BX.out.size))
    have BT := Lib.hid ((Below.refl w2.heap.size w2).alloc (Nat.le_refl _) (.cells #[.int .i64 0, .int .i64 0, .string ⟨#[]⟩, .int .u32 0, .slice none 0 0, .slice none 0 0] 35 (0, 0)))
    have T3 := Lib.hid (Cells.new w2 35 [.int .i64 0, .int .i64 0, .string ⟨#[]⟩, .int .u32 0, .slice none 0 0, .slice none 0 0])
    have R3 := Lib.hid (R2.out.below BT.out)
    have B3 := Lib.hid (B2.out.trans (BT.out.mono B2.out.size))
    have LW := Lib.hid B2.out.size
    have HE3 := Lib.hid (he.below BT.out)
    have HNE := Lib.hid hne
    clear he hne hb HD HRR HFW HSW
    unfold termZ at *
    go_upto_region 4 with (fail)
    generalize w2.alloc (.cells #[.int .i64 0, .int .i64 0, .string ⟨#[]⟩, .int .u32 0, .slice none 0 0, .slice none 0 0] 35) = w3 at *
    clear BT B2 BX R1 R2
    go_wp2_with (refine wpList_store_blk rfl _ (.tmp 4) (.tmp 25) rfl w.heap.size 0 [.int .i64 0, .int .i64 0, .string ⟨#[]⟩, .int .u32 0, .slice none 0 0, .slice none 0 0] (by rfl) (by rfl) (by kernel_rfl) (by simp [Value.oneCell']) 35 _ R3.out (by show 0 + 6 ≤ 6; decide) ?_; intro wz hCz hgz; refine stop ?_)
    refine Stopped.of ?_
    have C0 : Cells wz w.heap.size 35 [.int .i64 0, .int .i64 0, .string ⟨#[]⟩, .int .u32 0, .slice none 0 0, .slice none 0 0] := hCz
    have z0 := C0.cell 0
    have z1 := C0.cell 1
    have z2 := C0.cell 2
    have z3 := C0.cell 3
    have z4 := C0.cell 4
    have z5 := C0.cell 5
    simp only [List.getElem?_cons_zero, List.getElem?_cons_succ] at z0 z1 z2 z3 z4 z5
    have KZ := Lib.hid (show Keep (fun q => q = w.heap.size) w3 wz from (Keep.refl _ _).grown hgz (fun k hk _ => by cases hk; rfl))
    clear C0 hCz hgz
    go_wp2
    refine bodyPost_ret (v := .tuple #[.agg #[.int .i64 0, .int .i64 0, .string ⟨#[]⟩, .int .u32 0, .slice none 0 0, .slice none 0 0], .int .i64 0, .iface 96 (.pointer (some ⟨b, 0, none⟩))]) (by simp [results, Tryz.results19, go_sem, z0, z1, z2, z3, z4, z5]) rfl ?_
    refine ⟨⟨b, rfl, HE3.out.keepT KZ.out (fun q (hq : q = w.heap.size) => by rw [hq]; exact ⟨_, _, R3.out, by decide⟩), HNE.out⟩, ⟨F, (HTB0.out.below B3.out).keep KZ.out (fun b (e : b = w.heap.size) h => by have := HFL.out b h; omega), (keepB (S := F) B3.out).trans KZ.out (fun q hq (e : q = w.heap.size) => absurd hq (by omega)), fun b h => .inl h⟩⟩
end Go.Proofs.YtlahagabcnmdiaaGreatDoor
end
section
/- Package etf: Whole, where there is a table. Printed by wip/esb.py. -/
open Go Go.RowKit
namespace Go.Proofs.YtlahagabcnmdiaaGreatDoor
set_option linter.unusedVariables false
set_option linter.unusedSimpArgs false

set_option maxHeartbeats 16000000 in
set_option maxRecDepth 100000 in
theorem whole_tab {limit : Int} {gt : Nat} {tl : List ByteArray} {F : Nat → Prop} {w0 : World} (l : List UInt8) (v : Value) (w : World) (hv : RSl v l w) (hG : Gt w) (htb : TabIs limit gt tl F w) (hw : Below w0.heap.size w0 w) (hF : ∀ b, F b → w0.heap.size ≤ b) (hG0 : Gt w0) :
    Calls Tryz.prog 24 #[v, .pointer (some ⟨gt, 0, none⟩)] w fun e w' => WhoP w (whoP l.length (decP (readS l) (some (limit, tl)))).1 e w' ∧ PutP limit gt (putAll limit tl (whoP l.length (decP (readS l) (some (limit, tl)))).2) F w w' := by
  obtain ⟨va, vc, rfl⟩ : ∃ a c, v = .slice a l.length c := by obtain ⟨a, c, e, _⟩ := hv; exact ⟨a, c, e⟩
  have BX := Lib.hid ((Below.refl w.heap.size w).alloc (Nat.le_refl _) (.cells #[.int .i64 0, .int .i64 0, .string ⟨#[]⟩, .int .u32 0, .slice none 0 0, .slice none 0 0] 35 (0, 0)))
  have R1 := Lib.hid (show Cells (w.alloc (.cells #[.int .i64 0, .int .i64 0, .string ⟨#[]⟩, .int .u32 0, .slice none 0 0, .slice none 0 0] 35 (0, 0))) w.heap.size 35 termZ from Cells.new w 35 termZ)
  have SZ1 := Lib.hid (show (w.alloc (.cells #[.int .i64 0, .int .i64 0, .string ⟨#[]⟩, .int .u32 0, .slice none 0 0, .slice none 0 0] 35 (0, 0))).heap.size = w.heap.size + 1 from by simp)
  have HD := Lib.hid (read_any l (.slice va l.length vc) _ (hv.below BX.out) (hG.below BX.out))
  have HFW := Lib.hid (fun t st (h : readS l = .ok t st) => read_few h)
  have HSW := Lib.hid (fun t st (h : readS l = .ok t st) => read_small h)
  have HTB0 := Lib.hid htb
  have HFL := Lib.hid (show ∀ b, F b → b < w.heap.size from fun b h => (htb.nf b h).1)
  have HW0 := Lib.hid hw
  have HFB := Lib.hid hF
  have HG0 := Lib.hid hG0
  generalize readS l = r at *
  clear hv htb hG hw hF hG0
  go_enter Tryz.func24, Tryz.ntmps24
  go_upto_region 1 with (fail)
  generalize w.alloc (.cells #[.int .i64 0, .int .i64 0, .string ⟨#[]⟩, .int .u32 0, .slice none 0 0, .slice none 0 0] 35 (0, 0)) = w1 at *
  unfold termZ at *
  go_wp2_with fail
  refine HD.out.mono ?_
  intro e w2 hr
  have HRR := Lib.hid hr
  clear hr
  cases r with
  | ok t st =>
    have HFX := Lib.hid (HFW.out t st rfl)
    have HSX := Lib.hid (HSW.out t st rfl)
    obtain ⟨vs, av, rfl, ht, has, hao, hb⟩ := HRR.out
    obtain ⟨na5, nc5, a5, cap5, rfl⟩ := ht.nums5
    have R2 := Lib.hid (R1.out.below hb)
    have B2 := Lib.hid (BX.out.trans (hb.mono BX.out.size))
    have BT := Lib.hid ((Below.refl w2.heap.size w2).alloc (Nat.le_refl _) (.cells #[.int .i64 t.kind, .int .i64 t.int, .string t.text, .int .u32 t.cr, .slice na5 t.nums.length nc5, .slice a5 t.args.length cap5] 35 (0, 0)))
    have T3 := Lib.hid (Cells.new w2 35 [.int .i64 t.kind, .int .i64 t.int, .string t.text, .int .u32 t.cr, .slice na5 t.nums.length nc5, .slice a5 t.args.length cap5])
    have R3 := Lib.hid (R2.out.below BT.out)
    have B3 := Lib.hid (B2.out.trans (BT.out.mono B2.out.size))
    have LW := Lib.hid B2.out.size
    have HT3 := Lib.hid (ht.below BT.out)
    obtain ⟨a6, c6, rfl⟩ : ∃ a c, av = .slice a st.atoms.length c := by
      obtain ⟨a, c, e, _⟩ := has.get
      exact ⟨a, c, e⟩
    have HTB3 := Lib.hid (HTB0.out.below B3.out)
    have HAS3 := Lib.hid (has.below BT.out)
    have HAV := Lib.hid (show ∀ q, (Value.slice a6 st.atoms.length c6).ownBlock = some q → ¬ F q from fun q hq e => by have := HFL.out q e; have := hao q hq; have := SZ1.out; omega)
    have HBW := Lib.hid (HW0.out.trans (B3.out.mono HW0.out.size))
    have HPU := Lib.hid (put_any HTB3.out HAS3.out HAV.out HFX.out (fun s hs => HSX.out s hs) HBW.out HFB.out HG0.out.t HG0.out.e)
    have HRO := Lib.hid (room_any HTB3.out HAS3.out HFX.out (fun s hs => HSX.out s hs))
    clear ht has hao hb HD HRR HFW HSW
    by_cases hlt : st.at_ < l.length
    · have hli : (st.at_ : Int) < (l.length : Int) := by omega
      have HLT := Lib.hid hlt
      clear hlt
      go_wp2_with fail
      generalize w2.alloc (.cells #[.int .i64 t.kind, .int .i64 t.int, .string t.text, .int .u32 t.cr, .slice na5 t.nums.length nc5, .slice a5 t.args.length cap5] 35) = w3 at *
      clear BT B2 BX R1 R2 HPU
      refine HRO.out.mono ?_
      intro e w4 hr4
      cases hf : fullS limit tl st.atoms with
      | true =>
        rw [hf] at hr4
        obtain ⟨⟨b, rfl, her⟩, hb9⟩ := hr4
        have HDX := Lib.hid (decP_full (t := t) hf)
        have R9 := Lib.hid (R3.out.below hb9)
        have B9 := Lib.hid (B3.out.trans (hb9.mono B3.out.size))
        have HE9 := Lib.hid her
        clear her hb9 hf hli
        go_wp2_with (refine wpList_store_blk rfl _ (.tmp 4) (.tmp 31) rfl w.heap.size 0 [.int .i64 0, .int .i64 0, .string ⟨#[]⟩, .int .u32 0, .slice none 0 0, .slice none 0 0] (by rfl) (by rfl) (by kernel_rfl) (by simp [Value.oneCell']) 35 _ R9.out (by show 0 + 6 ≤ 6; decide) ?_; intro wz hCz hgz; refine stop ?_)
        refine Stopped.of ?_
        have C0 : Cells wz w.heap.size 35 [.int .i64 0, .int .i64 0, .string ⟨#[]⟩, .int .u32 0, .slice none 0 0, .slice none 0 0] := hCz
        have z0 := C0.cell 0
        have z1 := C0.cell 1
        have z2 := C0.cell 2
        have z3 := C0.cell 3
        have z4 := C0.cell 4
        have z5 := C0.cell 5
        simp only [List.getElem?_cons_zero, List.getElem?_cons_succ] at z0 z1 z2 z3 z4 z5
        have KZ := Lib.hid (show Keep (fun q => q = w.heap.size) w4 wz from (Keep.refl _ _).grown hgz (fun k hk _ => by cases hk; rfl))
        clear C0 hCz hgz
        go_wp2
        refine bodyPost_ret (v := .tuple #[.agg #[.int .i64 0, .int .i64 0, .string ⟨#[]⟩, .int .u32 0, .slice none 0 0, .slice none 0 0], .iface 96 (.pointer (some ⟨b, 0, none⟩))]) (by simp [results, Tryz.results24, go_sem, z0, z1, z2, z3, z4, z5]) rfl ?_
        rw [HDX.out]
        refine ⟨⟨b, rfl, HE9.out.keepT KZ.out (fun q (hq : q = w.heap.size) => by rw [hq]; exact ⟨_, _, R9.out, by decide⟩), by simp⟩, ⟨F, (HTB0.out.below B9.out).keep KZ.out (fun b (e : b = w.heap.size) h => by have := HFL.out b h; omega), (keepB (S := F) B9.out).trans KZ.out (fun q hq (e : q = w.heap.size) => absurd hq (by omega)), fun b h => .inl h⟩⟩
      | false =>
        rw [hf] at hr4
        obtain ⟨rfl, hb9⟩ := hr4
        have HDX := Lib.hid (show whoP l.length (decP (.ok t st) (some (limit, tl))) = (.bad [⟨etfL, st.at_, 86⟩], []) from by rw [decP_room (t := t) hf]; exact if_pos HLT.out)
        have R8 := Lib.hid (R3.out.below hb9)
        have B8 := Lib.hid (B3.out.trans (hb9.mono B3.out.size))
        have HFA := Lib.hid (etFault_any st.at_ 86 .nilIface [] w4 rfl)
        clear hb9 hf hli
        go_wp2_with fail
        refine HFA.out.mono ?_
        rintro e w5 ⟨b, rfl, her, hb5⟩
        have HE9 := Lib.hid her
        have R9 := Lib.hid (R8.out.below hb5)
        have B9 := Lib.hid (B8.out.trans (hb5.mono B8.out.size))
        clear her hb5 HFA
        go_wp2_with (refine wpList_store_blk rfl _ (.tmp 4) (.tmp 33) rfl w.heap.size 0 [.int .i64 0, .int .i64 0, .string ⟨#[]⟩, .int .u32 0, .slice none 0 0, .slice none 0 0] (by rfl) (by rfl) (by kernel_rfl) (by simp [Value.oneCell']) 35 _ R9.out (by show 0 + 6 ≤ 6; decide) ?_; intro wz hCz hgz; refine stop ?_)
        refine Stopped.of ?_
        have C0 : Cells wz w.heap.size 35 [.int .i64 0, .int .i64 0, .string ⟨#[]⟩, .int .u32 0, .slice none 0 0, .slice none 0 0] := hCz
        have z0 := C0.cell 0
        have z1 := C0.cell 1
        have z2 := C0.cell 2
        have z3 := C0.cell 3
        have z4 := C0.cell 4
        have z5 := C0.cell 5
        simp only [List.getElem?_cons_zero, List.getElem?_cons_succ] at z0 z1 z2 z3 z4 z5
        have KZ := Lib.hid (show Keep (fun q => q = w.heap.size) w5 wz from (Keep.refl _ _).grown hgz (fun k hk _ => by cases hk; rfl))
        clear C0 hCz hgz
        go_wp2
        refine bodyPost_ret (v := .tuple #[.agg #[.int .i64 0, .int .i64 0, .string ⟨#[]⟩, .int .u32 0, .slice none 0 0, .slice none 0 0], .iface 96 (.pointer (some ⟨b, 0, none⟩))]) (by simp [results, Tryz.results24, go_sem, z0, z1, z2, z3, z4, z5]) rfl ?_
        rw [HDX.out]
        refine ⟨⟨b, rfl, HE9.out.keepT KZ.out (fun q (hq : q = w.heap.size) => by rw [hq]; exact ⟨_, _, R9.out, by decide⟩), by simp⟩, ⟨F, (HTB0.out.below B9.out).keep KZ.out (fun b (e : b = w.heap.size) h => by have := HFL.out b h; omega), (keepB (S := F) B9.out).trans KZ.out (fun q hq (e : q = w.heap.size) => absurd hq (by omega)), fun b h => .inl h⟩⟩
    · have hli : ¬ (st.at_ : Int) < (l.length : Int) := by omega
      have hli2 : decide ((st.at_ : Int) < (l.length : Int)) = false := by simpa using hli
      have HLT := Lib.hid hlt
      clear hlt HRO
      go_wp2_with fail
      generalize w2.alloc (.cells #[.int .i64 t.kind, .int .i64 t.int, .string t.text, .int .u32 t.cr, .slice na5 t.nums.length nc5, .slice a5 t.args.length cap5] 35) = w3 at *
      clear BT B2 BX R1 R2
      refine HPU.out.mono ?_
      intro e w9 hr9
      cases hf : fullS limit tl st.atoms with
      | true =>
        unfold PutA at hr9
        rw [hf] at hr9
        obtain ⟨⟨b, rfl, her⟩, hb9⟩ := hr9
        have HDX := Lib.hid (decP_full (t := t) hf)
        have R9 := Lib.hid (R3.out.below hb9)
        have B9 := Lib.hid (B3.out.trans (hb9.mono B3.out.size))
        have HE9 := Lib.hid her
        clear her hb9 hf
        go_wp2_with (refine wpList_store_blk rfl _ (.tmp 4) (.tmp 44) rfl w.heap.size 0 [.int .i64 0, .int .i64 0, .string ⟨#[]⟩, .int .u32 0, .slice none 0 0, .slice none 0 0] (by rfl) (by rfl) (by kernel_rfl) (by simp [Value.oneCell']) 35 _ R9.out (by show 0 + 6 ≤ 6; decide) ?_; intro wz hCz hgz; refine stop ?_)
        refine Stopped.of ?_
        have C0 : Cells wz w.heap.size 35 [.int .i64 0, .int .i64 0, .string ⟨#[]⟩, .int .u32 0, .slice none 0 0, .slice none 0 0] := hCz
        have z0 := C0.cell 0
        have z1 := C0.cell 1
        have z2 := C0.cell 2
        have z3 := C0.cell 3
        have z4 := C0.cell 4
        have z5 := C0.cell 5
        simp only [List.getElem?_cons_zero, List.getElem?_cons_succ] at z0 z1 z2 z3 z4 z5
        have KZ := Lib.hid (show Keep (fun q => q = w.heap.size) w9 wz from (Keep.refl _ _).grown hgz (fun k hk _ => by cases hk; rfl))
        clear C0 hCz hgz
        go_wp2
        refine bodyPost_ret (v := .tuple #[.agg #[.int .i64 0, .int .i64 0, .string ⟨#[]⟩, .int .u32 0, .slice none 0 0, .slice none 0 0], .iface 96 (.pointer (some ⟨b, 0, none⟩))]) (by simp [results, Tryz.results24, go_sem, z0, z1, z2, z3, z4, z5]) rfl ?_
        rw [HDX.out]
        refine ⟨⟨b, rfl, HE9.out.keepT KZ.out (fun q (hq : q = w.heap.size) => by rw [hq]; exact ⟨_, _, R9.out, by decide⟩), by simp⟩, ⟨F, (HTB0.out.below B9.out).keep KZ.out (fun b (e : b = w.heap.size) h => by have := HFL.out b h; omega), (keepB (S := F) B9.out).trans KZ.out (fun q hq (e : q = w.heap.size) => absurd hq (by omega)), fun b h => .inl h⟩⟩
      | false =>
        unfold PutA at hr9
        rw [hf] at hr9
        obtain ⟨rfl, F', htb, hkp, hf'⟩ := hr9
        have HDX := Lib.hid (decP_room (t := t) hf)
        have HTB := Lib.hid htb
        have HK := Lib.hid hkp
        have HF' := Lib.hid hf'
        have R9 := Lib.hid (R3.out.keep HK.out (fun e => by have := HFL.out _ e; omega))
        have T9 := Lib.hid (T3.out.keep HK.out (fun e => by have := HFL.out _ e; have := LW.out; omega))
        have HT9 := Lib.hid (HT3.out.keep HK.out (fun q _ hq e => by have := HFL.out _ e; have := hq.1; have := SZ1.out; omega))
        clear htb hkp hf' hf
        have m0 := T9.out.cell 0
        have m1 := T9.out.cell 1
        have m2 := T9.out.cell 2
        have m3 := T9.out.cell 3
        have m4 := T9.out.cell 4
        have m5 := T9.out.cell 5
        simp only [List.getElem?_cons_zero, List.getElem?_cons_succ] at m0 m1 m2 m3 m4 m5
        go_wp2_with (refine wpList_store_blk rfl _ (.tmp 4) (.tmp 46) rfl w.heap.size 0 [.int .i64 t.kind, .int .i64 t.int, .string t.text, .int .u32 t.cr, .slice na5 t.nums.length nc5, .slice a5 t.args.length cap5] (by rfl) (by rfl) (by kernel_rfl) (by simp [Value.oneCell']) 35 _ R9.out (by show 0 + 6 ≤ 6; decide) ?_; intro wz hCz hgz; refine stop ?_)
        refine Stopped.of ?_
        clear m0 m1 m2 m3 m4 m5
        have C0 : Cells wz w.heap.size 35 [.int .i64 t.kind, .int .i64 t.int, .string t.text, .int .u32 t.cr, .slice na5 t.nums.length nc5, .slice a5 t.args.length cap5] := hCz
        have z0 := C0.cell 0
        have z1 := C0.cell 1
        have z2 := C0.cell 2
        have z3 := C0.cell 3
        have z4 := C0.cell 4
        have z5 := C0.cell 5
        simp only [List.getElem?_cons_zero, List.getElem?_cons_succ] at z0 z1 z2 z3 z4 z5
        have KZ := Lib.hid (show Keep (fun q => q = w.heap.size) w9 wz from (Keep.refl _ _).grown hgz (fun k hk _ => by cases hk; rfl))
        clear C0 hCz hgz
        go_wp2
        refine bodyPost_ret (v := .tuple #[.agg #[.int .i64 t.kind, .int .i64 t.int, .string t.text, .int .u32 t.cr, .slice na5 t.nums.length nc5, .slice a5 t.args.length cap5], .nilIface]) (by simp [results, Tryz.results24, go_sem, z0, z1, z2, z3, z4, z5]) rfl ?_
        rw [HDX.out]
        have e : whoP l.length (.ok t st, freshS tl st.atoms) = (.ok t st, freshS tl st.atoms) := if_neg HLT.out
        rw [e]
        show WhoP w (.ok t st) _ _ ∧ PutP limit gt (putAll limit tl (freshS tl st.atoms)) F w _
        rw [putAll_fresh]
        refine ⟨⟨_, rfl, (HT9.out.keep KZ.out (fun q _ hq (e : q = w.heap.size) => by have := hq.1; have := SZ1.out; omega)).mono (fun q _ hq => by have := hq.1; have := SZ1.out; omega)⟩, ⟨F', HTB.out.keep KZ.out (fun b (e : b = w.heap.size) h => (HF'.out b h).elim (fun h => by have := HFL.out b h; omega) (fun h => by have := R3.out.lt; omega)), (((keepB (S := F) B3.out).trans HK.out (fun _ _ h => h)).trans KZ.out (fun q hq (e : q = w.heap.size) => absurd hq (by omega))), fun b h => (HF'.out b h).imp id (Nat.le_trans B3.out.size)⟩⟩
  | bad k =>
    obtain ⟨b, rfl, he, hne, hb⟩ := HRR.out
    have R2 := Lib.hid (R1.out.below hb)
    have B2 := Lib.hid (BX.out.trans (hb.mono BX.out.size))
    have BT := Lib.hid ((Below.refl w2.heap.size w2).alloc (Nat.le_refl _) (.cells #[.int .i64 0, .int .i64 0, .string ⟨#[]⟩, .int .u32 0, .slice none 0 0, .slice none 0 0] 35 (0, 0)))
    have T3 := Lib.hid (Cells.new w2 35 [.int .i64 0, .int .i64 0, .string ⟨#[]⟩, .int .u32 0, .slice none 0 0, .slice none 0 0])
    have R3 := Lib.hid (R2.out.below BT.out)
    have B3 := Lib.hid (B2.out.trans (BT.out.mono B2.out.size))
    have LW := Lib.hid B2.out.size
    have HE3 := Lib.hid (he.below BT.out)
    have HNE := Lib.hid hne
    clear he hne hb HD HRR HFW HSW
    unfold termZ at *
    go_upto_region 9 with (fail)
    generalize w2.alloc (.cells #[.int .i64 0, .int .i64 0, .string ⟨#[]⟩, .int .u32 0, .slice none 0 0, .slice none 0 0] 35) = w3 at *
    clear BT B2 BX R1 R2
    go_wp2_with (refine wpList_store_blk rfl _ (.tmp 4) (.tmp 44) rfl w.heap.size 0 [.int .i64 0, .int .i64 0, .string ⟨#[]⟩, .int .u32 0, .slice none 0 0, .slice none 0 0] (by rfl) (by rfl) (by kernel_rfl) (by simp [Value.oneCell']) 35 _ R3.out (by show 0 + 6 ≤ 6; decide) ?_; intro wz hCz hgz; refine stop ?_)
    refine Stopped.of ?_
    have C0 : Cells wz w.heap.size 35 [.int .i64 0, .int .i64 0, .string ⟨#[]⟩, .int .u32 0, .slice none 0 0, .slice none 0 0] := hCz
    have z0 := C0.cell 0
    have z1 := C0.cell 1
    have z2 := C0.cell 2
    have z3 := C0.cell 3
    have z4 := C0.cell 4
    have z5 := C0.cell 5
    simp only [List.getElem?_cons_zero, List.getElem?_cons_succ] at z0 z1 z2 z3 z4 z5
    have KZ := Lib.hid (show Keep (fun q => q = w.heap.size) w3 wz from (Keep.refl _ _).grown hgz (fun k hk _ => by cases hk; rfl))
    clear C0 hCz hgz
    go_wp2
    refine bodyPost_ret (v := .tuple #[.agg #[.int .i64 0, .int .i64 0, .string ⟨#[]⟩, .int .u32 0, .slice none 0 0, .slice none 0 0], .iface 96 (.pointer (some ⟨b, 0, none⟩))]) (by simp [results, Tryz.results24, go_sem, z0, z1, z2, z3, z4, z5]) rfl ?_
    refine ⟨⟨b, rfl, HE3.out.keepT KZ.out (fun q (hq : q = w.heap.size) => by rw [hq]; exact ⟨_, _, R3.out, by decide⟩), HNE.out⟩, ⟨F, (HTB0.out.below B3.out).keep KZ.out (fun b (e : b = w.heap.size) h => by have := HFL.out b h; omega), (keepB (S := F) B3.out).trans KZ.out (fun q hq (e : q = w.heap.size) => absurd hq (by omega)), fun b h => .inl h⟩⟩
end Go.Proofs.YtlahagabcnmdiaaGreatDoor
end
