/- Texts laid together: TmW, TmA, TmB, TmC. -/
import Derived.Test.YtkipjbmckpmmfaaDoorV13
import Derived.Test.YtkipjbmckpmmfaaDoorV20
import Derived.Test.YtkipjbmckpmmfaaDoorV21
import Derived.Test.YtkipjbmckpmmfaaDoorV7
section
/- Layer 2, plain: which terms are terms; what is wrong with one that is none. -/
open Go Go.RowKit
namespace Go.Proofs.YtkipjbmckpmmfaaDoor

def overL (at_ : Int) (l : List Lk) : List Lk := match l with | [] => [] | k :: r => ⟨termL, at_, k.code⟩ :: k :: r
/-- the fault of a part, its Args aside -/
def partS (t : Tm) (at_ : Int) : List Lk :=
  if formS t = false then [⟨termL, at_, 40⟩]
  else if t.kind = 1 then (if t.int < -576460752303423488 ∨ 576460752303423487 < t.int then [⟨termL, at_, 2⟩] else [])
  else if t.kind = 2 then overL at_ (quoteS t.text).2
  else if t.kind = 3 ∨ t.kind = 4 then overL at_ (nodeS t.text).2.2
  else []
mutual
/-- a term is gone through: the fault, the parts so far, the depth so far -/
def walkS : Tm → Nat → Nat → Nat → List Lk × Nat × Nat
  | .mk k i s c ns al, n, dm, d =>
    if n = 4096 then ([⟨termL, n, 5⟩], n, dm)
    else if 256 < d then ([⟨termL, n, 9⟩], n, dm)
    else if partS (.mk k i s c ns al) n ≠ [] then (partS (.mk k i s c ns al) n, n, dm)
    else walkLS al (n + 1) (max dm d) (d + 1)
def walkLS : List Tm → Nat → Nat → Nat → List Lk × Nat × Nat
  | [], n, dm, _ => ([], n, dm)
  | t :: r, n, dm, d => if (walkS t n dm d).1 ≠ [] then walkS t n dm d else walkLS r (walkS t n dm d).2.1 (walkS t n dm d).2.2 d
end
/-- what is wrong with a term -/
def checkS (t : Tm) : List Lk := (walkS t 0 0 1).1
theorem walkS_eq (t : Tm) (n dm d : Nat) : walkS t n dm d =
    if n = 4096 then ([⟨termL, n, 5⟩], n, dm)
    else if 256 < d then ([⟨termL, n, 9⟩], n, dm)
    else if partS t n ≠ [] then (partS t n, n, dm)
    else walkLS t.args (n + 1) (max dm d) (d + 1) := by
  cases t; rw [walkS]; rfl
theorem walkLS_drop {l : List Tm} {i : Nat} (h : i < l.length) (n dm d : Nat) : walkLS (l.drop i) n dm d =
    if (walkS l[i] n dm d).1 ≠ [] then walkS l[i] n dm d else walkLS (l.drop (i + 1)) (walkS l[i] n dm d).2.1 (walkS l[i] n dm d).2.2 d := by
  rw [List.drop_eq_getElem_cons h, walkLS]
mutual
theorem walkS_le : ∀ (t : Tm) (n dm d : Nat), n ≤ 4096 → d ≤ 257 → dm ≤ 256 → (walkS t n dm d).2.1 ≤ 4096 ∧ (walkS t n dm d).2.2 ≤ 256
  | .mk k i s c ns al, n, dm, d, h, hd, hm => by
    rw [walkS]
    split
    · exact ⟨h, hm⟩
    · split
      · exact ⟨h, hm⟩
      · split
        · exact ⟨h, hm⟩
        · exact walkLS_le al (n + 1) (max dm d) (d + 1) (by omega) (by omega) (by omega)
theorem walkLS_le : ∀ (l : List Tm) (n dm d : Nat), n ≤ 4096 → d ≤ 257 → dm ≤ 256 → (walkLS l n dm d).2.1 ≤ 4096 ∧ (walkLS l n dm d).2.2 ≤ 256
  | [], n, dm, d, h, _, hm => by rw [walkLS]; exact ⟨h, hm⟩
  | t :: r, n, dm, d, h, hd, hm => by
    rw [walkLS]
    have h1 := walkS_le t n dm d h hd hm
    split
    · exact h1
    · exact walkLS_le r _ _ d h1.1 hd h1.2
end
theorem overL_nil {a : Int} {l : List Lk} : overL a l = [] ↔ l = [] := by cases l <;> simp [overL]
end Go.Proofs.YtkipjbmckpmmfaaDoor
end
section
/- Package term: the form of one part. Printed by wip/tma.py. -/
open Go Go.RowKit
namespace Go.Proofs.YtkipjbmckpmmfaaDoor
set_option linter.unusedSimpArgs false
set_option linter.unusedVariables false

theorem str_ne {s : ByteArray} (h : s ≠ ⟨#[]⟩) : s.toList.isEmpty = false ∧ ¬ s.toList = [] := by
  have h1 : ¬ s.toList = [] := fun e => h (eq_of_chars (by rw [toList_data] at e; exact e))
  exact ⟨by cases hq : s.toList with
    | nil => exact absurd hq h1
    | cons => rfl, h1⟩

set_option maxHeartbeats 16000000 in
set_option maxRecDepth 100000 in
theorem empty_any (k i : Int) (s : ByteArray) (c : Int) (na aa : Option Addr) (nn nc an ac : Nat) (tx nu ar : Bool) (w : World) :
    Calls Tryd.prog 65 #[.agg #[.int .i64 k, .int .i64 i, .string s, .int .u32 c, .slice na nn nc, .slice aa an ac], .bool tx, .bool nu, .bool ar] w fun e w' => e = .returned (.bool (emptyS k i s c nn an tx nu ar)) ∧ Below w.heap.size w w' := by
  generalize hE : emptyS k i s c nn an tx nu ar = E0
  cases tx with
  | true =>
    cases nu with
    | true =>
      cases ar with
      | true =>
        by_cases hk : k = 1
        · subst hk
          have HR := Lib.hid (show E0 = true by rw [← hE]; simp [emptyS, *])
          clear hE
          go_enter Tryd.func65, Tryd.ntmps65
          go_wp2
          go_ret
          exact ⟨by rw [HR.out]; rfl, (Below.refl _ w).alloc (Nat.le_refl _) _⟩
        have qk : (k == 1) = false := beq_eq_false_iff_ne.2 hk
        by_cases hi : i = 0
        · subst hi
          have HR := Lib.hid (show E0 = true by rw [← hE]; simp [emptyS, *])
          clear hE
          clear hk
          go_enter Tryd.func65, Tryd.ntmps65
          go_wp2
          go_ret
          exact ⟨by rw [HR.out]; rfl, (Below.refl _ w).alloc (Nat.le_refl _) _⟩
        have qi : (i == 0) = false := beq_eq_false_iff_ne.2 hi
        have HR := Lib.hid (show E0 = false by rw [← hE]; simp [emptyS, *])
        clear hE
        clear hk hi
        go_enter Tryd.func65, Tryd.ntmps65
        go_wp2
        go_ret
        exact ⟨by rw [HR.out]; rfl, (Below.refl _ w).alloc (Nat.le_refl _) _⟩
      | false =>
        by_cases ha : an = 0
        · subst ha
          by_cases hk : k = 1
          · subst hk
            have HR := Lib.hid (show E0 = true by rw [← hE]; simp [emptyS, *])
            clear hE
            go_enter Tryd.func65, Tryd.ntmps65
            go_wp2
            go_ret
            exact ⟨by rw [HR.out]; rfl, (Below.refl _ w).alloc (Nat.le_refl _) _⟩
          have qk : (k == 1) = false := beq_eq_false_iff_ne.2 hk
          by_cases hi : i = 0
          · subst hi
            have HR := Lib.hid (show E0 = true by rw [← hE]; simp [emptyS, *])
            clear hE
            clear hk
            go_enter Tryd.func65, Tryd.ntmps65
            go_wp2
            go_ret
            exact ⟨by rw [HR.out]; rfl, (Below.refl _ w).alloc (Nat.le_refl _) _⟩
          have qi : (i == 0) = false := beq_eq_false_iff_ne.2 hi
          have HR := Lib.hid (show E0 = false by rw [← hE]; simp [emptyS, *])
          clear hE
          clear hk hi
          go_enter Tryd.func65, Tryd.ntmps65
          go_wp2
          go_ret
          exact ⟨by rw [HR.out]; rfl, (Below.refl _ w).alloc (Nat.le_refl _) _⟩
        have qa : ((an : Int) == 0) = false := beq_eq_false_iff_ne.2 (by omega)
        have HR := Lib.hid (show E0 = false by rw [← hE]; simp [emptyS, *])
        clear hE
        clear ha
        go_enter Tryd.func65, Tryd.ntmps65
        go_wp2
        go_ret
        exact ⟨by rw [HR.out]; rfl, (Below.refl _ w).alloc (Nat.le_refl _) _⟩
    | false =>
      by_cases hn : nn = 0
      · subst hn
        by_cases hc : c = 0
        · subst hc
          cases ar with
          | true =>
            by_cases hk : k = 1
            · subst hk
              have HR := Lib.hid (show E0 = true by rw [← hE]; simp [emptyS, *])
              clear hE
              go_enter Tryd.func65, Tryd.ntmps65
              go_wp2
              go_ret
              exact ⟨by rw [HR.out]; rfl, (Below.refl _ w).alloc (Nat.le_refl _) _⟩
            have qk : (k == 1) = false := beq_eq_false_iff_ne.2 hk
            by_cases hi : i = 0
            · subst hi
              have HR := Lib.hid (show E0 = true by rw [← hE]; simp [emptyS, *])
              clear hE
              clear hk
              go_enter Tryd.func65, Tryd.ntmps65
              go_wp2
              go_ret
              exact ⟨by rw [HR.out]; rfl, (Below.refl _ w).alloc (Nat.le_refl _) _⟩
            have qi : (i == 0) = false := beq_eq_false_iff_ne.2 hi
            have HR := Lib.hid (show E0 = false by rw [← hE]; simp [emptyS, *])
            clear hE
            clear hk hi
            go_enter Tryd.func65, Tryd.ntmps65
            go_wp2
            go_ret
            exact ⟨by rw [HR.out]; rfl, (Below.refl _ w).alloc (Nat.le_refl _) _⟩
          | false =>
            by_cases ha : an = 0
            · subst ha
              by_cases hk : k = 1
              · subst hk
                have HR := Lib.hid (show E0 = true by rw [← hE]; simp [emptyS, *])
                clear hE
                go_enter Tryd.func65, Tryd.ntmps65
                go_wp2
                go_ret
                exact ⟨by rw [HR.out]; rfl, (Below.refl _ w).alloc (Nat.le_refl _) _⟩
              have qk : (k == 1) = false := beq_eq_false_iff_ne.2 hk
              by_cases hi : i = 0
              · subst hi
                have HR := Lib.hid (show E0 = true by rw [← hE]; simp [emptyS, *])
                clear hE
                clear hk
                go_enter Tryd.func65, Tryd.ntmps65
                go_wp2
                go_ret
                exact ⟨by rw [HR.out]; rfl, (Below.refl _ w).alloc (Nat.le_refl _) _⟩
              have qi : (i == 0) = false := beq_eq_false_iff_ne.2 hi
              have HR := Lib.hid (show E0 = false by rw [← hE]; simp [emptyS, *])
              clear hE
              clear hk hi
              go_enter Tryd.func65, Tryd.ntmps65
              go_wp2
              go_ret
              exact ⟨by rw [HR.out]; rfl, (Below.refl _ w).alloc (Nat.le_refl _) _⟩
            have qa : ((an : Int) == 0) = false := beq_eq_false_iff_ne.2 (by omega)
            have HR := Lib.hid (show E0 = false by rw [← hE]; simp [emptyS, *])
            clear hE
            clear ha
            go_enter Tryd.func65, Tryd.ntmps65
            go_wp2
            go_ret
            exact ⟨by rw [HR.out]; rfl, (Below.refl _ w).alloc (Nat.le_refl _) _⟩
        have qc : (c == 0) = false := beq_eq_false_iff_ne.2 hc
        have HR := Lib.hid (show E0 = false by rw [← hE]; simp [emptyS, *])
        clear hE
        clear hc
        go_enter Tryd.func65, Tryd.ntmps65
        go_wp2
        go_ret
        exact ⟨by rw [HR.out]; rfl, (Below.refl _ w).alloc (Nat.le_refl _) _⟩
      have qn : ((nn : Int) == 0) = false := beq_eq_false_iff_ne.2 (by omega)
      have HR := Lib.hid (show E0 = false by rw [← hE]; simp [emptyS, *])
      clear hE
      clear hn
      go_enter Tryd.func65, Tryd.ntmps65
      go_wp2
      go_ret
      exact ⟨by rw [HR.out]; rfl, (Below.refl _ w).alloc (Nat.le_refl _) _⟩
  | false =>
    by_cases hs : s = ⟨#[]⟩
    · subst hs
      cases nu with
      | true =>
        cases ar with
        | true =>
          by_cases hk : k = 1
          · subst hk
            have HR := Lib.hid (show E0 = true by rw [← hE]; simp [emptyS, *])
            clear hE
            go_enter Tryd.func65, Tryd.ntmps65
            go_wp2
            go_ret
            exact ⟨by rw [HR.out]; rfl, (Below.refl _ w).alloc (Nat.le_refl _) _⟩
          have qk : (k == 1) = false := beq_eq_false_iff_ne.2 hk
          by_cases hi : i = 0
          · subst hi
            have HR := Lib.hid (show E0 = true by rw [← hE]; simp [emptyS, *])
            clear hE
            clear hk
            go_enter Tryd.func65, Tryd.ntmps65
            go_wp2
            go_ret
            exact ⟨by rw [HR.out]; rfl, (Below.refl _ w).alloc (Nat.le_refl _) _⟩
          have qi : (i == 0) = false := beq_eq_false_iff_ne.2 hi
          have HR := Lib.hid (show E0 = false by rw [← hE]; simp [emptyS, *])
          clear hE
          clear hk hi
          go_enter Tryd.func65, Tryd.ntmps65
          go_wp2
          go_ret
          exact ⟨by rw [HR.out]; rfl, (Below.refl _ w).alloc (Nat.le_refl _) _⟩
        | false =>
          by_cases ha : an = 0
          · subst ha
            by_cases hk : k = 1
            · subst hk
              have HR := Lib.hid (show E0 = true by rw [← hE]; simp [emptyS, *])
              clear hE
              go_enter Tryd.func65, Tryd.ntmps65
              go_wp2
              go_ret
              exact ⟨by rw [HR.out]; rfl, (Below.refl _ w).alloc (Nat.le_refl _) _⟩
            have qk : (k == 1) = false := beq_eq_false_iff_ne.2 hk
            by_cases hi : i = 0
            · subst hi
              have HR := Lib.hid (show E0 = true by rw [← hE]; simp [emptyS, *])
              clear hE
              clear hk
              go_enter Tryd.func65, Tryd.ntmps65
              go_wp2
              go_ret
              exact ⟨by rw [HR.out]; rfl, (Below.refl _ w).alloc (Nat.le_refl _) _⟩
            have qi : (i == 0) = false := beq_eq_false_iff_ne.2 hi
            have HR := Lib.hid (show E0 = false by rw [← hE]; simp [emptyS, *])
            clear hE
            clear hk hi
            go_enter Tryd.func65, Tryd.ntmps65
            go_wp2
            go_ret
            exact ⟨by rw [HR.out]; rfl, (Below.refl _ w).alloc (Nat.le_refl _) _⟩
          have qa : ((an : Int) == 0) = false := beq_eq_false_iff_ne.2 (by omega)
          have HR := Lib.hid (show E0 = false by rw [← hE]; simp [emptyS, *])
          clear hE
          clear ha
          go_enter Tryd.func65, Tryd.ntmps65
          go_wp2
          go_ret
          exact ⟨by rw [HR.out]; rfl, (Below.refl _ w).alloc (Nat.le_refl _) _⟩
      | false =>
        by_cases hn : nn = 0
        · subst hn
          by_cases hc : c = 0
          · subst hc
            cases ar with
            | true =>
              by_cases hk : k = 1
              · subst hk
                have HR := Lib.hid (show E0 = true by rw [← hE]; simp [emptyS, *])
                clear hE
                go_enter Tryd.func65, Tryd.ntmps65
                go_wp2
                go_ret
                exact ⟨by rw [HR.out]; rfl, (Below.refl _ w).alloc (Nat.le_refl _) _⟩
              have qk : (k == 1) = false := beq_eq_false_iff_ne.2 hk
              by_cases hi : i = 0
              · subst hi
                have HR := Lib.hid (show E0 = true by rw [← hE]; simp [emptyS, *])
                clear hE
                clear hk
                go_enter Tryd.func65, Tryd.ntmps65
                go_wp2
                go_ret
                exact ⟨by rw [HR.out]; rfl, (Below.refl _ w).alloc (Nat.le_refl _) _⟩
              have qi : (i == 0) = false := beq_eq_false_iff_ne.2 hi
              have HR := Lib.hid (show E0 = false by rw [← hE]; simp [emptyS, *])
              clear hE
              clear hk hi
              go_enter Tryd.func65, Tryd.ntmps65
              go_wp2
              go_ret
              exact ⟨by rw [HR.out]; rfl, (Below.refl _ w).alloc (Nat.le_refl _) _⟩
            | false =>
              by_cases ha : an = 0
              · subst ha
                by_cases hk : k = 1
                · subst hk
                  have HR := Lib.hid (show E0 = true by rw [← hE]; simp [emptyS, *])
                  clear hE
                  go_enter Tryd.func65, Tryd.ntmps65
                  go_wp2
                  go_ret
                  exact ⟨by rw [HR.out]; rfl, (Below.refl _ w).alloc (Nat.le_refl _) _⟩
                have qk : (k == 1) = false := beq_eq_false_iff_ne.2 hk
                by_cases hi : i = 0
                · subst hi
                  have HR := Lib.hid (show E0 = true by rw [← hE]; simp [emptyS, *])
                  clear hE
                  clear hk
                  go_enter Tryd.func65, Tryd.ntmps65
                  go_wp2
                  go_ret
                  exact ⟨by rw [HR.out]; rfl, (Below.refl _ w).alloc (Nat.le_refl _) _⟩
                have qi : (i == 0) = false := beq_eq_false_iff_ne.2 hi
                have HR := Lib.hid (show E0 = false by rw [← hE]; simp [emptyS, *])
                clear hE
                clear hk hi
                go_enter Tryd.func65, Tryd.ntmps65
                go_wp2
                go_ret
                exact ⟨by rw [HR.out]; rfl, (Below.refl _ w).alloc (Nat.le_refl _) _⟩
              have qa : ((an : Int) == 0) = false := beq_eq_false_iff_ne.2 (by omega)
              have HR := Lib.hid (show E0 = false by rw [← hE]; simp [emptyS, *])
              clear hE
              clear ha
              go_enter Tryd.func65, Tryd.ntmps65
              go_wp2
              go_ret
              exact ⟨by rw [HR.out]; rfl, (Below.refl _ w).alloc (Nat.le_refl _) _⟩
          have qc : (c == 0) = false := beq_eq_false_iff_ne.2 hc
          have HR := Lib.hid (show E0 = false by rw [← hE]; simp [emptyS, *])
          clear hE
          clear hc
          go_enter Tryd.func65, Tryd.ntmps65
          go_wp2
          go_ret
          exact ⟨by rw [HR.out]; rfl, (Below.refl _ w).alloc (Nat.le_refl _) _⟩
        have qn : ((nn : Int) == 0) = false := beq_eq_false_iff_ne.2 (by omega)
        have HR := Lib.hid (show E0 = false by rw [← hE]; simp [emptyS, *])
        clear hE
        clear hn
        go_enter Tryd.func65, Tryd.ntmps65
        go_wp2
        go_ret
        exact ⟨by rw [HR.out]; rfl, (Below.refl _ w).alloc (Nat.le_refl _) _⟩
    obtain ⟨q1, q2⟩ := str_ne hs
    have HR := Lib.hid (show E0 = false by rw [← hE]; simp [emptyS, *])
    clear hE
    clear hs
    go_enter Tryd.func65, Tryd.ntmps65
    go_wp2
    go_ret
    exact ⟨by rw [HR.out]; rfl, (Below.refl _ w).alloc (Nat.le_refl _) _⟩
end Go.Proofs.YtkipjbmckpmmfaaDoor
end
section
/- Package term: faults, form, walk, Check. -/
open Go Go.RowKit
namespace Go.Proofs.YtkipjbmckpmmfaaDoor

/-- what errors and texts of atoms lean on -/
structure Gt (w : World) : Prop where
  e : ErrT w
  t : Lib.Utf8Tabs 1 2 w
theorem Gt.below {w w' : World} (h : Gt w) (hb : Below w.heap.size w w') : Gt w' := ⟨h.e.below hb, Utf8Tabs_below h.t hb⟩
theorem ErrIs.cons {w : World} {u : Value} (k : Lk) {l : List Lk} (h : ErrIs w u l) : ErrIs (w.alloc (.cells #[.string k.layer, .int .i64 k.at_, .int .i64 k.code, u] 93 (0, 0))) (.iface 91 (.pointer (some ⟨w.heap.size, 0, none⟩))) (k :: l) :=
  ⟨w.heap.size, u, rfl, alloc_get _ _, h.below ((Below.refl _ _).alloc (Nat.le_refl _) _)⟩
theorem ErrIs.form {w : World} {v : Value} {l : List Lk} (h : ErrIs w v l) : (l = [] ∧ v = .nilIface) ∨ (l ≠ [] ∧ ∃ b, v = .iface 91 (.pointer (some ⟨b, 0, none⟩))) := by
  cases l with
  | nil => exact .inl ⟨rfl, h⟩
  | cons k r =>
    obtain ⟨b, u, rfl, _⟩ := h
    exact .inr ⟨by simp, b, rfl⟩
/-- a call that hands back an error -/
def RetEr (w : World) (l : List Lk) (e : Ending) (w' : World) : Prop := ∃ ev, e = .returned ev ∧ ErrIs w' ev l ∧ Below w.heap.size w w'
theorem faultT_any (at_ code : Int) (u : Value) (l : List Lk) (w : World) (h : ErrIs w u l) :
    Calls Tryd.prog 57 #[.int .i64 at_, .int .i64 code, u] w (RetEr w (⟨termL, at_, code⟩ :: l)) := by
  have H := Lib.hid (h.cons ⟨termL, at_, code⟩)
  unfold termL at *
  rcases h.form with ⟨rfl, rfl⟩ | ⟨_, b, rfl⟩
  all_goals
    clear h
    go_enter Tryd.func57, Tryd.ntmps57
    go_wp2
    go_ret
    exact ⟨_, rfl, H.out, (Below.refl _ _).alloc (Nat.le_refl _) _⟩
theorem codeT_any (ev : Value) (k : Lk) (l : List Lk) (w : World) (her : ErrIs w ev (k :: l)) (hE : ErrT w) :
    Calls Tryd.prog 68 #[ev] w fun e w' => e = .returned (.int .i64 k.code) ∧ Below w.heap.size w w' := by
  obtain ⟨b, u, rfl, hc, hr⟩ := her
  have hb0 : Below w.heap.size w (w.alloc (.cells #[.pointer none] 91 (0, 0))) := (Below.refl _ _).alloc (Nat.le_refl _) _
  have HA := Lib.hid (as_hit2 b w.heap.size (w.alloc (.cells #[.pointer none] 91 (0, 0))) (hE.below hb0) (alloc_get _ _))
  have hblt : b < w.heap.size := (Array.getElem?_eq_some_iff.1 hc).1
  have HC := Lib.hid hc
  clear hc hr hE hb0
  go_enter Tryd.func68, Tryd.ntmps68
  go_wp2_with fail
  refine HA.out.mono ?_
  rintro e w2 ⟨rfl, hg, hf⟩
  have hb2 : Below w.heap.size w w2 := below_grownBy ((Below.refl _ w).alloc (Nat.le_refl _) _) hg (by simp) (Nat.le_refl _)
  have hc2 := (hb2.block b hblt).trans HC.out
  have c0 := cell_of_block hf 0
  have d2 := cell_of_block hc2 2
  simp only [List.getElem?_toArray, List.getElem?_cons_zero, List.getElem?_cons_succ] at c0 d2
  have HB2 := Lib.hid hb2
  clear hg hf hc2 hb2
  go_wp2
  go_ret
  exact ⟨rfl, HB2.out⟩
end Go.Proofs.YtkipjbmckpmmfaaDoor
end
section
/- Package term: form. Printed by wip/tmc.py. -/
open Go Go.RowKit
namespace Go.Proofs.YtkipjbmckpmmfaaDoor
set_option linter.unusedSimpArgs false
set_option linter.unusedVariables false

set_option maxHeartbeats 8000000 in
set_option maxRecDepth 100000 in
theorem form_1 (S : Nat → Prop) (k i : Int) (s : ByteArray) (c : Int) (na : Option Addr) (nc : Nat) (ns : List Int) (aa : Option Addr) (ac : Nat) (al : List Tm) (at_ : Int) (w : World) (hG : Gt w) (hp : Part k i s c) (hk : k = 1) :
    Calls Tryd.prog 58 #[.agg #[.int .i64 k, .int .i64 i, .string s, .int .u32 c, .slice na ns.length nc, .slice aa al.length ac], .int .i64 at_] w (RetEr w (partS (.mk k i s c ns al) at_)) := by
  have HE := Lib.hid (fun tx nu ar W => empty_any k i s c na aa ns.length nc al.length ac tx nu ar W)
  have HF := Lib.hid (fun code W => faultT_any at_ code .nilIface [] W rfl)
  have HB := Lib.hid ((Below.refl _ w).alloc (Nat.le_refl _) (.cells #[.int .i64 k, .int .i64 i, .string s, .int .u32 c, .slice na ns.length nc, .slice aa al.length ac] 27 (0, 0)))
  have HC := Lib.hid (Cells.new w 27 [.int .i64 k, .int .i64 i, .string s, .int .u32 c, .slice na ns.length nc, .slice aa al.length ac])
  have HG := Lib.hid hG
  have HP := Lib.hid hp
  clear hG hp
  subst hk
  cases hb : emptyS 1 i s c ns.length al.length false false false with
  | false =>
    have HR := Lib.hid (show partS (.mk 1 i s c ns al) at_ = [⟨termL, at_, 40⟩] by simp [partS, formS, Tm.kind, Tm.empty, Tm.int, Tm.text, Tm.cr, Tm.nums, Tm.args, hb])
    go_enter Tryd.func58, Tryd.ntmps58
    go_wp2_with fail
    refine (HE.out _ _ _ _).mono ?_
    rintro e w2 ⟨rfl, hb2⟩
    have HB2 := Lib.hid (HB.out.trans (hb2.mono HB.out.size))
    have C2 := Lib.hid (HC.out.below hb2)
    have c0 := C2.out.cell 0
    have c1 := C2.out.cell 1
    have c2 := C2.out.cell 2
    have c3 := C2.out.cell 3
    have c4 := C2.out.cell 4
    have c5 := C2.out.cell 5
    simp only [List.getElem?_cons_zero, List.getElem?_cons_succ] at c0 c1 c2 c3 c4 c5
    clear hb2
    rw [hb]
    clear hb
    go_wp2_with fail
    refine (HF.out _ _).mono ?_
    rintro e w9 ⟨ev, rfl, her, hb9⟩
    have HB9 := Lib.hid (HB2.out.trans (hb9.mono HB2.out.size))
    have HER := Lib.hid her
    clear her hb9
    go_wp2
    go_ret
    rw [HR.out]
    exact ⟨_, rfl, HER.out, HB9.out⟩
  | true =>
    by_cases h1 : i < -576460752303423488
    · have HR := Lib.hid (show partS (.mk 1 i s c ns al) at_ = [⟨termL, at_, 2⟩] by simp [partS, formS, Tm.kind, Tm.empty, Tm.int, Tm.text, Tm.cr, Tm.nums, Tm.args, hb, h1])
      go_enter Tryd.func58, Tryd.ntmps58
      go_wp2_with fail
      refine (HE.out _ _ _ _).mono ?_
      rintro e w2 ⟨rfl, hb2⟩
      have HB2 := Lib.hid (HB.out.trans (hb2.mono HB.out.size))
      have C2 := Lib.hid (HC.out.below hb2)
      have c0 := C2.out.cell 0
      have c1 := C2.out.cell 1
      have c2 := C2.out.cell 2
      have c3 := C2.out.cell 3
      have c4 := C2.out.cell 4
      have c5 := C2.out.cell 5
      simp only [List.getElem?_cons_zero, List.getElem?_cons_succ] at c0 c1 c2 c3 c4 c5
      clear hb2
      rw [hb]
      clear hb
      go_wp2_with fail
      refine (HF.out _ _).mono ?_
      rintro e w9 ⟨ev, rfl, her, hb9⟩
      have HB9 := Lib.hid (HB2.out.trans (hb9.mono HB2.out.size))
      have HER := Lib.hid her
      clear her hb9
      go_wp2
      go_ret
      rw [HR.out]
      exact ⟨_, rfl, HER.out, HB9.out⟩
    by_cases h2 : 576460752303423487 < i
    · have HR := Lib.hid (show partS (.mk 1 i s c ns al) at_ = [⟨termL, at_, 2⟩] by simp [partS, formS, Tm.kind, Tm.empty, Tm.int, Tm.text, Tm.cr, Tm.nums, Tm.args, hb, h2])
      go_enter Tryd.func58, Tryd.ntmps58
      go_wp2_with fail
      refine (HE.out _ _ _ _).mono ?_
      rintro e w2 ⟨rfl, hb2⟩
      have HB2 := Lib.hid (HB.out.trans (hb2.mono HB.out.size))
      have C2 := Lib.hid (HC.out.below hb2)
      have c0 := C2.out.cell 0
      have c1 := C2.out.cell 1
      have c2 := C2.out.cell 2
      have c3 := C2.out.cell 3
      have c4 := C2.out.cell 4
      have c5 := C2.out.cell 5
      simp only [List.getElem?_cons_zero, List.getElem?_cons_succ] at c0 c1 c2 c3 c4 c5
      clear hb2
      rw [hb]
      clear hb
      go_wp2_with fail
      refine (HF.out _ _).mono ?_
      rintro e w9 ⟨ev, rfl, her, hb9⟩
      have HB9 := Lib.hid (HB2.out.trans (hb9.mono HB2.out.size))
      have HER := Lib.hid her
      clear her hb9
      go_wp2
      go_ret
      rw [HR.out]
      exact ⟨_, rfl, HER.out, HB9.out⟩
    have HR := Lib.hid (show partS (.mk 1 i s c ns al) at_ = [] by simp [partS, formS, Tm.kind, Tm.empty, Tm.int, Tm.text, Tm.cr, Tm.nums, Tm.args, hb, h1, h2])
    go_enter Tryd.func58, Tryd.ntmps58
    go_wp2_with fail
    refine (HE.out _ _ _ _).mono ?_
    rintro e w2 ⟨rfl, hb2⟩
    have HB2 := Lib.hid (HB.out.trans (hb2.mono HB.out.size))
    have C2 := Lib.hid (HC.out.below hb2)
    have c0 := C2.out.cell 0
    have c1 := C2.out.cell 1
    have c2 := C2.out.cell 2
    have c3 := C2.out.cell 3
    have c4 := C2.out.cell 4
    have c5 := C2.out.cell 5
    simp only [List.getElem?_cons_zero, List.getElem?_cons_succ] at c0 c1 c2 c3 c4 c5
    clear hb2
    rw [hb]
    clear hb
    go_wp2
    go_ret
    rw [HR.out]
    exact ⟨_, rfl, rfl, HB2.out⟩

set_option maxHeartbeats 8000000 in
set_option maxRecDepth 100000 in
theorem form_5 (S : Nat → Prop) (k i : Int) (s : ByteArray) (c : Int) (na : Option Addr) (nc : Nat) (ns : List Int) (aa : Option Addr) (ac : Nat) (al : List Tm) (at_ : Int) (w : World) (hG : Gt w) (hp : Part k i s c) (hk : k = 5) :
    Calls Tryd.prog 58 #[.agg #[.int .i64 k, .int .i64 i, .string s, .int .u32 c, .slice na ns.length nc, .slice aa al.length ac], .int .i64 at_] w (RetEr w (partS (.mk k i s c ns al) at_)) := by
  have HE := Lib.hid (fun tx nu ar W => empty_any k i s c na aa ns.length nc al.length ac tx nu ar W)
  have HF := Lib.hid (fun code W => faultT_any at_ code .nilIface [] W rfl)
  have HB := Lib.hid ((Below.refl _ w).alloc (Nat.le_refl _) (.cells #[.int .i64 k, .int .i64 i, .string s, .int .u32 c, .slice na ns.length nc, .slice aa al.length ac] 27 (0, 0)))
  have HC := Lib.hid (Cells.new w 27 [.int .i64 k, .int .i64 i, .string s, .int .u32 c, .slice na ns.length nc, .slice aa al.length ac])
  have HG := Lib.hid hG
  have HP := Lib.hid hp
  clear hG hp
  subst hk
  cases hb : emptyS 5 i s c ns.length al.length false false true with
  | false =>
    have HR := Lib.hid (show partS (.mk 5 i s c ns al) at_ = [⟨termL, at_, 40⟩] by simp [partS, formS, Tm.kind, Tm.empty, Tm.int, Tm.text, Tm.cr, Tm.nums, Tm.args, hb])
    go_enter Tryd.func58, Tryd.ntmps58
    go_wp2_with fail
    refine (HE.out _ _ _ _).mono ?_
    rintro e w2 ⟨rfl, hb2⟩
    have HB2 := Lib.hid (HB.out.trans (hb2.mono HB.out.size))
    have C2 := Lib.hid (HC.out.below hb2)
    have c0 := C2.out.cell 0
    have c1 := C2.out.cell 1
    have c2 := C2.out.cell 2
    have c3 := C2.out.cell 3
    have c4 := C2.out.cell 4
    have c5 := C2.out.cell 5
    simp only [List.getElem?_cons_zero, List.getElem?_cons_succ] at c0 c1 c2 c3 c4 c5
    clear hb2
    rw [hb]
    clear hb
    go_wp2_with fail
    refine (HF.out _ _).mono ?_
    rintro e w9 ⟨ev, rfl, her, hb9⟩
    have HB9 := Lib.hid (HB2.out.trans (hb9.mono HB2.out.size))
    have HER := Lib.hid her
    clear her hb9
    go_wp2
    go_ret
    rw [HR.out]
    exact ⟨_, rfl, HER.out, HB9.out⟩
  | true =>
    have HR := Lib.hid (show partS (.mk 5 i s c ns al) at_ = [] by simp [partS, formS, Tm.kind, Tm.empty, Tm.int, Tm.text, Tm.cr, Tm.nums, Tm.args, hb])
    go_enter Tryd.func58, Tryd.ntmps58
    go_wp2_with fail
    refine (HE.out _ _ _ _).mono ?_
    rintro e w2 ⟨rfl, hb2⟩
    have HB2 := Lib.hid (HB.out.trans (hb2.mono HB.out.size))
    have C2 := Lib.hid (HC.out.below hb2)
    have c0 := C2.out.cell 0
    have c1 := C2.out.cell 1
    have c2 := C2.out.cell 2
    have c3 := C2.out.cell 3
    have c4 := C2.out.cell 4
    have c5 := C2.out.cell 5
    simp only [List.getElem?_cons_zero, List.getElem?_cons_succ] at c0 c1 c2 c3 c4 c5
    clear hb2
    rw [hb]
    clear hb
    go_wp2
    go_ret
    rw [HR.out]
    exact ⟨_, rfl, rfl, HB2.out⟩

set_option maxHeartbeats 8000000 in
set_option maxRecDepth 100000 in
theorem form_6 (S : Nat → Prop) (k i : Int) (s : ByteArray) (c : Int) (na : Option Addr) (nc : Nat) (ns : List Int) (aa : Option Addr) (ac : Nat) (al : List Tm) (at_ : Int) (w : World) (hG : Gt w) (hp : Part k i s c) (hk : k = 6) :
    Calls Tryd.prog 58 #[.agg #[.int .i64 k, .int .i64 i, .string s, .int .u32 c, .slice na ns.length nc, .slice aa al.length ac], .int .i64 at_] w (RetEr w (partS (.mk k i s c ns al) at_)) := by
  have HE := Lib.hid (fun tx nu ar W => empty_any k i s c na aa ns.length nc al.length ac tx nu ar W)
  have HF := Lib.hid (fun code W => faultT_any at_ code .nilIface [] W rfl)
  have HB := Lib.hid ((Below.refl _ w).alloc (Nat.le_refl _) (.cells #[.int .i64 k, .int .i64 i, .string s, .int .u32 c, .slice na ns.length nc, .slice aa al.length ac] 27 (0, 0)))
  have HC := Lib.hid (Cells.new w 27 [.int .i64 k, .int .i64 i, .string s, .int .u32 c, .slice na ns.length nc, .slice aa al.length ac])
  have HG := Lib.hid hG
  have HP := Lib.hid hp
  clear hG hp
  subst hk
  cases hb : emptyS 6 i s c ns.length al.length false false false with
  | false =>
    have HR := Lib.hid (show partS (.mk 6 i s c ns al) at_ = [⟨termL, at_, 40⟩] by simp [partS, formS, Tm.kind, Tm.empty, Tm.int, Tm.text, Tm.cr, Tm.nums, Tm.args, hb])
    go_enter Tryd.func58, Tryd.ntmps58
    go_wp2_with fail
    refine (HE.out _ _ _ _).mono ?_
    rintro e w2 ⟨rfl, hb2⟩
    have HB2 := Lib.hid (HB.out.trans (hb2.mono HB.out.size))
    have C2 := Lib.hid (HC.out.below hb2)
    have c0 := C2.out.cell 0
    have c1 := C2.out.cell 1
    have c2 := C2.out.cell 2
    have c3 := C2.out.cell 3
    have c4 := C2.out.cell 4
    have c5 := C2.out.cell 5
    simp only [List.getElem?_cons_zero, List.getElem?_cons_succ] at c0 c1 c2 c3 c4 c5
    clear hb2
    rw [hb]
    clear hb
    go_wp2_with fail
    refine (HF.out _ _).mono ?_
    rintro e w9 ⟨ev, rfl, her, hb9⟩
    have HB9 := Lib.hid (HB2.out.trans (hb9.mono HB2.out.size))
    have HER := Lib.hid her
    clear her hb9
    go_wp2
    go_ret
    rw [HR.out]
    exact ⟨_, rfl, HER.out, HB9.out⟩
  | true =>
    have HR := Lib.hid (show partS (.mk 6 i s c ns al) at_ = [] by simp [partS, formS, Tm.kind, Tm.empty, Tm.int, Tm.text, Tm.cr, Tm.nums, Tm.args, hb])
    go_enter Tryd.func58, Tryd.ntmps58
    go_wp2_with fail
    refine (HE.out _ _ _ _).mono ?_
    rintro e w2 ⟨rfl, hb2⟩
    have HB2 := Lib.hid (HB.out.trans (hb2.mono HB.out.size))
    have C2 := Lib.hid (HC.out.below hb2)
    have c0 := C2.out.cell 0
    have c1 := C2.out.cell 1
    have c2 := C2.out.cell 2
    have c3 := C2.out.cell 3
    have c4 := C2.out.cell 4
    have c5 := C2.out.cell 5
    simp only [List.getElem?_cons_zero, List.getElem?_cons_succ] at c0 c1 c2 c3 c4 c5
    clear hb2
    rw [hb]
    clear hb
    go_wp2
    go_ret
    rw [HR.out]
    exact ⟨_, rfl, rfl, HB2.out⟩

set_option maxHeartbeats 8000000 in
set_option maxRecDepth 100000 in
theorem form_2 (S : Nat → Prop) (k i : Int) (s : ByteArray) (c : Int) (na : Option Addr) (nc : Nat) (ns : List Int) (aa : Option Addr) (ac : Nat) (al : List Tm) (at_ : Int) (w : World) (hG : Gt w) (hp : Part k i s c) (hk : k = 2) :
    Calls Tryd.prog 58 #[.agg #[.int .i64 k, .int .i64 i, .string s, .int .u32 c, .slice na ns.length nc, .slice aa al.length ac], .int .i64 at_] w (RetEr w (partS (.mk k i s c ns al) at_)) := by
  have HE := Lib.hid (fun tx nu ar W => empty_any k i s c na aa ns.length nc al.length ac tx nu ar W)
  have HF := Lib.hid (fun code W => faultT_any at_ code .nilIface [] W rfl)
  have HB := Lib.hid ((Below.refl _ w).alloc (Nat.le_refl _) (.cells #[.int .i64 k, .int .i64 i, .string s, .int .u32 c, .slice na ns.length nc, .slice aa al.length ac] 27 (0, 0)))
  have HC := Lib.hid (Cells.new w 27 [.int .i64 k, .int .i64 i, .string s, .int .u32 c, .slice na ns.length nc, .slice aa al.length ac])
  have HG := Lib.hid hG
  have HP := Lib.hid hp
  clear hG hp
  subst hk
  cases hb : emptyS 2 i s c ns.length al.length true false false with
  | false =>
    have HR := Lib.hid (show partS (.mk 2 i s c ns al) at_ = [⟨termL, at_, 40⟩] by simp [partS, formS, Tm.kind, Tm.empty, Tm.int, Tm.text, Tm.cr, Tm.nums, Tm.args, hb])
    go_enter Tryd.func58, Tryd.ntmps58
    go_wp2_with fail
    refine (HE.out _ _ _ _).mono ?_
    rintro e w2 ⟨rfl, hb2⟩
    have HB2 := Lib.hid (HB.out.trans (hb2.mono HB.out.size))
    have C2 := Lib.hid (HC.out.below hb2)
    have c0 := C2.out.cell 0
    have c1 := C2.out.cell 1
    have c2 := C2.out.cell 2
    have c3 := C2.out.cell 3
    have c4 := C2.out.cell 4
    have c5 := C2.out.cell 5
    simp only [List.getElem?_cons_zero, List.getElem?_cons_succ] at c0 c1 c2 c3 c4 c5
    clear hb2
    rw [hb]
    clear hb
    go_wp2_with fail
    refine (HF.out _ _).mono ?_
    rintro e w9 ⟨ev, rfl, her, hb9⟩
    have HB9 := Lib.hid (HB2.out.trans (hb9.mono HB2.out.size))
    have HER := Lib.hid her
    clear her hb9
    go_wp2
    go_ret
    rw [HR.out]
    exact ⟨_, rfl, HER.out, HB9.out⟩
  | true =>
    have HPS := Lib.hid (show partS (.mk 2 i s c ns al) at_ = overL at_ (quoteS s).2 by simp [partS, formS, Tm.kind, Tm.empty, Tm.int, Tm.text, Tm.cr, Tm.nums, Tm.args, hb])
    have HQ := Lib.hid (fun W h => quote_any s W (by unfold maxLen; have := HP.out.sz; omega) h)
    go_enter Tryd.func58, Tryd.ntmps58
    go_wp2_with fail
    refine (HE.out _ _ _ _).mono ?_
    rintro e w2 ⟨rfl, hb2⟩
    have HB2 := Lib.hid (HB.out.trans (hb2.mono HB.out.size))
    have C2 := Lib.hid (HC.out.below hb2)
    have c0 := C2.out.cell 0
    have c1 := C2.out.cell 1
    have c2 := C2.out.cell 2
    have c3 := C2.out.cell 3
    have c4 := C2.out.cell 4
    have c5 := C2.out.cell 5
    simp only [List.getElem?_cons_zero, List.getElem?_cons_succ] at c0 c1 c2 c3 c4 c5
    clear hb2
    rw [hb]
    clear hb
    go_wp2_with fail
    refine (HQ.out _ (HG.out.below HB2.out).t).mono ?_
    rintro e w3 ⟨ev3, rfl, her3, hb3⟩
    have HB3 := Lib.hid (HB2.out.trans (hb3.mono HB2.out.size))
    have HER3 := Lib.hid her3
    clear hb3 c0 c1 c2 c3 c4 c5
    cases hl : (quoteS s).2 with
    | nil =>
      rw [hl] at her3
      obtain rfl : ev3 = .nilIface := her3
      have HR := Lib.hid (HPS.out.trans (show overL at_ (quoteS s).2 = [] by rw [hl]; rfl))
      clear hl
      go_wp2
      go_ret
      rw [HR.out]
      exact ⟨_, rfl, rfl, HB3.out⟩
    | cons q r =>
      rw [hl] at her3 HER3
      have HR := Lib.hid (HPS.out.trans (show overL at_ (quoteS s).2 = ⟨termL, at_, q.code⟩ :: q :: r by rw [hl]; rfl))
      have HCO := Lib.hid (codeT_any ev3 q r w3 HER3.out (HG.out.below HB3.out).e)
      obtain ⟨eb, eu, rfl, _, _⟩ := her3
      clear hl
      go_wp2_with fail
      refine HCO.out.mono ?_
      rintro e w4 ⟨rfl, hb4⟩
      have HF4 := Lib.hid (faultT_any at_ q.code _ _ w4 (HER3.out.below hb4))
      have HB4 := Lib.hid (HB3.out.trans (hb4.mono HB3.out.size))
      clear hb4
      go_wp2_with fail
      refine HF4.out.mono ?_
      rintro e w5 ⟨ev5, rfl, her5, hb5⟩
      have HB5 := Lib.hid (HB4.out.trans (hb5.mono HB4.out.size))
      have HER5 := Lib.hid her5
      clear her5 hb5
      go_wp2
      go_ret
      rw [HR.out]
      exact ⟨_, rfl, HER5.out, HB5.out⟩

set_option maxHeartbeats 8000000 in
set_option maxRecDepth 100000 in
theorem form_3 (S : Nat → Prop) (k i : Int) (s : ByteArray) (c : Int) (na : Option Addr) (nc : Nat) (ns : List Int) (aa : Option Addr) (ac : Nat) (al : List Tm) (at_ : Int) (w : World) (hG : Gt w) (hp : Part k i s c) (hk : k = 3) :
    Calls Tryd.prog 58 #[.agg #[.int .i64 k, .int .i64 i, .string s, .int .u32 c, .slice na ns.length nc, .slice aa al.length ac], .int .i64 at_] w (RetEr w (partS (.mk k i s c ns al) at_)) := by
  have HE := Lib.hid (fun tx nu ar W => empty_any k i s c na aa ns.length nc al.length ac tx nu ar W)
  have HF := Lib.hid (fun code W => faultT_any at_ code .nilIface [] W rfl)
  have HB := Lib.hid ((Below.refl _ w).alloc (Nat.le_refl _) (.cells #[.int .i64 k, .int .i64 i, .string s, .int .u32 c, .slice na ns.length nc, .slice aa al.length ac] 27 (0, 0)))
  have HC := Lib.hid (Cells.new w 27 [.int .i64 k, .int .i64 i, .string s, .int .u32 c, .slice na ns.length nc, .slice aa al.length ac])
  have HG := Lib.hid hG
  have HP := Lib.hid hp
  clear hG hp
  subst hk
  cases hb : emptyS 3 i s c ns.length al.length true true false with
  | false =>
    have HR := Lib.hid (show partS (.mk 3 i s c ns al) at_ = [⟨termL, at_, 40⟩] by simp [partS, formS, Tm.kind, Tm.empty, Tm.int, Tm.text, Tm.cr, Tm.nums, Tm.args, hb])
    go_enter Tryd.func58, Tryd.ntmps58
    go_wp2_with fail
    refine (HE.out _ _ _ _).mono ?_
    rintro e w2 ⟨rfl, hb2⟩
    have HB2 := Lib.hid (HB.out.trans (hb2.mono HB.out.size))
    have C2 := Lib.hid (HC.out.below hb2)
    have c0 := C2.out.cell 0
    have c1 := C2.out.cell 1
    have c2 := C2.out.cell 2
    have c3 := C2.out.cell 3
    have c4 := C2.out.cell 4
    have c5 := C2.out.cell 5
    simp only [List.getElem?_cons_zero, List.getElem?_cons_succ] at c0 c1 c2 c3 c4 c5
    clear hb2
    rw [hb]
    clear hb
    go_wp2_with fail
    refine (HF.out _ _).mono ?_
    rintro e w9 ⟨ev, rfl, her, hb9⟩
    have HB9 := Lib.hid (HB2.out.trans (hb9.mono HB2.out.size))
    have HER := Lib.hid her
    clear her hb9
    go_wp2
    go_ret
    rw [HR.out]
    exact ⟨_, rfl, HER.out, HB9.out⟩
  | true =>
    by_cases hn : ns.length = 3
    · have HPS := Lib.hid (show partS (.mk 3 i s c ns al) at_ = overL at_ (nodeS s).2.2 by rw [hn] at hb; simp [partS, formS, Tm.kind, Tm.empty, Tm.int, Tm.text, Tm.cr, Tm.nums, Tm.args, hb, hn])
      have HQ := Lib.hid (fun W => node_any s W HP.out.sz)
      have qn : ((ns.length : Int) == 3) = true := by rw [hn]; rfl
      clear hn
      go_enter Tryd.func58, Tryd.ntmps58
      go_wp2_with fail
      refine (HE.out _ _ _ _).mono ?_
      rintro e w2 ⟨rfl, hb2⟩
      have HB2 := Lib.hid (HB.out.trans (hb2.mono HB.out.size))
      have C2 := Lib.hid (HC.out.below hb2)
      have c0 := C2.out.cell 0
      have c1 := C2.out.cell 1
      have c2 := C2.out.cell 2
      have c3 := C2.out.cell 3
      have c4 := C2.out.cell 4
      have c5 := C2.out.cell 5
      simp only [List.getElem?_cons_zero, List.getElem?_cons_succ] at c0 c1 c2 c3 c4 c5
      clear hb2
      rw [hb]
      clear hb
      go_wp2_with fail
      refine (HQ.out _).mono ?_
      rintro e w3 ⟨ev3, rfl, her3, hb3⟩
      have HB3 := Lib.hid (HB2.out.trans (hb3.mono HB2.out.size))
      have HER3 := Lib.hid her3
      clear hb3 c0 c1 c2 c3 c4 c5
      cases hl : (nodeS s).2.2 with
      | nil =>
        rw [hl] at her3
        obtain rfl : ev3 = .nilIface := her3
        have HR := Lib.hid (HPS.out.trans (show overL at_ (nodeS s).2.2 = [] by rw [hl]; rfl))
        clear hl
        go_wp2
        go_ret
        rw [HR.out]
        exact ⟨_, rfl, rfl, HB3.out⟩
      | cons q r =>
        rw [hl] at her3 HER3
        have HR := Lib.hid (HPS.out.trans (show overL at_ (nodeS s).2.2 = ⟨termL, at_, q.code⟩ :: q :: r by rw [hl]; rfl))
        have HCO := Lib.hid (codeT_any ev3 q r w3 HER3.out (HG.out.below HB3.out).e)
        obtain ⟨eb, eu, rfl, _, _⟩ := her3
        clear hl
        go_wp2_with fail
        refine HCO.out.mono ?_
        rintro e w4 ⟨rfl, hb4⟩
        have HF4 := Lib.hid (faultT_any at_ q.code _ _ w4 (HER3.out.below hb4))
        have HB4 := Lib.hid (HB3.out.trans (hb4.mono HB3.out.size))
        clear hb4
        go_wp2_with fail
        refine HF4.out.mono ?_
        rintro e w5 ⟨ev5, rfl, her5, hb5⟩
        have HB5 := Lib.hid (HB4.out.trans (hb5.mono HB4.out.size))
        have HER5 := Lib.hid her5
        clear her5 hb5
        go_wp2
        go_ret
        rw [HR.out]
        exact ⟨_, rfl, HER5.out, HB5.out⟩
    · have HR := Lib.hid (show partS (.mk 3 i s c ns al) at_ = [⟨termL, at_, 40⟩] by simp [partS, formS, Tm.kind, Tm.empty, Tm.int, Tm.text, Tm.cr, Tm.nums, Tm.args, hb, hn])
      have qn : ((ns.length : Int) == 3) = false := beq_eq_false_iff_ne.2 (by omega)
      clear hn
      go_enter Tryd.func58, Tryd.ntmps58
      go_wp2_with fail
      refine (HE.out _ _ _ _).mono ?_
      rintro e w2 ⟨rfl, hb2⟩
      have HB2 := Lib.hid (HB.out.trans (hb2.mono HB.out.size))
      have C2 := Lib.hid (HC.out.below hb2)
      have c0 := C2.out.cell 0
      have c1 := C2.out.cell 1
      have c2 := C2.out.cell 2
      have c3 := C2.out.cell 3
      have c4 := C2.out.cell 4
      have c5 := C2.out.cell 5
      simp only [List.getElem?_cons_zero, List.getElem?_cons_succ] at c0 c1 c2 c3 c4 c5
      clear hb2
      rw [hb]
      clear hb
      go_wp2_with fail
      refine (HF.out _ _).mono ?_
      rintro e w9 ⟨ev, rfl, her, hb9⟩
      have HB9 := Lib.hid (HB2.out.trans (hb9.mono HB2.out.size))
      have HER := Lib.hid her
      clear her hb9
      go_wp2
      go_ret
      rw [HR.out]
      exact ⟨_, rfl, HER.out, HB9.out⟩

set_option maxHeartbeats 8000000 in
set_option maxRecDepth 100000 in
theorem form_4 (S : Nat → Prop) (k i : Int) (s : ByteArray) (c : Int) (na : Option Addr) (nc : Nat) (ns : List Int) (aa : Option Addr) (ac : Nat) (al : List Tm) (at_ : Int) (w : World) (hG : Gt w) (hp : Part k i s c) (hk : k = 4) :
    Calls Tryd.prog 58 #[.agg #[.int .i64 k, .int .i64 i, .string s, .int .u32 c, .slice na ns.length nc, .slice aa al.length ac], .int .i64 at_] w (RetEr w (partS (.mk k i s c ns al) at_)) := by
  have HE := Lib.hid (fun tx nu ar W => empty_any k i s c na aa ns.length nc al.length ac tx nu ar W)
  have HF := Lib.hid (fun code W => faultT_any at_ code .nilIface [] W rfl)
  have HB := Lib.hid ((Below.refl _ w).alloc (Nat.le_refl _) (.cells #[.int .i64 k, .int .i64 i, .string s, .int .u32 c, .slice na ns.length nc, .slice aa al.length ac] 27 (0, 0)))
  have HC := Lib.hid (Cells.new w 27 [.int .i64 k, .int .i64 i, .string s, .int .u32 c, .slice na ns.length nc, .slice aa al.length ac])
  have HG := Lib.hid hG
  have HP := Lib.hid hp
  clear hG hp
  subst hk
  cases hb : emptyS 4 i s c ns.length al.length true true false with
  | false =>
    have HR := Lib.hid (show partS (.mk 4 i s c ns al) at_ = [⟨termL, at_, 40⟩] by simp [partS, formS, Tm.kind, Tm.empty, Tm.int, Tm.text, Tm.cr, Tm.nums, Tm.args, hb])
    go_enter Tryd.func58, Tryd.ntmps58
    go_wp2_with fail
    refine (HE.out _ _ _ _).mono ?_
    rintro e w2 ⟨rfl, hb2⟩
    have HB2 := Lib.hid (HB.out.trans (hb2.mono HB.out.size))
    have C2 := Lib.hid (HC.out.below hb2)
    have c0 := C2.out.cell 0
    have c1 := C2.out.cell 1
    have c2 := C2.out.cell 2
    have c3 := C2.out.cell 3
    have c4 := C2.out.cell 4
    have c5 := C2.out.cell 5
    simp only [List.getElem?_cons_zero, List.getElem?_cons_succ] at c0 c1 c2 c3 c4 c5
    clear hb2
    rw [hb]
    clear hb
    go_wp2_with fail
    refine (HF.out _ _).mono ?_
    rintro e w9 ⟨ev, rfl, her, hb9⟩
    have HB9 := Lib.hid (HB2.out.trans (hb9.mono HB2.out.size))
    have HER := Lib.hid her
    clear her hb9
    go_wp2
    go_ret
    rw [HR.out]
    exact ⟨_, rfl, HER.out, HB9.out⟩
  | true =>
    by_cases hn : ns.length = 2
    · have HPS := Lib.hid (show partS (.mk 4 i s c ns al) at_ = overL at_ (nodeS s).2.2 by rw [hn] at hb; simp [partS, formS, Tm.kind, Tm.empty, Tm.int, Tm.text, Tm.cr, Tm.nums, Tm.args, hb, hn])
      have HQ := Lib.hid (fun W => node_any s W HP.out.sz)
      have qn : ((ns.length : Int) == 2) = true := by rw [hn]; rfl
      clear hn
      go_enter Tryd.func58, Tryd.ntmps58
      go_wp2_with fail
      refine (HE.out _ _ _ _).mono ?_
      rintro e w2 ⟨rfl, hb2⟩
      have HB2 := Lib.hid (HB.out.trans (hb2.mono HB.out.size))
      have C2 := Lib.hid (HC.out.below hb2)
      have c0 := C2.out.cell 0
      have c1 := C2.out.cell 1
      have c2 := C2.out.cell 2
      have c3 := C2.out.cell 3
      have c4 := C2.out.cell 4
      have c5 := C2.out.cell 5
      simp only [List.getElem?_cons_zero, List.getElem?_cons_succ] at c0 c1 c2 c3 c4 c5
      clear hb2
      rw [hb]
      clear hb
      go_wp2_with fail
      refine (HQ.out _).mono ?_
      rintro e w3 ⟨ev3, rfl, her3, hb3⟩
      have HB3 := Lib.hid (HB2.out.trans (hb3.mono HB2.out.size))
      have HER3 := Lib.hid her3
      clear hb3 c0 c1 c2 c3 c4 c5
      cases hl : (nodeS s).2.2 with
      | nil =>
        rw [hl] at her3
        obtain rfl : ev3 = .nilIface := her3
        have HR := Lib.hid (HPS.out.trans (show overL at_ (nodeS s).2.2 = [] by rw [hl]; rfl))
        clear hl
        go_wp2
        go_ret
        rw [HR.out]
        exact ⟨_, rfl, rfl, HB3.out⟩
      | cons q r =>
        rw [hl] at her3 HER3
        have HR := Lib.hid (HPS.out.trans (show overL at_ (nodeS s).2.2 = ⟨termL, at_, q.code⟩ :: q :: r by rw [hl]; rfl))
        have HCO := Lib.hid (codeT_any ev3 q r w3 HER3.out (HG.out.below HB3.out).e)
        obtain ⟨eb, eu, rfl, _, _⟩ := her3
        clear hl
        go_wp2_with fail
        refine HCO.out.mono ?_
        rintro e w4 ⟨rfl, hb4⟩
        have HF4 := Lib.hid (faultT_any at_ q.code _ _ w4 (HER3.out.below hb4))
        have HB4 := Lib.hid (HB3.out.trans (hb4.mono HB3.out.size))
        clear hb4
        go_wp2_with fail
        refine HF4.out.mono ?_
        rintro e w5 ⟨ev5, rfl, her5, hb5⟩
        have HB5 := Lib.hid (HB4.out.trans (hb5.mono HB4.out.size))
        have HER5 := Lib.hid her5
        clear her5 hb5
        go_wp2
        go_ret
        rw [HR.out]
        exact ⟨_, rfl, HER5.out, HB5.out⟩
    · have HR := Lib.hid (show partS (.mk 4 i s c ns al) at_ = [⟨termL, at_, 40⟩] by simp [partS, formS, Tm.kind, Tm.empty, Tm.int, Tm.text, Tm.cr, Tm.nums, Tm.args, hb, hn])
      have qn : ((ns.length : Int) == 2) = false := beq_eq_false_iff_ne.2 (by omega)
      clear hn
      go_enter Tryd.func58, Tryd.ntmps58
      go_wp2_with fail
      refine (HE.out _ _ _ _).mono ?_
      rintro e w2 ⟨rfl, hb2⟩
      have HB2 := Lib.hid (HB.out.trans (hb2.mono HB.out.size))
      have C2 := Lib.hid (HC.out.below hb2)
      have c0 := C2.out.cell 0
      have c1 := C2.out.cell 1
      have c2 := C2.out.cell 2
      have c3 := C2.out.cell 3
      have c4 := C2.out.cell 4
      have c5 := C2.out.cell 5
      simp only [List.getElem?_cons_zero, List.getElem?_cons_succ] at c0 c1 c2 c3 c4 c5
      clear hb2
      rw [hb]
      clear hb
      go_wp2_with fail
      refine (HF.out _ _).mono ?_
      rintro e w9 ⟨ev, rfl, her, hb9⟩
      have HB9 := Lib.hid (HB2.out.trans (hb9.mono HB2.out.size))
      have HER := Lib.hid her
      clear her hb9
      go_wp2
      go_ret
      rw [HR.out]
      exact ⟨_, rfl, HER.out, HB9.out⟩

set_option maxHeartbeats 8000000 in
set_option maxRecDepth 100000 in
theorem form_7 (S : Nat → Prop) (k i : Int) (s : ByteArray) (c : Int) (na : Option Addr) (nc : Nat) (ns : List Int) (aa : Option Addr) (ac : Nat) (al : List Tm) (at_ : Int) (w : World) (hG : Gt w) (hp : Part k i s c) (ha : ArgsAt S al aa w) (hac : al.length ≤ 140737488351232) (hk : k = 7) :
    Calls Tryd.prog 58 #[.agg #[.int .i64 k, .int .i64 i, .string s, .int .u32 c, .slice na ns.length nc, .slice aa al.length ac], .int .i64 at_] w (RetEr w (partS (.mk k i s c ns al) at_)) := by
  have HE := Lib.hid (fun tx nu ar W => empty_any k i s c na aa ns.length nc al.length ac tx nu ar W)
  have HF := Lib.hid (fun code W => faultT_any at_ code .nilIface [] W rfl)
  have HB := Lib.hid ((Below.refl _ w).alloc (Nat.le_refl _) (.cells #[.int .i64 k, .int .i64 i, .string s, .int .u32 c, .slice na ns.length nc, .slice aa al.length ac] 27 (0, 0)))
  have HC := Lib.hid (Cells.new w 27 [.int .i64 k, .int .i64 i, .string s, .int .u32 c, .slice na ns.length nc, .slice aa al.length ac])
  have HG := Lib.hid hG
  have HP := Lib.hid hp
  clear hG hp
  subst hk
  cases hb : emptyS 7 i s c ns.length al.length false false true with
  | false =>
    have HR := Lib.hid (show partS (.mk 7 i s c ns al) at_ = [⟨termL, at_, 40⟩] by simp [partS, formS, Tm.kind, Tm.empty, Tm.int, Tm.text, Tm.cr, Tm.nums, Tm.args, hb])
    clear ha
    go_enter Tryd.func58, Tryd.ntmps58
    go_wp2_with fail
    refine (HE.out _ _ _ _).mono ?_
    rintro e w2 ⟨rfl, hb2⟩
    have HB2 := Lib.hid (HB.out.trans (hb2.mono HB.out.size))
    have C2 := Lib.hid (HC.out.below hb2)
    have c0 := C2.out.cell 0
    have c1 := C2.out.cell 1
    have c2 := C2.out.cell 2
    have c3 := C2.out.cell 3
    have c4 := C2.out.cell 4
    have c5 := C2.out.cell 5
    simp only [List.getElem?_cons_zero, List.getElem?_cons_succ] at c0 c1 c2 c3 c4 c5
    clear hb2
    rw [hb]
    clear hb
    go_wp2_with fail
    refine (HF.out _ _).mono ?_
    rintro e w9 ⟨ev, rfl, her, hb9⟩
    have HB9 := Lib.hid (HB2.out.trans (hb9.mono HB2.out.size))
    have HER := Lib.hid her
    clear her hb9
    go_wp2
    go_ret
    rw [HR.out]
    exact ⟨_, rfl, HER.out, HB9.out⟩
  | true =>
    by_cases hn : 2 ≤ al.length
    · obtain ⟨g, o, vs, rfl, _, hcs, ht⟩ := ha.get (al.length - 1) (by omega)
      obtain ⟨-, nv, a', cap', rfl, -⟩ := ht.parts
      have h6 := hcs 0 (by omega)
      simp only [List.getElem?_cons_zero] at h6
      have hlt6 := World.block_lt_of_cell? w _ h6
      have hl7 := lastOk_get hn
      have h6' : w.cell? ⟨g, o + (al.length - 1) * 6, none⟩ = some (.int .i64 (al[al.length - 1]'(by omega)).kind) := h6
      generalize (al[al.length - 1]'(by omega)).kind = lk at hl7 h6'
      have H6 := Lib.hid h6'
      have hm : ((al.length - 1 : Nat) : Int) = (al.length : Int) - 1 := by omega
      have hlo : 0 ≤ (al.length : Int) - 1 := by omega
      have hhi : (al.length : Int) - 1 < (al.length : Int) := by omega
      have hn2 : (2 : Int) ≤ (al.length : Int) := by omega
      clear hcs ht h6 h6' ha
      by_cases hlk : lk = 7
      · have HR := Lib.hid (show partS (.mk 7 i s c ns al) at_ = [⟨termL, at_, 40⟩] by simp [partS, formS, Tm.kind, Tm.empty, Tm.int, Tm.text, Tm.cr, Tm.nums, Tm.args, hb, hn, hl7, hlk])
        subst hlk
        clear hl7 hn
        go_enter Tryd.func58, Tryd.ntmps58
        go_wp2_with fail
        refine (HE.out _ _ _ _).mono ?_
        rintro e w2 ⟨rfl, hb2⟩
        have HB2 := Lib.hid (HB.out.trans (hb2.mono HB.out.size))
        have C2 := Lib.hid (HC.out.below hb2)
        have c0 := C2.out.cell 0
        have c1 := C2.out.cell 1
        have c2 := C2.out.cell 2
        have c3 := C2.out.cell 3
        have c4 := C2.out.cell 4
        have c5 := C2.out.cell 5
        simp only [List.getElem?_cons_zero, List.getElem?_cons_succ] at c0 c1 c2 c3 c4 c5
        have h9 := hb2.cell (p := ⟨g, o + (al.length - 1) * 6, none⟩) (Nat.lt_of_lt_of_le hlt6 HB.out.size)
        have h8 := HB.out.cell (p := ⟨g, o + (al.length - 1) * 6, none⟩) hlt6
        rw [h8, H6.out] at h9
        clear h8 hb2
        rw [hb]
        clear hb
        go_wp2_with fail
        refine (HF.out _ _).mono ?_
        rintro e w9 ⟨ev, rfl, her, hb9⟩
        have HB9 := Lib.hid (HB2.out.trans (hb9.mono HB2.out.size))
        have HER := Lib.hid her
        clear her hb9
        go_wp2
        go_ret
        rw [HR.out]
        exact ⟨_, rfl, HER.out, HB9.out⟩
      · have HR := Lib.hid (show partS (.mk 7 i s c ns al) at_ = [] by simp [partS, formS, Tm.kind, Tm.empty, Tm.int, Tm.text, Tm.cr, Tm.nums, Tm.args, hb, hn, hl7, hlk])
        have qk : (lk != 7) = true := bne_iff_ne.2 hlk
        clear hlk hl7 hn
        go_enter Tryd.func58, Tryd.ntmps58
        go_wp2_with fail
        refine (HE.out _ _ _ _).mono ?_
        rintro e w2 ⟨rfl, hb2⟩
        have HB2 := Lib.hid (HB.out.trans (hb2.mono HB.out.size))
        have C2 := Lib.hid (HC.out.below hb2)
        have c0 := C2.out.cell 0
        have c1 := C2.out.cell 1
        have c2 := C2.out.cell 2
        have c3 := C2.out.cell 3
        have c4 := C2.out.cell 4
        have c5 := C2.out.cell 5
        simp only [List.getElem?_cons_zero, List.getElem?_cons_succ] at c0 c1 c2 c3 c4 c5
        have h9 := hb2.cell (p := ⟨g, o + (al.length - 1) * 6, none⟩) (Nat.lt_of_lt_of_le hlt6 HB.out.size)
        have h8 := HB.out.cell (p := ⟨g, o + (al.length - 1) * 6, none⟩) hlt6
        rw [h8, H6.out] at h9
        clear h8 hb2
        rw [hb]
        clear hb
        go_wp2
        go_ret
        rw [HR.out]
        exact ⟨_, rfl, rfl, HB2.out⟩
    · have HR := Lib.hid (show partS (.mk 7 i s c ns al) at_ = [⟨termL, at_, 40⟩] by simp [partS, formS, Tm.kind, Tm.empty, Tm.int, Tm.text, Tm.cr, Tm.nums, Tm.args, hb, hn])
      have hn2 : ¬ (2 : Int) ≤ (al.length : Int) := by omega
      clear ha hn
      go_enter Tryd.func58, Tryd.ntmps58
      go_wp2_with fail
      refine (HE.out _ _ _ _).mono ?_
      rintro e w2 ⟨rfl, hb2⟩
      have HB2 := Lib.hid (HB.out.trans (hb2.mono HB.out.size))
      have C2 := Lib.hid (HC.out.below hb2)
      have c0 := C2.out.cell 0
      have c1 := C2.out.cell 1
      have c2 := C2.out.cell 2
      have c3 := C2.out.cell 3
      have c4 := C2.out.cell 4
      have c5 := C2.out.cell 5
      simp only [List.getElem?_cons_zero, List.getElem?_cons_succ] at c0 c1 c2 c3 c4 c5
      clear hb2
      rw [hb]
      clear hb
      go_wp2_with fail
      refine (HF.out _ _).mono ?_
      rintro e w9 ⟨ev, rfl, her, hb9⟩
      have HB9 := Lib.hid (HB2.out.trans (hb9.mono HB2.out.size))
      have HER := Lib.hid her
      clear her hb9
      go_wp2
      go_ret
      rw [HR.out]
      exact ⟨_, rfl, HER.out, HB9.out⟩

set_option maxHeartbeats 8000000 in
set_option maxRecDepth 100000 in
theorem form_0 (S : Nat → Prop) (k i : Int) (s : ByteArray) (c : Int) (na : Option Addr) (nc : Nat) (ns : List Int) (aa : Option Addr) (ac : Nat) (al : List Tm) (at_ : Int) (w : World) (hG : Gt w) (hp : Part k i s c) (h1 : k ≠ 1) (h2 : k ≠ 2) (h3 : k ≠ 3) (h4 : k ≠ 4) (h5 : k ≠ 5) (h6 : k ≠ 6) (h7 : k ≠ 7) :
    Calls Tryd.prog 58 #[.agg #[.int .i64 k, .int .i64 i, .string s, .int .u32 c, .slice na ns.length nc, .slice aa al.length ac], .int .i64 at_] w (RetEr w (partS (.mk k i s c ns al) at_)) := by
  have HE := Lib.hid (fun tx nu ar W => empty_any k i s c na aa ns.length nc al.length ac tx nu ar W)
  have HF := Lib.hid (fun code W => faultT_any at_ code .nilIface [] W rfl)
  have HB := Lib.hid ((Below.refl _ w).alloc (Nat.le_refl _) (.cells #[.int .i64 k, .int .i64 i, .string s, .int .u32 c, .slice na ns.length nc, .slice aa al.length ac] 27 (0, 0)))
  have HC := Lib.hid (Cells.new w 27 [.int .i64 k, .int .i64 i, .string s, .int .u32 c, .slice na ns.length nc, .slice aa al.length ac])
  have HG := Lib.hid hG
  have HP := Lib.hid hp
  clear hG hp
  have HR := Lib.hid (show partS (.mk k i s c ns al) at_ = [⟨termL, at_, 40⟩] by simp [partS, formS, Tm.kind, Tm.empty, Tm.int, Tm.text, Tm.cr, Tm.nums, Tm.args, h1, h2, h3, h4, h5, h6, h7])
  have q1 : (k == 1) = false := beq_eq_false_iff_ne.2 h1
  have q2 : (k == 2) = false := beq_eq_false_iff_ne.2 h2
  have q3 : (k == 3) = false := beq_eq_false_iff_ne.2 h3
  have q4 : (k == 4) = false := beq_eq_false_iff_ne.2 h4
  have q5 : (k == 5) = false := beq_eq_false_iff_ne.2 h5
  have q6 : (k == 6) = false := beq_eq_false_iff_ne.2 h6
  have q7 : (k == 7) = false := beq_eq_false_iff_ne.2 h7
  clear h1 h2 h3 h4 h5 h6 h7
  go_enter Tryd.func58, Tryd.ntmps58
  go_wp2_with fail
  refine (HF.out _ _).mono ?_
  rintro e w9 ⟨ev, rfl, her, hb9⟩
  have HB9 := Lib.hid (HB.out.trans (hb9.mono HB.out.size))
  have HER := Lib.hid her
  clear her hb9
  go_wp2
  go_ret
  rw [HR.out]
  exact ⟨_, rfl, HER.out, HB9.out⟩

theorem form_any (S : Nat → Prop) (t : Tm) (vs : List Value) (at_ : Int) (w : World) (hG : Gt w) (ht : TmAt S t vs w) :
    Calls Tryd.prog 58 #[.agg vs.toArray, .int .i64 at_] w (RetEr w (partS t at_)) := by
  cases t with
  | mk k i s c ns al =>
    obtain ⟨hp, nv, a, cap, rfl, hn, hc, hcap, ha⟩ := ht.parts
    obtain ⟨na, nc, hnv, _⟩ := hn.slice
    obtain rfl : nv = .slice na ns.length nc := hnv
    by_cases h1 : k = 1
    · exact form_1 S k i s c na nc ns a cap al at_ w hG hp h1
    by_cases h2 : k = 2
    · exact form_2 S k i s c na nc ns a cap al at_ w hG hp h2
    by_cases h3 : k = 3
    · exact form_3 S k i s c na nc ns a cap al at_ w hG hp h3
    by_cases h4 : k = 4
    · exact form_4 S k i s c na nc ns a cap al at_ w hG hp h4
    by_cases h5 : k = 5
    · exact form_5 S k i s c na nc ns a cap al at_ w hG hp h5
    by_cases h6 : k = 6
    · exact form_6 S k i s c na nc ns a cap al at_ w hG hp h6
    by_cases h7 : k = 7
    · have hl : al.length ≤ 140737488351232 := by
        have h : al.length * 88 ≤ 140737488351232 := hcap
        omega
      exact form_7 S k i s c na nc ns a cap al at_ w hG hp ha hl h7
    · exact form_0 S k i s c na nc ns a cap al at_ w hG hp h1 h2 h3 h4 h5 h6 h7
end Go.Proofs.YtkipjbmckpmmfaaDoor
end
