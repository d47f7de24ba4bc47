/- Texts laid together: Rnd. -/
import Derived.Test.YtlahagabcnmdiaaGreatDoorP19
import Derived.RangeFuncSeq
import Derived.Deep.RegionHeld3
section
/- A range over a function, none of whose rounds leaves early; a region of a round walked as any region. No function of the program is looked at here. -/
open Go Go.RowKit
namespace Go.Proofs.YtlahagabcnmdiaaGreatDoor
set_option linter.unusedVariables false

theorem rowsIn_wide {n : Nat} {P : Program} {row : String} {args : Array Value} {w : World} {R : Value → World → Prop} (h : Rows P row args w R) : RowsIn Fence.wide n P row args w R :=
  fun c cs _ => let ⟨v, w', r, s⟩ := h c cs; ⟨v, w', r, stepsIn_wide.2 s⟩
/-- no operation is a deferred call -/
def noDefer (ops : Array Oper) : Bool := ops.all fun o => match o.op with | .defer _ => false | _ => true
theorem noDefer_get {ops : Array Oper} (h : noDefer ops = true) {i : Nat} {o : Oper} (ho : ops[i]? = some o) : ∀ c, o.op ≠ .defer c := by
  intro c e
  unfold noDefer at h
  rw [Array.all_eq_true'] at h
  have := h o (Array.mem_of_getElem? ho)
  rw [e] at this
  cases this
theorem oper_round {l n : Nat} {P : Program} {o : Oper} {a : Act} {w : World} {K : Act → World → Prop} {Q : Exit → Act → World → Prop} (ho : ∀ c, o.op ≠ .defer c) (h : Oper.wp P o a w K Q) :
    Oper.wpIn (Fence.wide.inRound l) n P o a w K Q := by
  unfold Oper.wpIn
  refine ⟨fun _ _ => trivial, ?_⟩
  show Oper.uponIn _ n P o a K Q ((o.semAt (some l) a.eval).run P w)
  rw [Oper.semAt_some l _ _ ho]
  unfold Oper.wp at h
  generalize (execOp a.eval o).run P w = r at *
  have hd : (Fence.wide.inRound l).depth.isSome = true → 1 ≤ n := fun h => by simp [Fence.wide, Fence.inRound] at h
  cases r with
  | ok x w' =>
    cases x with
    | value v => exact h
    | skip => exact h
    | defer d => exact h
    | enter f args => exact ⟨hd, callsIn_wide.2 h⟩
    | row row args => exact ⟨hd, rowsIn_wide h⟩
    | _ => exact h.elim
  | halt x w' => cases x <;> exact h
theorem wpOps_round {l n : Nat} {P : Program} {ops : Array Oper} {Q : Exit → Act → World → Prop} (hd : noDefer ops = true) (hq : ¬ LetsOut Q) :
    ∀ (is : List Nat) (a : Act) (w : World), wpOps P ops Q is a w → wpOpsIn (Fence.wide.inRound l) n P ops Q is a w := by
  intro is
  induction is with
  | nil => exact fun _ _ h => h
  | cons i rest ih =>
    intro a w h
    unfold wpOps at h
    unfold wpOpsIn
    cases ho : ops[i]? with
    | none => rw [ho] at h; exact ih a w h
    | some o =>
      rw [ho] at h
      simp only at h ⊢
      by_cases hw : Region.wanted o (yielded ops a.tmps) = true
      · rw [if_pos hw] at h ⊢
        rcases h with h | ⟨_, h⟩
        · exact oper_round (noDefer_get hd ho) (Oper.wp_mono (fun a w h => ih a w h) h)
        · exact absurd h hq
      · rw [if_neg hw] at h ⊢
        exact ⟨fun _ _ => trivial, ih _ _ h⟩
/-- a region that draws, in a round -/
theorem region_round {id l n : Nat} {P : Program} {ops : Array Oper} {S : World → Prop} {Q : Exit → Act → World → Prop} {a : Act} {w : World} (hd : noDefer ops = true) (hq : ¬ LetsOut Q) (hm : P.follows .mixedOrders = true) (hS : S w.drew)
    (h : S w.drew → wpAnyH P .any ops Q S ops.size (Array.replicate ops.size false) a w.drew) : (Code.region id ops true).wpIn (Fence.wide.inRound l) n P Q a w :=
  wpIn_region_draw fun t => wpOps_round hd hq _ _ _ (by
    simp only [Region.schedule, hm, Bool.true_or, if_true]
    exact wpAny_sound ops.size t _ a _ (wpAny_of_held _ _ _ _ (h hS)))
/-- a region in a fixed order, in a round -/
theorem region_round_list {id k n : Nat} {P : Program} {l : List Oper} {Q : Exit → Act → World → Prop} {a : Act} {w : World} (hd : noDefer l.toArray = true) (hq : ¬ LetsOut Q) (h : wpList P l.toArray Q l a w) :
    (Code.region id l.toArray false).wpIn (Fence.wide.inRound k) n P Q a w :=
  wpIn_region (wpOps_round hd hq _ _ _ (by
    rw [List.range_eq_range', ← Array.length_toList, wpOps_eq_wpList l.toArray.toList 0 (by simp)]
    simpa using h))

theorem wp_rangeFunc_all {P : Program} {g : Operand} {ps : Array Tmp} {assign body : Code} {Q : Exit → Act → World → Prop} {a : Act} {w : World} {gf : Nat} {lb : Array Value} (hg : a.eval g = .func (.func gf) #[] lb)
    (eg : ∀ args w, (callFunc gf args).run P w = .ok (.enter gf args) w) (J : Nat → World → Prop) (N : Nat) (args : Nat → Array Value) (hsz : ∀ k, (args k).size = ps.size)
    (hJb : ∀ k W W', J k W → Below W.heap.size W W' → J k W') (hJp : ∀ k W r o, J k W → W.heap[w.heap.size + 1]? = some (.loop r) → J k (W.putObj (w.heap.size + 1) (.loop o))) (h0 : J 0 w)
    (hit : ∀ (l : Nat) (J' : Nat → World → Prop), (∀ k W W', J' k W → Below W.heap.size W W' → J' k W') → (∀ k W, J' k W → J k W) → ∀ W, J' 0 W →
      (∀ k W, k < N → J' k W → YieldAt Fence.wide 0 P l (args k) W fun e W' => e = .returned (.bool true) ∧ J' (k + 1) W') → CallsIn Fence.wide 0 P gf (#[.func (.yield l) #[] #[]] ++ lb) W fun e W' => (∃ v, e = .returned v) ∧ J' N W')
    (hround : ∀ k W, k < N → J k W → (∃ r, W.heap[w.heap.size + 1]? = some (.loop r)) → (∃ o, W.heap[w.heap.size]? = some (.deferred o)) → assign.wpIn (Fence.wide.inRound (w.heap.size + 1)) 0 P (Exit.then (fun a₁ w₁ => Below W.heap.size W w₁ ∧ ∀ o, body.wpIn (Fence.wide.inRound (w.heap.size + 1)) 0 P
      (fun x _ w₃ => x = .normal ∧ J (k + 1) w₃ ∧ w₃.heap[w.heap.size + 1]? = (w₁.putObj (w.heap.size + 1) (.loop o)).heap[w.heap.size + 1]? ∧ w₃.heap[w.heap.size]? = (w₁.putObj (w.heap.size + 1) (.loop o)).heap[w.heap.size]?) a₁ (w₁.putObj (w.heap.size + 1) (.loop o))) (fun _ _ _ => False))
      { tmps := (ps.zip (args k)).foldl (fun t (p, v) => t.setIfInBounds p v) a.tmps, defers := [] } W)
    (hdone : ∀ W, J N W → W.heap[w.heap.size]? = some (.deferred (some [])) → Q .normal { a with defers := { target := .collected w.heap.size, args := #[] } :: a.defers } W) :
    (Code.rangeFunc g ps assign body).wp P Q a w := by
  refine wpIn_wide.1 (wpIn_rangeFunc (n := 0) ?_)
  intro fn hfn
  obtain ⟨rec, hrec⟩ : ∃ rec : LoopState → Option Code → Loop, rec = fun st pe => { state := st, pending := pe, fn, tmps := a.tmps, params := ps, assign, body, defers := w.heap.size } := ⟨_, rfl⟩
  obtain ⟨W1, hW1⟩ : ∃ W1, (w.alloc (.deferred (some []))).alloc (.loop (rec .ready none)) = W1 := ⟨_, rfl⟩
  have hL1 : W1.heap[w.heap.size + 1]? = some (.loop (rec .ready none)) := by
    rw [← hW1]; have := World.alloc_heap_new (w.alloc (.deferred (some []))) (.loop (rec .ready none)); rwa [World.size_alloc] at this
  have hK1 : W1.heap[w.heap.size]? = some (.deferred (some [])) := by
    rw [← hW1]; exact (Below.heap_alloc _ _ _ (by simp)).trans (World.alloc_heap_new w _)
  have hb1 : Below w.heap.size w W1 := by
    rw [← hW1]; exact ((Below.refl _ w).alloc (Nat.le_refl _) _).alloc (by simp) _
  refine ⟨w.heap.size + 1, [{ target := .collected w.heap.size, args := #[] }], W1, { target := .fn (.func gf) lb, args := #[.func (.yield (w.heap.size + 1)) #[] #[]] }, W1, gf,
    #[.func (.yield (w.heap.size + 1)) #[] #[]] ++ lb, W1, ?_, ?_, fun _ _ => trivial, ?_, fun h => by simp [Fence.wide] at h, ?_⟩
  · rw [← hW1, hrec]; exact run_enterLoop_outer _ _ _ _ _
  · simp only [resolve, hg]
    simp [go_sem]
  · simp [invoke, go_sem, eg]
  · have hlt : ∀ {W : World} {k : Nat} {o : Obj}, W.heap[k]? = some o → k < W.heap.size := fun h => (Array.getElem?_eq_some_iff.1 h).1
    refine (hit (w.heap.size + 1) (fun k W => J k W ∧ W.heap[w.heap.size + 1]? = some (.loop (rec .ready none)) ∧ W.heap[w.heap.size]? = some (.deferred (some [])))
      (fun k W W' h hb => ⟨hJb k W W' h.1 hb, (hb.block _ (hlt h.2.1)).trans h.2.1, (hb.block _ (hlt h.2.2)).trans h.2.2⟩) (fun _ _ h => h.1) W1 ⟨hJb 0 _ _ h0 hb1, hL1, hK1⟩ ?_).mono ?_
    · rintro k W hk ⟨hJ, hL, hK⟩
      have hy := run_yield (P := P) hL (args := args k) (by rw [hrec]; exact hsz k)
      refine ⟨fn, _, assign, body, by rw [hy, hrec], roundIn_of_wpIn hfn ?_⟩
      refine wpIn_mono (hround k W hk hJ ⟨_, hL⟩ ⟨_, hK⟩) ?_
      intro e a₁ w₁ h
      cases e with
      | normal =>
        obtain ⟨hb, hbody⟩ := h
        have hL2 := (hb.block _ (hlt hL)).trans hL
        refine ⟨_, run_beginRound hL2 (by rw [hrec]), ?_⟩
        refine wpIn_mono (hbody _) ?_
        rintro x a₂ w₃ ⟨rfl, hJ3, hl3, hd3⟩
        rw [World.putObj_heap_same (hlt hL2)] at hl3
        have hd4 : w₃.heap[w.heap.size]? = some (.deferred (some [])) := by
          rw [hd3, World.putObj_heap_other (by omega)]
          exact (hb.block _ (hlt hK)).trans hK
        refine ⟨_, _, run_endRound none hl3, rfl, hJp _ _ _ _ hJ3 hl3, ?_, ?_⟩
        · rw [World.putObj_heap_same (hlt hl3)]
          rw [hrec]; rfl
        · rw [World.putObj_heap_other (by omega)]; exact hd4
      | _ => exact h.elim
    · rintro e W ⟨⟨v, rfl⟩, hJ, hL, hK⟩
      refine ⟨none, _, by rw [run_endLoop hL (by rw [hrec]; intro h; cases h)]; rw [hrec], ?_⟩
      exact hdone _ (hJp _ _ _ _ hJ hL) (by rw [World.putObj_heap_other (by omega)]; exact hK)

/-- a function that holds such a loop -/
theorem calls_of_marks {P : Program} {f : FuncId} {fn : Func} {c : Code} {args : Array Value} {w : World} {R : Ending → World → Prop} (hf : P.funcs[f]? = some fn) (hb : fn.body = some c)
    (h : c.wp P (bodyPostM Fence.wide 0 P fn R) { tmps := args ++ Array.replicate (fn.ntmps - args.size) undef, defers := [] } w) : Calls P f args w R :=
  callsIn_wide.1 (callsIn_of_wp_marks hf hb trivial (wpIn_wide.2 h) rfl)
end Go.Proofs.YtlahagabcnmdiaaGreatDoor
end
