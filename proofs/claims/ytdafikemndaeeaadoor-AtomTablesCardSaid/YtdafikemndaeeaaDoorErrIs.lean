/- errors.Is on a chain of faults. -/
import Derived.Test.YtdafikemndaeeaaDoorErr
import Derived.LaidEql
import Derived.Stop.Asserts
import Derived.Deep.LoopGhost
import Derived.RowKitTokens
import Derived.BigQuiet
import Derived.Deep.QuietTactic
open Go Go.RowKit Go.Extern.Stop Go.Stop Go.Extern
namespace Go.Proofs.YtdafikemndaeeaaDoor

theorem unwrap_one (b : Nat) (layer : Value) (at_ : Value) (code : Int) (w : World) (hc : w.heap[b]? = some (.cells #[layer, at_, .int .i64 code, .nilIface] 109 (0, 0))) :
    Calls Tryd.prog 130 #[.pointer (some ⟨b, 0, none⟩)] w fun e w' => e = .returned (.iface 69 (.int .i64 code)) ∧ w' = w := by
  have h2 : w.cell? ⟨b, 2, none⟩ = some (.int .i64 code) := by simp [World.cell?, hc]
  have h3 : w.cell? ⟨b, 3, none⟩ = some .nilIface := by simp [World.cell?, hc]
  clear hc
  go_enter Tryd.func130, Tryd.ntmps130
  go_wp2
  go_ret
  exact ⟨rfl, rfl⟩
theorem unwrap_more (b : Nat) (layer : Value) (at_ code : Value) (t : TypeId) (v : Value) (w : World) (hc : w.heap[b]? = some (.cells #[layer, at_, code, .iface t v] 109 (0, 0))) :
    Calls Tryd.prog 130 #[.pointer (some ⟨b, 0, none⟩)] w fun e w' => e = .returned (.iface t v) ∧ w' = w := by
  have h3 : w.cell? ⟨b, 3, none⟩ = some (.iface t v) := by simp [World.cell?, hc]
  clear hc
  go_enter Tryd.func130, Tryd.ntmps130
  go_wp2
  go_ret
  exact ⟨rfl, rfl⟩

theorem Tryd.isTypeOf (v : Value) (w : World) : (Extern.ReflectliteType.typeOf #[.iface 69 v]).run Tryd.prog w = .ok (.iface 134 (.agg #[.pointer (some ⟨7, 69, none⟩)])) w := by kernel_rfl
def cmpRow : Array Value → Sem Value := Extern.ReflectliteType.method fun t => do Go.Extern.Rtype.noPackHeld "Comparable" t; pure (.bool (← typeInfo t).comparable)
theorem Tryd.isComparable (w : World) : (cmpRow #[.agg #[.pointer (some ⟨7, 69, none⟩)]]).run Tryd.prog w = .ok (.bool true) w := by kernel_rfl
theorem Tryd.isMethodComparable (v : Value) (w : World) : (Go.method 298 134 v "Comparable").run Tryd.prog w = .ok (136, v) w := by kernel_rfl
theorem Tryd.isComp : (Tryd.prog.info? 69).map (·.comparable) = some true := by kernel_rfl

theorem Tryd.noIsF (v : Value) (xT : TypeId) (w : World) : (Instr.typeAssert (.iface 105 v) xT 136 true).run Tryd.prog w = .ok (.tuple #[.nilIface, .bool false]) w := run_typeAssert_lacksB Tryd.underlying136 (by kernel_rfl) (by kernel_rfl) v xT w
theorem Tryd.hasUnwrapF (v : Value) (xT : TypeId) (w : World) : (Instr.typeAssert (.iface 105 v) xT 139 true).run Tryd.prog w = .ok (.tuple #[.iface 105 v, .bool true]) w := run_typeAssert_hasB Tryd.underlying139 (by kernel_rfl) v xT w
theorem Tryd.methodUnwrap (v : Value) (w : World) : (Go.method 298 105 v "Unwrap").run Tryd.prog w = .ok (130, v) w := by kernel_rfl
theorem Tryd.noIsE (v : Value) (xT : TypeId) (w : World) : (Instr.typeAssert (.iface 69 v) xT 136 true).run Tryd.prog w = .ok (.tuple #[.nilIface, .bool false]) w := run_typeAssert_lacksB Tryd.underlying136 (by kernel_rfl) (by kernel_rfl) v xT w
theorem Tryd.noUnwrapE (v : Value) (xT : TypeId) (w : World) : (Instr.typeAssert (.iface 69 v) xT 139 true).run Tryd.prog w = .ok (.tuple #[.nilIface, .bool false]) w := run_typeAssert_lacksB Tryd.underlying139 (by kernel_rfl) (by kernel_rfl) v xT w
theorem Tryd.noUnwrapsE (v : Value) (xT : TypeId) (w : World) : (Instr.typeAssert (.iface 69 v) xT 141 true).run Tryd.prog w = .ok (.tuple #[.nilIface, .bool false]) w := run_typeAssert_lacksB Tryd.underlying141 (by kernel_rfl) (by kernel_rfl) v xT w

theorem run_equalIn_iface_int {P : Program} (w : World) (d : Nat) {ti tn : TypeId} {ms : Array (String × TypeId)} {i : TypeInfo} {k : IntKind} (a b : Int)
    (hi : P.underlying ti = some (.interface ms)) (hn : P.underlying tn = some (.int k)) (hinfo : P.info? tn = some i) (hcomp : i.comparable = true) :
    (Op.equalIn (d + 2) ti (.iface tn (.int k a)) (.iface tn (.int k b))).run P w = .ok (a == b) w := by
  simp [Op.equalIn, run_underlying hi, run_underlying hn, typeInfo, hinfo, hcomp]
theorem run_eql_iface_int {P : Program} (w : World) {ti tn : TypeId} {ms : Array (String × TypeId)} {i : TypeInfo} {k : IntKind} (a b : Int)
    (hi : P.underlying ti = some (.interface ms)) (hn : P.underlying tn = some (.int k)) (hinfo : P.info? tn = some i) (hcomp : i.comparable = true) :
    (binOp .eql ti (.iface tn (.int k a)) (.iface tn (.int k b))).run P w = .ok (.bool (a == b)) w := by
  simp only [binOp]
  simp [Op.equal, Op.maxDepth, run_equalIn_iface_int w 9998 a b hi hn hinfo hcomp]

/-- what is found at the end of a chain: the last fault's number -/
def lastCode (l : List Lk) : Option Int := l.getLast?.map (·.code)

/-- a stage of errors.is: a chain of faults, or, behind the last one, its number -/
def Stage (w : World) (v : Value) (l : List Lk) (c : Int) : Prop := (l = [] ∧ v = .iface 69 (.int .i64 c)) ∨ (l ≠ [] ∧ ErrIs w v l ∧ lastCode l = some c)

set_option maxHeartbeats 4000000 in
set_option maxRecDepth 100000 in
theorem is_chain (l : List Lk) (v : Value) (c t : Int) (w : World) (hv : Stage w v l c) :
    Calls Tryd.prog 77 #[v, .iface 69 (.int .i64 t), .bool true] w fun e w' => e = .returned (.bool (c == t)) ∧ w' = w := by
  obtain ⟨i, hi, hcmp⟩ := Option.map_eq_some_iff.1 Tryd.isComp
  have nIF := Tryd.noIsF
  have uF := Tryd.hasUnwrapF
  have mU := Tryd.methodUnwrap
  have nIE := Tryd.noIsE
  have nUE := Tryd.noUnwrapE
  have nVE := Tryd.noUnwrapsE
  have hq1 := fun p w => run_eql_iface_types (P := Tryd.prog) 105 69 p (.int .i64 t) Tryd.underlying23 (by decide) w
  have hq2 := run_eql_iface_int (P := Tryd.prog) w c t Tryd.underlying23 Tryd.underlying69 hi hcmp
  go_enter Tryd.func77, Tryd.ntmps77
  go_wp2
  go_loopg [0] l.length (fun n v w' => ∃ l, l.length = n ∧ Stage w v l c ∧ w' = w)
  case atStart => exact ⟨l, rfl, hv, rfl⟩
  case round =>
    clear hv
    obtain ⟨l2, hl2, hst, rfl⟩ := hrel
    rcases hst with ⟨rfl, rfl⟩ | ⟨hne, her, hla⟩
    · by_cases hct : (c == t) = true
      · go_wp2
        go_ret
        exact ⟨ret_bool hct.symm, rfl⟩
      · have hct' : (c == t) = false := by simpa using hct
        clear hct
        go_wp2
        go_ret
        exact ⟨ret_bool hct'.symm, rfl⟩
    · match l2, hne, her, hla with
      | k :: rest, _, her, hla =>
        obtain ⟨b, u, rfl, hcell, hr⟩ := her
        cases rest with
        | nil =>
          obtain rfl : u = .nilIface := hr
          have HU := Lib.hid (unwrap_one b _ _ _ _ hcell)
          go_wp2_with (go_at_call 130; refine HU.out.mono ?_; rintro e w' ⟨rfl, rfl⟩)
          go_roundg 0
          case measure => simp at hl2; omega
          case rel =>
            have hc2 : k.code = c := by simpa [lastCode] using hla
            exact ⟨[], rfl, .inl ⟨rfl, by rw [hc2]⟩, rfl⟩
        | cons k2 rest =>
          obtain ⟨b2, u2, rfl, hcell2, hr2⟩ := hr
          have HU := Lib.hid (unwrap_more b _ _ _ _ _ _ hcell)
          go_wp2_with (go_at_call 130; refine HU.out.mono ?_; rintro e w' ⟨rfl, rfl⟩)
          go_roundg (rest.length + 1)
          case measure => simp at hl2; omega
          case rel =>
            exact ⟨k2 :: rest, rfl, .inr ⟨by simp, ⟨b2, u2, rfl, hcell2, hr2⟩, by simpa [lastCode] using hla⟩, rfl⟩

/-- errors.Is of a chain of faults and a number. -/
def errIsS (l : List Lk) (t : Int) : Bool := lastCode l == some t

set_option maxHeartbeats 4000000 in
set_option maxRecDepth 100000 in
theorem errors_is (l : List Lk) (v : Value) (t : Int) (w : World) (hv : ErrIs w v l) :
    Calls Tryd.prog 56 #[v, .iface 69 (.int .i64 t)] w fun e w' => e = .returned (.bool (errIsS l t)) ∧ w' = w := by
  cases l with
  | nil =>
    obtain rfl : v = .nilIface := hv
    have hn := run_eql_iface_nil_left (P := Tryd.prog) w 69 (.int .i64 t) Tryd.underlying23
    go_enter Tryd.func56, Tryd.ntmps56
    go_wp2
    go_ret
    exact ⟨rfl, rfl⟩
  | cons k rest =>
    obtain ⟨c, hc⟩ : ∃ c, lastCode (k :: rest) = some c := by
      unfold lastCode
      rw [List.getLast?_eq_some_getLast (List.cons_ne_nil k rest)]
      exact ⟨_, rfl⟩
    have HI := Lib.hid (is_chain (k :: rest) v c t w (.inr ⟨by simp, hv, hc⟩))
    have hE := Lib.hid (show errIsS (k :: rest) t = (c == t) by unfold errIsS; rw [hc]; simp)
    obtain ⟨b, u, rfl, hcell, hr⟩ := hv
    have h8 := @run_callFunc_extern Tryd.prog 76 _ Extern.ReflectliteType.typeOf Tryd.func76 (by kernel_rfl) (by kernel_rfl) (by kernel_rfl) (by kernel_rfl)
    have h32 := @run_callFunc_extern Tryd.prog 136 _ cmpRow Tryd.func136 (by kernel_rfl) (by kernel_rfl) (by kernel_rfl) (by kernel_rfl)
    have tT := Tryd.isTypeOf
    have cT := Tryd.isComparable
    have mR := Tryd.isMethodComparable
    clear hr hcell hc
    go_enter Tryd.func56, Tryd.ntmps56
    go_wp2_with (go_at_call 77; refine HI.out.mono ?_; rintro e w' ⟨rfl, rfl⟩)
    go_ret
    exact ⟨ret_bool hE.out.symm, rfl⟩
end Go.Proofs.YtdafikemndaeeaaDoor
