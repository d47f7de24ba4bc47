/- Texts laid together: AtomA. -/
import Derived.Test.YtokkokgdjnkbnaaGreatDoorProg
import Derived.Test.YtokkokgdjnkbnaaGreatDoorP1
import Derived.BigQuiet
import Derived.Deep.QuietTactic
section
/- Package atom, the small functions: kind, word, reserved, plain, nibble, escape, refused. -/
open Go Go.RowKit
namespace Go.Proofs.YtokkokgdjnkbnaaGreatDoor

def atomL : ByteArray := ⟨#[97, 116, 111, 109]⟩
def kindS (c : Int) : Int :=
  if 97 ≤ c ∧ c ≤ 122 then 1 else if 65 ≤ c ∧ c ≤ 90 then 2 else if 48 ≤ c ∧ c ≤ 57 then 3 else if c = 95 ∨ c = 64 then 4 else 0

set_option maxHeartbeats 1000000 in
theorem kind_any (c : Int) (w : World) :
    Calls Tryz.prog 63 #[.int .u8 c] w fun e w' =>
      e = .returned (.int .i64 (kindS c)) ∧ w' = w := by
  have h95 : c = 95 ∨ c ≠ 95 := by omega
  have h64 : c = 64 ∨ c ≠ 64 := by omega
  go_enter Tryz.func63, Tryz.ntmps63
  go_wp2
  all_goals
    go_ret
    exact ⟨ret_int (by first | (unfold kindS; simp_all; done) | (unfold kindS; simp_all <;> omega) | skip), rfl⟩

/-- the place behind a run of word bytes -/
def wordS (l : List UInt8) : Nat := (l.takeWhile fun c => kindS (c.toNat : Int) != 0).length

theorem wordS_cons (c : UInt8) (l : List UInt8) : wordS (c :: l) = if kindS (c.toNat : Int) = 0 then 0 else 1 + wordS l := by
  unfold wordS
  by_cases h : kindS (c.toNat : Int) = 0
  · simp [h]
  · simp [h]; omega
theorem wordS_le (l : List UInt8) : wordS l ≤ l.length := by
  unfold wordS; exact (List.takeWhile_sublist _).length_le

def reservedL : List (List UInt8) := [[97, 102, 116, 101, 114], [97, 110, 100], [97, 110, 100, 97, 108, 115, 111], [98, 101, 103, 105, 110], [99, 97, 115, 101], [99, 97, 116, 99, 104], [100, 105, 118], [101, 110, 100], [102, 117, 110], [105, 102], [110, 111, 116], [111, 102], [111, 114], [111, 114, 101, 108, 115, 101], [114, 101, 99, 101, 105, 118, 101], [114, 101, 109], [116, 114, 121], [119, 104, 101, 110], [120, 111, 114]]
def reservedS (l : List UInt8) : Bool := reservedL.contains l

/-- does an atom stand without quotes? -/
def plainS (l : List UInt8) : Bool :=
  match l with
  | [] => false
  | c :: _ => kindS (c.toNat : Int) == 1 && wordS l == l.length && !reservedS l

/-- the value of a hexadecimal digit; below 0: it is none -/
def nibbleS (c : Int) : Int :=
  if 97 ≤ c ∧ c ≤ 102 then c - 87 else if 65 ≤ c ∧ c ≤ 70 then c - 55 else if 48 ≤ c ∧ c ≤ 57 then c - 48 else -1
theorem nibbleS_lo (x : Int) : -1 ≤ nibbleS x := by unfold nibbleS; (repeat' split) <;> omega
theorem nibbleS_hi (x : Int) : nibbleS x ≤ 15 := by unfold nibbleS; (repeat' split) <;> omega

/-- two hexadecimal digits -/
def hexS (l : List UInt8) : Int × Int :=
  match l with
  | a :: b :: _ => if 0 ≤ nibbleS a.toNat ∧ 0 ≤ nibbleS b.toNat then (nibbleS a.toNat * 16 + nibbleS b.toNat, 3) else (0, 0)
  | _ => (0, 0)
/-- what stands behind a backslash: the byte, and how many bytes that takes -/
def escapeS (l : List UInt8) : Int × Int :=
  match l with
  | [] => (0, 0)
  | c :: l =>
    if c = 110 then (10, 1) else if c = 116 then (9, 1) else if c = 114 then (13, 1)
    else if c = 39 ∨ c = 92 then (c.toNat, 1)
    else if c = 120 then hexS l
    else (0, 0)

theorem refused_any (at_ code : Int) (w : World) :
    Calls Tryz.prog 64 #[.int .i64 at_, .int .i64 code] w fun e w' =>
      e = .returned (.iface 128 (.pointer (some ⟨w.heap.size, 0, none⟩))) ∧
      w' = w.alloc (.cells #[.string ⟨#[97, 116, 111, 109]⟩, .int .i64 at_, .int .i64 code, .nilIface] 130 (0,0)) := by
  go_enter Tryz.func64, Tryz.ntmps64
  go_wp2
  go_ret
  exact ⟨rfl, rfl⟩

end Go.Proofs.YtokkokgdjnkbnaaGreatDoor
end
