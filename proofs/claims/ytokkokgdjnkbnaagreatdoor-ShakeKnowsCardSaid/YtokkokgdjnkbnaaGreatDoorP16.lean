/- Texts laid together: ShkS, SidS. -/
import Derived.Test.YtokkokgdjnkbnaaGreatDoorP13
import Derived.Test.YtokkokgdjnkbnaaGreatDoorP15
section
/- Layer 8, plain: messages of the handshake, their bytes. -/
open Go Go.RowKit
namespace Go.Proofs.YtokkokgdjnkbnaaGreatDoor

def shakeL : ByteArray := ⟨#[115, 104, 97, 107, 101]⟩
structure Msg where
  kind : Int
  flags : Int
  creation : Int
  challenge : Int
  name : ByteArray
  status : ByteArray
  digest : List UInt8
def Msg.none : Msg := ⟨0, 0, 0, 0, ⟨#[]⟩, ⟨#[]⟩, []⟩
structure Msg.Ok (m : Msg) : Prop where
  f0 : 0 ≤ m.flags
  f1 : m.flags < 18446744073709551616
  r0 : 0 ≤ m.creation
  r1 : m.creation < 4294967296
  h0 : 0 ≤ m.challenge
  h1 : m.challenge < 4294967296
  nz : m.name.size ≤ 140737488351232
  sz : m.status.size ≤ 140737488351232
  dz : m.digest.length ≤ 140737488351232
def Msg.val (m : Msg) (dv : Value) : Value := .agg #[.int .i64 m.kind, .int .u64 m.flags, .int .u32 m.creation, .int .u32 m.challenge, .string m.name, .string m.status, dv]

/-- a number's bytes, the greatest first -/
def beN (n : Int) : Nat → List UInt8
  | 0 => []
  | k + 1 => b8 n (2 ^ (8 * k)) :: beN n k
theorem beN_length (n : Int) (k : Nat) : (beN n k).length = k := by
  induction k with
  | zero => rfl
  | succ k ih => simp [beN, ih]
theorem beN_take (n : Int) (m : Nat) : ∀ k, k < m → (beN n m).take (m - k) = (beN n m).take (m - (k + 1)) ++ [b8 n (2 ^ (8 * k))] := by
  induction m with
  | zero => intro k h; omega
  | succ m ih =>
    intro k h
    by_cases e : k = m
    · subst e; simp [beN]
    · have h1 : m + 1 - k = (m - k) + 1 := by omega
      have h2 : m + 1 - (k + 1) = (m - (k + 1)) + 1 := by omega
      rw [h1, h2, beN, List.take_succ_cons, List.take_succ_cons, ih k (by omega)]
      rfl
/-- the number that bytes are -/
def numS (l : List UInt8) : Int := l.foldl (fun n c => n * 256 + (c.toNat : Int)) 0
theorem numS_snoc (l : List UInt8) (c : UInt8) : numS (l ++ [c]) = numS l * 256 + c.toNat := by simp [numS]
theorem numS_acc (l : List UInt8) : ∀ n : Int, l.foldl (fun n c => n * 256 + (c.toNat : Int)) n = n * 256 ^ l.length + numS l := by
  unfold numS
  induction l with
  | nil => intro n; simp
  | cons c l ih =>
    intro n
    rw [List.foldl_cons, List.foldl_cons, ih (n * 256 + c.toNat), ih (0 * 256 + c.toNat), List.length_cons, Int.pow_succ]
    grind
theorem numS_cons (c : UInt8) (l : List UInt8) : numS (c :: l) = c.toNat * 256 ^ l.length + numS l := by
  show List.foldl _ _ _ = _
  rw [List.foldl_cons, numS_acc]
  simp
theorem numS_bd (l : List UInt8) : 0 ≤ numS l ∧ numS l < 256 ^ l.length := by
  induction l with
  | nil => simp [numS]
  | cons c l ih =>
    rw [numS_cons, List.length_cons, Int.pow_succ]
    have := c.toNat_lt
    have hp : (0 : Int) < 256 ^ l.length := Int.pow_pos (by decide)
    generalize (256 : Int) ^ l.length = p at *
    have h1 : 0 ≤ (c.toNat : Int) * p := Int.mul_nonneg (by omega) (by omega)
    have h2 : (c.toNat : Int) * p ≤ 255 * p := Int.mul_le_mul_of_nonneg_right (by omega) (by omega)
    omega
theorem emod_mul_256 (n p : Int) (hp : 0 < p) : n % (p * 256) = n / p % 256 * p + n % p := by
  have h1 := Int.mul_ediv_add_emod n p
  have h2 := Int.mul_ediv_add_emod (n / p) 256
  have h3 : 0 ≤ n % p := Int.emod_nonneg _ (by omega)
  have h4 : n % p < p := Int.emod_lt_of_pos _ hp
  have h5 : 0 ≤ n / p % 256 := Int.emod_nonneg _ (by omega)
  have h6 : n / p % 256 < 256 := Int.emod_lt_of_pos _ (by omega)
  generalize n / p / 256 = q at *
  generalize n / p % 256 = r at *
  generalize n % p = s at *
  have e : n = (r * p + s) + (p * 256) * q := by grind
  have h7 : 0 ≤ r * p := Int.mul_nonneg h5 (by omega)
  have h8 : r * p ≤ 255 * p := Int.mul_le_mul_of_nonneg_right (by omega) (by omega)
  rw [e, Int.add_mul_emod_self_left, Int.emod_eq_of_lt (by omega) (by omega)]
theorem pow_2_8 (k : Nat) : (2 : Int) ^ (8 * k) = 256 ^ k := by rw [Int.pow_mul]; rfl
theorem numS_beN (n : Int) (k : Nat) : numS (beN n k) = n % 256 ^ k := by
  induction k with
  | zero => simp [beN, numS, Int.emod_one]
  | succ k ih =>
    rw [beN, numS_cons, beN_length, ih, pow_2_8, Int.pow_succ]
    have hb : ((b8 n (256 ^ k)).toNat : Int) = n / 256 ^ k % 256 := by
      unfold b8
      simp
      omega
    rw [hb]
    have hp : (0 : Int) < 256 ^ k := Int.pow_pos (by decide)
    rw [emod_mul_256 _ _ hp]
theorem beN_numS (l : List UInt8) : beN (numS l) l.length = l := by
  induction l with
  | nil => rfl
  | cons c l ih =>
    rw [List.length_cons, beN, numS_cons, pow_2_8]
    have hb := numS_bd l
    have hp : (0 : Int) < 256 ^ l.length := Int.pow_pos (by decide)
    have e1 : b8 ((c.toNat : Int) * 256 ^ l.length + numS l) (256 ^ l.length) = c := by
      unfold b8
      rw [Int.add_comm, Int.add_mul_ediv_right _ _ (by omega), Int.ediv_eq_zero_of_lt hb.1 hb.2]
      have := c.toNat_lt
      apply UInt8.toNat_inj.1
      simp
      omega
    have e2 : ∀ k, k ≤ l.length → beN ((c.toNat : Int) * 256 ^ l.length + numS l) k = beN (numS l) k := by
      intro k hk
      induction k with
      | zero => rfl
      | succ k ihk =>
        rw [beN, beN, ihk (by omega), pow_2_8]
        congr 1
        unfold b8
        congr 2
        obtain ⟨d, hd⟩ : ∃ d, l.length = k + 1 + d := ⟨l.length - (k + 1), by omega⟩
        rw [hd, Int.pow_add, Int.pow_succ]
        have hp2 : (256 : Int) ^ k ≠ 0 := Int.ne_of_gt (Int.pow_pos (by decide))
        rw [show (c.toNat : Int) * (256 ^ k * 256 * 256 ^ d) + numS l = numS l + (c.toNat * 256 ^ d * 256) * 256 ^ k by grind, Int.add_mul_ediv_right _ _ hp2, Int.add_mul_emod_self_right]
    rw [e1, e2 _ (Nat.le_refl _), ih]

def statusL : List (List UInt8) := [[111, 107], [111, 107, 95, 115, 105, 109, 117, 108, 116, 97, 110, 101, 111, 117, 115], [110, 111, 107], [110, 111, 116, 95, 97, 108, 108, 111, 119, 101, 100], [97, 108, 105, 118, 101]]
def isSt (s : ByteArray) : Bool := statusL.contains s.data.toList
def emp (s : ByteArray) : Bool := s.toList.isEmpty
/-- has a message the fields of its kind alone? -/
def formS (m : Msg) : Bool :=
  if m.kind = 1 then m.challenge == 0 && emp m.status && m.digest.length == 0
  else if m.kind = 2 then m.flags == 0 && m.creation == 0 && emp m.name && m.challenge == 0 && isSt m.status && m.digest.length == 0
  else if m.kind = 3 then emp m.status && m.digest.length == 0
  else if m.kind = 4 then m.flags == 0 && m.creation == 0 && emp m.name && emp m.status && m.digest.length == 16
  else if m.kind = 5 then m.flags == 0 && m.creation == 0 && emp m.name && m.challenge == 0 && emp m.status && m.digest.length == 16
  else false
def letS (k : Int) : UInt8 := if k = 1 ∨ k = 3 then 78 else if k = 2 then 115 else if k = 4 then 114 else 97
/-- a message's bytes -/
def writeS (m : Msg) : List UInt8 × List Lk :=
  if formS m = false then ([], [⟨shakeL, 0, 1⟩])
  else if m.kind = 2 then (115 :: m.status.data.toList, [])
  else if m.kind = 4 then (114 :: (beN m.challenge 4 ++ m.digest), [])
  else if m.kind = 5 then (97 :: m.digest, [])
  else if (nodeS m.name).2.2 ≠ [] then ([], [⟨shakeL, 0, 24⟩, ⟨atomL, 0, 24⟩])
  else (78 :: (beN m.flags 8 ++ (if m.kind = 3 then beN m.challenge 4 else []) ++ beN m.creation 4 ++ beN m.name.size 2 ++ m.name.data.toList), [])
def wantS (k : Int) : Nat := if k = 1 then 15 else if k = 3 then 19 else if k = 4 then 21 else if k = 5 then 17 else 0
def cutB (b : List UInt8) (lo n : Nat) : List UInt8 := (b.drop lo).take n
/-- the message that bytes are -/
def readS (k : Int) (b : List UInt8) : Msg × List Lk :=
  if k < 1 ∨ 5 < k then (Msg.none, [⟨shakeL, 0, 1⟩])
  else if b.head? ≠ some (letS k) then (Msg.none, [⟨shakeL, 0, 160⟩])
  else if k = 2 then
    if isSt ⟨(b.drop 1).toArray⟩ then (⟨2, 0, 0, 0, ⟨#[]⟩, ⟨(b.drop 1).toArray⟩, []⟩, []) else (Msg.none, [⟨shakeL, 1, 160⟩])
  else if b.length < wantS k then (Msg.none, [⟨shakeL, b.length, 160⟩])
  else if k = 4 ∨ k = 5 then
    if b.length = wantS k then (⟨k, 0, 0, if k = 4 then numS (cutB b 1 4) else 0, ⟨#[]⟩, ⟨#[]⟩, b.drop (wantS k - 16)⟩, []) else (Msg.none, [⟨shakeL, wantS k, 160⟩])
  else
    let at_ := wantS k + (numS (cutB b (wantS k - 2) 2)).toNat
    if b.length < at_ then (Msg.none, [⟨shakeL, b.length, 160⟩])
    else if at_ < b.length then (Msg.none, [⟨shakeL, at_, 160⟩])
    else if (nodeS ⟨(b.drop (wantS k)).toArray⟩).2.2 ≠ [] then (Msg.none, [⟨shakeL, wantS k, 24⟩, ⟨atomL, 0, 24⟩])
    else (⟨k, numS (cutB b 1 8), numS (cutB b (wantS k - 6) 4), if k = 3 then numS (cutB b 9 4) else 0, ⟨(b.drop (wantS k)).toArray⟩, ⟨#[]⟩, []⟩, [])
end Go.Proofs.YtokkokgdjnkbnaaGreatDoor
end
section
/- Layer 8, plain: the sides of a handshake. -/
open Go Go.RowKit
namespace Go.Proofs.YtokkokgdjnkbnaaGreatDoor

structure Sd where
  st : Int
  pn : ByteArray
  pf : Int
  pc : Int
  sim : Bool
  mn : ByteArray
  mf : Int
  mc : Int
  want : ByteArray
  cookie : ByteArray
  ch : Nat
def Sd.cells (s : Sd) : List Value := [.int .i64 s.st, .string s.pn, .int .u64 s.pf, .int .u32 s.pc, .bool s.sim, .string s.mn, .int .u64 s.mf, .int .u32 s.mc, .string s.want, .string s.cookie, .int .u32 s.ch]
/-- the side of a state, of what it knows of the other -/
def Sd.now (s : Sd) (st : Int) (pn : ByteArray) (pf pc : Int) (sim : Bool) : Sd := ⟨st, pn, pf, pc, sim, s.mn, s.mf, s.mc, s.want, s.cookie, s.ch⟩
def Sd.dead (s : Sd) : Sd := s.now 8 ⟨#[]⟩ 0 0 false
structure Sd.Ok (s : Sd) : Prop where
  s0 : 1 ≤ s.st
  s1 : s.st ≤ 8
  pf0 : 0 ≤ s.pf
  pf1 : s.pf < 18446744073709551616
  mf0 : 0 ≤ s.mf
  mf1 : s.mf < 18446744073709551616
  mc0 : 0 ≤ s.mc
  mc1 : s.mc < 4294967296
  mz : s.mn.size ≤ 140737488351232
  ch1 : s.ch < 4294967296
  ck : cookieS s.cookie = []

theorem beqL_ne {a b : ByteArray} (h : a ≠ b) : (a.toList == b.toList) = false := by
  refine beq_eq_false_iff_ne.2 fun e => h ?_
  simp only [ByteArray.toList_eq] at e
  exact ByteArray.ext (Array.toList_inj.1 e)
theorem beqL_eq {a b : ByteArray} (h : a = b) : (a.toList == b.toList) = true := by simp [h]

def needF : Int := 4345626892
/-- lack flags what is needed? -/
def lackS (f : Int) : Bool := bits BinOp.and IntKind.u64 f needF != needF
def errK (c : Int) : List Lk := [⟨shakeL, 0, c⟩]
def overS (l : List Lk) : List Lk := match l with | [] => [] | k :: r => ⟨shakeL, 0, k.code⟩ :: k :: r
/-- why a side is not made -/
def madeS (mn : ByteArray) (mf mc : Int) (peer : ByteArray) (begins : Bool) (cookie : ByteArray) : List Lk :=
  if (nodeS mn).2.2 ≠ [] then overS (nodeS mn).2.2
  else if begins = true ∧ (nodeS peer).2.2 ≠ [] then overS (nodeS peer).2.2
  else if lackS mf = true then errK 162
  else if mc = 0 then errK 1
  else if begins = true ∧ peer = mn then errK 6
  else overS (cookieS cookie)
def newS (mn : ByteArray) (mf mc : Int) (peer : ByteArray) (begins : Bool) (cookie : ByteArray) (ch : Nat) : Sd :=
  ⟨if begins then 1 else 4, ⟨#[]⟩, 0, 0, false, mn, mf, mc, peer, cookie, ch⟩

def okB : ByteArray := ⟨#[111, 107]⟩
def simB : ByteArray := ⟨#[111, 107, 95, 115, 105, 109, 117, 108, 116, 97, 110, 101, 111, 117, 115]⟩
def notB : ByteArray := ⟨#[110, 111, 116, 95, 97, 108, 108, 111, 119, 101, 100]⟩
def okQ (s : ByteArray) : Bool := decide (s = okB) || decide (s = simB)
/-- the kind of message that a state waits for -/
def waitK (st : Int) : Int := if st = 1 then 2 else if st = 2 then 3 else if st = 3 then 5 else if st = 4 then 1 else 4
def replyM (ch : Int) (d : List UInt8) : Msg := ⟨4, 0, 0, ch, ⟨#[]⟩, ⟨#[]⟩, d⟩
def ackM (d : List UInt8) : Msg := ⟨5, 0, 0, 0, ⟨#[]⟩, ⟨#[]⟩, d⟩
def statM (s : ByteArray) : Msg := ⟨2, 0, 0, 0, ⟨#[]⟩, s, []⟩
def chalM (f c h : Int) (n : ByteArray) : Msg := ⟨3, f, c, h, n, ⟨#[]⟩, []⟩
def nameM (f c : Int) (n : ByteArray) : Msg := ⟨1, f, c, 0, n, ⟨#[]⟩, []⟩
abbrev Took := Sd × List (List UInt8) × List Lk
/-- a side takes a message that is one -/
def tookS (s : Sd) (m : Msg) : Took :=
  if m.kind = 2 then (if okQ m.status then (s.now 2 s.pn s.pf s.pc (decide (m.status = simB)), [], []) else (s, [], errK 164))
  else if m.kind = 3 then (if m.name ≠ s.want ∨ lackS m.flags = true then (s, [], errK 162)
    else (s.now 3 m.name m.flags m.creation s.sim, [(writeS (replyM s.ch (digestS s.cookie m.challenge.toNat).1)).1], []))
  else if m.kind = 1 then (s.now 5 m.name m.flags m.creation s.sim, [], [])
  else if sameS s.cookie s.ch m.digest = false then (s, [], errK 163)
  else (s.now 7 s.pn s.pf s.pc s.sim, if m.kind = 5 then [] else [(writeS (ackM (digestS s.cookie m.challenge.toNat).1)).1], [])
/-- a side takes a message -/
def takeS (s : Sd) (b : List UInt8) : Took :=
  if s.st = 8 then (s, [], errK 8)
  else if s.st = 5 ∨ s.st = 7 then (s, [], errK 161)
  else if (readS (waitK s.st) b).2 ≠ [] then (s.dead, [], (readS (waitK s.st) b).2)
  else if (tookS s (readS (waitK s.st) b).1).2.2 ≠ [] then (s.dead, [], (tookS s (readS (waitK s.st) b).1).2.2)
  else tookS s (readS (waitK s.st) b).1
/-- a side answers a name -/
def answerS (s : Sd) (status : ByteArray) : Took :=
  if s.st = 8 then (s, [], errK 8)
  else if s.st ≠ 5 then (s, [], errK 161)
  else if isSt status = false then (s, [], errK 1)
  else
    let t := if lackS s.pf = true ∨ s.pc = 0 ∨ s.pn = s.mn then notB else status
    if okQ t then (s.now 6 s.pn s.pf s.pc (decide (t = simB)), [(writeS (statM t)).1, (writeS (chalM s.mf s.mc s.ch s.mn)).1], [])
    else (s.dead, [(writeS (statM t)).1], [])
end Go.Proofs.YtokkokgdjnkbnaaGreatDoor
end
