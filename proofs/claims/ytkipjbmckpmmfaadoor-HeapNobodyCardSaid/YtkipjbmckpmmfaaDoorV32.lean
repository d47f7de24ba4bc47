/- Texts laid together: HpS, HpT, HpM, HpA, HpB, HpC, HpD, HpE, HpF. -/
import Derived.Test.YtkipjbmckpmmfaaDoorV27
import Derived.Test.YtkipjbmckpmmfaaDoorV31
import Derived.Test.YtkipjbmckpmmfaaDoorV9
import Derived.WalkSpells
import Derived.Laws.Bits64b
import Derived.BigRegion
import Derived.Deep.RegionHeld3
import Derived.Deep.QuietTactic
import Derived.Test.YtkipjbmckpmmfaaDoorV16
import Derived.Test.YtkipjbmckpmmfaaDoorV23
section
/- Layer 3, plain: what a heap comes to. No function of the program is looked at here. -/
open Go Go.RowKit
namespace Go.Proofs.YtkipjbmckpmmfaaDoor
set_option linter.unusedVariables false

def hpL : ByteArray := ⟨#[104, 101, 97, 112]⟩
/-- words, and the texts of atoms -/
structure Hs where
  l : List Nat
  at_ : List ByteArray
/-- a text's number -/
def nH (a : List ByteArray) (s : ByteArray) : Nat := match idxM a s.data.toList with | some i => i.toNat | none => a.length
def aH (a : List ByteArray) (s : ByteArray) : List ByteArray := match idxM a s.data.toList with | some _ => a | none => a ++ [s]
def iW (i : Int) : Nat := ((i * 4) % 18446744073709551616).toNat + 1
def putH (kind : Nat) (ws : List Nat) (h : Hs) : Nat × Hs := (h.l.length * 4, ⟨h.l ++ (kind + 256 * ws.length) :: ws, h.at_⟩)
def Hs.named (h : Hs) (s : ByteArray) : Hs := ⟨h.l, aH h.at_ s⟩
mutual
def layS : Tm → Hs → Nat × Hs
  | .mk k i s c ns al, h =>
    if k = 1 then (iW i, h)
    else if k = 2 then (nH h.at_ s * 4 + 2, h.named s)
    else if k = 6 then (3, h)
    else if k = 4 then putH 3 [nH h.at_ s, c.toNat, (ns.getD 0 0).toNat * 4294967296 + (ns.getD 1 0).toNat] (h.named s)
    else if k = 3 then putH 4 [nH h.at_ s, c.toNat, (ns.getD 0 0).toNat, (ns.getD 1 0).toNat, (ns.getD 2 0).toNat] (h.named s)
    else if k = 5 then putH 2 (layL al h).1 (layL al h).2
    else layC al h
def layL : List Tm → Hs → List Nat × Hs
  | [], h => ([], h)
  | t :: r, h => ((layS t h).1 :: (layL r (layS t h).2).1, (layL r (layS t h).2).2)
def layC : List Tm → Hs → Nat × Hs
  | [], h => (0, h)
  | t :: r, h => if r.isEmpty then layS t h else putH 1 [(layS t (layC r h).2).1, (layC r h).1] (layS t (layC r h).2).2
end
mutual
/-- how many words a term takes -/
def takesT : Tm → Nat
  | .mk k _ _ _ _ al => if k = 4 then 4 else if k = 3 then 6 else (if k = 7 then 3 * (al.length - 1) else if k = 5 then 1 + al.length else 0) + takesTL al
def takesTL : List Tm → Nat
  | [] => 0
  | t :: r => takesT t + takesTL r
end
def leastS (k : Nat) : Nat := if k = 1 then 2 else if k = 3 then 3 else if k = 4 then 5 else 0
/-- what a word stands for: kind and words; kind 0: nothing -/
def objS (h : Hs) (w : Nat) : Nat × List Nat :=
  if w % 4 ≠ 0 ∨ h.l.length ≤ w / 4 then (0, [])
  else if h.l.getD (w / 4) 0 % 256 < 1 ∨ 4 < h.l.getD (w / 4) 0 % 256 ∨ h.l.length - 1 - w / 4 < h.l.getD (w / 4) 0 / 256 then (0, [])
  else if h.l.getD (w / 4) 0 / 256 < leastS (h.l.getD (w / 4) 0 % 256) then (0, [])
  else if 3 ≤ h.l.getD (w / 4) 0 % 256 ∧ h.at_.length ≤ h.l.getD (w / 4 + 1) 0 then (0, [])
  else (h.l.getD (w / 4) 0 % 256, (h.l.drop (w / 4 + 1)).take (h.l.getD (w / 4) 0 / 256))
/-- how large and deep what is gone through is -/
structure Sn where
  parts : Nat
  deep : Nat
  bad : Bool
def rowH (rd : Nat → Nat → Sn → Sn) : List Nat → Nat → Sn → Sn
  | [], _, s => s
  | x :: r, d, s => if 4096 < s.parts then s else rowH rd r d (rd x d s)
def chainH (h : Hs) (rd : Nat → Nat → Sn → Sn) : Nat → Nat → Nat → Sn → Sn
  | 0, _, _, s => s
  | g + 1, w, d, s =>
    if (objS h w).1 = 1 ∧ s.parts ≤ 4096 then chainH h rd g ((objS h w).2.getD 1 0) d (rd ((objS h w).2.getD 0 0) d s)
    else if s.parts ≤ 4096 then rd w d s else s
/-- a word that was counted -/
def oneH (h : Hs) (rd : Nat → Nat → Sn → Sn) (w d : Nat) (s : Sn) : Sn :=
  if 4096 < s.parts then s
  else if w % 4 = 2 then ⟨s.parts, s.deep, s.bad || decide (h.at_.length ≤ w / 4)⟩
  else if w % 4 = 1 then s
  else if w % 4 = 3 then ⟨s.parts, s.deep, s.bad || decide (w ≠ 3)⟩
  else if (objS h w).1 = 0 then ⟨s.parts, s.deep, true⟩
  else if (objS h w).1 = 2 then rowH rd (objS h w).2 (d + 1) s
  else if (objS h w).1 = 1 then chainH h rd (4098 - s.parts) w (d + 1) s
  else s
def walkH (h : Hs) : Nat → Nat → Nat → Sn → Sn
  | 0, _, _, s => s
  | f + 1, w, d, s => oneH h (walkH h f) w d ⟨s.parts + 1, max s.deep d, s.bad⟩
def sI (w : Nat) : Int := if w < 9223372036854775808 then ((w / 4 : Nat) : Int) else ((w : Int) - 18446744073709551616) / 4
def chainT (h : Hs) (rd : Nat → Tm) : Nat → Nat → List Tm
  | 0, _ => []
  | g + 1, w => if (objS h w).1 = 1 then rd ((objS h w).2.getD 0 0) :: chainT h rd g ((objS h w).2.getD 1 0) else [rd w]
def lowW (x : Nat) : Int := ((x % 4294967296 : Nat) : Int)
def oneT (h : Hs) (rd : Nat → Tm) (w : Nat) : Tm :=
  if w % 4 = 1 then .mk 1 (sI w) ⟨#[]⟩ 0 [] []
  else if w % 4 = 2 then .mk 2 0 (h.at_.getD (w / 4) ⟨#[]⟩) 0 [] []
  else if w % 4 = 3 then .mk 6 0 ⟨#[]⟩ 0 [] []
  else if (objS h w).1 = 3 then .mk 4 0 (h.at_.getD ((objS h w).2.getD 0 0) ⟨#[]⟩) (lowW ((objS h w).2.getD 1 0)) [lowW ((objS h w).2.getD 2 0 / 4294967296), lowW ((objS h w).2.getD 2 0)] []
  else if (objS h w).1 = 4 then .mk 3 0 (h.at_.getD ((objS h w).2.getD 0 0) ⟨#[]⟩) (lowW ((objS h w).2.getD 1 0)) [lowW ((objS h w).2.getD 2 0), lowW ((objS h w).2.getD 3 0), lowW ((objS h w).2.getD 4 0)] []
  else if (objS h w).1 = 2 then .mk 5 0 ⟨#[]⟩ 0 [] ((objS h w).2.map rd)
  else .mk 7 0 ⟨#[]⟩ 0 [] (chainT h rd 4098 w)
/-- the term of a word that was walked -/
def termH (h : Hs) : Nat → Nat → Tm
  | 0, _ => .mk 0 0 ⟨#[]⟩ 0 [] []
  | f + 1, w => oneT h (termH h f) w
/-- Term -/
def seenH (h : Hs) (w : Nat) : Sn := walkH h 4098 w 1 ⟨0, 0, false⟩
def toldS (s : Sn) : List Lk := if 4096 < s.parts then [⟨hpL, 0, 5⟩] else if s.bad then [⟨hpL, 0, 60⟩] else if 256 < s.deep then [⟨hpL, 0, 9⟩] else []
def termTop (h : Hs) (w : Nat) : Tm × List Lk := (if toldS (seenH h w) = [] then termH h 4098 w else .mk 0 0 ⟨#[]⟩ 0 [] [], toldS (seenH h w))
/-- the fault around another layer's -/
def overH (l : List Lk) : List Lk := match l with | [] => [] | k :: r => ⟨hpL, 0, k.code⟩ :: k :: r
/-- Lay -/
def layTop (half : Nat) (t : Tm) (h : Hs) : Nat × List Lk × Hs :=
  if checkS t ≠ [] then (0, overH (checkS t), h) else if (half : Int) - h.l.length < takesT t then (0, [⟨hpL, 0, 61⟩], h) else ((layS t h).1, [], (layS t h).2)
end Go.Proofs.YtkipjbmckpmmfaaDoor
end
section
/- Layer 3, plain: words that stand for a term; what is walked and read of them. No function of the program is looked at here. -/
open Go Go.RowKit
namespace Go.Proofs.YtkipjbmckpmmfaaDoor
set_option linter.unusedVariables false
set_option linter.unusedSimpArgs false

/-- h2 is h with more behind it -/
structure Ext (h h2 : Hs) : Prop where
  l : ∃ z, h2.l = h.l ++ z
  a : ∃ z, h2.at_ = h.at_ ++ z
theorem Ext.refl (h : Hs) : Ext h h := ⟨⟨[], by simp⟩, ⟨[], by simp⟩⟩
theorem Ext.trans {a b c : Hs} (h : Ext a b) (k : Ext b c) : Ext a c := by
  obtain ⟨⟨z, e1⟩, ⟨y, e2⟩⟩ := h
  obtain ⟨⟨z2, e3⟩, ⟨y2, e4⟩⟩ := k
  exact ⟨⟨z ++ z2, by rw [e3, e1, List.append_assoc]⟩, ⟨y ++ y2, by rw [e4, e2, List.append_assoc]⟩⟩
theorem Ext.atom {h h2 : Hs} (e : Ext h h2) {i : Nat} {s : ByteArray} (hs : h.at_[i]? = some s) : h2.at_[i]? = some s := by
  obtain ⟨_, ⟨y, e2⟩⟩ := e
  have := (List.getElem?_eq_some_iff.1 hs).1
  rw [e2, List.getElem?_append_left this, hs]
theorem getD_app (l z : List Nat) (i : Nat) (h : i < l.length) : (l ++ z).getD i 0 = l.getD i 0 := by
  simp only [List.getD, List.getElem?_append_left h]
theorem objS_cases (h : Hs) (w : Nat) : ((objS h w).1 = 0 ∧ objS h w = (0, [])) ∨ (w % 4 = 0 ∧ w / 4 < h.l.length ∧ 1 ≤ h.l.getD (w / 4) 0 % 256 ∧ h.l.getD (w / 4) 0 % 256 ≤ 4 ∧ h.l.getD (w / 4) 0 / 256 ≤ h.l.length - 1 - w / 4 ∧ leastS (h.l.getD (w / 4) 0 % 256) ≤ h.l.getD (w / 4) 0 / 256 ∧ (3 ≤ h.l.getD (w / 4) 0 % 256 → h.l.getD (w / 4 + 1) 0 < h.at_.length) ∧ objS h w = (h.l.getD (w / 4) 0 % 256, (h.l.drop (w / 4 + 1)).take (h.l.getD (w / 4) 0 / 256))) := by
  unfold objS
  by_cases h1 : w % 4 ≠ 0 ∨ h.l.length ≤ w / 4
  · rw [if_pos h1]; exact .inl ⟨rfl, rfl⟩
  · rw [if_neg h1]
    by_cases h2 : h.l.getD (w / 4) 0 % 256 < 1 ∨ 4 < h.l.getD (w / 4) 0 % 256 ∨ h.l.length - 1 - w / 4 < h.l.getD (w / 4) 0 / 256
    · rw [if_pos h2]; exact .inl ⟨rfl, rfl⟩
    · rw [if_neg h2]
      by_cases h3 : h.l.getD (w / 4) 0 / 256 < leastS (h.l.getD (w / 4) 0 % 256)
      · rw [if_pos h3]; exact .inl ⟨rfl, rfl⟩
      · rw [if_neg h3]
        by_cases h4 : 3 ≤ h.l.getD (w / 4) 0 % 256 ∧ h.at_.length ≤ h.l.getD (w / 4 + 1) 0
        · rw [if_pos h4]; exact .inl ⟨rfl, rfl⟩
        · rw [if_neg h4]
          exact .inr ⟨by omega, by omega, by omega, by omega, by omega, by omega, fun h5 => by omega, rfl⟩
theorem objS_low {h : Hs} {w : Nat} (hk : (objS h w).1 ≠ 0) : w % 4 = 0 := by
  rcases objS_cases h w with ⟨e, _⟩ | ⟨e, _⟩
  · exact absurd e hk
  · exact e
theorem objS_ext {h h2 : Hs} (e : Ext h h2) {w : Nat} (hk : (objS h w).1 ≠ 0) : objS h2 w = objS h w := by
  rcases objS_cases h w with ⟨e0, _⟩ | ⟨c1, c2, c3, c4, c5, c6, c7, c8⟩
  · exact absurd e0 hk
  · obtain ⟨⟨z, e1⟩, ⟨y, e2⟩⟩ := e
    have g1 : h2.l.getD (w / 4) 0 = h.l.getD (w / 4) 0 := by rw [e1]; exact getD_app _ _ _ c2
    have l1 : h2.l.length = h.l.length + z.length := by rw [e1, List.length_append]
    have l2 : h2.at_.length = h.at_.length + y.length := by rw [e2, List.length_append]
    have g2 : 3 ≤ h.l.getD (w / 4) 0 % 256 → h2.l.getD (w / 4 + 1) 0 = h.l.getD (w / 4 + 1) 0 := fun h3 => by
      rw [e1]
      refine getD_app _ _ _ ?_
      have h6 : 3 ≤ leastS (h.l.getD (w / 4) 0 % 256) := by
        generalize h.l.getD (w / 4) 0 % 256 = k at h3 c4
        have : k = 3 ∨ k = 4 := by omega
        rcases this with rfl | rfl <;> decide
      omega
    rw [c8]
    unfold objS
    rw [g1, l1, l2, if_neg (by omega), if_neg (by omega), if_neg (by omega), if_neg (fun h5 => by have := g2 h5.1; have := c7 h5.1; omega), e1, List.drop_append_of_le_length (by omega), List.take_append_of_le_length (by rw [List.length_drop]; omega)]
theorem nH_get (a : List ByteArray) (s : ByteArray) : (aH a s)[nH a s]? = some s := by
  unfold aH nH
  cases hi : idxM a s.data.toList with
  | none => simp
  | some i =>
    unfold idxM at hi
    obtain ⟨j, hj, rfl⟩ := Option.map_eq_some_iff.1 hi
    obtain ⟨h1, h2, _⟩ := List.findIdx?_eq_some_iff_getElem.1 hj
    have e : a[j] = s := by
      have h3 : a[j].data.toList = s.data.toList := by simpa using h2
      cases hx : a[j] with
      | mk d => cases s with | mk d2 => rw [hx] at h3; simp at h3; rw [h3]
    dsimp only
    rw [Int.toNat_natCast, List.getElem?_eq_getElem h1, e]
theorem aH_ext (a : List ByteArray) (s : ByteArray) : ∃ z, aH a s = a ++ z := by
  unfold aH
  cases idxM a s.data.toList with
  | none => exact ⟨[s], rfl⟩
  | some i => exact ⟨[], by simp⟩
theorem named_ext (h : Hs) (s : ByteArray) : Ext h (h.named s) := ⟨⟨[], by simp [Hs.named]⟩, aH_ext _ _⟩
theorem putH_ext (k : Nat) (ws : List Nat) (h : Hs) : Ext h (putH k ws h).2 := ⟨⟨_, rfl⟩, ⟨[], by simp [putH]⟩⟩
/-- what was put is there -/
theorem putH_obj (k : Nat) (ws : List Nat) (h : Hs) (h1 : 1 ≤ k) (h4 : k ≤ 4) (hl : leastS k ≤ ws.length) (ha : 3 ≤ k → ws.getD 0 0 < h.at_.length) : objS (putH k ws h).2 (putH k ws h).1 = (k, ws) := by
  have e1 : (putH k ws h).1 / 4 = h.l.length := by unfold putH; dsimp only; omega
  have e2 : (putH k ws h).1 % 4 = 0 := by unfold putH; dsimp only; omega
  have e3 : (putH k ws h).2.l.getD h.l.length 0 = k + 256 * ws.length := by
    unfold putH; dsimp only
    simp only [List.getD, List.getElem?_append_right (Nat.le_refl _), Nat.sub_self, List.getElem?_cons_zero, Option.getD_some]
  have e4 : (putH k ws h).2.l.length = h.l.length + 1 + ws.length := by unfold putH; simp; omega
  have e5 : (putH k ws h).2.l.drop (h.l.length + 1) = ws := by
    unfold putH; dsimp only
    rw [List.drop_append]
    simp
  have e6 : (putH k ws h).2.l.getD (h.l.length + 1) 0 = ws.getD 0 0 := by
    unfold putH; dsimp only
    rw [List.getD, List.getD, List.getElem?_append_right (Nat.le_succ _), Nat.succ_sub (Nat.le_refl _), Nat.sub_self, List.getElem?_cons_succ]
  have e7 : (k + 256 * ws.length) % 256 = k := by omega
  have e8 : (k + 256 * ws.length) / 256 = ws.length := by omega
  have e9 : (putH k ws h).2.at_ = h.at_ := rfl
  unfold objS
  rw [e1, e2, e3, e4, e5, e6, e7, e8, e9, if_neg (by omega), if_neg (by omega), if_neg (by omega), if_neg (fun h5 => by have := ha h5.1; omega), List.take_of_length_le (Nat.le_refl _)]
mutual
/-- the word w stands for a term -/
def RepT (h : Hs) : Tm → Nat → Prop
  | .mk k i s c ns al, w =>
    (k = 1 ∧ (-576460752303423488 ≤ i ∧ i ≤ 576460752303423487) ∧ s = ⟨#[]⟩ ∧ c = 0 ∧ ns = [] ∧ al = [] ∧ w = iW i) ∨
    (k = 2 ∧ i = 0 ∧ c = 0 ∧ ns = [] ∧ al = [] ∧ w % 4 = 2 ∧ h.at_[w / 4]? = some s) ∨
    (k = 6 ∧ i = 0 ∧ s = ⟨#[]⟩ ∧ c = 0 ∧ ns = [] ∧ al = [] ∧ w = 3) ∨
    (k = 4 ∧ i = 0 ∧ al = [] ∧ (0 ≤ c ∧ c < 4294967296) ∧ ∃ a x y, ns = [x, y] ∧ (0 ≤ x ∧ x < 4294967296) ∧ (0 ≤ y ∧ y < 4294967296) ∧ objS h w = (3, [a, c.toNat, x.toNat * 4294967296 + y.toNat]) ∧ h.at_[a]? = some s) ∨
    (k = 3 ∧ i = 0 ∧ al = [] ∧ (0 ≤ c ∧ c < 4294967296) ∧ ∃ a x y z, ns = [x, y, z] ∧ (0 ≤ x ∧ x < 4294967296) ∧ (0 ≤ y ∧ y < 4294967296) ∧ (0 ≤ z ∧ z < 4294967296) ∧ objS h w = (4, [a, c.toNat, x.toNat, y.toNat, z.toNat]) ∧ h.at_[a]? = some s) ∨
    (k = 5 ∧ i = 0 ∧ s = ⟨#[]⟩ ∧ c = 0 ∧ ns = [] ∧ ∃ r, objS h w = (2, r) ∧ RepL h al r) ∨
    (k = 7 ∧ i = 0 ∧ s = ⟨#[]⟩ ∧ c = 0 ∧ ns = [] ∧ 2 ≤ al.length ∧ RepC h al w)
def RepL (h : Hs) : List Tm → List Nat → Prop
  | [], r => r = []
  | t :: q, r => ∃ x r', r = x :: r' ∧ RepT h t x ∧ RepL h q r'
def RepC (h : Hs) : List Tm → Nat → Prop
  | [], _ => False
  | t :: q, w => (q = [] ∧ t.kind ≠ 7 ∧ RepT h t w) ∨ (q ≠ [] ∧ ∃ x y, objS h w = (1, [x, y]) ∧ RepT h t x ∧ RepC h q y)
end
mutual
theorem RepT.ext {h h2 : Hs} (e : Ext h h2) : ∀ {t : Tm} {w : Nat}, RepT h t w → RepT h2 t w
  | .mk k i s c ns al, w, hr => by
    rw [RepT] at hr ⊢
    rcases hr with hr | ⟨h1, h2, h3, h4, h5, h6, h7⟩ | hr | ⟨h1, h2, h3, h4, a, x, y, h5, h6, h7, h8, h9⟩ | ⟨h1, h2, h3, h4, a, x, y, z, h5, h6, h7, h8, h9, h10⟩ | ⟨h1, h2, h3, h4, h5, r, h6, h7⟩ | ⟨h1, h2, h3, h4, h5, h6, h7⟩
    · exact .inl hr
    · exact .inr (.inl ⟨h1, h2, h3, h4, h5, h6, e.atom h7⟩)
    · exact .inr (.inr (.inl hr))
    · exact .inr (.inr (.inr (.inl ⟨h1, h2, h3, h4, a, x, y, h5, h6, h7, (objS_ext e (by rw [h8]; simp)).trans h8, e.atom h9⟩)))
    · exact .inr (.inr (.inr (.inr (.inl ⟨h1, h2, h3, h4, a, x, y, z, h5, h6, h7, h8, (objS_ext e (by rw [h9]; simp)).trans h9, e.atom h10⟩))))
    · exact .inr (.inr (.inr (.inr (.inr (.inl ⟨h1, h2, h3, h4, h5, r, (objS_ext e (by rw [h6]; simp)).trans h6, RepL.ext e h7⟩)))))
    · exact .inr (.inr (.inr (.inr (.inr (.inr ⟨h1, h2, h3, h4, h5, h6, RepC.ext e h7⟩)))))
theorem RepL.ext {h h2 : Hs} (e : Ext h h2) : ∀ {l : List Tm} {r : List Nat}, RepL h l r → RepL h2 l r
  | [], r, hr => by rw [RepL] at hr ⊢; exact hr
  | t :: q, r, hr => by
    rw [RepL] at hr ⊢
    obtain ⟨x, r', h1, h2, h3⟩ := hr
    exact ⟨x, r', h1, RepT.ext e h2, RepL.ext e h3⟩
theorem RepC.ext {h h2 : Hs} (e : Ext h h2) : ∀ {l : List Tm} {w : Nat}, RepC h l w → RepC h2 l w
  | [], w, hr => by rw [RepC] at hr; exact hr.elim
  | t :: q, w, hr => by
    rw [RepC] at hr ⊢
    rcases hr with ⟨h1, h2, h3⟩ | ⟨h1, x, y, h2, h3, h4⟩
    · exact .inl ⟨h1, h2, RepT.ext e h3⟩
    · exact .inr ⟨h1, x, y, (objS_ext e (by rw [h2]; simp)).trans h2, RepT.ext e h3, RepC.ext e h4⟩
end
/-- what is no list is no cell -/
theorem iW_mod (i : Int) : iW i % 4 = 1 := by
  unfold iW
  have : ((i * 4) % 18446744073709551616).toNat % 4 = 0 := by omega
  omega
theorem RepT.notcell {h : Hs} {t : Tm} {w : Nat} (hr : RepT h t w) (hk : t.kind ≠ 7) : (objS h w).1 ≠ 1 := by
  cases t with
  | mk k i s c ns al =>
  rw [RepT] at hr
  have low : w % 4 ≠ 0 → (objS h w).1 ≠ 1 := fun h1 h2 => h1 (objS_low (by rw [h2]; simp))
  rcases hr with ⟨h1, h2, h3, h4, h5, h6, rfl⟩ | ⟨h1, h2, h3, h4, h5, h6, h7⟩ | ⟨h1, h2, h3, h4, h5, h6, rfl⟩ | ⟨h1, h2, h3, h4, a, x, y, h5, h6, h7, h8, h9⟩ | ⟨h1, h2, h3, h4, a, x, y, z, h5, h6, h7, h8, h9, h10⟩ | ⟨h1, h2, h3, h4, h5, r, h6, h7⟩ | ⟨h1, h2, h3, h4, h5, h6, h7⟩
  · exact low (by rw [iW_mod]; decide)
  · exact low (by omega)
  · exact low (by decide)
  · rw [h8]; exact (by decide : (3 : Nat) ≠ 1)
  · rw [h9]; exact (by decide : (4 : Nat) ≠ 1)
  · rw [h6]; exact (by decide : (2 : Nat) ≠ 1)
  · exact absurd h1 hk
mutual
/-- how deep a term goes that stands at a depth -/
def dpT : Tm → Nat → Nat
  | .mk _ _ _ _ _ al, d => max d (dpL al (d + 1))
def dpL : List Tm → Nat → Nat
  | [], _ => 0
  | t :: r, d => max (dpT t d) (dpL r d)
end
mutual
theorem okF_dp : ∀ (t : Tm) (f d : Nat), okF t f → dpT t d ≤ d + f - 1
  | .mk k i s c ns al, f, d, h => by
    rw [okF] at h
    rw [dpT]
    have := okFL_dp al (f - 1) (d + 1) h.2.2
    have := h.2.1
    omega
theorem okFL_dp : ∀ (l : List Tm) (f d : Nat), okFL l f → dpL l d ≤ d + f - 1
  | [], f, d, _ => by rw [dpL]; omega
  | t :: r, f, d, h => by
    rw [okFL] at h
    rw [dpL]
    have := okF_dp t f d h.1
    have := okFL_dp r f d h.2
    omega
end
mutual
theorem okF_ok : ∀ (t : Tm) (f : Nat), okF t f → okT t
  | .mk k i s c ns al, f, h => by
    rw [okF] at h
    rw [okT]
    exact ⟨h.1, okFL_ok al _ h.2.2⟩
theorem okFL_ok : ∀ (l : List Tm) (f : Nat), okFL l f → okTL l
  | [], f, _ => by rw [okTL]; trivial
  | t :: r, f, h => by
    rw [okFL] at h
    rw [okTL]
    exact ⟨okF_ok t f h.1, okFL_ok r f h.2⟩
end
/-! ### what is walked -/
def After (s s2 : Sn) (n m : Nat) : Prop := (s.parts + n ≤ 4096 → s2 = ⟨s.parts + n, max s.deep m, s.bad⟩) ∧ (4096 < s.parts + n → 4096 < s2.parts)
theorem After.trans {s s2 s3 : Sn} {n m n2 m2 : Nat} (h : After s s2 n m) (k : After s2 s3 n2 m2) : After s s3 (n + n2) (max m m2) := by
  constructor
  · intro hl
    have e := h.1 (by omega)
    have e2 := k.1 (by rw [e]; dsimp only; omega)
    rw [e2, e]
    dsimp only
    congr 1
    · omega
    · omega
  · intro hl
    by_cases hb : s.parts + n ≤ 4096
    · have e := h.1 hb
      exact k.2 (by rw [e]; dsimp only; omega)
    · have := h.2 (by omega)
      exact k.2 (by omega)
theorem After.le {s s2 : Sn} {n m : Nat} (h : After s s2 n m) (hs : s.parts ≤ 4096) : s.parts + n ≤ s2.parts ∨ 4096 < s2.parts := by
  by_cases hb : s.parts + n ≤ 4096
  · have e := h.1 hb; exact .inl (by rw [e]; exact Nat.le_refl _)
  · exact .inr (h.2 (by omega))
theorem sizeT_pos (t : Tm) : 1 ≤ sizeT t := by cases t; rw [sizeT]; omega
theorem After.stop {s : Sn} {n m : Nat} (h : 4096 < s.parts) : After s s n m := ⟨fun h1 => by omega, fun _ => h⟩
mutual
theorem RepT.walk {h : Hs} : ∀ (t : Tm) (w f d : Nat) (s : Sn), RepT h t w → 4098 ≤ s.parts + f → s.parts ≤ 4096 → After s (walkH h f w d s) (sizeT t) (dpT t d)
  | .mk k i st c ns al, w, 0, d, s, hr, hf, hs => by omega
  | .mk k i st c ns al, w, f + 1, d, s, hr, hf, hs => by
    rw [walkH, sizeT, dpT]
    have h1 : After s ⟨s.parts + 1, max s.deep d, s.bad⟩ 1 d := ⟨fun _ => rfl, fun h => h⟩
    refine h1.trans ?_
    generalize hs1 : (⟨s.parts + 1, max s.deep d, s.bad⟩ : Sn) = s1
    have hp : s1.parts = s.parts + 1 := by rw [← hs1]
    unfold oneH
    by_cases hb : 4096 < s1.parts
    · rw [if_pos hb]; exact .stop hb
    · rw [if_neg hb]
      have leaf : al = [] → After s1 s1 (sizeTL al) (dpL al (d + 1)) := fun e => by
        subst e
        rw [sizeTL, dpL]
        exact ⟨fun _ => by rw [Nat.add_zero, Nat.max_zero], fun h => absurd h (by omega)⟩
      have hd : ∀ b : Bool, b = false → (⟨s1.parts, s1.deep, s1.bad || b⟩ : Sn) = s1 := fun b hb => by rw [hb, Bool.or_false]
      rw [RepT] at hr
      rcases hr with ⟨h1, h2, h3, h4, h5, h6, rfl⟩ | ⟨h1, h2, h3, h4, h5, h6, h7⟩ | ⟨h1, h2, h3, h4, h5, h6, rfl⟩ | ⟨h1, h2, h3, h4, a, x, y, h5, h6, h7, h8, h9⟩ | ⟨h1, h2, h3, h4, a, x, y, z, h5, h6, h7, h8, h9, h10⟩ | ⟨h1, h2, h3, h4, h5, r, h6, h7⟩ | ⟨h1, h2, h3, h4, h5, h6, h7⟩
      · rw [if_neg (by rw [iW_mod]; decide), if_pos (iW_mod i)]; exact leaf h6
      · have h8 := (List.getElem?_eq_some_iff.1 h7).1
        rw [if_pos h6, hd _ (decide_eq_false (by omega))]; exact leaf h5
      · rw [if_neg (by decide), if_neg (by decide), if_pos (by decide), hd _ (by decide)]; exact leaf h6
      · have hl := objS_low (h := h) (w := w) (by rw [h8]; simp)
        rw [if_neg (by omega), if_neg (by omega), if_neg (by omega), h8, if_neg (by simp), if_neg (by simp), if_neg (by simp)]; exact leaf h3
      · have hl := objS_low (h := h) (w := w) (by rw [h9]; simp)
        rw [if_neg (by omega), if_neg (by omega), if_neg (by omega), h9, if_neg (by simp), if_neg (by simp), if_neg (by simp)]; exact leaf h3
      · have hl := objS_low (h := h) (w := w) (by rw [h6]; simp)
        rw [if_neg (by omega), if_neg (by omega), if_neg (by omega), h6, if_neg (by simp), if_pos rfl]
        exact RepL.walk al r f (d + 1) s1 h7 (by omega)
      · have hc : (objS h w).1 = 1 := by
          match al, h6, h7 with
          | t :: t2 :: q, _, h7 =>
            rw [RepC] at h7
            rcases h7 with ⟨e, _⟩ | ⟨_, x, y, e, _⟩
            · cases e
            · rw [e]
        have hl := objS_low (h := h) (w := w) (by rw [hc]; simp)
        rw [if_neg (by omega), if_neg (by omega), if_neg (by omega), if_neg (by rw [hc]; simp), if_neg (by rw [hc]; simp), if_pos hc]
        exact RepC.walk al w f (4098 - s1.parts) (d + 1) s1 h7 (by omega) (by omega)
theorem RepL.walk {h : Hs} : ∀ (l : List Tm) (r : List Nat) (f d : Nat) (s : Sn), RepL h l r → 4098 ≤ s.parts + f → After s (rowH (walkH h f) r d s) (sizeTL l) (dpL l d)
  | [], r, f, d, s, hr, hf => by
    rw [RepL] at hr
    subst hr
    rw [rowH, sizeTL, dpL]
    exact ⟨fun _ => by rw [Nat.add_zero, Nat.max_zero], fun h => h⟩
  | t :: q, r, f, d, s, hr, hf => by
    rw [RepL] at hr
    obtain ⟨x, r', rfl, h2, h3⟩ := hr
    rw [rowH, sizeTL, dpL]
    by_cases hb : 4096 < s.parts
    · rw [if_pos hb]; exact .stop hb
    · rw [if_neg hb]
      have h1 := RepT.walk t x f d s h2 hf (by omega)
      refine h1.trans ?_
      by_cases hb2 : 4096 < (walkH h f x d s).parts
      · cases r' with
        | nil =>
          cases q with
          | nil => rw [rowH]; exact .stop hb2
          | cons t2 q2 => rw [RepL] at h3; obtain ⟨_, _, e, _⟩ := h3; cases e
        | cons y r2 => rw [rowH, if_pos hb2]; exact .stop hb2
      · refine RepL.walk q r' f d _ h3 ?_
        rcases h1.le (by omega) with e | e
        · omega
        · omega
theorem RepC.walk {h : Hs} : ∀ (l : List Tm) (w f g d : Nat) (s : Sn), RepC h l w → 4098 ≤ s.parts + f → 4098 ≤ s.parts + g → After s (chainH h (walkH h f) g w d s) (sizeTL l) (dpL l d)
  | [], w, f, g, d, s, hr, _, _ => by rw [RepC] at hr; exact hr.elim
  | t :: q, w, f, 0, d, s, hr, hf, hg => by rw [chainH]; exact .stop (by omega)
  | t :: q, w, f, g + 1, d, s, hr, hf, hg => by
    rw [RepC] at hr
    rw [chainH, sizeTL, dpL]
    by_cases hb : 4096 < s.parts
    · rw [if_neg (by omega), if_neg (by omega)]; exact .stop hb
    · rcases hr with ⟨rfl, h2, h3⟩ | ⟨h1, x, y, h2, h3, h4⟩
      · rw [if_neg (fun e => h3.notcell h2 e.1), if_pos (by omega), sizeTL, dpL, Nat.add_zero, Nat.max_zero]
        exact RepT.walk t w f d s h3 hf (by omega)
      · rw [h2, if_pos ⟨rfl, by omega⟩]
        have k1 := RepT.walk t x f d s h3 hf (by omega)
        refine k1.trans ?_
        show After _ (chainH h (walkH h f) g y d (walkH h f x d s)) _ _
        by_cases hb2 : 4096 < (walkH h f x d s).parts
        · have : chainH h (walkH h f) g y d (walkH h f x d s) = walkH h f x d s := by
            cases g with
            | zero => rw [chainH]
            | succ g => rw [chainH, if_neg (by omega), if_neg (by omega)]
          rw [this]
          exact .stop hb2
        · have h1p := sizeT_pos t
          rcases k1.le (by omega) with e | e
          · exact RepC.walk q y f g d _ h4 (by omega) (by omega)
          · omega
end
/-! ### what is read -/
theorem sI_iW {i : Int} (h0 : -576460752303423488 ≤ i) (h1 : i ≤ 576460752303423487) : sI (iW i) = i := by
  unfold sI iW
  by_cases hn : 0 ≤ i
  · have e : (i * 4) % 18446744073709551616 = i * 4 := Int.emod_eq_of_lt (by omega) (by omega)
    rw [e, if_pos (by omega)]
    omega
  · have e : (i * 4) % 18446744073709551616 = i * 4 + 18446744073709551616 := by omega
    rw [e, if_neg (by omega)]
    omega
theorem lowW_of {x : Int} (h0 : 0 ≤ x) (h1 : x < 4294967296) : lowW x.toNat = x := by unfold lowW; omega
theorem lowW_hi {x y : Int} (h0 : 0 ≤ x) (h1 : x < 4294967296) (h2 : 0 ≤ y) (h3 : y < 4294967296) : lowW ((x.toNat * 4294967296 + y.toNat) / 4294967296) = x := by unfold lowW; omega
theorem lowW_lo {x y : Int} (h2 : 0 ≤ y) (h3 : y < 4294967296) : lowW (x.toNat * 4294967296 + y.toNat) = y := by unfold lowW; omega
theorem getD_of {l : List ByteArray} {i : Nat} {s : ByteArray} (h : l[i]? = some s) : l.getD i ⟨#[]⟩ = s := by simp [List.getD, h]
mutual
theorem RepT.read {h : Hs} : ∀ (t : Tm) (w f : Nat), RepT h t w → sizeT t ≤ f → sizeT t ≤ 4096 → termH h f w = t
  | .mk k i s c ns al, w, 0, hr, hf, _ => by rw [sizeT] at hf; omega
  | .mk k i s c ns al, w, f + 1, hr, hf, hm => by
    rw [sizeT] at hf hm
    rw [termH]
    unfold oneT
    rw [RepT] at hr
    rcases hr with ⟨rfl, h2, rfl, rfl, rfl, rfl, rfl⟩ | ⟨rfl, rfl, rfl, rfl, rfl, h6, h7⟩ | ⟨rfl, rfl, rfl, rfl, rfl, rfl, rfl⟩ | ⟨rfl, rfl, rfl, h4, a, x, y, rfl, h6, h7, h8, h9⟩ | ⟨rfl, rfl, rfl, h4, a, x, y, z, rfl, h6, h7, h8, h9, h10⟩ | ⟨rfl, rfl, rfl, rfl, rfl, r, h6, h7⟩ | ⟨rfl, rfl, rfl, rfl, rfl, h6, h7⟩
    · rw [if_pos (iW_mod i), sI_iW h2.1 h2.2]
    · rw [if_neg (by omega), if_pos h6, getD_of h7]
    · rw [if_neg (by decide), if_neg (by decide), if_pos (by decide)]
    · have hl := objS_low (h := h) (w := w) (by rw [h8]; simp)
      rw [if_neg (by omega), if_neg (by omega), if_neg (by omega), h8, if_pos rfl]
      simp only [List.getD_cons_zero, List.getD_cons_succ]
      rw [getD_of h9, lowW_of h4.1 h4.2, lowW_hi h6.1 h6.2 h7.1 h7.2, lowW_lo h7.1 h7.2]
    · have hl := objS_low (h := h) (w := w) (by rw [h9]; simp)
      rw [if_neg (by omega), if_neg (by omega), if_neg (by omega), h9, if_neg (by simp), if_pos rfl]
      simp only [List.getD_cons_zero, List.getD_cons_succ]
      rw [getD_of h10, lowW_of h4.1 h4.2, lowW_of h6.1 h6.2, lowW_of h7.1 h7.2, lowW_of h8.1 h8.2]
    · have hl := objS_low (h := h) (w := w) (by rw [h6]; simp)
      rw [if_neg (by omega), if_neg (by omega), if_neg (by omega), h6, if_neg (by simp), if_neg (by simp), if_pos rfl, RepL.read al r f h7 (by omega) (by omega)]
    · have hc : (objS h w).1 = 1 := by
        match al, h6, h7 with
        | t :: t2 :: q, _, h7 =>
          rw [RepC] at h7
          rcases h7 with ⟨e, _⟩ | ⟨_, x, y, e, _⟩
          · cases e
          · rw [e]
      have hl := objS_low (h := h) (w := w) (by rw [hc]; simp)
      have hal := length_le_sizeTL al
      rw [if_neg (by omega), if_neg (by omega), if_neg (by omega), if_neg (by rw [hc]; simp), if_neg (by rw [hc]; simp), if_neg (by rw [hc]; simp), RepC.read al w f 4098 h7 (by omega) (by omega) (by omega)]
theorem RepL.read {h : Hs} : ∀ (l : List Tm) (r : List Nat) (f : Nat), RepL h l r → sizeTL l ≤ f → sizeTL l ≤ 4096 → r.map (termH h f) = l
  | [], r, f, hr, hf, _ => by rw [RepL] at hr; subst hr; rfl
  | t :: q, r, f, hr, hf, hm => by
    rw [sizeTL] at hf hm
    rw [RepL] at hr
    obtain ⟨x, r', rfl, h2, h3⟩ := hr
    rw [List.map_cons, RepT.read t x f h2 (by omega) (by omega), RepL.read q r' f h3 (by omega) (by omega)]
theorem RepC.read {h : Hs} : ∀ (l : List Tm) (w f g : Nat), RepC h l w → sizeTL l ≤ f → sizeTL l ≤ 4096 → l.length ≤ g → chainT h (termH h f) g w = l
  | [], w, f, g, hr, hf, _, _ => by rw [RepC] at hr; exact hr.elim
  | t :: q, w, f, 0, hr, hf, _, hg => by simp at hg
  | t :: q, w, f, g + 1, hr, hf, hm, hg => by
    rw [sizeTL] at hf hm
    rw [RepC] at hr
    rw [chainT]
    rcases hr with ⟨rfl, h2, h3⟩ | ⟨h1, x, y, h2, h3, h4⟩
    · rw [if_neg (h3.notcell h2), RepT.read t w f h3 (by omega) (by omega)]
    · rw [h2, if_pos rfl]
      simp only [List.getD_cons_zero, List.getD_cons_succ]
      rw [RepT.read t x f h3 (by omega) (by omega), RepC.read q y f g h4 (by omega) (by omega) (by simpa using hg)]
end
/-- Term of a word that stands for a term -/
theorem RepT.told {h : Hs} {t : Tm} {w : Nat} (hr : RepT h t w) : (sizeT t ≤ 4096 → seenH h w = ⟨sizeT t, dpT t 1, false⟩) ∧ (4096 < sizeT t → 4096 < (seenH h w).parts) := by
  have h1 := RepT.walk t w 4098 1 ⟨0, 0, false⟩ hr (by decide) (by decide)
  unfold After at h1
  dsimp only at h1
  rw [Nat.zero_add, Nat.zero_max] at h1
  exact h1
/-! ### what is laid -/
theorem layS_atom (h : Hs) (s : ByteArray) : (h.named s).at_[nH h.at_ s]? = some s := nH_get _ _
theorem lastOk_cons {t t2 : Tm} {q : List Tm} : lastOk (t :: t2 :: q) = lastOk (t2 :: q) := by
  unfold lastOk
  rw [List.getLast?_cons_cons]
theorem lastOk_one {t : Tm} (h : lastOk [t] = true) : t.kind ≠ 7 := by
  unfold lastOk at h
  simpa using h
mutual
theorem layS_rep : ∀ (t : Tm) (h : Hs), okT t → bndT t → Ext h (layS t h).2 ∧ (layS t h).2.l.length = h.l.length + takesT t ∧ RepT (layS t h).2 t (layS t h).1
  | .mk k i s c ns al, h, hok, hb => by
    rw [okT] at hok
    rw [bndT] at hb
    obtain ⟨hp, hal⟩ := hok
    obtain ⟨hc, hn, hbl⟩ := hb
    rw [partS_iff] at hp
    rw [takesT]
    rcases hp with ⟨rfl, rfl, rfl, rfl, rfl, h1, h2⟩ | ⟨rfl, rfl, h1, rfl, rfl, rfl⟩ | ⟨rfl, rfl, h1, h2, rfl⟩ | ⟨rfl, rfl, h1, h2, rfl⟩ | ⟨rfl, rfl, rfl, rfl, rfl⟩ | ⟨rfl, rfl, rfl, rfl, rfl, rfl⟩ | ⟨rfl, rfl, rfl, rfl, rfl, h1, h2⟩
    · rw [layS, if_pos rfl]
      refine ⟨Ext.refl _, by rw [takesTL]; simp, ?_⟩
      rw [RepT]; exact .inl ⟨rfl, ⟨h1, h2⟩, rfl, rfl, rfl, rfl, rfl⟩
    · rw [layS, if_neg (by decide), if_pos rfl]
      refine ⟨named_ext _ _, by rw [takesTL]; simp [Hs.named], ?_⟩
      rw [RepT]; exact .inr (.inl ⟨rfl, rfl, rfl, rfl, rfl, by dsimp only; omega, by
        have := layS_atom h s
        rw [show (nH h.at_ s * 4 + 2) / 4 = nH h.at_ s by omega]; exact this⟩)
    · obtain ⟨x, y, z, rfl⟩ : ∃ x y z, ns = [x, y, z] := by
        match ns, h2 with
        | [x, y, z], _ => exact ⟨x, y, z, rfl⟩
      rw [layS, if_neg (by decide), if_neg (by decide), if_neg (by decide), if_neg (by decide), if_pos rfl]
      refine ⟨(named_ext h s).trans (putH_ext _ _ _), by simp [putH, Hs.named], ?_⟩
      have ha := layS_atom h s
      rw [RepT]; exact .inr (.inr (.inr (.inr (.inl ⟨rfl, rfl, rfl, hc, _, x, y, z, rfl, hn x (by simp), hn y (by simp), hn z (by simp), putH_obj 4 _ _ (by decide) (by decide) (by simp [leastS]) (fun _ => by
        have := (List.getElem?_eq_some_iff.1 ha).1
        exact this), ha⟩))))
    · obtain ⟨x, y, rfl⟩ : ∃ x y, ns = [x, y] := by
        match ns, h2 with
        | [x, y], _ => exact ⟨x, y, rfl⟩
      rw [layS, if_neg (by decide), if_neg (by decide), if_neg (by decide), if_pos rfl]
      refine ⟨(named_ext h s).trans (putH_ext _ _ _), by simp [putH, Hs.named], ?_⟩
      have ha := layS_atom h s
      rw [RepT]; exact .inr (.inr (.inr (.inl ⟨rfl, rfl, rfl, hc, _, x, y, rfl, hn x (by simp), hn y (by simp), putH_obj 3 _ _ (by decide) (by decide) (by simp [leastS]) (fun _ => by
        have := (List.getElem?_eq_some_iff.1 ha).1
        exact this), ha⟩)))
    · rw [layS, if_neg (by decide), if_neg (by decide), if_neg (by decide), if_neg (by decide), if_neg (by decide), if_pos rfl]
      obtain ⟨k1, k2, k3, k4⟩ := layL_rep al h hal hbl
      refine ⟨k1.trans (putH_ext _ _ _), by simp only [putH, List.length_append, List.length_cons, k2, k4]; simp; omega, ?_⟩
      rw [RepT]; exact .inr (.inr (.inr (.inr (.inr (.inl ⟨rfl, rfl, rfl, rfl, rfl, _, putH_obj 2 _ _ (by decide) (by decide) (by exact Nat.zero_le _) (fun h => absurd h (by decide)), RepL.ext (putH_ext _ _ _) k3⟩)))))
    · rw [layS, if_neg (by decide), if_neg (by decide), if_pos rfl]
      refine ⟨Ext.refl _, by rw [takesTL]; simp, ?_⟩
      rw [RepT]; exact .inr (.inr (.inl ⟨rfl, rfl, rfl, rfl, rfl, rfl, rfl⟩))
    · rw [layS, if_neg (by decide), if_neg (by decide), if_neg (by decide), if_neg (by decide), if_neg (by decide), if_neg (by decide)]
      obtain ⟨k1, k2, k3⟩ := layC_rep al h hal hbl (by intro e; rw [e] at h1; simp at h1) h2
      refine ⟨k1, by rw [k2, if_neg (by decide), if_neg (by decide), if_pos rfl]; omega, ?_⟩
      rw [RepT]; exact .inr (.inr (.inr (.inr (.inr (.inr ⟨rfl, rfl, rfl, rfl, rfl, h1, k3⟩)))))
theorem layL_rep : ∀ (l : List Tm) (h : Hs), okTL l → bndL l → Ext h (layL l h).2 ∧ (layL l h).2.l.length = h.l.length + takesTL l ∧ RepL (layL l h).2 l (layL l h).1 ∧ (layL l h).1.length = l.length
  | [], h, _, _ => by rw [layL, takesTL, RepL]; exact ⟨Ext.refl _, rfl, rfl, rfl⟩
  | t :: r, h, hok, hb => by
    rw [okTL] at hok
    rw [bndL] at hb
    rw [layL, takesTL, RepL]
    obtain ⟨a1, a2, a3⟩ := layS_rep t h hok.1 hb.1
    obtain ⟨b1, b2, b3, b4⟩ := layL_rep r (layS t h).2 hok.2 hb.2
    refine ⟨a1.trans b1, by dsimp only; omega, ⟨_, _, rfl, a3.ext b1, b3⟩, by dsimp only; simp [b4]⟩
theorem layC_rep : ∀ (l : List Tm) (h : Hs), okTL l → bndL l → l ≠ [] → lastOk l = true → Ext h (layC l h).2 ∧ (layC l h).2.l.length = h.l.length + (takesTL l + 3 * (l.length - 1)) ∧ RepC (layC l h).2 l (layC l h).1
  | [], h, _, _, hne, _ => absurd rfl hne
  | t :: r, h, hok, hb, _, hla => by
    rw [okTL] at hok
    rw [bndL] at hb
    rw [layC, takesTL, RepC]
    cases r with
    | nil =>
      simp only [List.isEmpty_nil, if_true, takesTL]
      obtain ⟨a1, a2, a3⟩ := layS_rep t h hok.1 hb.1
      exact ⟨a1, by rw [a2]; simp, .inl ⟨trivial, lastOk_one hla, a3⟩⟩
    | cons t2 q =>
      simp only [List.isEmpty_cons, Bool.false_eq_true, if_false]
      rw [lastOk_cons] at hla
      obtain ⟨b1, b2, b3⟩ := layC_rep (t2 :: q) h hok.2 hb.2 (by simp) hla
      obtain ⟨a1, a2, a3⟩ := layS_rep t (layC (t2 :: q) h).2 hok.1 hb.1
      refine ⟨(b1.trans a1).trans (putH_ext _ _ _), ?_, .inr ⟨by simp, _, _, putH_obj 1 _ _ (by decide) (by decide) (by simp [leastS]) (fun h => absurd h (by decide)), a3.ext (putH_ext _ _ _), b3.ext (a1.trans (putH_ext _ _ _))⟩⟩
      simp only [putH, List.length_append, List.length_cons, List.length_nil] at a2 b2 ⊢
      omega
end
/-- what was laid is read as itself -/
theorem lay_told {t : Tm} {h : Hs} (hc : checkS t = []) (hb : bndT t) : termTop (layS t h).2 (layS t h).1 = (t, []) := by
  obtain ⟨h1, h2⟩ := (checkS_iff t).1 hc
  obtain ⟨_, _, hr⟩ := layS_rep t h (okF_ok t 256 h1) hb
  have hd := okF_dp t 256 1 h1
  unfold termTop
  have he := hr.told.1 h2
  have ht : toldS (seenH (layS t h).2 (layS t h).1) = [] := by
    rw [he]
    unfold toldS
    rw [if_neg (by dsimp only; omega), if_neg (by simp), if_neg (by dsimp only; omega)]
  rw [ht, if_pos rfl, RepT.read t _ 4098 hr (by omega) h2]
end Go.Proofs.YtkipjbmckpmmfaaDoor
end
section
/- Package heap: a heap in a world; made, Used, Free, refused, New. -/
open Go Go.RowKit
namespace Go.Proofs.YtkipjbmckpmmfaaDoor
set_option linter.unusedVariables false
set_option linter.unusedSimpArgs false

/-- block g is a heap that New made; all it owns lies in blocks of F -/
structure HpIs (half : Nat) (h : Hs) (g : Nat) (F : Nat → Prop) (w : World) : Prop where
  ex : ∃ lv av mb, Cells w g 52 [.int .i64 half, lv, av, .map (some mb)] ∧ RowX 0 34 lv (wordsV h.l) w ∧ StrsIs av h.at_ w ∧ MapS mb h.at_.length (idxM h.at_) w ∧ F g ∧ F mb ∧ (∀ b, lv.ownBlock = some b → F b) ∧ (∀ b, av.ownBlock = some b → F b)
  half_ : half ≤ 524288
  word : ∀ x ∈ h.l, x < 18446744073709551616
  len : h.l.length ≤ 1099511627776
  alen : h.at_.length ≤ 1099511627776
  nf : ∀ b, F b → b < w.heap.size ∧ NF w b
theorem HpIs.keep {half : Nat} {h : Hs} {g : Nat} {F S : Nat → Prop} {w w' : World} (hp : HpIs half h g F w) (k : Keep S w w') (hS : ∀ b, S b → ¬ F b) : HpIs half h g F w' := by
  obtain ⟨⟨lv, av, mb, h1, h2, h3, h4, h5, h6, h7, h8⟩, ha, hb, hc, hd, hnf⟩ := hp
  refine ⟨⟨lv, av, mb, h1.keep k (fun e => hS _ e h5), h2.keep k (fun b hb e => hS _ e (h7 b hb)), h3.keep k (fun b hb e => hS _ e (h8 b hb)), h4.keep k (fun e => hS _ e h6), h5, h6, h7, h8⟩, ha, hb, hc, hd, fun b hb => ⟨?_, ?_⟩⟩
  · have := k.size; have := (hnf b hb).1; omega
  · intro cs f e
    rw [k.block b (hnf b hb).1 (fun e => hS _ e hb)] at e
    exact (hnf b hb).2 cs f e
theorem HpIs.below {half : Nat} {h : Hs} {g : Nat} {F : Nat → Prop} {w w' : World} (hp : HpIs half h g F w) (hb : Below w.heap.size w w') : HpIs half h g F w' :=
  hp.keep (S := fun b => w.heap.size ≤ b) ⟨hb.os, hb.tape, hb.output, hb.size, fun k hk _ => hb.block k hk⟩ (fun b h1 h2 => by have := (hp.nf b h2).1; omega)
theorem HpIs.drewN {half : Nat} {h : Hs} {g : Nat} {F : Nat → Prop} {w : World} (hp : HpIs half h g F w) (n : Nat) : HpIs half h g F (w.drewN n) := hp.keep (S := fun _ => False) ((Keep.refl _ _).drewN n) (fun _ h => h.elim)
def zeroH : Hs := ⟨[], []⟩
theorem made_live (g mb : Nat) (a b c : Value) (w : World) (h : Cells w g 52 [a, b, c, .map (some mb)]) :
    Calls Tryd.prog 22 #[.pointer (some ⟨g, 0, none⟩)] w fun e w' => e = .returned (.bool true) ∧ w = w' := by
  have c3 := h.cell 3
  simp only [List.getElem?_cons_zero, List.getElem?_cons_succ] at c3
  clear h
  have qT : ∀ (w : World) (r : Option Nat), (binOp .neq 50 (.map r) (.map none)).run Tryd.prog w = .ok (.bool (!r.isNone)) w := fun w r => run_neq_map_nil w _ _ _ r Tryd.underlying50
  go_enter Tryd.func22, Tryd.ntmps22
  go_wp2
  go_ret
  exact ⟨rfl, rfl⟩
theorem made_nil (w : World) : Calls Tryd.prog 22 #[.pointer none] w fun e w' => e = .returned (.bool false) ∧ w = w' := by
  go_enter Tryd.func22, Tryd.ntmps22
  go_wp2
  go_ret
  exact ⟨rfl, rfl⟩
theorem made_zero (g : Nat) (a b c : Value) (w : World) (h : Cells w g 52 [a, b, c, .map none]) :
    Calls Tryd.prog 22 #[.pointer (some ⟨g, 0, none⟩)] w fun e w' => e = .returned (.bool false) ∧ w = w' := by
  have c3 := h.cell 3
  simp only [List.getElem?_cons_zero, List.getElem?_cons_succ] at c3
  clear h
  have qT : ∀ (w : World) (r : Option Nat), (binOp .neq 50 (.map r) (.map none)).run Tryd.prog w = .ok (.bool (!r.isNone)) w := fun w r => run_neq_map_nil w _ _ _ r Tryd.underlying50
  go_enter Tryd.func22, Tryd.ntmps22
  go_wp2
  go_ret
  exact ⟨rfl, rfl⟩
theorem made_of {half : Nat} {h : Hs} {g : Nat} {F : Nat → Prop} {w : World} (hp : HpIs half h g F w) : Calls Tryd.prog 22 #[.pointer (some ⟨g, 0, none⟩)] w fun e w' => e = .returned (.bool true) ∧ w = w' := by
  obtain ⟨⟨lv, av, mb, h1, -⟩, -⟩ := hp
  exact made_live g mb _ _ _ w h1
theorem refusedH_any (code : Int) (w : World) :
    Calls Tryd.prog 21 #[.int .i64 code] w fun e w' =>
      e = .returned (.iface 91 (.pointer (some ⟨w.heap.size, 0, none⟩))) ∧
      w' = w.alloc (.cells #[.string ⟨#[104, 101, 97, 112]⟩, .int .i64 0, .int .i64 code, .nilIface] 93 (0,0)) := by
  go_enter Tryd.func21, Tryd.ntmps21
  go_wp2
  go_ret
  exact ⟨rfl, rfl⟩
theorem used_live {half : Nat} {h : Hs} {g : Nat} {F : Nat → Prop} {w : World} (hp : HpIs half h g F w) : Calls Tryd.prog 10 #[.pointer (some ⟨g, 0, none⟩)] w fun e w' => e = .returned (.int .i64 h.l.length) ∧ w = w' := by
  obtain ⟨⟨lv, av, mb, h1, h2, h3, h4, h5, h6, h7, h8⟩, -⟩ := hp
  have HM := Lib.hid (made_live g mb _ _ _ w h1)
  have c1 := h1.cell 1
  simp only [List.getElem?_cons_zero, List.getElem?_cons_succ] at c1
  obtain ⟨a, c, rfl⟩ := h2.form
  rw [wordsV_len] at c1
  clear h1 h2 h3 h4
  go_enter Tryd.func10, Tryd.ntmps10
  go_wp2_with fail
  refine HM.out.mono ?_
  rintro e w' ⟨rfl, rfl⟩
  go_wp2
  go_ret
  exact ⟨rfl, rfl⟩
theorem free_live {half : Nat} {h : Hs} {g : Nat} {F : Nat → Prop} {w : World} (hp : HpIs half h g F w) : Calls Tryd.prog 17 #[.pointer (some ⟨g, 0, none⟩)] w fun e w' => e = .returned (.int .i64 ((half : Int) - h.l.length)) ∧ ∃ n, w' = w.drewN n := by
  have hln := hp.len
  have hhf := hp.half_
  obtain ⟨⟨lv, av, mb, h1, h2, h3, h4, h5, h6, h7, h8⟩, -⟩ := hp
  have HM := Lib.hid (made_live g mb _ _ _ w h1)
  have c0 := h1.cell 0
  have c1 := h1.cell 1
  simp only [List.getElem?_cons_zero, List.getElem?_cons_succ] at c0 c1
  obtain ⟨a, c, rfl⟩ := h2.form
  rw [wordsV_len] at c1
  have hwr : IntKind.i64.wrap ((half : Int) - h.l.length) = (half : Int) - h.l.length := IntWalk.i64_in _ (by omega)
  clear h1 h2 h3 h4 hln hhf
  go_enter Tryd.func17, Tryd.ntmps17
  go_wp2_with (go_at_call 22; refine HM.out.mono ?_; rintro e w' ⟨rfl, rfl⟩)
  go_quiet (fail)
  go_wp2
  go_ret
  exact ⟨rfl, _, rfl⟩
theorem newH_bad (size : Int) (w : World) (h : size < 2 ∨ 1048576 < size) :
    Calls Tryd.prog 5 #[.int .i64 size] w fun e w' => ∃ ev, e = .returned (.tuple #[.pointer none, ev]) ∧ ErrIs w' ev [⟨hpL, 0, 1⟩] ∧ Below w.heap.size w w' := by
  rcases h with h | h
  · go_enter Tryd.func5, Tryd.ntmps5
    go_wp2_with (go_at_call 21; refine (refusedH_any _ _).mono ?_; rintro e w' ⟨rfl, rfl⟩)
    go_ret2
    exact ⟨_, rfl, ErrIs.one, (Below.refl _ _).alloc (Nat.le_refl _) _⟩
  · have h' : ¬ size < 2 := by omega
    go_enter Tryd.func5, Tryd.ntmps5
    go_wp2_with (go_at_call 21; refine (refusedH_any _ _).mono ?_; rintro e w' ⟨rfl, rfl⟩)
    go_ret2
    exact ⟨_, rfl, ErrIs.one, (Below.refl _ _).alloc (Nat.le_refl _) _⟩
theorem newH_good (size : Int) (w : World) (h0 : 2 ≤ size) (h1 : size ≤ 1048576) :
    Calls Tryd.prog 5 #[.int .i64 size] w fun e w' => ∃ g, e = .returned (.tuple #[.pointer (some ⟨g, 0, none⟩), .nilIface]) ∧ HpIs (size / 2).toNat zeroH g (fun b => w.heap.size ≤ b ∧ b < w'.heap.size) w' ∧ Below w.heap.size w w' := by
  have hmm := @run_makeMap Tryd.prog
  have n0 : ¬ size < 2 := by omega
  have n1 : ¬ 1048576 < size := by omega
  have hq : size.tdiv 2 = (((size / 2).toNat : Nat) : Int) := by rw [Int.tdiv_eq_ediv_of_nonneg (by omega)]; omega
  have hq2 : (size / 2).toNat ≤ 524288 := by omega
  have hwr : IntKind.i64.wrap (((size / 2).toNat : Nat) : Int) = (((size / 2).toNat : Nat) : Int) := IntWalk.i64_in _ (by omega)
  generalize (size / 2).toNat = half at *
  go_enter Tryd.func5, Tryd.ntmps5
  go_wp2
  go_ret2
  have hc : Cells ((w.alloc (Obj.map #[] 0)).alloc (Obj.cells #[.int .i64 half, .slice none 0 0, .slice none 0 0, .map (some w.heap.size)] 52)) (w.heap.size + 1) 52 [.int .i64 half, .slice none 0 0, .slice none 0 0, .map (some w.heap.size)] := by
    have := Cells.new (w.alloc (Obj.map #[] 0)) 52 [.int .i64 half, .slice none 0 0, .slice none 0 0, .map (some w.heap.size)]
    simpa using this
  have hm := (MapS.made w).alloc (Obj.cells #[.int .i64 half, .slice none 0 0, .slice none 0 0, .map (some w.heap.size)] 52)
  refine ⟨w.heap.size + 1, rfl, ⟨⟨_, _, _, hc, (RowV.nil _ _ _).x, StrsIs.nil _, hm, ?_, ?_, ?_, ?_⟩, hq2, ?_, by decide, by decide, ?_⟩, ((Below.refl _ w).alloc (Nat.le_refl _) _).alloc (by simp) _⟩
  · simp
  · simp; omega
  · intro b hb; cases hb
  · intro b hb; cases hb
  · intro x hx; cases hx
  · intro b hb
    simp at hb
    refine ⟨by simp; omega, ?_⟩
    rcases Nat.lt_or_ge b (w.heap.size + 1) with h | h
    · obtain rfl : b = w.heap.size := by omega
      exact NF.map hm
    · obtain rfl : b = w.heap.size + 1 := by omega
      exact NF.cells hc (by decide)
end Go.Proofs.YtkipjbmckpmmfaaDoor
end
section
/- Package heap: object. Printed by wip/hpa.py. -/
open Go Go.RowKit
namespace Go.Proofs.YtkipjbmckpmmfaaDoor
set_option linter.unusedVariables false
set_option linter.unusedSimpArgs false

theorem and3 (n : Nat) (h : n < 18446744073709551616) : bits BinOp.and IntKind.u64 (n : Int) 3 = ((n % 4 : Nat) : Int) := by
  have := bits_and_u64_nat n 3 h (by decide)
  rw [show ((3 : Nat) : Int) = 3 from rfl] at this
  rw [this, show n &&& 3 = n % 4 from Nat.and_two_pow_sub_one_eq_mod n 2]
theorem and255 (n : Nat) (h : n < 18446744073709551616) : bits BinOp.and IntKind.u64 (n : Int) 255 = ((n % 256 : Nat) : Int) := by
  have := bits_and_u64_nat n 255 h (by decide)
  rw [show ((255 : Nat) : Int) = 255 from rfl] at this
  rw [this, show n &&& 255 = n % 256 from Nat.and_two_pow_sub_one_eq_mod n 8]
def ObjR (F : Nat → Prop) (r : Nat × List Nat) (w : World) (e : Ending) (w' : World) : Prop := ∃ lv, e = .returned (.tuple #[.int .i64 (r.1 : Nat), lv]) ∧ AtV F lv (wordsV r.2) w ∧ ∃ n, w' = w.drewN n
theorem ObjR.zip {F : Nat → Prop} {w : World} {r : Nat × List Nat} (h : r = (0, [])) : ObjR F r w (.returned (.tuple #[.int .i64 0, .slice none 0 0])) w := by subst h; exact ⟨_, rfl, AtV.nil _ _, 0, rfl⟩
theorem ObjR.noneN {F : Nat → Prop} {w : World} {r : Nat × List Nat} (n : Nat) (h : r = (0, [])) : ObjR F r w (.returned (.tuple #[.int .i64 0, .slice none 0 0])) (w.drewN n) := by subst h; exact ⟨_, rfl, AtV.nil _ _, n, rfl⟩
set_option maxHeartbeats 16000000 in
set_option maxRecDepth 100000 in
theorem object_any {half : Nat} {h : Hs} {g : Nat} {F : Nat → Prop} {w : World} (hp : HpIs half h g F w) (wd : Nat) (hw : wd < 18446744073709551616) :
    Calls Tryd.prog 35 #[.pointer (some ⟨g, 0, none⟩), .int .u64 wd] w (ObjR F (objS h wd) w) := by
  have hA := and3 wd hw
  have hwd := hp.word
  have hln := hp.len
  have hal := hp.alen
  obtain ⟨⟨lv, av, mb, h1, h2, h3, h4, h5, h6, h7, h8⟩, -⟩ := hp
  have c1 := h1.cell 1
  have c2 := h1.cell 2
  simp only [List.getElem?_cons_zero, List.getElem?_cons_succ] at c1 c2
  obtain ⟨a, c, rfl⟩ := h2.form
  rw [wordsV_len] at c1
  obtain ⟨sa, sc, rfl⟩ : ∃ sa sc, av = .slice sa h.at_.length sc := by
    rcases h3.shape with ⟨e, e2⟩ | ⟨b, cc, e, _⟩
    · exact ⟨none, 0, by rw [e, e2]; rfl⟩
    · exact ⟨_, cc, e⟩
  have HR := Lib.hid h2
  have HF := Lib.hid h7
  have HWD := Lib.hid hwd
  clear h1 h2 h3 h4 h7 hwd
  by_cases hm : wd % 4 ≠ 0
  · have HO := Lib.hid (show objS h wd = (0, []) by unfold objS; rw [if_pos (.inl hm)])
    have hm2 : ¬ ((wd % 4 : Nat) : Int) = 0 := by omega
    generalize wd % 4 = m at *
    clear hm
    go_enter Tryd.func35, Tryd.ntmps35
    go_wp2
    go_ret2
    exact ObjR.zip HO.out
  have hm0 : wd % 4 = 0 := by omega
  have HM := Lib.hid hm0
  rw [hm0] at hA
  clear hm hm0
  obtain ⟨q, hq⟩ : ∃ q, wd / 4 = q := ⟨_, rfl⟩
  have hqi : (wd : Int) / 4 = (q : Int) := by omega
  have HQ := Lib.hid hq
  by_cases hl : h.l.length ≤ q
  · have HO := Lib.hid (show objS h wd = (0, []) by unfold objS; rw [if_pos (.inr (by rw [hq]; exact hl))])
    clear hq
    go_enter Tryd.func35, Tryd.ntmps35
    go_wp2
    go_ret2
    exact ObjR.zip HO.out
  have hl2 : q < h.l.length := by omega
  have hl3 : (q : Int) < (h.l.length : Int) := by omega
  obtain ⟨b, rfl, hbl⟩ : ∃ b, a = some ⟨b, 0, none⟩ ∧ b < w.heap.size := by
    rcases HR.out.shape with ⟨_, e⟩ | ⟨b, cc, e, _, hb, _⟩
    · have := congrArg List.length e; rw [wordsV_len] at this; simp only [List.length_nil] at this; omega
    · injection e with e1 e2 e3; exact ⟨b, e1, hb⟩
  obtain ⟨x, hx⟩ : ∃ x, h.l.getD q 0 = x := ⟨_, rfl⟩
  have hxl : x < 18446744073709551616 := by
    rw [← hx]
    have : h.l.getD q 0 = h.l[q] := by simp [List.getD, hl2]
    rw [this]; exact HWD.out _ (List.getElem_mem _)
  have cx : w.cell? ⟨b, q, none⟩ = some (.int .u64 x) := by
    have := HR.out.cell q (by rw [wordsV_len]; exact hl2)
    rw [wordsV_get _ _ (by rw [wordsV_len]; exact hl2), hx] at this
    exact this
  have hX := and255 x hxl
  obtain ⟨k, hk⟩ : ∃ k, x % 256 = k := ⟨_, rfl⟩
  obtain ⟨n, hn⟩ : ∃ n, x / 256 = n := ⟨_, rfl⟩
  rw [hk] at hX
  have hni : (x : Int) / 256 = (n : Int) := by omega
  have hkl : k < 256 := by omega
  have hnl : n < 72057594037927936 := by omega
  have hw1 : IntKind.i64.wrap ((h.l.length : Int) - 1) = (h.l.length : Int) - 1 := IntWalk.i64_in _ (by omega)
  have hw2 : IntKind.i64.wrap ((h.l.length : Int) - 1 - (q : Int)) = ((h.l.length - 1 - q : Nat) : Int) := by rw [show ((h.l.length : Int) - 1 - (q : Int)) = ((h.l.length - 1 - q : Nat) : Int) by omega]; exact IntWalk.i64_in _ (by omega)
  have hw3 : ((h.l.length - 1 - q : Nat) : Int) < 18446744073709551616 := by omega
  obtain ⟨r, hr⟩ : ∃ r, h.l.length - 1 - q = r := ⟨_, rfl⟩
  rw [hr] at hw2 hw3
  have HE := Lib.hid (show objS h wd = if k < 1 ∨ 4 < k ∨ r < n then (0, []) else if n < leastS k then (0, []) else if 3 ≤ k ∧ h.at_.length ≤ h.l.getD (q + 1) 0 then (0, []) else (k, (h.l.drop (q + 1)).take n) by
    unfold objS
    rw [hq, hx, hk, hn, hr, if_neg (by have := HM.out; omega)])
  have HRR := Lib.hid hr
  have HX := Lib.hid hx
  clear hq hx hr
  by_cases hk1 : k < 1
  · obtain rfl : k = 0 := by omega
    clear hk1
    go_enter Tryd.func35, Tryd.ntmps35
    go_wp2
    go_ret2
    exact ObjR.zip (by rw [HE.out, if_pos (.inl (by decide))])
  by_cases hk4 : 4 < k
  · have hk2 : ¬ (k : Int) < 1 := by omega
    have hk3 : (4 : Int) < (k : Int) := by omega
    go_enter Tryd.func35, Tryd.ntmps35
    go_wp2
    go_ret2
    exact ObjR.zip (by rw [HE.out, if_pos (.inr (.inl hk4))])
  by_cases hrn : r < n
  · have hk2 : ¬ (k : Int) < 1 := by omega
    have hk3 : ¬ (4 : Int) < (k : Int) := by omega
    have hrn2 : (r : Int) < (n : Int) := by omega
    go_enter Tryd.func35, Tryd.ntmps35
    go_wp2
    go_ret2
    exact ObjR.zip (by rw [HE.out, if_pos (.inr (.inr hrn))])
  have hrn2 : ¬ (r : Int) < (n : Int) := by omega
  have HE2 := Lib.hid (show objS h wd = if n < leastS k then (0, []) else if 3 ≤ k ∧ h.at_.length ≤ h.l.getD (q + 1) 0 then (0, []) else (k, (h.l.drop (q + 1)).take n) by rw [HE.out, if_neg (by omega)])
  have hnr : q + 1 + n ≤ h.l.length := by have := HRR.out; omega
  have HNR := Lib.hid hnr
  have hw4 : IntKind.i64.wrap ((q : Int) + 1) = (((q + 1 : Nat)) : Int) := by rw [show ((q : Int) + 1) = ((q + 1 : Nat) : Int) by omega]; exact IntWalk.i64_in _ (by omega)
  have hw5 : IntKind.i64.wrap ((q : Int) + 1 + (n : Int)) = (((q + 1 + n : Nat)) : Int) := by rw [show ((q : Int) + 1 + (n : Int)) = ((q + 1 + n : Nat) : Int) by omega]; exact IntWalk.i64_in _ (by omega)
  have hw6 : IntKind.i64.wrap (((q + 1 : Nat) : Int) + (n : Int)) = (((q + 1 + n : Nat)) : Int) := by rw [show (((q + 1 : Nat) : Int) + (n : Int)) = ((q + 1 + n : Nat) : Int) by omega]; exact IntWalk.i64_in _ (by omega)
  have hw7 : IntKind.i64.wrap (n : Int) = (n : Int) := IntWalk.i64_in _ (by omega)
  have hcc : h.l.length ≤ c := by
    rcases HR.out.shape with ⟨_, e⟩ | ⟨b2, cc, e, _, _, hcc, _⟩
    · have := congrArg List.length e; rw [wordsV_len] at this; simp only [List.length_nil] at this; omega
    · injection e with e1 e2 e3; rw [wordsV_len] at hcc; omega
  have hs1 : 0 ≤ (q : Int) + 1 + (n : Int) ∧ (q : Int) + 1 + (n : Int) ≤ (c : Int) := by omega
  have hs2 : 0 ≤ (q : Int) + 1 ∧ (q : Int) + 1 ≤ (q : Int) + 1 + (n : Int) := by omega
  have hs3 : q + 1 + n - (q + 1) = n := by omega
  have HCC := Lib.hid hcc
  have HLV := Lib.hid (show ∀ a2, (c = q + 1 → n = 0 ∧ a2 = some ⟨b, 0, none⟩) → (c ≠ q + 1 → a2 = some ⟨b, q + 1, none⟩) → AtV F (.slice a2 n (c - (q + 1))) (wordsV ((h.l.drop (q + 1)).take n)) w from fun a2 ha hb => by
    have hlen2 : (wordsV ((h.l.drop (q + 1)).take n)).length = n := by have := HNR.out; simp [wordsV]; omega
    refine ⟨a2, c - (q + 1), by rw [hlen2], ⟨by rw [hlen2]; have := HNR.out; have := HCC.out; omega, ?_⟩, fun i hi => ?_⟩
    · rcases HR.out.shape with ⟨_, e⟩ | ⟨b2, cc, e, _, _, _, hcm⟩
      · have := congrArg List.length e; rw [wordsV_len] at this; simp only [List.length_nil] at this; omega
      · injection e with e1 e2 e3; omega
    · rw [hlen2] at hi
      refine ⟨b, q + 1, hb (fun e => by have := (ha e).1; omega), HF.out b rfl, ?_⟩
      have hq1 : q + 1 + i < h.l.length := by have := HNR.out; omega
      have e := HR.out.cell (q + 1 + i) (by rw [wordsV_len]; exact hq1)
      rw [e]
      congr 1
      rw [wordsV_get, wordsV_get]
      simp [List.getD, List.getElem?_take, hi])
  clear hcc
  have hw8 : IntKind.u64.wrap (h.l.length : Int) = (h.l.length : Int) := IntWalk.u64_in _ (by omega)
  have hw9 : IntKind.u64.wrap (h.at_.length : Int) = (h.at_.length : Int) := IntWalk.u64_in _ (by omega)
  have hw10 : IntKind.u64.wrap (r : Int) = (r : Int) := IntWalk.u64_in _ (by omega)
  have hw11 : IntKind.i64.wrap (q : Int) = (q : Int) := IntWalk.i64_in _ (by omega)
  have hw12 : IntKind.i64.wrap (k : Int) = (k : Int) := IntWalk.i64_in _ (by omega)
  have HLN := Lib.hid hln
  have HAL := Lib.hid hal
  have HNL := Lib.hid hnl
  clear hw hln hal hxl hnl hkl hw3 hl2 hnr
  rcases (show k = 1 ∨ k = 2 ∨ k = 3 ∨ k = 4 by omega) with hk5 | hk5 | hk5 | hk5
  · obtain rfl : k = 1 := by omega
    clear hk1 hk4 hrn
    by_cases hnn : n < 2
    · have hnn2 : (n : Int) < 2 := by omega
      go_enter Tryd.func35, Tryd.ntmps35
      go_wp2
      go_ret2
      exact ObjR.zip (by rw [HE2.out, if_pos (by unfold leastS; simpa using hnn)])
    have hnn2 : ¬ (n : Int) < 2 := by omega
    have HE3 := Lib.hid (show objS h wd = if 3 ≤ 1 ∧ h.at_.length ≤ h.l.getD (q + 1) 0 then (0, []) else (1, (h.l.drop (q + 1)).take n) by rw [HE2.out, if_neg (by unfold leastS; simpa using hnn)])
    have hcq : ¬ c = q + 1 := by have := HNR.out; have := HCC.out; omega
    go_enter Tryd.func35, Tryd.ntmps35
    go_wp2
    go_quiet (fail)
    go_wp2
    go_ret2
    rw [HE3.out, if_neg (by omega)]
    exact ⟨_, rfl, HLV.out _ (fun e => absurd e hcq) (fun _ => rfl), _, rfl⟩
  · obtain rfl : k = 2 := by omega
    clear hk1 hk4 hrn
    have HE3 := Lib.hid (show objS h wd = if 3 ≤ 2 ∧ h.at_.length ≤ h.l.getD (q + 1) 0 then (0, []) else (2, (h.l.drop (q + 1)).take n) by rw [HE2.out, if_neg (by unfold leastS; simp)])
    by_cases hcq : c = q + 1
    · have HN0 := Lib.hid (show n = 0 by have := HNR.out; have := HCC.out; omega)
      subst hcq
      go_enter Tryd.func35, Tryd.ntmps35
      go_wp2
      go_quiet (fail)
      go_wp2
      go_ret2
      rw [HE3.out, if_neg (by omega)]
      have hz := HLV.out (some ⟨b, 0, none⟩) (fun e => ⟨HN0.out, rfl⟩) (fun e => absurd rfl e)
      rw [Nat.sub_self] at hz
      exact ⟨_, rfl, hz, _, rfl⟩
    go_enter Tryd.func35, Tryd.ntmps35
    go_wp2
    go_quiet (fail)
    go_wp2
    go_ret2
    rw [HE3.out, if_neg (by omega)]
    exact ⟨_, rfl, HLV.out _ (fun e => absurd e hcq) (fun _ => rfl), _, rfl⟩
  · obtain rfl : k = 3 := by omega
    clear hk1 hk4 hrn
    by_cases hnn : n < 3
    · have hnn2 : (n : Int) < 3 := by omega
      go_enter Tryd.func35, Tryd.ntmps35
      go_wp2
      go_ret2
      exact ObjR.zip (by rw [HE2.out, if_pos (by unfold leastS; simpa using hnn)])
    have hnn2 : ¬ (n : Int) < 3 := by omega
    have HE3 := Lib.hid (show objS h wd = if 3 ≤ 3 ∧ h.at_.length ≤ h.l.getD (q + 1) 0 then (0, []) else (3, (h.l.drop (q + 1)).take n) by rw [HE2.out, if_neg (by unfold leastS; simpa using hnn)])
    have hcq : ¬ c = q + 1 := by have := HNR.out; have := HCC.out; omega
    have hq1 : q + 1 < h.l.length := by have := HNR.out; omega
    obtain ⟨y, hy⟩ : ∃ y, h.l.getD (q + 1) 0 = y := ⟨_, rfl⟩
    rw [hy] at HE3
    have hyl : y < 18446744073709551616 := by
      rw [← hy]
      have : h.l.getD (q + 1) 0 = h.l[q + 1] := by simp [List.getD, hq1]
      rw [this]; exact HWD.out _ (List.getElem_mem _)
    have hw13 : IntKind.u64.wrap (y : Int) = (y : Int) := IntWalk.u64_in _ (by omega)
    have cy : w.cell? ⟨b, q + 1, none⟩ = some (.int .u64 y) := by
      have e := HR.out.cell (q + 1) (by rw [wordsV_len]; exact hq1)
      rw [wordsV_get _ _ (by rw [wordsV_len]; exact hq1), hy] at e
      exact e
    have hnp : (0 : Int) < (n : Int) := by omega
    have hnp2 : 0 < n := by omega
    clear hy hyl hq1
    by_cases hya : h.at_.length ≤ y
    · have hya2 : (h.at_.length : Int) ≤ (y : Int) := by omega
      go_enter Tryd.func35, Tryd.ntmps35
      go_wp2
      go_quiet (fail)
      go_wp2
      go_ret2
      exact ObjR.noneN _ (by rw [HE3.out, if_pos ⟨by decide, hya⟩])
    have hya2 : ¬ (h.at_.length : Int) ≤ (y : Int) := by omega
    go_enter Tryd.func35, Tryd.ntmps35
    go_wp2
    go_quiet (fail)
    go_wp2
    go_ret2
    rw [HE3.out, if_neg (fun e => hya e.2)]
    exact ⟨_, rfl, HLV.out _ (fun e => absurd e hcq) (fun _ => rfl), _, rfl⟩
  · obtain rfl : k = 4 := by omega
    clear hk1 hk4 hrn
    by_cases hnn : n < 5
    · have hnn2 : (n : Int) < 5 := by omega
      go_enter Tryd.func35, Tryd.ntmps35
      go_wp2
      go_ret2
      exact ObjR.zip (by rw [HE2.out, if_pos (by unfold leastS; simpa using hnn)])
    have hnn2 : ¬ (n : Int) < 5 := by omega
    have HE3 := Lib.hid (show objS h wd = if 3 ≤ 4 ∧ h.at_.length ≤ h.l.getD (q + 1) 0 then (0, []) else (4, (h.l.drop (q + 1)).take n) by rw [HE2.out, if_neg (by unfold leastS; simpa using hnn)])
    have hcq : ¬ c = q + 1 := by have := HNR.out; have := HCC.out; omega
    have hq1 : q + 1 < h.l.length := by have := HNR.out; omega
    obtain ⟨y, hy⟩ : ∃ y, h.l.getD (q + 1) 0 = y := ⟨_, rfl⟩
    rw [hy] at HE3
    have hyl : y < 18446744073709551616 := by
      rw [← hy]
      have : h.l.getD (q + 1) 0 = h.l[q + 1] := by simp [List.getD, hq1]
      rw [this]; exact HWD.out _ (List.getElem_mem _)
    have hw13 : IntKind.u64.wrap (y : Int) = (y : Int) := IntWalk.u64_in _ (by omega)
    have cy : w.cell? ⟨b, q + 1, none⟩ = some (.int .u64 y) := by
      have e := HR.out.cell (q + 1) (by rw [wordsV_len]; exact hq1)
      rw [wordsV_get _ _ (by rw [wordsV_len]; exact hq1), hy] at e
      exact e
    have hnp : (0 : Int) < (n : Int) := by omega
    have hnp2 : 0 < n := by omega
    clear hy hyl hq1
    by_cases hya : h.at_.length ≤ y
    · have hya2 : (h.at_.length : Int) ≤ (y : Int) := by omega
      go_enter Tryd.func35, Tryd.ntmps35
      go_wp2
      go_quiet (fail)
      go_wp2
      go_ret2
      exact ObjR.noneN _ (by rw [HE3.out, if_pos ⟨by decide, hya⟩])
    have hya2 : ¬ (h.at_.length : Int) ≤ (y : Int) := by omega
    go_enter Tryd.func35, Tryd.ntmps35
    go_wp2
    go_quiet (fail)
    go_wp2
    go_ret2
    rw [HE3.out, if_neg (fun e => hya e.2)]
    exact ⟨_, rfl, HLV.out _ (fun e => absurd e hcq) (fun _ => rfl), _, rfl⟩
end Go.Proofs.YtkipjbmckpmmfaaDoor
end
section
/- Package heap: an atom's number; words put. -/
open Go Go.RowKit
namespace Go.Proofs.YtkipjbmckpmmfaaDoor
set_option linter.unusedVariables false
set_option linter.unusedSimpArgs false

/-- behind a call that may turn the heap: it holds h2 -/
def HpRes (half g : Nat) (F : Nat → Prop) (w : World) (h2 : Hs) (w' : World) : Prop := ∃ F', HpIs half h2 g F' w' ∧ Keep F w w' ∧ ∀ b, F' b → F b ∨ w.heap.size ≤ b
theorem HpRes.same {half g : Nat} {F : Nat → Prop} {w : World} {h : Hs} (hp : HpIs half h g F w) : HpRes half g F w h w := ⟨F, hp, Keep.refl _ _, fun _ hb => .inl hb⟩
theorem HpRes.drewN {half g : Nat} {F : Nat → Prop} {w w' : World} {h : Hs} (hp : HpRes half g F w h w') (n : Nat) : HpRes half g F w h (w'.drewN n) := by
  obtain ⟨F', h1, h2, h3⟩ := hp
  exact ⟨F', h1.drewN n, h2.drewN n, h3⟩
theorem HpRes.trans {half g : Nat} {F F' : Nat → Prop} {w w1 w2 : World} {h2 : Hs} (k : Keep F w w1) (hF : ∀ b, F' b → F b ∨ w.heap.size ≤ b) (h : HpRes half g F' w1 h2 w2) : HpRes half g F w h2 w2 := by
  obtain ⟨F2, a, b, c⟩ := h
  refine ⟨F2, a, k.trans b (fun i hi hf => ?_), fun q hq => ?_⟩
  · rcases hF i hf with e | e
    · exact e
    · omega
  · rcases c q hq with e | e
    · exact hF q e
    · exact .inr (Nat.le_trans k.size e)
set_option maxHeartbeats 8000000 in
set_option maxRecDepth 100000 in
theorem atomH_there {half : Nat} {h : Hs} {g : Nat} {F : Nat → Prop} {w : World} (hp : HpIs half h g F w) (s : ByteArray) (hs : s.size ≤ maxLen) (i : Int) (hi : idxM h.at_ s.data.toList = some i) :
    Calls Tryd.prog 38 #[.pointer (some ⟨g, 0, none⟩), .string s] w fun e w' => e = .returned (.int .i64 i) ∧ w = w' := by
  obtain ⟨⟨lv, av, mb, h1, h2, h3, h4, h5, h6, h7, h8⟩, -⟩ := hp
  have c3 := h1.cell 3
  simp only [List.getElem?_cons_zero, List.getElem?_cons_succ] at c3
  have hl := h4.look s hs
  rw [hi] at hl
  clear h1 h2 h3 h4 hi
  go_enter Tryd.func38, Tryd.ntmps38
  go_wp2
  go_ret
  exact ⟨rfl, rfl⟩
set_option maxHeartbeats 8000000 in
set_option maxRecDepth 100000 in
theorem atomH_new {half : Nat} {h : Hs} {g : Nat} {F : Nat → Prop} {w : World} (hp : HpIs half h g F w) (s : ByteArray) (hs : s.size ≤ maxLen) (hi : idxM h.at_ s.data.toList = none) (hr : h.at_.length < 1099511627776) :
    Calls Tryd.prog 38 #[.pointer (some ⟨g, 0, none⟩), .string s] w fun e w' => e = .returned (.int .i64 h.at_.length) ∧ HpRes half g F w ⟨h.l, h.at_ ++ [s]⟩ w' := by
  have HH := Lib.hid hp
  obtain ⟨⟨lv, av, mb, h1, h2, h3, h4, h5, h6, h7, h8⟩, -, -, -, -, hnf⟩ := hp
  have c2 := h1.cell 2
  have c3 := h1.cell 3
  simp only [List.getElem?_cons_zero, List.getElem?_cons_succ] at c2 c3
  have hl := h4.look s hs
  rw [hi] at hl
  have HI := Lib.hid hi
  have HR := Lib.hid hr
  have H1 := Lib.hid h1
  have H2 := Lib.hid h2
  have H3 := Lib.hid h3
  have H4 := Lib.hid h4
  have H5 := Lib.hid h5
  have H7 := Lib.hid h7
  have H8 := Lib.hid h8
  have HNF := Lib.hid hnf
  have hsl := run_strs_len h3
  have hwf := Lib.hid (show (Lit.int .i64 (h.at_.length : Int)).wf = true from WalkArith.wf_i64 (by omega))
  have nmb : mb ≠ g := fun e => (h4.ne_cells h1) e.symm
  have nsv : av.ownBlock ≠ some g := h3.ne_cells h1 (by decide)
  have nsm : av.ownBlock ≠ some mb := fun e => by
    obtain ⟨_, cur, hcur⟩ := h3.lt e
    exact h4.ne_cells hcur rfl
  obtain ⟨w5, hrun5, hm5, hg5⟩ := h4.set_ s hs h.at_.length hwf.out (by unfold maxLen; omega)
  have C5 := Lib.hid (h1.grown hg5 (fun e => nmb (Option.some.inj e)))
  have S5 := Lib.hid (h3.frame (w' := w5) (fun b hb => hg5.block b (h3.lt hb).1 (fun e => nsm (by rw [hb, e]))))
  have L5 := Lib.hid (h2.frame (w' := w5) (fun b hb => hg5.block b (h2.block hb).2.1 (fun e => by
    obtain ⟨_, _, cur, hcur⟩ := h2.block hb
    cases e
    exact h4.ne_cells hcur rfl)))
  have K5 := Lib.hid ((Keep.refl F w).grown hg5 (fun k hk _ => by cases hk; exact h6))
  have M5 := Lib.hid hm5
  obtain ⟨v', w6, hrun, hs6, hg6, hat⟩ := S5.out.app s (by omega)
  obtain ⟨a', c', rfl⟩ : ∃ a' c', v' = .slice a' (h.at_ ++ [s]).length c' := by
    rcases hs6.shape with ⟨e, e2⟩ | ⟨b, cc, e, _⟩
    · exact ⟨none, 0, by rw [e, e2]; rfl⟩
    · exact ⟨_, cc, e⟩
  generalize (h.at_ ++ [s]).length = N at *
  have S6 := Lib.hid hs6
  have C6 := Lib.hid ((C5.out.alloc (.cells #[.string s] 9 (0, 0))).grown hg6 nsv)
  have M6 := Lib.hid ((M5.out.alloc (.cells #[.string s] 9 (0, 0))).frame (w' := w6) (hg6.block mb (by have := M5.out.lt; simp; omega) (Ne.symm nsm)))
  have L6 := Lib.hid ((L5.out.alloc (.cells #[.string s] 9 (0, 0))).frame (w' := w6) (fun b hb => hg6.block b (by have := (L5.out.block hb).2.1; simp; omega) (fun e => by
    obtain ⟨_, _, cur, hcur⟩ := L5.out.block hb
    obtain ⟨_, cur2, hcur2⟩ := S5.out.lt e.symm
    rw [hcur] at hcur2
    injection hcur2 with hcur2
    injection hcur2 with _ h2
    exact absurd h2 (by decide))))
  have K6 := Lib.hid ((K5.out.alloc (.cells #[.string s] 9 (0, 0))).grown hg6 (fun k hk _ => h8 k hk))
  have SZ5 := Lib.hid K5.out.size
  have HAT := Lib.hid hat
  have e2 := C5.out.cell 2
  have d2 := C6.out.cell 2
  have f2 := C6.out.frozen 2
  simp only [List.getElem?_cons_zero, List.getElem?_cons_succ] at e2 d2
  clear h1 h2 h3 h4 hi hr h7 h8 hnf hs6 hg6 hat hm5 hg5
  go_enter Tryd.func38, Tryd.ntmps38
  go_wp2_with (at_builtin; refine stop ?_)
  refine Stopped.of ?_
  refine wp_app_eq rfl (.tmp 33) (.tmp 35) _ _ rfl _ _ (.slice a' N c') w6 rfl rfl hrun ?_
  clear hrun e2 hrun5
  go_wp2
  go_ret
  have S6' := S6.out
  generalize hvv : (Value.slice a' N c') = v' at *
  have HAT' := HAT.out
  have CF := C6.out.set_ 2 v'
  have KF := K6.out.setCell (p := ⟨g, 2, none⟩) (fun _ => h5) v'
  have hvg : ∀ b, v'.ownBlock = some b → b ≠ g := fun b hb e => S6'.ne_cells C6.out (by decide) (by rw [hb, e])
  have SF : StrsIs v' (h.at_ ++ [s]) (w6.setCell ⟨g, 2, none⟩ v') := S6'.frame fun b hb => Below.heap_setCell _ _ _ _ (hvg b hb)
  have LF := L6.out.frame (w' := w6.setCell ⟨g, 2, none⟩ v') (fun b hb => Below.heap_setCell _ _ _ _ (fun e => H2.out.ne_cells H1.out (by decide) (by rw [hb, e])))
  have MF := M6.out.frame (w' := w6.setCell ⟨g, 2, none⟩ v') (Below.heap_setCell _ _ _ _ nmb)
  rw [← idxM_snoc h.at_ s HI.out] at MF
  have hr := HR.out
  refine ⟨rfl, fun b => b = g ∨ b = mb ∨ lv.ownBlock = some b ∨ v'.ownBlock = some b, ⟨⟨lv, v', mb, by simpa using CF, LF, SF, by simpa using MF, .inl rfl, .inr (.inl rfl), fun b hb => .inr (.inr (.inl hb)), fun b hb => .inr (.inr (.inr hb))⟩, HH.out.half_, HH.out.word, HH.out.len, by simp; omega, ?_⟩, KF, ?_⟩
  · rintro b (rfl | rfl | hb | hb)
    · exact ⟨CF.lt, NF.cells CF (by decide)⟩
    · exact ⟨MF.lt, NF.map MF⟩
    · exact ⟨(LF.block hb).2.1, RowX.nf LF (by decide) hb⟩
    · exact ⟨(SF.lt hb).1, NF.strs SF hb⟩
  · rintro b (rfl | rfl | hb | hb)
    · exact .inl h5
    · exact .inl h6
    · exact .inl (H7.out b hb)
    · rcases HAT' with e | e
      · rw [e] at hb; exact .inl (H8.out b hb)
      · rw [e] at hb; cases hb; have := SZ5.out; exact .inr (by omega)
theorem atomH_any {half : Nat} {h : Hs} {g : Nat} {F : Nat → Prop} {w : World} (hp : HpIs half h g F w) (s : ByteArray) (hs : s.size ≤ maxLen) (hr : h.at_.length < 1099511627776) :
    Calls Tryd.prog 38 #[.pointer (some ⟨g, 0, none⟩), .string s] w fun e w' => e = .returned (.int .i64 (nH h.at_ s : Nat)) ∧ HpRes half g F w (h.named s) w' := by
  unfold Hs.named nH aH
  cases hi : idxM h.at_ s.data.toList with
  | none => exact atomH_new hp s hs hi hr
  | some i =>
    refine (atomH_there hp s hs i hi).mono ?_
    rintro e w' ⟨rfl, rfl⟩
    have := (idxM_bd hi).1
    exact ⟨by rw [show (((i.toNat : Nat)) : Int) = i by omega], HpRes.same hp⟩
theorem or8 (k n : Nat) (hk : k < 256) (hn : n < 1099511627776) : bits BinOp.or IntKind.u64 (k : Int) ((n : Int) * 256) = ((k + 256 * n : Nat) : Int) := by
  have := bits_or_u64_nat k (n * 256) (by omega) (by omega)
  rw [show ((n * 256 : Nat) : Int) = (n : Int) * 256 by omega] at this
  rw [this]
  have h2 := Nat.two_pow_add_eq_or_of_lt (i := 8) (b := k) hk n
  rw [show k ||| n * 256 = 2 ^ 8 * n ||| k by rw [Nat.or_comm, Nat.mul_comm]]
  rw [← h2]
  omega
set_option maxHeartbeats 8000000 in
set_option maxRecDepth 100000 in
theorem putH_any {half : Nat} {h : Hs} {g : Nat} {F S : Nat → Prop} {w : World} (hp : HpIs half h g F w) (kind : Nat) (hk : kind < 256) (ws : List Nat) (lw : Value) (hlw : AtV S lw (wordsV ws) w) (hS : ∀ b, S b → ¬ F b) (hw : ∀ x ∈ ws, x < 18446744073709551616) (hb : h.l.length + 1 + ws.length ≤ 1099511627776) :
    Calls Tryd.prog 30 #[.pointer (some ⟨g, 0, none⟩), .int .i64 kind, lw] w fun e w' => e = .returned (.int .u64 ((putH kind ws h).1 : Nat)) ∧ HpRes half g F w (putH kind ws h).2 w' := by
  have HH := Lib.hid hp
  obtain ⟨⟨lv, av, mb, h1, h2, h3, h4, h5, h6, h7, h8⟩, -, -, -, -, hnf⟩ := hp
  obtain ⟨a, c, rfl⟩ := hlw.form
  obtain ⟨la, lc, rfl⟩ := h2.form
  have hor := or8 kind ws.length hk (by omega)
  have hX := Lib.hid (show kind + 256 * ws.length < 18446744073709551616 by omega)
  generalize hXe : kind + 256 * ws.length = X at *
  have B1 := (Below.refl w.heap.size w).alloc (Nat.le_refl _) (.cells #[.int .u64 X] 34 (0, 0))
  have KB := Lib.hid (show Keep F w (w.alloc (.cells #[.int .u64 X] 34 (0, 0))) from Keep.of_below B1 (Nat.le_refl _) F)
  obtain ⟨a1, n1, c1', w1, hn1, hr1, hrow1, hg1, hob1⟩ := words_appX (h2.below B1) (wordsV_one_at (w := w) X) (by simp) (by simp; omega) (Nat.zero_le _)
  have K1 := KB.out.grown hg1 (fun k hk _ => h7 k hk)
  obtain ⟨a2, n2, c2', w2, hn2, hr2, hrow2, hg2, hob2⟩ := words_app hrow1 (hlw.keep K1 hS) (by simp; omega) (Nat.zero_le _)
  have hob1' : ∀ b, (Value.slice a1 n1 c1').ownBlock = some b → F b ∨ w.heap.size ≤ b := fun b hb => by
    rcases hob1 with e1 | e1
    · rw [e1] at hb; exact .inl (h7 b hb)
    · rw [e1] at hb; cases hb; simp
  have HOB := Lib.hid (show ∀ b, (Value.slice a2 n2 c2').ownBlock = some b → F b ∨ w.heap.size ≤ b from fun b hb => by
    rcases hob2 with e | e
    · rw [e] at hb; exact hob1' b hb
    · rw [e] at hb; cases hb; exact .inr K1.size)
  have K2 := Lib.hid (show Keep F w w2 from K1.trans ((Keep.refl (fun k => F k ∨ w.heap.size ≤ k) w1).grown hg2 (fun k hk _ => hob1' k hk)) (fun i hi hf => by rcases hf with e | e; exact e; omega))
  have L2 := Lib.hid hrow2
  have nlg := h2.ne_cells h1 (by decide)
  have C1 := Lib.hid ((h1.below B1).grown hg1 nlg)
  have n1g := hrow1.ne_cells C1.out (by decide)
  have C2 := Lib.hid (C1.out.grown hg2 n1g)
  have n2g := hrow2.ne_cells C2.out (by decide)
  have S2 := Lib.hid (show StrsIs av h.at_ w2 from (h3.frame (w' := w1) (fun b hb => (hg1.block b (by have := (h3.lt hb).1; simp; omega) (fun e => by
      obtain ⟨_, _, cur, hcur⟩ := h2.block e.symm
      obtain ⟨_, cur2, hcur2⟩ := h3.lt hb
      rw [hcur] at hcur2
      injection hcur2 with hcur2
      injection hcur2 with _ h2
      exact absurd h2 (by decide))).trans (B1.block b (h3.lt hb).1))).frame (fun b hb => hg2.block b (by have := (h3.lt hb).1; have := K1.size; omega) (fun e => by
      have hb1 := hb
      rcases hob1 with e1 | e1
      · rw [e1] at e
        obtain ⟨_, _, cur, hcur⟩ := h2.block e.symm
        obtain ⟨_, cur2, hcur2⟩ := h3.lt hb
        rw [hcur] at hcur2
        injection hcur2 with hcur2
        injection hcur2 with _ h2
        exact absurd h2 (by decide)
      · rw [e1] at e; have := (h3.lt hb).1; injection e with e; simp at e; omega)))
  have M2 := Lib.hid (show MapS mb h.at_.length (idxM h.at_) w2 from (h4.frame (w' := w1) ((hg1.block mb (by have := h4.lt; simp; omega) (fun e => by
      obtain ⟨_, _, cur, hcur⟩ := h2.block e.symm
      exact h4.ne_cells hcur rfl)).trans (B1.block mb h4.lt))).frame (hg2.block mb (by have := h4.lt; have := K1.size; omega) (fun e => by
      rcases hob1 with e1 | e1
      · rw [e1] at e
        obtain ⟨_, _, cur, hcur⟩ := h2.block e.symm
        exact h4.ne_cells hcur rfl
      · rw [e1] at e; have := h4.lt; injection e with e; simp at e; omega)))
  have HNB := Lib.hid (show mb ≠ g from fun e => h4.ne_cells h1 e.symm)
  have HSG := Lib.hid (show av.ownBlock ≠ some g from h3.ne_cells h1 (by decide))
  have d1 := C2.out.cell 1
  have f1 := C2.out.frozen 1
  have q1 := h1.cell 1
  rw [wordsV_len] at q1 hr1
  have H5 := Lib.hid h5
  have H6 := Lib.hid h6
  have H8 := Lib.hid h8
  have HW := Lib.hid hw
  have HN2 := Lib.hid hn2
  simp only [List.getElem?_cons_zero, List.getElem?_cons_succ] at d1 q1
  rw [wordsV_len] at hr2 ⊢
  clear h1 h2 h3 h4 h5 h6 h7 h8 hnf hlw hS hw B1 hn1 hrow1 hg1 hob1 hn2 hrow2 hg2 hob2 hob1' nlg n1g K1
  go_enter Tryd.func30, Tryd.ntmps30
  go_wp2_with (at_builtin; refine stop ?_)
  refine Stopped.of ?_
  refine wp_app_eq rfl (.tmp 17) (.tmp 25) _ _ rfl _ _ (.slice a1 n1 c1') w1 rfl rfl hr1 ?_
  go_wp2_with (at_builtin; refine stop ?_)
  refine Stopped.of ?_
  refine wp_app_eq rfl (.tmp 26) (.tmp 27) _ _ rfl _ _ (.slice a2 n2 c2') w2 rfl rfl hr2 ?_
  clear hr1 hr2 q1
  have hwr : IntKind.u64.wrap ((h.l.length : Int)) = (h.l.length : Int) := IntWalk.u64_in _ (by omega)
  go_wp2
  go_ret
  have CF := C2.out.set_ 1 (.slice a2 n2 c2')
  have LF := L2.out.frame (w' := w2.setCell ⟨g, 1, none⟩ (.slice a2 n2 c2')) (fun b hb => Below.heap_setCell _ _ _ _ (fun e => n2g (by rw [hb, e])))
  have SF := S2.out.frame (w' := w2.setCell ⟨g, 1, none⟩ (.slice a2 n2 c2')) (fun b hb => Below.heap_setCell _ _ _ _ (fun e => HSG.out (by rw [hb, e])))
  have MF := M2.out.frame (w' := w2.setCell ⟨g, 1, none⟩ (.slice a2 n2 c2')) (Below.heap_setCell _ _ _ _ HNB.out)
  have KF := K2.out.setCell (p := ⟨g, 1, none⟩) (fun _ => H5.out) (.slice a2 n2 c2')
  have eq : (putH kind ws h).2 = ⟨h.l ++ [X] ++ ws, h.at_⟩ := by unfold putH; rw [hXe]; simp
  rw [eq]
  refine ⟨by unfold putH; rfl, fun b => b = g ∨ b = mb ∨ (Value.slice a2 n2 c2').ownBlock = some b ∨ av.ownBlock = some b, ⟨⟨.slice a2 n2 c2', av, mb, by simpa using CF, LF.x, SF, MF, .inl rfl, .inr (.inl rfl), fun b hb => .inr (.inr (.inl hb)), fun b hb => .inr (.inr (.inr hb))⟩, HH.out.half_, ?_, by simp; omega, HH.out.alen, ?_⟩, KF, ?_⟩
  · intro x hx
    simp only [List.mem_append, List.mem_singleton] at hx
    rcases hx with (hx | rfl) | hx
    · exact HH.out.word x hx
    · exact hX.out
    · exact HW.out x hx
  · rintro b (rfl | rfl | hb | hb)
    · exact ⟨CF.lt, NF.cells CF (by decide)⟩
    · exact ⟨MF.lt, NF.map MF⟩
    · exact ⟨(LF.block hb).2.1, NF.row LF (by decide) hb⟩
    · exact ⟨(SF.lt hb).1, NF.strs SF hb⟩
  · rintro b (rfl | rfl | hb | hb)
    · exact .inl H5.out
    · exact .inl H6.out
    · exact HOB.out b hb
    · exact .inl (H8.out b hb)
end Go.Proofs.YtkipjbmckpmmfaaDoor
end
section
/- Package heap: takes. -/
open Go Go.RowKit
namespace Go.Proofs.YtkipjbmckpmmfaaDoor
set_option linter.unusedVariables false
set_option linter.unusedSimpArgs false

mutual
theorem takesT_le : ∀ (t : Tm), takesT t + 3 ≤ 9 * sizeT t
  | .mk k i s c ns al => by
    rw [takesT, sizeT]
    have := takesTL_le al
    have := length_le_sizeTL al
    split
    · omega
    · split
      · omega
      · split
        · omega
        · split <;> omega
theorem takesTL_le : ∀ (l : List Tm), takesTL l + 3 * l.length ≤ 9 * sizeTL l
  | [] => by rw [takesTL, sizeTL]; simp
  | t :: r => by
    rw [takesTL, sizeTL, List.length_cons]
    have := takesT_le t
    have := takesTL_le r
    omega
end
theorem takesTL_take (l : List Tm) (k : Nat) (h : k < l.length) : takesTL (l.take (k + 1)) = takesTL (l.take k) + takesT l[k] := by
  induction l generalizing k with
  | nil => simp at h
  | cons t r ih =>
    cases k with
    | zero => simp [takesTL]
    | succ k =>
      simp only [List.take_succ_cons, takesTL, List.getElem_cons_succ]
      rw [ih k (by simpa using h)]
      omega
theorem takesTL_mono (l : List Tm) (k : Nat) : takesTL (l.take k) ≤ takesTL l := by
  induction l generalizing k with
  | nil => simp
  | cons t r ih =>
    cases k with
    | zero => simp [takesTL]
    | succ k => simp only [List.take_succ_cons, takesTL]; have := ih k; omega
theorem okTL_at : ∀ {l : List Tm}, okTL l → ∀ i (h : i < l.length), okT l[i]
  | [], _, i, h => absurd h (Nat.not_lt_zero _)
  | t :: r, hl, i, h => by
    rw [okTL] at hl
    cases i with
    | zero => exact hl.1
    | succ i => exact okTL_at hl.2 i (by simpa using h)
theorem sizeTL_at : ∀ {l : List Tm} (i : Nat) (h : i < l.length), sizeT l[i] ≤ sizeTL l
  | t :: r, 0, h => by rw [sizeTL]; simp
  | t :: r, i + 1, h => by rw [sizeTL]; have := sizeTL_at (l := r) i (by simpa using h); simp; omega
theorem partS_list2 {t : Tm} (h : partS t 0 = []) (k : t.kind = 7) : 2 ≤ t.args.length := by
  cases t with
  | mk k i s c ns al =>
  rw [partS_iff] at h
  dsimp only [Tm.kind] at k
  rcases h with ⟨e, _⟩ | ⟨e, _⟩ | ⟨e, _⟩ | ⟨e, _⟩ | ⟨e, _⟩ | ⟨e, _⟩ | ⟨_, _, _, _, _, e, _⟩
  all_goals first | exact e | omega
def baseT (t : Tm) : Nat := if t.kind = 7 then 3 * (t.args.length - 1) else if t.kind = 5 then 1 + t.args.length else 0
set_option maxHeartbeats 16000000 in
set_option maxRecDepth 100000 in
theorem takes_ind : ∀ (N : Nat) (S : Nat → Prop) (t : Tm) (vs : List Value) (w : World), SizeOf.sizeOf t ≤ N → TmAt S t vs w → okT t → sizeT t ≤ 4096 →
    Calls Tryd.prog 25 #[.agg vs.toArray] w fun e w' => e = .returned (.int .i64 (takesT t : Nat)) ∧ Below w.heap.size w w' := by
  intro N
  induction N with
  | zero => intro S t vs w h; cases t; simp at h
  | succ N ih =>
    intro S t vs w hN ht hok hsz
    have HIH := Lib.hid ih
    have HNN := Lib.hid hN
    have HT := Lib.hid ht
    obtain ⟨hp, nv, a, cap, rfl, hnn, ⟨hc, hcm⟩, hcap, ha⟩ := ht.parts
    have HA := Lib.hid ha
    obtain ⟨na, nc, rfl, hnc, _⟩ := hnn.slice
    obtain ⟨hpt, hal⟩ : partS t 0 = [] ∧ okTL t.args := by cases t; rw [okT] at hok; exact hok
    have hsa : 1 + sizeTL t.args = sizeT t := by cases t; rw [sizeT]; rfl
    have hta : takesTL t.args + 3 * t.args.length ≤ 9 * sizeTL t.args := takesTL_le _
    have HAL := Lib.hid hal
    have hlen : t.args.length ≤ 4096 := by have := length_le_sizeTL t.args; omega
    have HTT := Lib.hid (show takesT t = if t.kind = 4 then 4 else if t.kind = 3 then 6 else baseT t + takesTL t.args by cases t; rw [takesT]; rfl)
    have B0 := Lib.hid ((Below.refl _ w).alloc (Nat.le_refl _) (.cells #[.int .i64 t.kind, .int .i64 t.int, .string t.text, .int .u32 t.cr, .slice na t.nums.length nc, .slice a t.args.length cap] 27 (0, 0)))
    have M0 := Lib.hid (Cells.new w 27 [.int .i64 t.kind, .int .i64 t.int, .string t.text, .int .u32 t.cr, .slice na t.nums.length nc, .slice a t.args.length cap])
    have HPT := Lib.hid hpt
    clear ih hN ht hnn hp ha hcm hok hpt hal
    by_cases k4 : t.kind = 4
    · have HR := Lib.hid (show takesT t = 4 by rw [HTT.out, if_pos k4])
      rw [k4] at M0 B0 ⊢
      go_enter Tryd.func25, Tryd.ntmps25
      have m0 := M0.out.cell 0
      simp only [List.getElem?_cons_zero, List.getElem?_cons_succ] at m0
      go_wp2
      go_ret
      exact ⟨by rw [HR.out]; rfl, B0.out⟩
    by_cases k3 : t.kind = 3
    · have HR := Lib.hid (show takesT t = 6 by rw [HTT.out, if_neg k4, if_pos k3])
      rw [k3] at M0 B0 ⊢
      go_enter Tryd.func25, Tryd.ntmps25
      have m0 := M0.out.cell 0
      simp only [List.getElem?_cons_zero, List.getElem?_cons_succ] at m0
      go_wp2
      go_ret
      exact ⟨by rw [HR.out]; rfl, B0.out⟩
    by_cases k7 : t.kind = 7
    · have HR := Lib.hid (show takesT t = 3 * (t.args.length - 1) + takesTL t.args by rw [HTT.out, if_neg k4, if_neg k3]; unfold baseT; rw [if_pos k7])
      have hl2 : 2 ≤ t.args.length := partS_list2 HPT.out k7
      have hw0 : IntKind.i64.wrap ((t.args.length : Int) - 1) = (t.args.length : Int) - 1 := IntWalk.i64_in _ (by omega)
      rw [k7] at M0 B0 ⊢
      go_enter Tryd.func25, Tryd.ntmps25
      have m0 := M0.out.cell 0
      have m5 := M0.out.cell 5
      simp only [List.getElem?_cons_zero, List.getElem?_cons_succ] at m0 m5
      go_wp2
      clear m0 m5
      generalize World.alloc w _ = W1 at *
      go_loopw [3, 5, 28] (fun n p i wr => ∃ kk : Nat, kk ≤ t.args.length ∧ i = .int .i64 kk ∧ n = .int .i64 ((3 * (t.args.length - 1) + takesTL (t.args.take kk) : Nat)) ∧ Below W1.heap.size W1 wr) (fun _ _ i _ => t.args.length - (intOf i).toNat)
      case atStart => exact ⟨0, Nat.zero_le _, rfl, by simp [takesTL]; omega, Below.refl _ _⟩
      case round =>
        obtain ⟨kk, hkk, rfl, rfl, hbr⟩ := hrel
        have HBR := Lib.hid hbr
        clear hbr
        by_cases hk : kk < t.args.length
        · have hki : (kk : Int) < (t.args.length : Int) := by omega
          have hk0 : (0 : Int) ≤ (kk : Int) := by omega
          obtain ⟨g2, o2, vs2, hae, _, hcs, ht2⟩ := (HA.out.below (B0.out.trans (HBR.out.mono B0.out.size))).get kk hk
          subst hae
          have HT2 := Lib.hid ht2
          obtain ⟨_, nv2, a2, cap2, hv2, hnn2, _⟩ := ht2.parts
          obtain ⟨nb2, nd2, hnv2, _, _⟩ := hnn2.slice
          subst hv2
          subst hnv2
          have e0 := hcs 0 (by decide)
          have e1 := hcs 1 (by decide)
          have e2 := hcs 2 (by decide)
          have e3 := hcs 3 (by decide)
          have e4 := hcs 4 (by decide)
          have e5 := hcs 5 (by decide)
          simp only [List.getElem?_cons_zero, List.getElem?_cons_succ, ← Nat.add_assoc, Nat.add_zero] at e0 e1 e2 e3 e4 e5
          have HBA := Lib.hid ((Below.refl _ wr).alloc (Nat.le_refl _) (.cells #[.int .i64 t.args[kk].kind, .int .i64 t.args[kk].int, .string t.args[kk].text, .int .u32 t.args[kk].cr, .slice nb2 t.args[kk].nums.length nd2, .slice a2 t.args[kk].args.length cap2] 27 (0, 0)))
          have HCALL := Lib.hid (HIH.out S t.args[kk] _ _ (by have := Tm.arg_lt hk; have := HNN.out; omega) (HT2.out.below HBA.out) (okTL_at HAL.out kk hk) (by have := sizeTL_at kk hk; omega))
          have hnext := takesTL_take t.args kk hk
          have hmn := takesTL_mono t.args (kk + 1)
          have hwr : IntKind.i64.wrap (((3 * (t.args.length - 1) + takesTL (t.args.take kk) : Nat) : Int) + (takesT t.args[kk] : Nat)) = ((3 * (t.args.length - 1) + takesTL (t.args.take (kk + 1)) : Nat) : Int) := by
            rw [show (((3 * (t.args.length - 1) + takesTL (t.args.take kk) : Nat) : Int) + (takesT t.args[kk] : Nat)) = ((3 * (t.args.length - 1) + takesTL (t.args.take (kk + 1)) : Nat) : Int) by rw [hnext]; omega]
            exact IntWalk.i64_in _ (by omega)
          generalize hn0 : 3 * (t.args.length - 1) + takesTL (t.args.take kk) = n0 at *
          generalize hn1 : 3 * (t.args.length - 1) + takesTL (t.args.take (kk + 1)) = n1 at *
          generalize takesT t.args[kk] = tk at *
          clear hcs ht2 hnn2 hnext hmn
          go_wp2_with fail
          refine HCALL.out.mono ?_
          rintro e W5 ⟨rfl, hb5⟩
          have HB5 := Lib.hid (HBR.out.trans ((HBA.out.trans (hb5.mono HBA.out.size)).mono HBR.out.size))
          clear hb5 e0 e1 e2 e3 e4 e5 HCALL
          go_wp2
          go_roundw
          case rel => exact ⟨kk + 1, by omega, by go_num, by rw [hn1], HB5.out⟩
          case measure => simp [intOf]; omega
        · have hki : ¬ (kk : Int) < (t.args.length : Int) := by omega
          have hfull : t.args.take kk = t.args := List.take_of_length_le (by omega)
          rw [hfull] at *
          generalize hn0 : 3 * (t.args.length - 1) + takesTL t.args = n0 at *
          go_wp2
          go_ret
          exact ⟨by first | (rw [HR.out]; rfl) | rw [HR.out], B0.out.trans (HBR.out.mono B0.out.size)⟩
    by_cases k5 : t.kind = 5
    · have HR := Lib.hid (show takesT t = 1 + t.args.length + takesTL t.args by rw [HTT.out, if_neg k4, if_neg k3]; unfold baseT; rw [if_neg k7, if_pos k5])
      rw [k5] at M0 B0 ⊢
      go_enter Tryd.func25, Tryd.ntmps25
      have m0 := M0.out.cell 0
      have m5 := M0.out.cell 5
      simp only [List.getElem?_cons_zero, List.getElem?_cons_succ] at m0 m5
      go_wp2
      clear m0 m5
      generalize World.alloc w _ = W1 at *
      go_loopw [3, 5, 28] (fun n p i wr => ∃ kk : Nat, kk ≤ t.args.length ∧ i = .int .i64 kk ∧ n = .int .i64 ((1 + t.args.length + takesTL (t.args.take kk) : Nat)) ∧ Below W1.heap.size W1 wr) (fun _ _ i _ => t.args.length - (intOf i).toNat)
      case atStart => exact ⟨0, Nat.zero_le _, rfl, by simp [takesTL], Below.refl _ _⟩
      case round =>
        obtain ⟨kk, hkk, rfl, rfl, hbr⟩ := hrel
        have HBR := Lib.hid hbr
        clear hbr
        by_cases hk : kk < t.args.length
        · have hki : (kk : Int) < (t.args.length : Int) := by omega
          have hk0 : (0 : Int) ≤ (kk : Int) := by omega
          obtain ⟨g2, o2, vs2, hae, _, hcs, ht2⟩ := (HA.out.below (B0.out.trans (HBR.out.mono B0.out.size))).get kk hk
          subst hae
          have HT2 := Lib.hid ht2
          obtain ⟨_, nv2, a2, cap2, hv2, hnn2, _⟩ := ht2.parts
          obtain ⟨nb2, nd2, hnv2, _, _⟩ := hnn2.slice
          subst hv2
          subst hnv2
          have e0 := hcs 0 (by decide)
          have e1 := hcs 1 (by decide)
          have e2 := hcs 2 (by decide)
          have e3 := hcs 3 (by decide)
          have e4 := hcs 4 (by decide)
          have e5 := hcs 5 (by decide)
          simp only [List.getElem?_cons_zero, List.getElem?_cons_succ, ← Nat.add_assoc, Nat.add_zero] at e0 e1 e2 e3 e4 e5
          have HBA := Lib.hid ((Below.refl _ wr).alloc (Nat.le_refl _) (.cells #[.int .i64 t.args[kk].kind, .int .i64 t.args[kk].int, .string t.args[kk].text, .int .u32 t.args[kk].cr, .slice nb2 t.args[kk].nums.length nd2, .slice a2 t.args[kk].args.length cap2] 27 (0, 0)))
          have HCALL := Lib.hid (HIH.out S t.args[kk] _ _ (by have := Tm.arg_lt hk; have := HNN.out; omega) (HT2.out.below HBA.out) (okTL_at HAL.out kk hk) (by have := sizeTL_at kk hk; omega))
          have hnext := takesTL_take t.args kk hk
          have hmn := takesTL_mono t.args (kk + 1)
          have hwr : IntKind.i64.wrap (((1 + t.args.length + takesTL (t.args.take kk) : Nat) : Int) + (takesT t.args[kk] : Nat)) = ((1 + t.args.length + takesTL (t.args.take (kk + 1)) : Nat) : Int) := by
            rw [show (((1 + t.args.length + takesTL (t.args.take kk) : Nat) : Int) + (takesT t.args[kk] : Nat)) = ((1 + t.args.length + takesTL (t.args.take (kk + 1)) : Nat) : Int) by rw [hnext]; omega]
            exact IntWalk.i64_in _ (by omega)
          generalize hn0 : 1 + t.args.length + takesTL (t.args.take kk) = n0 at *
          generalize hn1 : 1 + t.args.length + takesTL (t.args.take (kk + 1)) = n1 at *
          generalize takesT t.args[kk] = tk at *
          clear hcs ht2 hnn2 hnext hmn
          go_wp2_with fail
          refine HCALL.out.mono ?_
          rintro e W5 ⟨rfl, hb5⟩
          have HB5 := Lib.hid (HBR.out.trans ((HBA.out.trans (hb5.mono HBA.out.size)).mono HBR.out.size))
          clear hb5 e0 e1 e2 e3 e4 e5 HCALL
          go_wp2
          go_roundw
          case rel => exact ⟨kk + 1, by omega, by go_num, by rw [hn1], HB5.out⟩
          case measure => simp [intOf]; omega
        · have hki : ¬ (kk : Int) < (t.args.length : Int) := by omega
          have hfull : t.args.take kk = t.args := List.take_of_length_le (by omega)
          rw [hfull] at *
          generalize hn0 : 1 + t.args.length + takesTL t.args = n0 at *
          go_wp2
          go_ret
          exact ⟨by first | (rw [HR.out]; rfl) | rw [HR.out], B0.out.trans (HBR.out.mono B0.out.size)⟩
    have HR := Lib.hid (show takesT t = 0 + takesTL t.args by rw [HTT.out, if_neg k4, if_neg k3]; unfold baseT; rw [if_neg k7, if_neg k5])
    have b3 : (t.kind == 3) = false := by simp [k3]
    have b4 : (t.kind == 4) = false := by simp [k4]
    have b5 : (t.kind == 5) = false := by simp [k5]
    have b7 : (t.kind == 7) = false := by simp [k7]
    go_enter Tryd.func25, Tryd.ntmps25
    have m0 := M0.out.cell 0
    have m5 := M0.out.cell 5
    simp only [List.getElem?_cons_zero, List.getElem?_cons_succ] at m0 m5
    go_wp2
    clear m0 m5
    generalize World.alloc w _ = W1 at *
    go_loopw [3, 5, 28] (fun n p i wr => ∃ kk : Nat, kk ≤ t.args.length ∧ i = .int .i64 kk ∧ n = .int .i64 ((0 + takesTL (t.args.take kk) : Nat)) ∧ Below W1.heap.size W1 wr) (fun _ _ i _ => t.args.length - (intOf i).toNat)
    case atStart => exact ⟨0, Nat.zero_le _, rfl, by simp [takesTL], Below.refl _ _⟩
    case round =>
      obtain ⟨kk, hkk, rfl, rfl, hbr⟩ := hrel
      have HBR := Lib.hid hbr
      clear hbr
      by_cases hk : kk < t.args.length
      · have hki : (kk : Int) < (t.args.length : Int) := by omega
        have hk0 : (0 : Int) ≤ (kk : Int) := by omega
        obtain ⟨g2, o2, vs2, hae, _, hcs, ht2⟩ := (HA.out.below (B0.out.trans (HBR.out.mono B0.out.size))).get kk hk
        subst hae
        have HT2 := Lib.hid ht2
        obtain ⟨_, nv2, a2, cap2, hv2, hnn2, _⟩ := ht2.parts
        obtain ⟨nb2, nd2, hnv2, _, _⟩ := hnn2.slice
        subst hv2
        subst hnv2
        have e0 := hcs 0 (by decide)
        have e1 := hcs 1 (by decide)
        have e2 := hcs 2 (by decide)
        have e3 := hcs 3 (by decide)
        have e4 := hcs 4 (by decide)
        have e5 := hcs 5 (by decide)
        simp only [List.getElem?_cons_zero, List.getElem?_cons_succ, ← Nat.add_assoc, Nat.add_zero] at e0 e1 e2 e3 e4 e5
        have HBA := Lib.hid ((Below.refl _ wr).alloc (Nat.le_refl _) (.cells #[.int .i64 t.args[kk].kind, .int .i64 t.args[kk].int, .string t.args[kk].text, .int .u32 t.args[kk].cr, .slice nb2 t.args[kk].nums.length nd2, .slice a2 t.args[kk].args.length cap2] 27 (0, 0)))
        have HCALL := Lib.hid (HIH.out S t.args[kk] _ _ (by have := Tm.arg_lt hk; have := HNN.out; omega) (HT2.out.below HBA.out) (okTL_at HAL.out kk hk) (by have := sizeTL_at kk hk; omega))
        have hnext := takesTL_take t.args kk hk
        have hmn := takesTL_mono t.args (kk + 1)
        have hwr : IntKind.i64.wrap (((0 + takesTL (t.args.take kk) : Nat) : Int) + (takesT t.args[kk] : Nat)) = ((0 + takesTL (t.args.take (kk + 1)) : Nat) : Int) := by
          rw [show (((0 + takesTL (t.args.take kk) : Nat) : Int) + (takesT t.args[kk] : Nat)) = ((0 + takesTL (t.args.take (kk + 1)) : Nat) : Int) by rw [hnext]; omega]
          exact IntWalk.i64_in _ (by omega)
        generalize hn0 : 0 + takesTL (t.args.take kk) = n0 at *
        generalize hn1 : 0 + takesTL (t.args.take (kk + 1)) = n1 at *
        generalize takesT t.args[kk] = tk at *
        clear hcs ht2 hnn2 hnext hmn
        go_wp2_with fail
        refine HCALL.out.mono ?_
        rintro e W5 ⟨rfl, hb5⟩
        have HB5 := Lib.hid (HBR.out.trans ((HBA.out.trans (hb5.mono HBA.out.size)).mono HBR.out.size))
        clear hb5 e0 e1 e2 e3 e4 e5 HCALL
        go_wp2
        go_roundw
        case rel => exact ⟨kk + 1, by omega, by go_num, by rw [hn1], HB5.out⟩
        case measure => simp [intOf]; omega
      · have hki : ¬ (kk : Int) < (t.args.length : Int) := by omega
        have hfull : t.args.take kk = t.args := List.take_of_length_le (by omega)
        rw [hfull] at *
        generalize hn0 : 0 + takesTL t.args = n0 at *
        go_wp2
        go_ret
        exact ⟨by first | (rw [HR.out]; rfl) | rw [HR.out], B0.out.trans (HBR.out.mono B0.out.size)⟩
end Go.Proofs.YtkipjbmckpmmfaaDoor
end
section
/- Package heap: lay. Printed by wip/hpd.py. -/
open Go Go.RowKit
namespace Go.Proofs.YtkipjbmckpmmfaaDoor
set_option linter.unusedVariables false
set_option linter.unusedSimpArgs false

theorem aH_len (a : List ByteArray) (s : ByteArray) : (aH a s).length ≤ a.length + 1 := by
  unfold aH
  cases idxM a s.data.toList with
  | none => simp
  | some i => simp
theorem nH_le (a : List ByteArray) (s : ByteArray) : nH a s ≤ a.length := by
  unfold nH
  cases hi : idxM a s.data.toList with
  | none => simp
  | some i => have := idxM_bd hi; simp; omega
theorem iW_lt (i : Int) : iW i < 18446744073709551616 := by unfold iW; omega
mutual
theorem layS_at : ∀ (t : Tm) (h : Hs), (layS t h).2.at_.length ≤ h.at_.length + sizeT t
  | .mk k i s c ns al, h => by
    rw [layS, sizeT]
    have h1 := aH_len h.at_ s
    have h2 := layL_at al h
    have h3 := layC_at al h
    split
    · exact Nat.le_add_right _ _
    · split
      · show (aH h.at_ s).length ≤ _; omega
      · split
        · exact Nat.le_add_right _ _
        · split
          · show (aH h.at_ s).length ≤ _; omega
          · split
            · show (aH h.at_ s).length ≤ _; omega
            · split
              · show (layL al h).2.at_.length ≤ _; omega
              · omega
theorem layL_at : ∀ (l : List Tm) (h : Hs), (layL l h).2.at_.length ≤ h.at_.length + sizeTL l
  | [], h => by rw [layL, sizeTL]; exact Nat.le_refl _
  | t :: r, h => by
    rw [layL, sizeTL]
    have h1 := layS_at t h
    have h2 := layL_at r (layS t h).2
    dsimp only
    omega
theorem layC_at : ∀ (l : List Tm) (h : Hs), (layC l h).2.at_.length ≤ h.at_.length + sizeTL l
  | [], h => by rw [layC, sizeTL]; exact Nat.le_refl _
  | t :: r, h => by
    rw [layC, sizeTL]
    have h1 := layS_at t h
    have h2 := layC_at r h
    have h3 := layS_at t (layC r h).2
    split
    · omega
    · show (layS t (layC r h).2).2.at_.length ≤ _; omega
end
theorem putH_lt (k : Nat) (ws : List Nat) (h : Hs) (hl : h.l.length ≤ 1099511627776) : (putH k ws h).1 < 18446744073709551616 := by unfold putH; dsimp only; omega
/-- the word that a term is laid as -/
theorem layS_lt (t : Tm) (h : Hs) (hok : okT t) (hb : bndT t) (hl : h.l.length + takesT t ≤ 1099511627776) (ha : h.at_.length ≤ 1099511627776) : (layS t h).1 < 18446744073709551616 := by
  obtain ⟨_, h2, h3⟩ := layS_rep t h hok hb
  generalize hw : (layS t h).1 = w at h3
  generalize hh : (layS t h).2 = h' at h2 h3
  have hobj : ∀ k r, objS h' w = (k, r) → k ≠ 0 → w < 18446744073709551616 := fun k r e hk => by
    rcases objS_cases h' w with ⟨e2, _⟩ | ⟨e1, e2, _⟩
    · rw [e] at e2; exact absurd e2 hk
    · omega
  cases t with
  | mk k i s c ns al =>
  rw [RepT] at h3
  rcases h3 with ⟨h1, h2, h3, h4, h5, h6, rfl⟩ | ⟨h1, h2, h3, h4, h5, h6, h7⟩ | ⟨h1, h2, h3, h4, h5, h6, rfl⟩ | ⟨h1, h2, h3, h4, a, x, y, h5, h6, h7, h8, h9⟩ | ⟨h1, h2, h3, h4, a, x, y, z, h5, h6, h7, h8, h9, h10⟩ | ⟨h1, h2, h3, h4, h5, r, h6, h7⟩ | ⟨h1, h2, h3, h4, h5, h6, h7⟩
  · exact iW_lt i
  · rw [← hw, layS, if_neg (by omega), if_pos h1]
    have := nH_le h.at_ s
    dsimp only
    omega
  · decide
  · exact hobj _ _ h8 (by simp)
  · exact hobj _ _ h9 (by simp)
  · exact hobj _ _ h6 (by simp)
  · match al, h6, h7 with
    | t :: t2 :: q, _, h7 =>
      rw [RepC] at h7
      rcases h7 with ⟨e, _⟩ | ⟨_, x, y, e, _⟩
      · cases e
      · exact hobj _ _ e (by simp)
theorem takesT_3 {t : Tm} (h : t.kind = 3) : takesT t = 6 := by cases t; dsimp only [Tm.kind] at h; rw [takesT, if_neg (by omega), if_pos h]
theorem takesT_4 {t : Tm} (h : t.kind = 4) : takesT t = 4 := by cases t; dsimp only [Tm.kind] at h; rw [takesT, if_pos h]
theorem partS_nums2 {t : Tm} (h : partS t 0 = []) : (t.kind = 3 → t.nums.length = 3) ∧ (t.kind = 4 → t.nums.length = 2) := by
  cases t with
  | mk k i s c ns al =>
  rw [partS_iff] at h
  dsimp only [Tm.kind, Tm.nums]
  constructor
  · intro e
    rcases h with ⟨e2, _⟩ | ⟨e2, _⟩ | ⟨_, _, _, e2, _⟩ | ⟨e2, _⟩ | ⟨e2, _⟩ | ⟨e2, _⟩ | ⟨e2, _⟩ <;> omega
  · intro e
    rcases h with ⟨e2, _⟩ | ⟨e2, _⟩ | ⟨e2, _⟩ | ⟨_, _, _, e2, _⟩ | ⟨e2, _⟩ | ⟨e2, _⟩ | ⟨e2, _⟩ <;> omega
def LayR (half g : Nat) (F : Nat → Prop) (w : World) (r : Nat × Hs) (e : Ending) (w' : World) : Prop := e = .returned (.int .u64 (r.1 : Nat)) ∧ HpRes half g F w r.2 w'
theorem wrap64 (x : Int) : IntKind.u64.wrap x = x % 18446744073709551616 := by
  rw [IntKind.wrap_u64]
theorem or2 (n : Nat) (hn : n ≤ 1099511627776) : bits BinOp.or IntKind.u64 (IntKind.u64.wrap (IntKind.u64.wrap (n : Int) * 4)) 2 = ((n * 4 + 2 : Nat) : Int) := by
  rw [IntWalk.u64_in (n : Int) (by omega), IntWalk.u64_in ((n : Int) * 4) (by omega)]
  have := bits_or_u64_nat (n * 4) 2 (by omega) (by omega)
  rw [show ((n * 4 : Nat) : Int) = (n : Int) * 4 by omega, show ((2 : Nat) : Int) = 2 from rfl] at this
  rw [this]
  have h2 := Nat.two_pow_add_eq_or_of_lt (i := 2) (b := 2) (by decide) n
  rw [show n * 4 ||| 2 = 2 ^ 2 * n ||| 2 by rw [Nat.mul_comm], ← h2]
  omega
theorem or1 (i : Int) : bits BinOp.or IntKind.u64 (IntKind.u64.wrap (IntKind.u64.wrap i * 4)) 1 = (iW i : Nat) := by
  unfold iW
  have e : IntKind.u64.wrap (IntKind.u64.wrap i * 4) = ((((i * 4) % 18446744073709551616).toNat : Nat) : Int) := by
    rw [wrap64, wrap64]; omega
  rw [e]
  obtain ⟨q, hq⟩ : ∃ q, ((i * 4) % 18446744073709551616).toNat = 4 * q := ⟨((i * 4) % 18446744073709551616).toNat / 4, by omega⟩
  have hl : 4 * q < 18446744073709551616 := by omega
  rw [hq]
  have := bits_or_u64_nat (4 * q) 1 hl (by omega)
  rw [show ((1 : Nat) : Int) = 1 from rfl] at this
  rw [this]
  have h2 := Nat.two_pow_add_eq_or_of_lt (i := 2) (b := 1) (by decide) q
  rw [show 4 * q ||| 1 = 2 ^ 2 * q ||| 1 from rfl, ← h2]
theorem orHi (x y : Nat) (hx : x < 4294967296) (hy : y < 4294967296) : bits BinOp.or IntKind.u64 ((x : Int) * 4294967296) (y : Int) = ((x * 4294967296 + y : Nat) : Int) := by
  have := bits_or_u64_nat (x * 4294967296) y (by omega) (by omega)
  rw [show ((x * 4294967296 : Nat) : Int) = (x : Int) * 4294967296 by omega] at this
  rw [this]
  have h2 := Nat.two_pow_add_eq_or_of_lt (i := 32) (b := y) hy x
  rw [show x * 4294967296 ||| y = 2 ^ 32 * x ||| y by rw [Nat.mul_comm], ← h2]
  omega
theorem Keep.cellH {S : Nat → Prop} {w w' : World} (k : Keep S w w') {b o : Nat} {u : Value} (hc : w.cell? ⟨b, o, none⟩ = some u) (hS : ¬ S b) : w'.cell? ⟨b, o, none⟩ = some u := by
  rw [← hc]
  unfold World.cell?
  rw [k.block b (World.block_lt_of_cell? w _ hc) hS]
theorem lit_words_at {w : World} (l : List Nat) (n : Nat) (hn : l.length = n) (hm : n ≤ maxLen) : AtV (fun b => b = w.heap.size) (.slice (some ⟨w.heap.size, 0, none⟩) n n) (wordsV l) (w.alloc (.cells (wordsV l).toArray 34 (0, 0))) := by
  subst hn
  have h := (RowV.lit (base := 0) (w := w) 34 (wordsV l) (Nat.zero_le _) (by rw [wordsV_len]; exact hm)).at_
  rw [wordsV_len] at h
  exact h.mono fun b _ hb => (Option.some.inj hb).symm
theorem nums_cellsH {S : Nat → Prop} {a : Option Addr} {n c : Nat} {l : List Int} {w : World} (h : NumsAt S (.slice a n c) l w) (hl : 0 < l.length) :
    ∃ g o, a = some ⟨g, o, none⟩ ∧ S g ∧ ∀ i, (h : i < l.length) → (0 ≤ l[i] ∧ l[i] < 4294967296) ∧ w.cell? ⟨g, o + i, none⟩ = some (.int .u32 l[i]) := by
  obtain ⟨a', c', e, h2, h3, h4⟩ := h
  cases e
  obtain ⟨k1, k2, g, o, ha, hS, hc⟩ := h4 0 hl
  refine ⟨g, o, ha, hS, fun i hi => ?_⟩
  obtain ⟨b1, b2, g', o', ha', _, hc'⟩ := h4 i hi
  rw [ha] at ha'
  cases ha'
  exact ⟨⟨b1, b2⟩, hc'⟩
theorem HpRes.below {half g : Nat} {F : Nat → Prop} {w w1 w2 : World} {h2 : Hs} (hb : Below w.heap.size w w1) (hF : ∀ b, F b → b < w.heap.size) (h : HpRes half g F w1 h2 w2) : HpRes half g F w h2 w2 :=
  HpRes.trans (Keep.of_below hb (Nat.le_refl _) F) (fun b hb => .inl hb) h
set_option maxHeartbeats 16000000 in
set_option maxRecDepth 100000 in
theorem lay_leaf (S : Nat → Prop) (t : Tm) (vs : List Value) (w : World) {half : Nat} {h : Hs} {g : Nat} {F : Nat → Prop} (hp : HpIs half h g F w) (ht : TmAt S t vs w) (hS : ∀ b, S b → b < w.heap.size ∧ ¬ F b) (hok : okT t)
    (hl : h.l.length + takesT t ≤ 1099511627776) (hat : h.at_.length + sizeT t ≤ 1099511627776) (hk : t.kind = 1 ∨ t.kind = 2 ∨ t.kind = 6 ∨ t.kind = 3 ∨ t.kind = 4) :
    Calls Tryd.prog 26 #[.pointer (some ⟨g, 0, none⟩), .agg vs.toArray] w (LayR half g F w (layS t h)) := by
  have HT := Lib.hid ht
  have HP := Lib.hid hp
  have HS := Lib.hid hS
  obtain ⟨hpp, nv, a, cap, rfl, hnn, ⟨hc, hcm⟩, hcap, ha⟩ := ht.parts
  have HNU := Lib.hid hnn
  have hi0 := hpp.i0
  have hi1 := hpp.i1
  obtain ⟨na, nc, rfl, hnc, _⟩ := hnn.slice
  have hpt : partS t 0 = [] := by cases t; rw [okT] at hok; exact hok.1
  have hst : 1 ≤ sizeT t := sizeT_pos t
  have htx : t.text.size ≤ maxLen := by have := text_ok hpt; unfold maxLen; omega
  have HPT := Lib.hid hpt
  have HPP := Lib.hid hpp
  have HLY := Lib.hid (show layS t h = layS (.mk t.kind t.int t.text t.cr t.nums t.args) h by cases t; rfl)
  have B0 := Lib.hid ((Below.refl _ w).alloc (Nat.le_refl _) (.cells #[.int .i64 t.kind, .int .i64 t.int, .string t.text, .int .u32 t.cr, .slice na t.nums.length nc, .slice a t.args.length cap] 27 (0, 0)))
  have M0 := Lib.hid (Cells.new w 27 [.int .i64 t.kind, .int .i64 t.int, .string t.text, .int .u32 t.cr, .slice na t.nums.length nc, .slice a t.args.length cap])
  have HAT := Lib.hid hat
  have HL := Lib.hid hl
  clear hok hpt hnn hpp ha hcm ht hp hS hnc hat hl
  rcases hk with k1 | k2 | k6 | k3 | k4
  · have K1 := Lib.hid k1
    rw [k1] at M0 B0 ⊢
    have m0 := M0.out.cell 0
    have m1 := M0.out.cell 1
    simp only [List.getElem?_cons_zero, List.getElem?_cons_succ] at m0 m1
    go_enter Tryd.func26, Tryd.ntmps26
    go_wp2
    go_ret
    rw [HLY.out, layS, if_pos K1.out]
    exact ⟨ret_int (or1 _), HpRes.below B0.out (fun b hb => (HP.out.nf b hb).1) (HpRes.same (HP.out.below B0.out))⟩
  · have K2 := Lib.hid k2
    rw [k2] at M0 B0 ⊢
    have m0 := M0.out.cell 0
    have m2 := M0.out.cell 2
    simp only [List.getElem?_cons_zero, List.getElem?_cons_succ] at m0 m2
    have HA := Lib.hid (atomH_any (HP.out.below B0.out) t.text htx (by have := HAT.out; omega))
    go_enter Tryd.func26, Tryd.ntmps26
    go_wp2_with fail
    refine HA.out.mono ?_
    rintro e w2 ⟨rfl, hr⟩
    clear m0 m2
    go_wp2
    go_ret
    rw [HLY.out, layS, if_neg (by rw [K2.out]; decide), if_pos K2.out]
    exact ⟨ret_int (or2 _ (by have := nH_le h.at_ t.text; have := HAT.out; omega)), HpRes.below B0.out (fun b hb => (HP.out.nf b hb).1) hr⟩
  · have K6 := Lib.hid k6
    rw [k6] at M0 B0 ⊢
    have m0 := M0.out.cell 0
    simp only [List.getElem?_cons_zero, List.getElem?_cons_succ] at m0
    go_enter Tryd.func26, Tryd.ntmps26
    go_wp2
    go_ret
    rw [HLY.out, layS, if_neg (by rw [K6.out]; decide), if_neg (by rw [K6.out]; decide), if_pos K6.out]
    exact ⟨rfl, HpRes.below B0.out (fun b hb => (HP.out.nf b hb).1) (HpRes.same (HP.out.below B0.out))⟩
  · have K3 := Lib.hid k3
    rw [k3] at M0 B0 ⊢
    have hnl : t.nums.length = 3 := (partS_nums2 HPT.out).1 K3.out
    obtain ⟨g2, o2, rfl, hSg, hnc2⟩ := nums_cellsH (HNU.out.below B0.out) (by omega)
    obtain ⟨x, y, z, hns⟩ : ∃ x y z, t.nums = [x, y, z] := by
      match hq : t.nums, hnl with
      | [x, y, z], _ => exact ⟨x, y, z, rfl⟩
    rw [hns] at hnc2 M0 B0 ⊢
    obtain ⟨⟨x0, x1⟩, cx⟩ := hnc2 0 (by simp)
    obtain ⟨⟨y0, y1⟩, cy⟩ := hnc2 1 (by simp)
    obtain ⟨⟨z0, z1⟩, cz⟩ := hnc2 2 (by simp)
    simp only [List.getElem_cons_zero, List.getElem_cons_succ, Nat.add_zero] at x0 x1 cx y0 y1 cy z0 z1 cz
    obtain ⟨xn, rfl⟩ : ∃ n : Nat, x = n := ⟨x.toNat, by omega⟩
    obtain ⟨yn, rfl⟩ : ∃ n : Nat, y = n := ⟨y.toNat, by omega⟩
    obtain ⟨zn, rfl⟩ : ∃ n : Nat, z = n := ⟨z.toNat, by omega⟩
    obtain ⟨cn, hcn⟩ : ∃ n : Nat, t.cr = n := ⟨t.cr.toNat, by have := HPP.out.c0; omega⟩
    have hcl : cn < 4294967296 := by have := HPP.out.c1; omega
    rw [hcn] at M0 B0 cx cy cz ⊢
    simp only [List.length_cons, List.length_nil, Nat.zero_add, Nat.reduceAdd] at M0 B0 cx cy cz ⊢
    have hlb := HL.out
    have htk : takesT t = 6 := takesT_3 K3.out
    rw [htk] at hlb
    have hnh := nH_le h.at_ t.text
    have hat := HAT.out
    have hwn : IntKind.u64.wrap (nH h.at_ t.text : Int) = (nH h.at_ t.text : Int) := IntWalk.u64_in _ (by omega)
    have hwc : IntKind.u64.wrap (cn : Int) = (cn : Int) := IntWalk.u64_in _ (by omega)
    have hwx : IntKind.u64.wrap (xn : Int) = (xn : Int) := IntWalk.u64_in _ (by omega)
    have hwy : IntKind.u64.wrap (yn : Int) = (yn : Int) := IntWalk.u64_in _ (by omega)
    have hwz : IntKind.u64.wrap (zn : Int) = (zn : Int) := IntWalk.u64_in _ (by omega)
    have HWS := Lib.hid (show ∀ q ∈ [nH h.at_ t.text, cn, xn, yn, zn], q < 18446744073709551616 from by intro q hq; simp only [List.mem_cons, List.not_mem_nil, or_false] at hq; rcases hq with rfl | rfl | rfl | rfl | rfl <;> omega)
    have hm0 := M0.out.cell 0
    simp only [List.getElem?_cons_zero] at hm0
    have HNT := Lib.hid (show ¬ (F w.heap.size ∨ (w.alloc (.cells #[.int .i64 3, .int .i64 t.int, .string t.text, .int .u32 cn, .slice (some ⟨g2, o2, none⟩) 3 nc, .slice a t.args.length cap] 27 (0, 0))).heap.size ≤ w.heap.size) from fun e => e.elim (fun e => by have := (HP.out.nf _ e).1; omega) (fun e => by rw [World.size_alloc] at e; omega))
    have HNG := Lib.hid (show ¬ (F g2 ∨ (w.alloc (.cells #[.int .i64 3, .int .i64 t.int, .string t.text, .int .u32 cn, .slice (some ⟨g2, o2, none⟩) 3 nc, .slice a t.args.length cap] 27 (0, 0))).heap.size ≤ g2) from fun e => e.elim (fun e => (HS.out g2 hSg).2 e) (fun e => by have h2 := (HS.out g2 hSg).1; rw [World.size_alloc] at e; omega))
    have HP1 := Lib.hid (HP.out.below B0.out)
    have HFL := Lib.hid (fun b hb => (HP.out.nf b hb).1)
    have HNS := Lib.hid hns
    have HCN := Lib.hid hcn
    clear hnc2 hSg hnl hcn hns
    go_enter Tryd.func26, Tryd.ntmps26
    go_wp2_with fail
    generalize w.alloc (.cells #[.int .i64 3, .int .i64 t.int, .string t.text, .int .u32 cn, .slice (some ⟨g2, o2, none⟩) 3 nc, .slice a t.args.length cap] 27) = w1 at *
    clear hm0
    refine wp_region_L (S := fun X => Keep (fun b => F b ∨ w1.heap.size ≤ b) w1 X) (F := []) (by kernel_rfl) (Keep.drew (Keep.refl _ _)) (fun hHeld => ?_)
    refine wpAnyL_easy (i := 0) (v := (.pointer (some ⟨g, 0, none⟩))) (by simp only [List.getElem?_toArray, List.getElem?_cons_succ, List.getElem?_cons_zero]; rfl) (by kernel_rfl) (by kernel_rfl) (by kernel_rfl) (by exact fun _ _ _ h => h) (Or.inl ⟨by rfl, fun _ _ => rfl⟩) ?_
    try simp only [Act.put, List.setIfInBounds_toArray, List.set_cons_zero, List.set_cons_succ]
    refine wpAnyL_easy (i := 1) (v := (.pointer (some ⟨g, 0, none⟩))) (by simp only [List.getElem?_toArray, List.getElem?_cons_succ, List.getElem?_cons_zero]; rfl) (by kernel_rfl) (by kernel_rfl) (by kernel_rfl) (by exact fun _ _ _ h => h) (Or.inl ⟨by rfl, fun _ _ => rfl⟩) ?_
    try simp only [Act.put, List.setIfInBounds_toArray, List.set_cons_zero, List.set_cons_succ]
    refine wpAnyL_easy (i := 2) (v := (.pointer (some ⟨w.heap.size, 2, none⟩))) (by simp only [List.getElem?_toArray, List.getElem?_cons_succ, List.getElem?_cons_zero]; rfl) (by kernel_rfl) (by kernel_rfl) (by kernel_rfl) (by exact fun _ _ _ h => h) (Or.inl ⟨by rfl, by intro W _; go_simp; all_goals first | rfl | exact ⟨rfl, rfl, rfl, rfl, rfl, rfl⟩⟩) ?_
    try simp only [Act.put, List.setIfInBounds_toArray, List.set_cons_zero, List.set_cons_succ]
    refine wpAnyL_take (i := 3) (v := (.string t.text)) (by simp only [List.getElem?_toArray, List.getElem?_cons_succ, List.getElem?_cons_zero]; rfl) (by kernel_rfl) (by kernel_rfl) (by kernel_rfl) (by kernel_rfl) (by exact fun _ _ _ h => h) (Or.inl ⟨by rfl, by intro W hSw; have x0 := show W.cell? ⟨w.heap.size, 2, none⟩ = some (.string t.text) from (Cells.keep (show Cells w1 w.heap.size 27 [.int .i64 3, .int .i64 t.int, .string t.text, .int .u32 cn, .slice (some ⟨g2, o2, none⟩) 3 nc, .slice a t.args.length cap] from M0.out) hSw HNT.out).cell 2; go_simp; all_goals first | rfl | exact ⟨rfl, rfl, rfl, rfl, rfl, rfl⟩⟩) (by assumption) ?_
    try simp only [Act.put, List.setIfInBounds_toArray, List.set_cons_zero, List.set_cons_succ]
    refine wpAnyL_easy (i := 6) (v := (.pointer (some ⟨w.heap.size, 3, none⟩))) (by simp only [List.getElem?_toArray, List.getElem?_cons_succ, List.getElem?_cons_zero]; rfl) (by kernel_rfl) (by kernel_rfl) (by kernel_rfl) (by exact fun _ _ _ h => h) (Or.inl ⟨by rfl, by intro W _; go_simp; all_goals first | rfl | exact ⟨rfl, rfl, rfl, rfl, rfl, rfl⟩⟩) ?_
    try simp only [Act.put, List.setIfInBounds_toArray, List.set_cons_zero, List.set_cons_succ]
    refine wpAnyL_take (i := 7) (v := (.int .u32 cn)) (by simp only [List.getElem?_toArray, List.getElem?_cons_succ, List.getElem?_cons_zero]; rfl) (by kernel_rfl) (by kernel_rfl) (by kernel_rfl) (by kernel_rfl) (by exact fun _ _ _ h => h) (Or.inl ⟨by rfl, by intro W hSw; have x0 := show W.cell? ⟨w.heap.size, 3, none⟩ = some (.int .u32 cn) from (Cells.keep (show Cells w1 w.heap.size 27 [.int .i64 3, .int .i64 t.int, .string t.text, .int .u32 cn, .slice (some ⟨g2, o2, none⟩) 3 nc, .slice a t.args.length cap] from M0.out) hSw HNT.out).cell 3; go_simp; all_goals first | rfl | exact ⟨rfl, rfl, rfl, rfl, rfl, rfl⟩⟩) (by assumption) ?_
    try simp only [Act.put, List.setIfInBounds_toArray, List.set_cons_zero, List.set_cons_succ]
    refine wpAnyL_take (i := 8) (v := (.int .u64 cn)) (by simp only [List.getElem?_toArray, List.getElem?_cons_succ, List.getElem?_cons_zero]; rfl) (by kernel_rfl) (by kernel_rfl) (by kernel_rfl) (by kernel_rfl) (by exact fun _ _ _ h => h) (Or.inl ⟨by rfl, by intro W hSw; have x0 := hwc; go_simp; all_goals first | rfl | exact ⟨rfl, rfl, rfl, rfl, rfl, rfl⟩⟩) (by assumption) ?_
    try simp only [Act.put, List.setIfInBounds_toArray, List.set_cons_zero, List.set_cons_succ]
    refine wpAnyL_easy (i := 9) (v := (.pointer (some ⟨w.heap.size, 4, none⟩))) (by simp only [List.getElem?_toArray, List.getElem?_cons_succ, List.getElem?_cons_zero]; rfl) (by kernel_rfl) (by kernel_rfl) (by kernel_rfl) (by exact fun _ _ _ h => h) (Or.inl ⟨by rfl, by intro W _; go_simp; all_goals first | rfl | exact ⟨rfl, rfl, rfl, rfl, rfl, rfl⟩⟩) ?_
    try simp only [Act.put, List.setIfInBounds_toArray, List.set_cons_zero, List.set_cons_succ]
    refine wpAnyL_take (i := 10) (v := (.slice (some ⟨g2, o2, none⟩) 3 nc)) (by simp only [List.getElem?_toArray, List.getElem?_cons_succ, List.getElem?_cons_zero]; rfl) (by kernel_rfl) (by kernel_rfl) (by kernel_rfl) (by kernel_rfl) (by exact fun _ _ _ h => h) (Or.inl ⟨by rfl, by intro W hSw; have x0 := show W.cell? ⟨w.heap.size, 4, none⟩ = some (.slice (some ⟨g2, o2, none⟩) 3 nc) from (Cells.keep (show Cells w1 w.heap.size 27 [.int .i64 3, .int .i64 t.int, .string t.text, .int .u32 cn, .slice (some ⟨g2, o2, none⟩) 3 nc, .slice a t.args.length cap] from M0.out) hSw HNT.out).cell 4; go_simp; all_goals first | rfl | exact ⟨rfl, rfl, rfl, rfl, rfl, rfl⟩⟩) (by assumption) ?_
    try simp only [Act.put, List.setIfInBounds_toArray, List.set_cons_zero, List.set_cons_succ]
    refine wpAnyL_take (i := 11) (v := (.pointer (some ⟨g2, o2, none⟩))) (by simp only [List.getElem?_toArray, List.getElem?_cons_succ, List.getElem?_cons_zero]; rfl) (by kernel_rfl) (by kernel_rfl) (by kernel_rfl) (by kernel_rfl) (by exact fun _ _ _ h => h) (Or.inl ⟨by rfl, by intro W hSw; go_simp; all_goals first | rfl | exact ⟨rfl, rfl, rfl, rfl, rfl, rfl⟩⟩) (by assumption) ?_
    try simp only [Act.put, List.setIfInBounds_toArray, List.set_cons_zero, List.set_cons_succ]
    refine wpAnyL_take (i := 12) (v := (.int .u32 xn)) (by simp only [List.getElem?_toArray, List.getElem?_cons_succ, List.getElem?_cons_zero]; rfl) (by kernel_rfl) (by kernel_rfl) (by kernel_rfl) (by kernel_rfl) (by exact fun _ _ _ h => h) (Or.inl ⟨by rfl, by intro W hSw; have x0 := show W.cell? ⟨g2, o2, none⟩ = some (.int .u32 xn) from Keep.cellH hSw cx HNG.out; go_simp; all_goals first | rfl | exact ⟨rfl, rfl, rfl, rfl, rfl, rfl⟩⟩) (by assumption) ?_
    try simp only [Act.put, List.setIfInBounds_toArray, List.set_cons_zero, List.set_cons_succ]
    refine wpAnyL_take (i := 13) (v := (.int .u64 xn)) (by simp only [List.getElem?_toArray, List.getElem?_cons_succ, List.getElem?_cons_zero]; rfl) (by kernel_rfl) (by kernel_rfl) (by kernel_rfl) (by kernel_rfl) (by exact fun _ _ _ h => h) (Or.inl ⟨by rfl, by intro W hSw; have x0 := hwx; go_simp; all_goals first | rfl | exact ⟨rfl, rfl, rfl, rfl, rfl, rfl⟩⟩) (by assumption) ?_
    try simp only [Act.put, List.setIfInBounds_toArray, List.set_cons_zero, List.set_cons_succ]
    refine wpAnyL_easy (i := 14) (v := (.pointer (some ⟨w.heap.size, 4, none⟩))) (by simp only [List.getElem?_toArray, List.getElem?_cons_succ, List.getElem?_cons_zero]; rfl) (by kernel_rfl) (by kernel_rfl) (by kernel_rfl) (by exact fun _ _ _ h => h) (Or.inl ⟨by rfl, by intro W _; go_simp; all_goals first | rfl | exact ⟨rfl, rfl, rfl, rfl, rfl, rfl⟩⟩) ?_
    try simp only [Act.put, List.setIfInBounds_toArray, List.set_cons_zero, List.set_cons_succ]
    refine wpAnyL_take (i := 15) (v := (.slice (some ⟨g2, o2, none⟩) 3 nc)) (by simp only [List.getElem?_toArray, List.getElem?_cons_succ, List.getElem?_cons_zero]; rfl) (by kernel_rfl) (by kernel_rfl) (by kernel_rfl) (by kernel_rfl) (by exact fun _ _ _ h => h) (Or.inl ⟨by rfl, by intro W hSw; have x0 := show W.cell? ⟨w.heap.size, 4, none⟩ = some (.slice (some ⟨g2, o2, none⟩) 3 nc) from (Cells.keep (show Cells w1 w.heap.size 27 [.int .i64 3, .int .i64 t.int, .string t.text, .int .u32 cn, .slice (some ⟨g2, o2, none⟩) 3 nc, .slice a t.args.length cap] from M0.out) hSw HNT.out).cell 4; go_simp; all_goals first | rfl | exact ⟨rfl, rfl, rfl, rfl, rfl, rfl⟩⟩) (by assumption) ?_
    try simp only [Act.put, List.setIfInBounds_toArray, List.set_cons_zero, List.set_cons_succ]
    refine wpAnyL_take (i := 16) (v := (.pointer (some ⟨g2, o2 + 1, none⟩))) (by simp only [List.getElem?_toArray, List.getElem?_cons_succ, List.getElem?_cons_zero]; rfl) (by kernel_rfl) (by kernel_rfl) (by kernel_rfl) (by kernel_rfl) (by exact fun _ _ _ h => h) (Or.inl ⟨by rfl, by intro W hSw; go_simp; all_goals first | rfl | exact ⟨rfl, rfl, rfl, rfl, rfl, rfl⟩⟩) (by assumption) ?_
    try simp only [Act.put, List.setIfInBounds_toArray, List.set_cons_zero, List.set_cons_succ]
    refine wpAnyL_take (i := 17) (v := (.int .u32 yn)) (by simp only [List.getElem?_toArray, List.getElem?_cons_succ, List.getElem?_cons_zero]; rfl) (by kernel_rfl) (by kernel_rfl) (by kernel_rfl) (by kernel_rfl) (by exact fun _ _ _ h => h) (Or.inl ⟨by rfl, by intro W hSw; have x0 := show W.cell? ⟨g2, o2 + 1, none⟩ = some (.int .u32 yn) from Keep.cellH hSw cy HNG.out; go_simp; all_goals first | rfl | exact ⟨rfl, rfl, rfl, rfl, rfl, rfl⟩⟩) (by assumption) ?_
    try simp only [Act.put, List.setIfInBounds_toArray, List.set_cons_zero, List.set_cons_succ]
    refine wpAnyL_take (i := 18) (v := (.int .u64 yn)) (by simp only [List.getElem?_toArray, List.getElem?_cons_succ, List.getElem?_cons_zero]; rfl) (by kernel_rfl) (by kernel_rfl) (by kernel_rfl) (by kernel_rfl) (by exact fun _ _ _ h => h) (Or.inl ⟨by rfl, by intro W hSw; have x0 := hwy; go_simp; all_goals first | rfl | exact ⟨rfl, rfl, rfl, rfl, rfl, rfl⟩⟩) (by assumption) ?_
    try simp only [Act.put, List.setIfInBounds_toArray, List.set_cons_zero, List.set_cons_succ]
    refine wpAnyL_easy (i := 19) (v := (.pointer (some ⟨w.heap.size, 4, none⟩))) (by simp only [List.getElem?_toArray, List.getElem?_cons_succ, List.getElem?_cons_zero]; rfl) (by kernel_rfl) (by kernel_rfl) (by kernel_rfl) (by exact fun _ _ _ h => h) (Or.inl ⟨by rfl, by intro W _; go_simp; all_goals first | rfl | exact ⟨rfl, rfl, rfl, rfl, rfl, rfl⟩⟩) ?_
    try simp only [Act.put, List.setIfInBounds_toArray, List.set_cons_zero, List.set_cons_succ]
    refine wpAnyL_take (i := 20) (v := (.slice (some ⟨g2, o2, none⟩) 3 nc)) (by simp only [List.getElem?_toArray, List.getElem?_cons_succ, List.getElem?_cons_zero]; rfl) (by kernel_rfl) (by kernel_rfl) (by kernel_rfl) (by kernel_rfl) (by exact fun _ _ _ h => h) (Or.inl ⟨by rfl, by intro W hSw; have x0 := show W.cell? ⟨w.heap.size, 4, none⟩ = some (.slice (some ⟨g2, o2, none⟩) 3 nc) from (Cells.keep (show Cells w1 w.heap.size 27 [.int .i64 3, .int .i64 t.int, .string t.text, .int .u32 cn, .slice (some ⟨g2, o2, none⟩) 3 nc, .slice a t.args.length cap] from M0.out) hSw HNT.out).cell 4; go_simp; all_goals first | rfl | exact ⟨rfl, rfl, rfl, rfl, rfl, rfl⟩⟩) (by assumption) ?_
    try simp only [Act.put, List.setIfInBounds_toArray, List.set_cons_zero, List.set_cons_succ]
    refine wpAnyL_take (i := 21) (v := (.pointer (some ⟨g2, o2 + 2, none⟩))) (by simp only [List.getElem?_toArray, List.getElem?_cons_succ, List.getElem?_cons_zero]; rfl) (by kernel_rfl) (by kernel_rfl) (by kernel_rfl) (by kernel_rfl) (by exact fun _ _ _ h => h) (Or.inl ⟨by rfl, by intro W hSw; go_simp; all_goals first | rfl | exact ⟨rfl, rfl, rfl, rfl, rfl, rfl⟩⟩) (by assumption) ?_
    try simp only [Act.put, List.setIfInBounds_toArray, List.set_cons_zero, List.set_cons_succ]
    refine wpAnyL_take (i := 22) (v := (.int .u32 zn)) (by simp only [List.getElem?_toArray, List.getElem?_cons_succ, List.getElem?_cons_zero]; rfl) (by kernel_rfl) (by kernel_rfl) (by kernel_rfl) (by kernel_rfl) (by exact fun _ _ _ h => h) (Or.inl ⟨by rfl, by intro W hSw; have x0 := show W.cell? ⟨g2, o2 + 2, none⟩ = some (.int .u32 zn) from Keep.cellH hSw cz HNG.out; go_simp; all_goals first | rfl | exact ⟨rfl, rfl, rfl, rfl, rfl, rfl⟩⟩) (by assumption) ?_
    try simp only [Act.put, List.setIfInBounds_toArray, List.set_cons_zero, List.set_cons_succ]
    refine wpAnyL_take (i := 23) (v := (.int .u64 zn)) (by simp only [List.getElem?_toArray, List.getElem?_cons_succ, List.getElem?_cons_zero]; rfl) (by kernel_rfl) (by kernel_rfl) (by kernel_rfl) (by kernel_rfl) (by exact fun _ _ _ h => h) (Or.inl ⟨by rfl, by intro W hSw; have x0 := hwz; go_simp; all_goals first | rfl | exact ⟨rfl, rfl, rfl, rfl, rfl, rfl⟩⟩) (by assumption) ?_
    try simp only [Act.put, List.setIfInBounds_toArray, List.set_cons_zero, List.set_cons_succ]
    refine wpAnyL_ready (rs := [4]) (by kernel_rfl) (by simp) ?_
    refine AllReadyL.cons (by simp only [List.getElem?_toArray, List.getElem?_cons_succ, List.getElem?_cons_zero]; rfl) (fun K hK => ?_) AllReadyL.nil
    go_simp
    refine (atomH_any (HP1.out.keep (S := fun _ => False) (Keep.drew (Keep.refl _ _)) (fun _ h => h.elim)) t.text htx (by have := HAT.out; omega)).mono ?_
    rintro e w6 ⟨rfl, F2, hp2, k2, hf2⟩
    have k2' : Keep F w1 w6 := (Keep.drew (Keep.refl F w1)).trans k2 (fun _ _ h => h)
    have KX := Lib.hid (k2'.more (S' := fun b => F b ∨ w1.heap.size ≤ b) (fun _ _ h => .inl h))
    have HP2 := Lib.hid hp2
    have KK2 := Lib.hid k2'
    have HF2 := Lib.hid hf2
    clear hp2 k2 hf2 k2'
    refine hK.out _ _ (KX.out) (fun hHeld => ?_)
    try simp only [Act.put, List.setIfInBounds_toArray, List.set_cons_zero, List.set_cons_succ]
    refine wpAnyL_take (i := 5) (v := (.int .u64 (nH h.at_ t.text : Nat))) (by simp only [List.getElem?_toArray, List.getElem?_cons_succ, List.getElem?_cons_zero]; rfl) (by kernel_rfl) (by kernel_rfl) (by kernel_rfl) (by kernel_rfl) (by exact fun _ _ _ h => h) (Or.inl ⟨by rfl, by intro W hSw; have x0 := hwn; go_simp; all_goals first | rfl | exact ⟨rfl, rfl, rfl, rfl, rfl, rfl⟩⟩) (by assumption) ?_
    try simp only [Act.put, List.setIfInBounds_toArray, List.set_cons_zero, List.set_cons_succ]
    refine wpAnyL_ready (rs := [24]) (by kernel_rfl) (by simp) ?_
    refine AllReadyL.cons (by simp only [List.getElem?_toArray, List.getElem?_cons_succ, List.getElem?_cons_zero]; rfl) (fun K hK => ?_) AllReadyL.nil
    go_simp
    have BL := Lib.hid ((Below.refl w6.heap.size w6).alloc (Nat.le_refl _) (.cells #[.int .u64 (nH h.at_ t.text : Nat), .int .u64 cn, .int .u64 xn, .int .u64 yn, .int .u64 zn] 34 (0, 0)))
    have LT := Lib.hid (lit_words_at (w := w6) [nH h.at_ t.text, cn, xn, yn, zn] 5 rfl (by decide))
    have KY := Lib.hid (KX.out.alloc (.cells #[.int .u64 (nH h.at_ t.text : Nat), .int .u64 cn, .int .u64 xn, .int .u64 yn, .int .u64 zn] 34 (0, 0)))
    have HPU := Lib.hid (putH_any (HP2.out.below BL.out) 4 (by decide) [nH h.at_ t.text, cn, xn, yn, zn] _ LT.out (fun b e hb => by have := (HP2.out.nf b hb).1; omega) HWS.out (by simp [Hs.named]; omega))
    refine hK.out _ _ (KY.out) (fun hHeld => ?_)
    try simp only [Act.put, List.setIfInBounds_toArray, List.set_cons_zero, List.set_cons_succ]
    refine wpAnyL_ready (rs := [25]) (by kernel_rfl) (by simp) ?_
    refine AllReadyL.cons (by simp only [List.getElem?_toArray, List.getElem?_cons_succ, List.getElem?_cons_zero]; rfl) (fun K hK => ?_) AllReadyL.nil
    go_simp
    refine HPU.out.mono ?_
    rintro e w7 ⟨rfl, hr⟩
    have hr2 := HpRes.below BL.out (fun b hb => (HP2.out.nf b hb).1) hr
    have HR := Lib.hid (HpRes.below B0.out HFL.out (HpRes.trans KK2.out HF2.out hr2))
    have KZ := Lib.hid (show Keep (fun b => F b ∨ w1.heap.size ≤ b) w1 w7 from by
      obtain ⟨_, _, k3, _⟩ := hr2
      exact KX.out.trans k3 (fun i hi e => HF2.out i e))
    clear hr hr2
    refine hK.out _ _ (KZ.out) (fun hHeld => ?_)
    try simp only [Act.put, List.setIfInBounds_toArray, List.set_cons_zero, List.set_cons_succ]
    refine wpAnyL_easy (i := 26) (v := (.int .u64 ((putH 4 [nH h.at_ t.text, cn, xn, yn, zn] (h.named t.text)).1 : Nat))) (by simp only [List.getElem?_toArray, List.getElem?_cons_succ, List.getElem?_cons_zero]; rfl) (by kernel_rfl) (by kernel_rfl) (by kernel_rfl) (by exact fun _ _ _ h => h) (Or.inl ⟨by rfl, fun _ _ => rfl⟩) ?_
    try simp only [Act.put, List.setIfInBounds_toArray, List.set_cons_zero, List.set_cons_succ]
    refine wpAnyL_done (by kernel_rfl) ?_ _
    go_wp2
    go_ret
    have e2 : layS t h = putH 4 [nH h.at_ t.text, cn, xn, yn, zn] (h.named t.text) := by
      rw [HLY.out, layS, if_neg (by rw [K3.out]; decide), if_neg (by rw [K3.out]; decide), if_neg (by rw [K3.out]; decide), if_neg (by rw [K3.out]; decide), if_pos K3.out, HNS.out, HCN.out]
      rfl
    rw [e2]
    exact ⟨rfl, HR.out⟩
  · have K4 := Lib.hid k4
    rw [k4] at M0 B0 ⊢
    have hnl : t.nums.length = 2 := (partS_nums2 HPT.out).2 K4.out
    obtain ⟨g2, o2, rfl, hSg, hnc2⟩ := nums_cellsH (HNU.out.below B0.out) (by omega)
    obtain ⟨x, y, hns⟩ : ∃ x y, t.nums = [x, y] := by
      match hq : t.nums, hnl with
      | [x, y], _ => exact ⟨x, y, rfl⟩
    rw [hns] at hnc2 M0 B0 ⊢
    obtain ⟨⟨x0, x1⟩, cx⟩ := hnc2 0 (by simp)
    obtain ⟨⟨y0, y1⟩, cy⟩ := hnc2 1 (by simp)
    simp only [List.getElem_cons_zero, List.getElem_cons_succ, Nat.add_zero] at x0 x1 cx y0 y1 cy
    obtain ⟨xn, rfl⟩ : ∃ n : Nat, x = n := ⟨x.toNat, by omega⟩
    obtain ⟨yn, rfl⟩ : ∃ n : Nat, y = n := ⟨y.toNat, by omega⟩
    obtain ⟨cn, hcn⟩ : ∃ n : Nat, t.cr = n := ⟨t.cr.toNat, by have := HPP.out.c0; omega⟩
    have hcl : cn < 4294967296 := by have := HPP.out.c1; omega
    rw [hcn] at M0 B0 cx cy ⊢
    simp only [List.length_cons, List.length_nil, Nat.zero_add, Nat.reduceAdd] at M0 B0 cx cy ⊢
    have hlb := HL.out
    have htk : takesT t = 4 := takesT_4 K4.out
    rw [htk] at hlb
    have hnh := nH_le h.at_ t.text
    have hat := HAT.out
    have hwn : IntKind.u64.wrap (nH h.at_ t.text : Int) = (nH h.at_ t.text : Int) := IntWalk.u64_in _ (by omega)
    have hwc : IntKind.u64.wrap (cn : Int) = (cn : Int) := IntWalk.u64_in _ (by omega)
    have hwx : IntKind.u64.wrap (xn : Int) = (xn : Int) := IntWalk.u64_in _ (by omega)
    have hwy : IntKind.u64.wrap (yn : Int) = (yn : Int) := IntWalk.u64_in _ (by omega)
    have hws : IntKind.u64.wrap ((xn : Int) * 4294967296) = (xn : Int) * 4294967296 := IntWalk.u64_in _ (by omega)
    have hor := orHi xn yn (by omega) (by omega)
    have HWS := Lib.hid (show ∀ q ∈ [nH h.at_ t.text, cn, xn * 4294967296 + yn], q < 18446744073709551616 from by intro q hq; simp only [List.mem_cons, List.not_mem_nil, or_false] at hq; rcases hq with rfl | rfl | rfl <;> omega)
    have hm0 := M0.out.cell 0
    simp only [List.getElem?_cons_zero] at hm0
    have HNT := Lib.hid (show ¬ (F w.heap.size ∨ (w.alloc (.cells #[.int .i64 4, .int .i64 t.int, .string t.text, .int .u32 cn, .slice (some ⟨g2, o2, none⟩) 2 nc, .slice a t.args.length cap] 27 (0, 0))).heap.size ≤ w.heap.size) from fun e => e.elim (fun e => by have := (HP.out.nf _ e).1; omega) (fun e => by rw [World.size_alloc] at e; omega))
    have HNG := Lib.hid (show ¬ (F g2 ∨ (w.alloc (.cells #[.int .i64 4, .int .i64 t.int, .string t.text, .int .u32 cn, .slice (some ⟨g2, o2, none⟩) 2 nc, .slice a t.args.length cap] 27 (0, 0))).heap.size ≤ g2) from fun e => e.elim (fun e => (HS.out g2 hSg).2 e) (fun e => by have h2 := (HS.out g2 hSg).1; rw [World.size_alloc] at e; omega))
    have HP1 := Lib.hid (HP.out.below B0.out)
    have HFL := Lib.hid (fun b hb => (HP.out.nf b hb).1)
    have HNS := Lib.hid hns
    have HCN := Lib.hid hcn
    clear hnc2 hSg hnl hcn hns
    go_enter Tryd.func26, Tryd.ntmps26
    go_wp2_with fail
    generalize w.alloc (.cells #[.int .i64 4, .int .i64 t.int, .string t.text, .int .u32 cn, .slice (some ⟨g2, o2, none⟩) 2 nc, .slice a t.args.length cap] 27) = w1 at *
    clear hm0
    refine wp_region_L (S := fun X => Keep (fun b => F b ∨ w1.heap.size ≤ b) w1 X) (F := []) (by kernel_rfl) (Keep.drew (Keep.refl _ _)) (fun hHeld => ?_)
    refine wpAnyL_easy (i := 0) (v := (.pointer (some ⟨g, 0, none⟩))) (by simp only [List.getElem?_toArray, List.getElem?_cons_succ, List.getElem?_cons_zero]; rfl) (by kernel_rfl) (by kernel_rfl) (by kernel_rfl) (by exact fun _ _ _ h => h) (Or.inl ⟨by rfl, fun _ _ => rfl⟩) ?_
    try simp only [Act.put, List.setIfInBounds_toArray, List.set_cons_zero, List.set_cons_succ]
    refine wpAnyL_easy (i := 1) (v := (.pointer (some ⟨g, 0, none⟩))) (by simp only [List.getElem?_toArray, List.getElem?_cons_succ, List.getElem?_cons_zero]; rfl) (by kernel_rfl) (by kernel_rfl) (by kernel_rfl) (by exact fun _ _ _ h => h) (Or.inl ⟨by rfl, fun _ _ => rfl⟩) ?_
    try simp only [Act.put, List.setIfInBounds_toArray, List.set_cons_zero, List.set_cons_succ]
    refine wpAnyL_easy (i := 2) (v := (.pointer (some ⟨w.heap.size, 2, none⟩))) (by simp only [List.getElem?_toArray, List.getElem?_cons_succ, List.getElem?_cons_zero]; rfl) (by kernel_rfl) (by kernel_rfl) (by kernel_rfl) (by exact fun _ _ _ h => h) (Or.inl ⟨by rfl, by intro W _; go_simp; all_goals first | rfl | exact ⟨rfl, rfl, rfl, rfl, rfl, rfl⟩⟩) ?_
    try simp only [Act.put, List.setIfInBounds_toArray, List.set_cons_zero, List.set_cons_succ]
    refine wpAnyL_take (i := 3) (v := (.string t.text)) (by simp only [List.getElem?_toArray, List.getElem?_cons_succ, List.getElem?_cons_zero]; rfl) (by kernel_rfl) (by kernel_rfl) (by kernel_rfl) (by kernel_rfl) (by exact fun _ _ _ h => h) (Or.inl ⟨by rfl, by intro W hSw; have x0 := show W.cell? ⟨w.heap.size, 2, none⟩ = some (.string t.text) from (Cells.keep (show Cells w1 w.heap.size 27 [.int .i64 4, .int .i64 t.int, .string t.text, .int .u32 cn, .slice (some ⟨g2, o2, none⟩) 2 nc, .slice a t.args.length cap] from M0.out) hSw HNT.out).cell 2; go_simp; all_goals first | rfl | exact ⟨rfl, rfl, rfl, rfl, rfl, rfl⟩⟩) (by assumption) ?_
    try simp only [Act.put, List.setIfInBounds_toArray, List.set_cons_zero, List.set_cons_succ]
    refine wpAnyL_easy (i := 6) (v := (.pointer (some ⟨w.heap.size, 3, none⟩))) (by simp only [List.getElem?_toArray, List.getElem?_cons_succ, List.getElem?_cons_zero]; rfl) (by kernel_rfl) (by kernel_rfl) (by kernel_rfl) (by exact fun _ _ _ h => h) (Or.inl ⟨by rfl, by intro W _; go_simp; all_goals first | rfl | exact ⟨rfl, rfl, rfl, rfl, rfl, rfl⟩⟩) ?_
    try simp only [Act.put, List.setIfInBounds_toArray, List.set_cons_zero, List.set_cons_succ]
    refine wpAnyL_take (i := 7) (v := (.int .u32 cn)) (by simp only [List.getElem?_toArray, List.getElem?_cons_succ, List.getElem?_cons_zero]; rfl) (by kernel_rfl) (by kernel_rfl) (by kernel_rfl) (by kernel_rfl) (by exact fun _ _ _ h => h) (Or.inl ⟨by rfl, by intro W hSw; have x0 := show W.cell? ⟨w.heap.size, 3, none⟩ = some (.int .u32 cn) from (Cells.keep (show Cells w1 w.heap.size 27 [.int .i64 4, .int .i64 t.int, .string t.text, .int .u32 cn, .slice (some ⟨g2, o2, none⟩) 2 nc, .slice a t.args.length cap] from M0.out) hSw HNT.out).cell 3; go_simp; all_goals first | rfl | exact ⟨rfl, rfl, rfl, rfl, rfl, rfl⟩⟩) (by assumption) ?_
    try simp only [Act.put, List.setIfInBounds_toArray, List.set_cons_zero, List.set_cons_succ]
    refine wpAnyL_take (i := 8) (v := (.int .u64 cn)) (by simp only [List.getElem?_toArray, List.getElem?_cons_succ, List.getElem?_cons_zero]; rfl) (by kernel_rfl) (by kernel_rfl) (by kernel_rfl) (by kernel_rfl) (by exact fun _ _ _ h => h) (Or.inl ⟨by rfl, by intro W hSw; have x0 := hwc; go_simp; all_goals first | rfl | exact ⟨rfl, rfl, rfl, rfl, rfl, rfl⟩⟩) (by assumption) ?_
    try simp only [Act.put, List.setIfInBounds_toArray, List.set_cons_zero, List.set_cons_succ]
    refine wpAnyL_easy (i := 9) (v := (.pointer (some ⟨w.heap.size, 4, none⟩))) (by simp only [List.getElem?_toArray, List.getElem?_cons_succ, List.getElem?_cons_zero]; rfl) (by kernel_rfl) (by kernel_rfl) (by kernel_rfl) (by exact fun _ _ _ h => h) (Or.inl ⟨by rfl, by intro W _; go_simp; all_goals first | rfl | exact ⟨rfl, rfl, rfl, rfl, rfl, rfl⟩⟩) ?_
    try simp only [Act.put, List.setIfInBounds_toArray, List.set_cons_zero, List.set_cons_succ]
    refine wpAnyL_take (i := 10) (v := (.slice (some ⟨g2, o2, none⟩) 2 nc)) (by simp only [List.getElem?_toArray, List.getElem?_cons_succ, List.getElem?_cons_zero]; rfl) (by kernel_rfl) (by kernel_rfl) (by kernel_rfl) (by kernel_rfl) (by exact fun _ _ _ h => h) (Or.inl ⟨by rfl, by intro W hSw; have x0 := show W.cell? ⟨w.heap.size, 4, none⟩ = some (.slice (some ⟨g2, o2, none⟩) 2 nc) from (Cells.keep (show Cells w1 w.heap.size 27 [.int .i64 4, .int .i64 t.int, .string t.text, .int .u32 cn, .slice (some ⟨g2, o2, none⟩) 2 nc, .slice a t.args.length cap] from M0.out) hSw HNT.out).cell 4; go_simp; all_goals first | rfl | exact ⟨rfl, rfl, rfl, rfl, rfl, rfl⟩⟩) (by assumption) ?_
    try simp only [Act.put, List.setIfInBounds_toArray, List.set_cons_zero, List.set_cons_succ]
    refine wpAnyL_take (i := 11) (v := (.pointer (some ⟨g2, o2, none⟩))) (by simp only [List.getElem?_toArray, List.getElem?_cons_succ, List.getElem?_cons_zero]; rfl) (by kernel_rfl) (by kernel_rfl) (by kernel_rfl) (by kernel_rfl) (by exact fun _ _ _ h => h) (Or.inl ⟨by rfl, by intro W hSw; go_simp; all_goals first | rfl | exact ⟨rfl, rfl, rfl, rfl, rfl, rfl⟩⟩) (by assumption) ?_
    try simp only [Act.put, List.setIfInBounds_toArray, List.set_cons_zero, List.set_cons_succ]
    refine wpAnyL_take (i := 12) (v := (.int .u32 xn)) (by simp only [List.getElem?_toArray, List.getElem?_cons_succ, List.getElem?_cons_zero]; rfl) (by kernel_rfl) (by kernel_rfl) (by kernel_rfl) (by kernel_rfl) (by exact fun _ _ _ h => h) (Or.inl ⟨by rfl, by intro W hSw; have x0 := show W.cell? ⟨g2, o2, none⟩ = some (.int .u32 xn) from Keep.cellH hSw cx HNG.out; go_simp; all_goals first | rfl | exact ⟨rfl, rfl, rfl, rfl, rfl, rfl⟩⟩) (by assumption) ?_
    try simp only [Act.put, List.setIfInBounds_toArray, List.set_cons_zero, List.set_cons_succ]
    refine wpAnyL_take (i := 13) (v := (.int .u64 xn)) (by simp only [List.getElem?_toArray, List.getElem?_cons_succ, List.getElem?_cons_zero]; rfl) (by kernel_rfl) (by kernel_rfl) (by kernel_rfl) (by kernel_rfl) (by exact fun _ _ _ h => h) (Or.inl ⟨by rfl, by intro W hSw; have x0 := hwx; go_simp; all_goals first | rfl | exact ⟨rfl, rfl, rfl, rfl, rfl, rfl⟩⟩) (by assumption) ?_
    try simp only [Act.put, List.setIfInBounds_toArray, List.set_cons_zero, List.set_cons_succ]
    refine wpAnyL_take (i := 14) (v := (.int .u64 ((xn : Int) * 4294967296))) (by simp only [List.getElem?_toArray, List.getElem?_cons_succ, List.getElem?_cons_zero]; rfl) (by kernel_rfl) (by kernel_rfl) (by kernel_rfl) (by kernel_rfl) (by exact fun _ _ _ h => h) (Or.inl ⟨by rfl, by intro W hSw; have x0 := hws; go_simp; all_goals first | rfl | exact ⟨rfl, rfl, rfl, rfl, rfl, rfl⟩⟩) (by assumption) ?_
    try simp only [Act.put, List.setIfInBounds_toArray, List.set_cons_zero, List.set_cons_succ]
    refine wpAnyL_easy (i := 15) (v := (.pointer (some ⟨w.heap.size, 4, none⟩))) (by simp only [List.getElem?_toArray, List.getElem?_cons_succ, List.getElem?_cons_zero]; rfl) (by kernel_rfl) (by kernel_rfl) (by kernel_rfl) (by exact fun _ _ _ h => h) (Or.inl ⟨by rfl, by intro W _; go_simp; all_goals first | rfl | exact ⟨rfl, rfl, rfl, rfl, rfl, rfl⟩⟩) ?_
    try simp only [Act.put, List.setIfInBounds_toArray, List.set_cons_zero, List.set_cons_succ]
    refine wpAnyL_take (i := 16) (v := (.slice (some ⟨g2, o2, none⟩) 2 nc)) (by simp only [List.getElem?_toArray, List.getElem?_cons_succ, List.getElem?_cons_zero]; rfl) (by kernel_rfl) (by kernel_rfl) (by kernel_rfl) (by kernel_rfl) (by exact fun _ _ _ h => h) (Or.inl ⟨by rfl, by intro W hSw; have x0 := show W.cell? ⟨w.heap.size, 4, none⟩ = some (.slice (some ⟨g2, o2, none⟩) 2 nc) from (Cells.keep (show Cells w1 w.heap.size 27 [.int .i64 4, .int .i64 t.int, .string t.text, .int .u32 cn, .slice (some ⟨g2, o2, none⟩) 2 nc, .slice a t.args.length cap] from M0.out) hSw HNT.out).cell 4; go_simp; all_goals first | rfl | exact ⟨rfl, rfl, rfl, rfl, rfl, rfl⟩⟩) (by assumption) ?_
    try simp only [Act.put, List.setIfInBounds_toArray, List.set_cons_zero, List.set_cons_succ]
    refine wpAnyL_take (i := 17) (v := (.pointer (some ⟨g2, o2 + 1, none⟩))) (by simp only [List.getElem?_toArray, List.getElem?_cons_succ, List.getElem?_cons_zero]; rfl) (by kernel_rfl) (by kernel_rfl) (by kernel_rfl) (by kernel_rfl) (by exact fun _ _ _ h => h) (Or.inl ⟨by rfl, by intro W hSw; go_simp; all_goals first | rfl | exact ⟨rfl, rfl, rfl, rfl, rfl, rfl⟩⟩) (by assumption) ?_
    try simp only [Act.put, List.setIfInBounds_toArray, List.set_cons_zero, List.set_cons_succ]
    refine wpAnyL_take (i := 18) (v := (.int .u32 yn)) (by simp only [List.getElem?_toArray, List.getElem?_cons_succ, List.getElem?_cons_zero]; rfl) (by kernel_rfl) (by kernel_rfl) (by kernel_rfl) (by kernel_rfl) (by exact fun _ _ _ h => h) (Or.inl ⟨by rfl, by intro W hSw; have x0 := show W.cell? ⟨g2, o2 + 1, none⟩ = some (.int .u32 yn) from Keep.cellH hSw cy HNG.out; go_simp; all_goals first | rfl | exact ⟨rfl, rfl, rfl, rfl, rfl, rfl⟩⟩) (by assumption) ?_
    try simp only [Act.put, List.setIfInBounds_toArray, List.set_cons_zero, List.set_cons_succ]
    refine wpAnyL_take (i := 19) (v := (.int .u64 yn)) (by simp only [List.getElem?_toArray, List.getElem?_cons_succ, List.getElem?_cons_zero]; rfl) (by kernel_rfl) (by kernel_rfl) (by kernel_rfl) (by kernel_rfl) (by exact fun _ _ _ h => h) (Or.inl ⟨by rfl, by intro W hSw; have x0 := hwy; go_simp; all_goals first | rfl | exact ⟨rfl, rfl, rfl, rfl, rfl, rfl⟩⟩) (by assumption) ?_
    try simp only [Act.put, List.setIfInBounds_toArray, List.set_cons_zero, List.set_cons_succ]
    refine wpAnyL_take (i := 20) (v := (.int .u64 (xn * 4294967296 + yn : Nat))) (by simp only [List.getElem?_toArray, List.getElem?_cons_succ, List.getElem?_cons_zero]; rfl) (by kernel_rfl) (by kernel_rfl) (by kernel_rfl) (by kernel_rfl) (by exact fun _ _ _ h => h) (Or.inl ⟨by rfl, by intro W hSw; have x0 := hor; go_simp; all_goals first | rfl | exact ⟨rfl, rfl, rfl, rfl, rfl, rfl⟩⟩) (by assumption) ?_
    try simp only [Act.put, List.setIfInBounds_toArray, List.set_cons_zero, List.set_cons_succ]
    refine wpAnyL_ready (rs := [4]) (by kernel_rfl) (by simp) ?_
    refine AllReadyL.cons (by simp only [List.getElem?_toArray, List.getElem?_cons_succ, List.getElem?_cons_zero]; rfl) (fun K hK => ?_) AllReadyL.nil
    go_simp
    refine (atomH_any (HP1.out.keep (S := fun _ => False) (Keep.drew (Keep.refl _ _)) (fun _ h => h.elim)) t.text htx (by have := HAT.out; omega)).mono ?_
    rintro e w6 ⟨rfl, F2, hp2, k2, hf2⟩
    have k2' : Keep F w1 w6 := (Keep.drew (Keep.refl F w1)).trans k2 (fun _ _ h => h)
    have KX := Lib.hid (k2'.more (S' := fun b => F b ∨ w1.heap.size ≤ b) (fun _ _ h => .inl h))
    have HP2 := Lib.hid hp2
    have KK2 := Lib.hid k2'
    have HF2 := Lib.hid hf2
    clear hp2 k2 hf2 k2'
    refine hK.out _ _ (KX.out) (fun hHeld => ?_)
    try simp only [Act.put, List.setIfInBounds_toArray, List.set_cons_zero, List.set_cons_succ]
    refine wpAnyL_take (i := 5) (v := (.int .u64 (nH h.at_ t.text : Nat))) (by simp only [List.getElem?_toArray, List.getElem?_cons_succ, List.getElem?_cons_zero]; rfl) (by kernel_rfl) (by kernel_rfl) (by kernel_rfl) (by kernel_rfl) (by exact fun _ _ _ h => h) (Or.inl ⟨by rfl, by intro W hSw; have x0 := hwn; go_simp; all_goals first | rfl | exact ⟨rfl, rfl, rfl, rfl, rfl, rfl⟩⟩) (by assumption) ?_
    try simp only [Act.put, List.setIfInBounds_toArray, List.set_cons_zero, List.set_cons_succ]
    refine wpAnyL_ready (rs := [21]) (by kernel_rfl) (by simp) ?_
    refine AllReadyL.cons (by simp only [List.getElem?_toArray, List.getElem?_cons_succ, List.getElem?_cons_zero]; rfl) (fun K hK => ?_) AllReadyL.nil
    go_simp
    have BL := Lib.hid ((Below.refl w6.heap.size w6).alloc (Nat.le_refl _) (.cells #[.int .u64 (nH h.at_ t.text : Nat), .int .u64 cn, .int .u64 (xn * 4294967296 + yn : Nat)] 34 (0, 0)))
    have LT := Lib.hid (lit_words_at (w := w6) [nH h.at_ t.text, cn, xn * 4294967296 + yn] 3 rfl (by decide))
    have KY := Lib.hid (KX.out.alloc (.cells #[.int .u64 (nH h.at_ t.text : Nat), .int .u64 cn, .int .u64 (xn * 4294967296 + yn : Nat)] 34 (0, 0)))
    have HPU := Lib.hid (putH_any (HP2.out.below BL.out) 3 (by decide) [nH h.at_ t.text, cn, xn * 4294967296 + yn] _ LT.out (fun b e hb => by have := (HP2.out.nf b hb).1; omega) HWS.out (by simp [Hs.named]; omega))
    refine hK.out _ _ (KY.out) (fun hHeld => ?_)
    try simp only [Act.put, List.setIfInBounds_toArray, List.set_cons_zero, List.set_cons_succ]
    refine wpAnyL_ready (rs := [22]) (by kernel_rfl) (by simp) ?_
    refine AllReadyL.cons (by simp only [List.getElem?_toArray, List.getElem?_cons_succ, List.getElem?_cons_zero]; rfl) (fun K hK => ?_) AllReadyL.nil
    go_simp
    refine HPU.out.mono ?_
    rintro e w7 ⟨rfl, hr⟩
    have hr2 := HpRes.below BL.out (fun b hb => (HP2.out.nf b hb).1) hr
    have HR := Lib.hid (HpRes.below B0.out HFL.out (HpRes.trans KK2.out HF2.out hr2))
    have KZ := Lib.hid (show Keep (fun b => F b ∨ w1.heap.size ≤ b) w1 w7 from by
      obtain ⟨_, _, k3, _⟩ := hr2
      exact KX.out.trans k3 (fun i hi e => HF2.out i e))
    clear hr hr2
    refine hK.out _ _ (KZ.out) (fun hHeld => ?_)
    try simp only [Act.put, List.setIfInBounds_toArray, List.set_cons_zero, List.set_cons_succ]
    refine wpAnyL_easy (i := 23) (v := (.int .u64 ((putH 3 [nH h.at_ t.text, cn, xn * 4294967296 + yn] (h.named t.text)).1 : Nat))) (by simp only [List.getElem?_toArray, List.getElem?_cons_succ, List.getElem?_cons_zero]; rfl) (by kernel_rfl) (by kernel_rfl) (by kernel_rfl) (by exact fun _ _ _ h => h) (Or.inl ⟨by rfl, fun _ _ => rfl⟩) ?_
    try simp only [Act.put, List.setIfInBounds_toArray, List.set_cons_zero, List.set_cons_succ]
    refine wpAnyL_done (by kernel_rfl) ?_ _
    go_wp2
    go_ret
    have e2 : layS t h = putH 3 [nH h.at_ t.text, cn, xn * 4294967296 + yn] (h.named t.text) := by
      rw [HLY.out, layS, if_neg (by rw [K4.out]; decide), if_neg (by rw [K4.out]; decide), if_neg (by rw [K4.out]; decide), if_pos K4.out, HNS.out, HCN.out]
      rfl
    rw [e2]
    exact ⟨rfl, HR.out⟩
end Go.Proofs.YtkipjbmckpmmfaaDoor
end
section
/- Package heap: lay, any term. Printed by wip/hpe.py. -/
open Go Go.RowKit
namespace Go.Proofs.YtkipjbmckpmmfaaDoor
set_option linter.unusedVariables false
set_option linter.unusedSimpArgs false

theorem layL_app (l : List Tm) (t : Tm) (h : Hs) : (layL (l ++ [t]) h).1 = (layL l h).1 ++ [(layS t (layL l h).2).1] ∧ (layL (l ++ [t]) h).2 = (layS t (layL l h).2).2 := by
  induction l generalizing h with
  | nil => simp [layL]
  | cons x r ih =>
    simp only [List.cons_append, layL]
    obtain ⟨h1, h2⟩ := ih (layS x h).2
    rw [h1, h2]
    exact ⟨rfl, rfl⟩
theorem layL_take {l : List Tm} {k : Nat} (hk : k < l.length) (h : Hs) : (layL (l.take (k + 1)) h).1 = (layL (l.take k) h).1 ++ [(layS l[k] (layL (l.take k) h).2).1] ∧ (layL (l.take (k + 1)) h).2 = (layS l[k] (layL (l.take k) h).2).2 := by
  rw [List.take_succ_eq_append_getElem hk]
  exact layL_app _ _ _
theorem layL_len (l : List Tm) (h : Hs) : (layL l h).1.length = l.length := by
  induction l generalizing h with
  | nil => rfl
  | cons x r ih => simp only [layL, List.length_cons, ih]
theorem okTL_take : ∀ {l : List Tm} (k : Nat), okTL l → okTL (l.take k)
  | [], k, h => by simpa using h
  | t :: r, 0, h => by simp [okTL]
  | t :: r, k + 1, h => by rw [okTL] at h; rw [List.take_succ_cons, okTL]; exact ⟨h.1, okTL_take k h.2⟩
theorem okTL_drop : ∀ {l : List Tm} (k : Nat), okTL l → okTL (l.drop k)
  | [], k, h => by simpa using h
  | t :: r, 0, h => h
  | t :: r, k + 1, h => by rw [okTL] at h; rw [List.drop_succ_cons]; exact okTL_drop k h.2
theorem bndL_take : ∀ {l : List Tm} (k : Nat), bndL l → bndL (l.take k)
  | [], k, h => by simpa using h
  | t :: r, 0, h => by simp [bndL]
  | t :: r, k + 1, h => by rw [bndL] at h; rw [List.take_succ_cons, bndL]; exact ⟨h.1, bndL_take k h.2⟩
theorem bndL_drop : ∀ {l : List Tm} (k : Nat), bndL l → bndL (l.drop k)
  | [], k, h => by simpa using h
  | t :: r, 0, h => h
  | t :: r, k + 1, h => by rw [bndL] at h; rw [List.drop_succ_cons]; exact bndL_drop k h.2
theorem bndL_at : ∀ {l : List Tm}, bndL l → ∀ i (h : i < l.length), bndT l[i]
  | [], _, i, h => absurd h (Nat.not_lt_zero _)
  | t :: r, hl, i, h => by
    rw [bndL] at hl
    cases i with
    | zero => exact hl.1
    | succ i => exact bndL_at hl.2 i (by simpa using h)
theorem takesTL_split (l : List Tm) (k : Nat) : takesTL (l.take k) + takesTL (l.drop k) = takesTL l := by
  induction l generalizing k with
  | nil => simp [takesTL]
  | cons t r ih =>
    cases k with
    | zero => simp [takesTL]
    | succ k => simp only [List.take_succ_cons, List.drop_succ_cons, takesTL]; have := ih k; omega
theorem sizeTL_split (l : List Tm) (k : Nat) : sizeTL (l.take k) + sizeTL (l.drop k) = sizeTL l := by
  induction l generalizing k with
  | nil => simp [sizeTL]
  | cons t r ih =>
    cases k with
    | zero => simp [sizeTL]
    | succ k => simp only [List.take_succ_cons, List.drop_succ_cons, sizeTL]; have := ih k; omega
theorem takesTL_one {l : List Tm} {k : Nat} (h : k < l.length) : takesTL (l.drop k) = takesT l[k] + takesTL (l.drop (k + 1)) := by
  rw [List.drop_eq_getElem_cons h, takesTL]
theorem sizeTL_one {l : List Tm} {k : Nat} (h : k < l.length) : sizeTL (l.drop k) = sizeT l[k] + sizeTL (l.drop (k + 1)) := by
  rw [List.drop_eq_getElem_cons h, sizeTL]
theorem layC_drop {l : List Tm} {k : Nat} (h : k + 1 < l.length) (hh : Hs) : layC (l.drop k) hh = putH 1 [(layS l[k] (layC (l.drop (k + 1)) hh).2).1, (layC (l.drop (k + 1)) hh).1] (layS l[k] (layC (l.drop (k + 1)) hh).2).2 := by
  rw [List.drop_eq_getElem_cons (by omega : k < l.length), layC]
  have : (l.drop (k + 1)).isEmpty = false := by
    cases hq : l.drop (k + 1) with
    | nil => have := congrArg List.length hq; simp at this; omega
    | cons _ _ => rfl
  rw [this]
  rfl
theorem layC_last {l : List Tm} {k : Nat} (h : k + 1 = l.length) (hh : Hs) : layC (l.drop k) hh = layS (l[k]'(by omega)) hh := by
  rw [List.drop_eq_getElem_cons (by omega : k < l.length), layC]
  have : l.drop (k + 1) = [] := List.drop_eq_nil_of_le (by omega)
  rw [this]
  rfl
theorem lastOk_drop {l : List Tm} {k : Nat} (h : k < l.length) (hl : lastOk l = true) : lastOk (l.drop k) = true := by
  unfold lastOk at hl ⊢
  rw [List.getLast?_drop, if_neg (by omega)]
  exact hl
set_option maxHeartbeats 32000000 in
set_option maxRecDepth 100000 in
theorem lay_ind : ∀ (N : Nat) (S : Nat → Prop) (t : Tm) (vs : List Value) (w : World) {half : Nat} {h : Hs} {g : Nat} {F : Nat → Prop}, SizeOf.sizeOf t ≤ N → HpIs half h g F w → TmAt S t vs w → (∀ b, S b → b < w.heap.size ∧ ¬ F b) → okT t →
    h.l.length + takesT t ≤ 1099511627776 → h.at_.length + sizeT t ≤ 1099511627776 →
    Calls Tryd.prog 26 #[.pointer (some ⟨g, 0, none⟩), .agg vs.toArray] w (LayR half g F w (layS t h)) := by
  intro N
  induction N with
  | zero => intro S t vs w half h g F hN; cases t; simp at hN
  | succ N ih =>
    intro S t vs w half h g F hN hp ht hS hok hl hat
    by_cases hk : t.kind = 1 ∨ t.kind = 2 ∨ t.kind = 6 ∨ t.kind = 3 ∨ t.kind = 4
    · exact lay_leaf S t vs w hp ht hS hok hl hat hk
    have HIH := Lib.hid ih
    have HNN := Lib.hid hN
    have HT := Lib.hid ht
    have HP := Lib.hid hp
    have HS := Lib.hid hS
    have HBD := Lib.hid ht.bnd
    obtain ⟨hpp, nv, a, cap, rfl, hnn, ⟨hc, hcm⟩, hcap, ha⟩ := ht.parts
    have HA := Lib.hid ha
    obtain ⟨na, nc, rfl, hnc, _⟩ := hnn.slice
    obtain ⟨hpt, hal⟩ : partS t 0 = [] ∧ okTL t.args := by cases t; rw [okT] at hok; exact hok
    have hbl : bndL t.args := by have := ht.bnd; cases t; rw [bndT] at this; exact this.2.2
    have hsa : 1 + sizeTL t.args = sizeT t := by cases t; rw [sizeT]; rfl
    have hlen : t.args.length ≤ sizeTL t.args := length_le_sizeTL _
    have HAL := Lib.hid hal
    have HBL := Lib.hid hbl
    have HPT := Lib.hid hpt
    have HOK := Lib.hid hok
    have HK57 := Lib.hid (show t.kind = 5 ∨ t.kind = 7 from by
      cases t with
      | mk k i s c ns al =>
      rw [partS_iff] at hpt
      dsimp only [Tm.kind] at hk ⊢
      rcases hpt with ⟨e, _⟩ | ⟨e, _⟩ | ⟨e, _⟩ | ⟨e, _⟩ | ⟨e, _⟩ | ⟨e, _⟩ | ⟨e, _⟩ <;> omega)
    have HLY := Lib.hid (show layS t h = layS (.mk t.kind t.int t.text t.cr t.nums t.args) h by cases t; rfl)
    have HTT := Lib.hid (show takesT t = takesT (.mk t.kind t.int t.text t.cr t.nums t.args) by cases t; rfl)
    have B0 := Lib.hid ((Below.refl _ w).alloc (Nat.le_refl _) (.cells #[.int .i64 t.kind, .int .i64 t.int, .string t.text, .int .u32 t.cr, .slice na t.nums.length nc, .slice a t.args.length cap] 27 (0, 0)))
    have M0 := Lib.hid (Cells.new w 27 [.int .i64 t.kind, .int .i64 t.int, .string t.text, .int .u32 t.cr, .slice na t.nums.length nc, .slice a t.args.length cap])
    clear ih hN ht hnn hpp ha hcm hok hpt hal hp hS hk hbl
    rcases HK57.out with k5 | k7
    · have K5 := Lib.hid k5
      rw [k5] at M0 B0 ⊢
      have HTK := Lib.hid (show takesT t = 1 + t.args.length + takesTL t.args by rw [HTT.out, takesT, if_neg (by rw [K5.out]; decide), if_neg (by rw [K5.out]; decide), if_neg (by rw [K5.out]; decide), if_pos K5.out])
      have hlb := hl
      rw [HTK.out] at hlb
      have HLT := Lib.hid (show layS t h = putH 2 (layL t.args h).1 (layL t.args h).2 by rw [HLY.out, layS, if_neg (by rw [K5.out]; decide), if_neg (by rw [K5.out]; decide), if_neg (by rw [K5.out]; decide), if_neg (by rw [K5.out]; decide), if_neg (by rw [K5.out]; decide), if_pos K5.out])
      have HLB := Lib.hid hlb
      have HAB := Lib.hid (show h.at_.length + sizeTL t.args ≤ 1099511627776 by omega)
      have hlen2 : t.args.length ≤ 1099511627776 := by omega
      clear hl hat hsa hlen hlb
      have m0 := M0.out.cell 0
      have m5 := M0.out.cell 5
      simp only [List.getElem?_cons_zero, List.getElem?_cons_succ] at m0 m5
      go_enter Tryd.func26, Tryd.ntmps26
      go_wp2_with fail
      clear m0 m5
      have HFL := Lib.hid (fun b hb => (HP.out.nf b hb).1)
      have HP1 := Lib.hid (HP.out.below B0.out)
      have HA1 := Lib.hid (HA.out.below B0.out)
      have SZ1 := Lib.hid B0.out.size
      generalize World.alloc w _ = W1 at *
      go_loopw [5, 7, 90] (fun v p i wr => ∃ (kk : Nat) (F' : Nat → Prop), kk ≤ t.args.length ∧ i = .int .i64 kk ∧ RowV W1.heap.size 34 v (wordsV (layL (t.args.take kk) h).1) wr ∧ HpIs half (layL (t.args.take kk) h).2 g F' wr ∧ Keep F W1 wr ∧ (∀ b, F' b → F b ∨ W1.heap.size ≤ b) ∧ (∀ b, v.ownBlock = some b → ¬ F' b) ∧ ∀ x ∈ (layL (t.args.take kk) h).1, x < 18446744073709551616) (fun _ _ i _ => t.args.length - (intOf i).toNat)
      case atStart => exact ⟨0, F, Nat.zero_le _, rfl, RowV.nil _ _ _, HP1.out, Keep.refl _ _, fun b hb => .inl hb, (fun b hb => by cases hb), (fun x hx => by cases hx)⟩
      case round =>
        obtain ⟨kk, F', hkk, rfl, hrow, hpk, hkeep, hfb, hvf, hlt⟩ := hrel
        obtain ⟨va, vc, rfl⟩ := hrow.form
        have HROW := Lib.hid hrow
        have HPK := Lib.hid hpk
        have HKP := Lib.hid hkeep
        have HFB := Lib.hid hfb
        have HVF := Lib.hid hvf
        have HLTW := Lib.hid hlt
        have HSK := Lib.hid (show ∀ b, S b → b < wr.heap.size ∧ ¬ F' b from fun b hb => by
          obtain ⟨h1, h2⟩ := HS.out b hb
          refine ⟨by have := SZ1.out; have := HKP.out.size; omega, fun e => ?_⟩
          rcases HFB.out b e with e | e
          · exact h2 e
          · have := SZ1.out; omega)
        have HAr := Lib.hid (show ArgsAt S t.args a wr from ((HA1.out.mono (S' := fun b => S b ∧ b < W1.heap.size) (fun b hb hs => ⟨hs, hb⟩)).frame (fun b hb => HKP.out.block b hb.2 (HS.out b hb.1).2)).mono (fun _ _ hs => hs.1))
        clear hrow hpk hkeep hfb hvf hlt
        by_cases hk : kk < t.args.length
        · have hki : (kk : Int) < (t.args.length : Int) := by omega
          have hk0 : (0 : Int) ≤ (kk : Int) := by omega
          obtain ⟨g2, o2, vs2, hae, _, hcs, ht2⟩ := HAr.out.get kk hk
          subst hae
          have HT2 := Lib.hid ht2
          obtain ⟨_, nv2, a2, cap2, hv2, hnn2, _⟩ := ht2.parts
          obtain ⟨nb2, nd2, hnv2, _, _⟩ := hnn2.slice
          subst hv2
          subst hnv2
          have e0 := hcs 0 (by decide)
          have e1 := hcs 1 (by decide)
          have e2 := hcs 2 (by decide)
          have e3 := hcs 3 (by decide)
          have e4 := hcs 4 (by decide)
          have e5 := hcs 5 (by decide)
          simp only [List.getElem?_cons_zero, List.getElem?_cons_succ, ← Nat.add_assoc, Nat.add_zero] at e0 e1 e2 e3 e4 e5
          have HBA := Lib.hid ((Below.refl _ wr).alloc (Nat.le_refl _) (.cells #[.int .i64 t.args[kk].kind, .int .i64 t.args[kk].int, .string t.args[kk].text, .int .u32 t.args[kk].cr, .slice nb2 t.args[kk].nums.length nd2, .slice a2 t.args[kk].args.length cap2] 27 (0, 0)))
          obtain ⟨_, hll, _, _⟩ := layL_rep (t.args.take kk) h (okTL_take kk HAL.out) (bndL_take kk HBL.out)
          have hla := layL_at (t.args.take kk) h
          have hs1 := takesTL_split t.args kk
          have hs2 := takesTL_one hk
          have hs3 := sizeTL_split t.args kk
          have hs4 := sizeTL_one hk
          have hlb := HLB.out
          have hab := HAB.out
          have hbd1 : (layL (t.args.take kk) h).2.l.length + takesT t.args[kk] ≤ 1099511627776 := by omega
          have hbd2 : (layL (t.args.take kk) h).2.at_.length + sizeT t.args[kk] ≤ 1099511627776 := by omega
          have HXL := Lib.hid (layS_lt t.args[kk] (layL (t.args.take kk) h).2 (okTL_at HAL.out kk hk) (bndL_at HBL.out kk hk) hbd1 (by omega))
          have HCALL := Lib.hid (HIH.out S t.args[kk] _ _ (by have := Tm.arg_lt hk; have := HNN.out; omega) (HPK.out.below HBA.out) (HT2.out.below HBA.out) (fun b hb => ⟨by have := (HSK.out b hb).1; have := HBA.out.size; omega, (HSK.out b hb).2⟩) (okTL_at HAL.out kk hk) hbd1 hbd2)
          obtain ⟨hnx1, hnx2⟩ := layL_take hk h
          have HNX1 := Lib.hid hnx1
          have HNX2 := Lib.hid hnx2
          have HLL := Lib.hid (show (layL (t.args.take kk) h).1.length + 1 ≤ 1099511627776 from by rw [layL_len, List.length_take]; omega)
          clear hcs ht2 hnn2 hll hla hs1 hs2 hs3 hs4 hlb hab hbd1 hbd2 hnx1 hnx2
          generalize layS t.args[kk] (layL (t.args.take kk) h).2 = R at *
          obtain ⟨X, h2⟩ := R
          generalize (wordsV (layL (t.args.take kk) h).1).length = vn at *
          go_wp2_with fail
          refine HCALL.out.mono ?_
          rintro e W5 ⟨rfl, F2, hp2, k2, hf2⟩
          dsimp only at hp2
          have HP2 := Lib.hid hp2
          have KK2 := Lib.hid k2
          have HF2 := Lib.hid hf2
          have HBS := Lib.hid (show (wr.alloc (.cells #[.int .i64 t.args[kk].kind, .int .i64 t.args[kk].int, .string t.args[kk].text, .int .u32 t.args[kk].cr, .slice nb2 t.args[kk].nums.length nd2, .slice a2 t.args[kk].args.length cap2] 27 (0, 0))).heap.size = wr.heap.size + 1 from by simp)
          have hvlt : ∀ b, (Value.slice va vn vc).ownBlock = some b → W1.heap.size ≤ b ∧ b < wr.heap.size := fun b hb => ⟨(HROW.out.block hb).1, (HROW.out.block hb).2.1⟩
          have HVLT := Lib.hid hvlt
          have row5 : RowV W1.heap.size 34 (.slice va vn vc) (wordsV (layL (t.args.take kk) h).1) W5 := (HROW.out.below HBA.out).keep KK2.out (fun b hb e => HVF.out b hb e)
          have HSZ5 := Lib.hid (show wr.heap.size + 1 ≤ W5.heap.size by have := k2.size; rw [HBS.out] at this; exact this)
          obtain ⟨a7, n7, c7, w7, hn7, hr7, hrow7, hg7, hob7⟩ := words_app (S := fun b => b = W5.heap.size) (row5.alloc (.cells #[.int .u64 X] 34 (0, 0))) (wordsV_one_at (w := W5) X) (by have := HLL.out; simp; omega) (by have := HKP.out.size; have := HSZ5.out; simp; omega)
          have HR7 := Lib.hid hr7
          have HROW7 := Lib.hid hrow7
          have BL5 := Lib.hid ((Below.refl W5.heap.size W5).alloc (Nat.le_refl _) (.cells #[.int .u64 X] 34 (0, 0)))
          have hv2 : ∀ b, (Value.slice va vn vc).ownBlock = some b → ¬ F2 b := fun b hb e => by
            rcases HF2.out b e with e | e
            · exact HVF.out b hb e
            · have := (HVLT.out b hb).2; rw [HBS.out] at e; omega
          have HP7 := Lib.hid ((HP2.out.below BL5.out).keep (S := fun b => (Value.slice va vn vc).ownBlock = some b) ((Keep.refl _ _).grown hg7 (fun k hk _ => hk)) hv2)
          have KP7 := Lib.hid (show Keep F W1 w7 from by
            have k1 := HKP.out.below HBA.out
            have k3 := k1.trans KK2.out (fun i hi e => by rcases HFB.out i e with e | e; exact e; omega)
            exact (k3.below BL5.out).grown hg7 (fun k hk hlt => by have := (HVLT.out k hk).1; omega))
          have HF7 := Lib.hid (show ∀ b, F2 b → F b ∨ W1.heap.size ≤ b from fun b hb => by
            rcases HF2.out b hb with e | e
            · exact HFB.out b e
            · rw [HBS.out] at e; have := HKP.out.size; exact .inr (by omega))
          have HV7 := Lib.hid (show ∀ b, (Value.slice a7 n7 c7).ownBlock = some b → ¬ F2 b from fun b hb e => by
            rcases hob7 with e1 | e1
            · rw [e1] at hb; exact hv2 b hb e
            · rw [e1] at hb; cases hb; have := (HP2.out.nf _ e).1; simp at this; omega)
          clear hp2 k2 hf2 hvlt row5 hn7 hr7 hrow7 hg7 hob7 hv2 e0 e1 e2 e3 e4 e5 HCALL
          go_wp2_with (at_builtin; refine stop ?_)
          refine Stopped.of ?_
          refine wp_app_eq rfl (.tmp 94) (.tmp 98) _ _ rfl _ _ (.slice a7 n7 c7) w7 rfl rfl HR7.out ?_
          go_wp2
          go_roundw
          case rel =>
            refine ⟨kk + 1, F2, by omega, by go_num, ?_, ?_, KP7.out, HF7.out, HV7.out, ?_⟩
            · rw [HNX1.out]; exact HROW7.out
            · rw [HNX2.out]; exact HP7.out
            · rw [HNX1.out]
              intro x hx
              rcases List.mem_append.1 hx with hx | hx
              · exact HLTW.out x hx
              · rw [List.mem_singleton] at hx; rw [hx]; exact HXL.out
          case measure => simp [intOf]; omega
        · have hki : ¬ (kk : Int) < (t.args.length : Int) := by omega
          have hfull : t.args.take kk = t.args := List.take_of_length_le (by omega)
          rw [hfull] at HROW HPK HLTW HVF ⊢
          obtain ⟨_, hll, _, _⟩ := layL_rep t.args h HAL.out HBL.out
          have HPU := Lib.hid (putH_any HPK.out 2 (by decide) (layL t.args h).1 _ HROW.out.at_ (fun b hb => HVF.out b hb) HLTW.out (by rw [layL_len]; have := HLB.out; omega))
          clear hll hfull
          generalize (wordsV (layL t.args h).1).length = vn at *
          go_wp2_with fail
          refine HPU.out.mono ?_
          rintro e w7 ⟨rfl, hr⟩
          go_wp2
          go_ret
          rw [HLT.out]
          exact ⟨rfl, HpRes.below B0.out HFL.out (HpRes.trans HKP.out HFB.out hr)⟩
    · have K7 := Lib.hid k7
      rw [k7] at M0 B0 ⊢
      have hl2 : 2 ≤ t.args.length := partS_list2 HPT.out K7.out
      have HTK := Lib.hid (show takesT t = 3 * (t.args.length - 1) + takesTL t.args by rw [HTT.out, takesT, if_neg (by rw [K7.out]; decide), if_neg (by rw [K7.out]; decide), if_pos K7.out])
      have hlb := hl
      rw [HTK.out] at hlb
      have HLT := Lib.hid (show layS t h = layC t.args h by rw [HLY.out, layS, if_neg (by rw [K7.out]; decide), if_neg (by rw [K7.out]; decide), if_neg (by rw [K7.out]; decide), if_neg (by rw [K7.out]; decide), if_neg (by rw [K7.out]; decide), if_neg (by rw [K7.out]; decide)])
      have HLO := Lib.hid (show lastOk t.args = true from by
        have h1 := HPT.out
        have h2 := K7.out
        cases t with
        | mk k i s c ns al =>
        rw [partS_iff] at h1
        dsimp only [Tm.kind] at h2
        rcases h1 with ⟨e, _⟩ | ⟨e, _⟩ | ⟨e, _⟩ | ⟨e, _⟩ | ⟨e, _⟩ | ⟨e, _⟩ | ⟨_, _, _, _, _, _, e⟩
        all_goals first | exact e | omega)
      have HLB := Lib.hid hlb
      have HAB := Lib.hid (show h.at_.length + sizeTL t.args ≤ 1099511627776 by omega)
      have hlen2 : t.args.length ≤ 1099511627776 := by omega
      obtain ⟨m, hm⟩ : ∃ m, t.args.length = m + 1 := ⟨t.args.length - 1, by omega⟩
      have hmi : (t.args.length : Int) - 1 = (m : Int) := by omega
      have hmw : IntKind.i64.wrap (m : Int) = (m : Int) := IntWalk.i64_in _ (by omega)
      have hm0 : (0 : Int) ≤ (m : Int) := by omega
      have hml : (m : Int) < (t.args.length : Int) := by omega
      have HM := Lib.hid hm
      have HL2 := Lib.hid hl2
      clear hl hat hsa hlen hlb hl2 hm
      have HFL := Lib.hid (fun b hb => (HP.out.nf b hb).1)
      obtain ⟨g2, o2, vs2, hae, _, hcs, ht2⟩ := (HA.out.below B0.out).get m (by have := HM.out; omega)
      subst hae
      have HT2 := Lib.hid ht2
      obtain ⟨_, nv2, a2, cap2, hv2, hnn2, _⟩ := ht2.parts
      obtain ⟨nb2, nd2, hnv2, _, _⟩ := hnn2.slice
      subst hv2
      subst hnv2
      have e0 := hcs 0 (by decide)
      have e1 := hcs 1 (by decide)
      have e2 := hcs 2 (by decide)
      have e3 := hcs 3 (by decide)
      have e4 := hcs 4 (by decide)
      have e5 := hcs 5 (by decide)
      simp only [List.getElem?_cons_zero, List.getElem?_cons_succ, ← Nat.add_assoc, Nat.add_zero] at e0 e1 e2 e3 e4 e5
      have hs1 := takesTL_one (l := t.args) (k := m) (by have := HM.out; omega)
      have hs2 := takesTL_split t.args m
      have hs3 := sizeTL_one (l := t.args) (k := m) (by have := HM.out; omega)
      have hs4 := sizeTL_split t.args m
      have HCALL := Lib.hid (HIH.out S (t.args[m]'(by have := HM.out; omega)) _ _ (by have := Tm.arg_lt (t := t) (i := m) (by have := HM.out; omega); have := HNN.out; omega) (HP.out.below B0.out) HT2.out (fun b hb => ⟨by have := (HS.out b hb).1; have := B0.out.size; omega, (HS.out b hb).2⟩) (okTL_at HAL.out m _) (by have := HLB.out; omega) (by have := HAB.out; omega))
      have HL1 := Lib.hid (layC_last (l := t.args) (k := m) HM.out.symm h)
      rw [← HL1.out] at HCALL
      have HP1 := Lib.hid (HP.out.below B0.out)
      have HA1 := Lib.hid (HA.out.below B0.out)
      have SZ1 := Lib.hid B0.out.size
      clear hcs ht2 hnn2 hs1 hs2 hs3 hs4
      have m0 := M0.out.cell 0
      have m5 := M0.out.cell 5
      simp only [List.getElem?_cons_zero, List.getElem?_cons_succ] at m0 m5
      go_enter Tryd.func26, Tryd.ntmps26
      go_wp2_with fail
      clear m0 m5
      generalize World.alloc w _ = W1 at *
      refine HCALL.out.mono ?_
      rintro e W2 ⟨rfl, F2, hp2, k2, hf2⟩
      have HP2 := Lib.hid hp2
      have KK2 := Lib.hid k2
      have HF2 := Lib.hid hf2
      clear hp2 k2 hf2 e0 e1 e2 e3 e4 e5 HCALL
      have HXL := Lib.hid (show (layC (t.args.drop m) h).1 < 18446744073709551616 from by
        rw [HL1.out]
        have hs1 := takesTL_one (l := t.args) (k := m) (by have := HM.out; omega)
        have hs2 := takesTL_split t.args m
        exact layS_lt _ h (okTL_at HAL.out m (by have := HM.out; omega)) (bndL_at HBL.out m (by have := HM.out; omega)) (by have := HLB.out; omega) (by have := HAB.out; omega))
      go_wp2_with fail
      have MW1 := Lib.hid M0.out
      generalize hLd : layC (t.args.drop m) h = R0 at *
      go_loopw [9, 10, 11] (fun wv kv hv wr => ∃ (j : Nat) (F' : Nat → Prop), j ≤ m ∧ kv = .int .i64 ((j : Int) - 1) ∧ wv = .int .u64 ((layC (t.args.drop j) h).1 : Nat) ∧ HpIs half (layC (t.args.drop j) h).2 g F' wr ∧ Keep F W1 wr ∧ (∀ b, F' b → F b ∨ W1.heap.size ≤ b) ∧ (layC (t.args.drop j) h).1 < 18446744073709551616) (fun _ k _ _ => (intOf k + 1).toNat)
      case atStart => exact ⟨m, F2, Nat.le_refl _, rfl, by rw [hLd], by rw [hLd]; exact HP2.out, KK2.out, HF2.out, by rw [hLd]; exact HXL.out⟩
      case round =>
        have HLD := Lib.hid hLd
        clear hLd HP2 KK2 HF2 HXL HL1
        obtain ⟨j, F', hj, rfl, rfl, hpk, hkeep, hfb, hlt⟩ := hrel
        have HPK := Lib.hid hpk
        have HKP := Lib.hid hkeep
        have HFB := Lib.hid hfb
        have HLTW := Lib.hid hlt
        have HSK := Lib.hid (show ∀ b, S b → b < wr.heap.size ∧ ¬ F' b from fun b hb => by
          obtain ⟨h1, h2⟩ := HS.out b hb
          refine ⟨by have := SZ1.out; have := HKP.out.size; omega, fun e => ?_⟩
          rcases HFB.out b e with e | e
          · exact h2 e
          · have := SZ1.out; omega)
        have HAr := Lib.hid (show ArgsAt S t.args (some ⟨g2, o2, none⟩) wr from ((HA1.out.mono (S' := fun b => S b ∧ b < W1.heap.size) (fun b hb hs => ⟨hs, hb⟩)).frame (fun b hb => HKP.out.block b hb.2 (HS.out b hb.1).2)).mono (fun _ _ hs => hs.1))
        have MR := Lib.hid (MW1.out.keep HKP.out (fun e => by have := HFL.out _ e; omega))
        clear hpk hkeep hfb hlt
        cases j with
        | zero =>
          rw [show (((0 : Nat) : Int) - 1) = -1 from rfl]
          go_wp2
          go_ret
          rw [HLT.out]
          exact ⟨rfl, HpRes.below B0.out HFL.out ⟨F', by simpa using HPK.out, HKP.out, HFB.out⟩⟩
        | succ j =>
          rw [show (((j + 1 : Nat) : Int) - 1) = (j : Int) by omega]
          have hj0 : (0 : Int) ≤ (j : Int) := by omega
          have hk : j < t.args.length := by have := HM.out; omega
          have hki : (j : Int) < (t.args.length : Int) := by omega
          have hjw : IntKind.i64.wrap ((j : Int) - 1) = (j : Int) - 1 := IntWalk.i64_in _ (by omega)
          obtain ⟨g3, o3, vs3, hae, _, hcs, ht3⟩ := HAr.out.get j hk
          cases hae
          have HT3 := Lib.hid ht3
          obtain ⟨_, nv3, a3, cap3, hv3, hnn3, _⟩ := ht3.parts
          obtain ⟨nb3, nd3, hnv3, _, _⟩ := hnn3.slice
          subst hv3
          subst hnv3
          have e0 := hcs 0 (by decide)
          have e1 := hcs 1 (by decide)
          have e2 := hcs 2 (by decide)
          have e3 := hcs 3 (by decide)
          have e4 := hcs 4 (by decide)
          have e5 := hcs 5 (by decide)
          simp only [List.getElem?_cons_zero, List.getElem?_cons_succ, ← Nat.add_assoc, Nat.add_zero] at e0 e1 e2 e3 e4 e5
          have m5 := MR.out.cell 5
          simp only [List.getElem?_cons_zero, List.getElem?_cons_succ] at m5
          obtain ⟨_, hll, _⟩ := layC_rep (t.args.drop (j + 1)) h (okTL_drop _ HAL.out) (bndL_drop _ HBL.out) (by intro e; have h9 := congrArg List.length e; have := HM.out; rw [List.length_drop, List.length_nil] at h9; omega) (lastOk_drop (by have := HM.out; omega) HLO.out)
          have hla := layC_at (t.args.drop (j + 1)) h
          have hdl : (t.args.drop (j + 1)).length = t.args.length - (j + 1) := List.length_drop ..
          have hs1 := takesTL_split t.args j
          have hs2 := takesTL_one hk
          have hs3 := sizeTL_split t.args j
          have hs4 := sizeTL_one hk
          have hlb := HLB.out
          have hab := HAB.out
          have hmm := HM.out
          have hst := sizeT_pos t.args[j]
          have hbd1 : (layC (t.args.drop (j + 1)) h).2.l.length + takesT t.args[j] ≤ 1099511627776 := by omega
          have hbd2 : (layC (t.args.drop (j + 1)) h).2.at_.length + sizeT t.args[j] ≤ 1099511627776 := by omega
          have HXL := Lib.hid (layS_lt t.args[j] (layC (t.args.drop (j + 1)) h).2 (okTL_at HAL.out j hk) (bndL_at HBL.out j hk) hbd1 (by omega))
          have HCALL := Lib.hid (HIH.out S t.args[j] _ _ (by have := Tm.arg_lt hk; have := HNN.out; omega) HPK.out HT3.out HSK.out (okTL_at HAL.out j hk) hbd1 hbd2)
          obtain ⟨_, hl3, _⟩ := layS_rep t.args[j] (layC (t.args.drop (j + 1)) h).2 (okTL_at HAL.out j hk) (bndL_at HBL.out j hk)
          have HLN := Lib.hid (show (layS t.args[j] (layC (t.args.drop (j + 1)) h).2).2.l.length + 1 + 2 ≤ 1099511627776 by omega)
          have HDR := Lib.hid (layC_drop (l := t.args) (k := j) (by omega) h)
          clear hcs ht3 hnn3 hll hla hdl hs1 hs2 hs3 hs4 hlb hab hmm hst hbd1 hbd2 hl3
          generalize layC (t.args.drop (j + 1)) h = R1 at *
          obtain ⟨Wd, h1⟩ := R1
          dsimp only at HPK HLTW HXL HCALL HLN HDR ⊢
          generalize layS t.args[j] h1 = R2 at *
          obtain ⟨X, h2⟩ := R2
          dsimp only at HXL HCALL HLN HDR
          go_wp2_with fail
          refine HCALL.out.mono ?_
          rintro e W5 ⟨rfl, F3, hp3, k3, hf3⟩
          dsimp only at hp3
          have HP3 := Lib.hid hp3
          have KK3 := Lib.hid k3
          have HF3 := Lib.hid hf3
          have BL5 := Lib.hid ((Below.refl W5.heap.size W5).alloc (Nat.le_refl _) (.cells #[.int .u64 X, .int .u64 Wd] 34 (0, 0)))
          have LT := Lib.hid (lit_words_at (w := W5) [X, Wd] 2 rfl (by decide))
          have HPU := Lib.hid (putH_any (HP3.out.below BL5.out) 1 (by decide) [X, Wd] _ LT.out (fun b e hb => by have := (HP3.out.nf b hb).1; omega) (fun q hq => by
            simp only [List.mem_cons, List.not_mem_nil, or_false] at hq
            rcases hq with rfl | rfl
            · exact HXL.out
            · exact HLTW.out) HLN.out)
          clear hp3 k3 hf3 e0 e1 e2 e3 e4 e5 m5 HCALL
          go_wp2_with fail
          refine HPU.out.mono ?_
          rintro e W7 ⟨rfl, hr⟩
          obtain ⟨F7, hp7, k7, hf7⟩ := HpRes.below BL5.out (fun b hb => (HP3.out.nf b hb).1) hr
          have HP7 := Lib.hid hp7
          have KK7 := Lib.hid (show Keep F W1 W7 from (HKP.out.trans KK3.out (fun i hi e => by rcases HFB.out i e with e | e; exact e; omega)).trans k7 (fun i hi e => by
            rcases HF3.out i e with e | e
            · rcases HFB.out i e with e | e
              · exact e
              · omega
            · have := HKP.out.size; omega))
          have HF7 := Lib.hid (show ∀ b, F7 b → F b ∨ W1.heap.size ≤ b from fun b hb => by
            have h1 := HKP.out.size
            have h2 := KK3.out.size
            rcases hf7 b hb with e | e
            · rcases HF3.out b e with e | e
              · exact HFB.out b e
              · exact .inr (by omega)
            · exact .inr (by omega))
          clear hr hp7 k7 hf7
          go_wp2
          go_roundw
          case rel =>
            refine ⟨j, F7, by omega, rfl, by rw [HDR.out], by rw [HDR.out]; exact HP7.out, KK7.out, HF7.out, ?_⟩
            rw [HDR.out]
            exact putH_lt _ _ _ (by have := HLN.out; omega)
          case measure => simp [intOf]
end Go.Proofs.YtkipjbmckpmmfaaDoor
end
section
/- Package heap: over; Lay. -/
open Go Go.RowKit
namespace Go.Proofs.YtkipjbmckpmmfaaDoor
set_option linter.unusedVariables false
set_option linter.unusedSimpArgs false

set_option maxHeartbeats 4000000 in
set_option maxRecDepth 100000 in
theorem overHp_any (k : Lk) (r : List Lk) (v : Value) (w : World) (hv : ErrIs w v (k :: r)) (hE : ErrT w) :
    Calls Tryd.prog 24 #[v] w (RetEr w (overH (k :: r))) := by
  have HV := Lib.hid hv
  obtain ⟨b, u, rfl, hc, hu⟩ := hv
  have hb0 : Below w.heap.size w (w.alloc (.cells #[.pointer none] 91 (0, 0))) := (Below.refl _ _).alloc (Nat.le_refl _) _
  have HA := Lib.hid (as_hit2 b w.heap.size _ (hE.below hb0) (alloc_get w (.cells #[.pointer none] 91 (0, 0))))
  have HC := Lib.hid hc
  have HB0 := Lib.hid hb0
  clear hc hu hb0 hE
  go_enter Tryd.func24, Tryd.ntmps24
  go_wp2_with fail
  refine HA.out.mono ?_
  rintro e w2 ⟨rfl, hg, hf⟩
  have hb2 : Below w.heap.size w w2 := below_grownBy ((Below.refl _ w).alloc (Nat.le_refl _) _) hg (by simp) (Nat.le_refl _)
  have hc2 := (hb2.block b (Array.getElem?_eq_some_iff.1 HC.out).1).trans HC.out
  have c0 := cell_of_block hf 0
  have d2 := cell_of_block hc2 2
  simp only [List.getElem?_toArray, List.getElem?_cons_zero, List.getElem?_cons_succ] at c0 d2
  have HER := Lib.hid ((HV.out.below hb2).cons ⟨hpL, 0, k.code⟩)
  have HB2 := Lib.hid hb2
  unfold hpL at *
  clear hg hf hc2 hb2
  go_wp2
  go_ret
  exact ⟨_, rfl, HER.out, HB2.out.alloc HB2.out.size _⟩
/-- Lay's answer -/
def LayTR (half g : Nat) (F : Nat → Prop) (w : World) (r : Nat × List Lk × Hs) (e : Ending) (w' : World) : Prop := ∃ ev, e = .returned (.tuple #[.int .u64 (r.1 : Nat), ev]) ∧ ErrIs w' ev r.2.1 ∧ HpRes half g F w r.2.2 w'
set_option maxHeartbeats 8000000 in
set_option maxRecDepth 100000 in
theorem layTop_any (S : Nat → Prop) (t : Tm) (vs : List Value) (w : World) {half : Nat} {h : Hs} {g : Nat} {F : Nat → Prop} (hp : HpIs half h g F w) (ht : TmAt S t vs w) (hS : ∀ b, S b → b < w.heap.size ∧ ¬ F b) (hG : Gt w)
    (hl : h.l.length ≤ half) (hat : h.at_.length + 4096 ≤ 1099511627776) :
    Calls Tryd.prog 7 #[.pointer (some ⟨g, 0, none⟩), .agg vs.toArray] w (LayTR half g F w (layTop half t h)) := by
  have HT := Lib.hid ht
  have HP := Lib.hid hp
  have HS := Lib.hid hS
  have HG := Lib.hid hG
  have HL := Lib.hid hl
  have HAT := Lib.hid hat
  have hhf := hp.half_
  have hht : half ≤ 524288 := hhf
  obtain ⟨hpp, nv, a, cap, rfl, hnn, ⟨hc, hcm⟩, hcap, ha⟩ := ht.parts
  obtain ⟨na, nc, rfl, hnc, _⟩ := hnn.slice
  have B0 := Lib.hid ((Below.refl _ w).alloc (Nat.le_refl _) (.cells #[.int .i64 t.kind, .int .i64 t.int, .string t.text, .int .u32 t.cr, .slice na t.nums.length nc, .slice a t.args.length cap] 27 (0, 0)))
  have M0 := Lib.hid (Cells.new w 27 [.int .i64 t.kind, .int .i64 t.int, .string t.text, .int .u32 t.cr, .slice na t.nums.length nc, .slice a t.args.length cap])
  have HFL := Lib.hid (fun b hb => (HP.out.nf b hb).1)
  have HP0 := Lib.hid (HP.out.below B0.out)
  have HM := Lib.hid (made_of HP0.out)
  have HCK := Lib.hid (check_any S t _ _ (HT.out.below B0.out) (fun b hb => by have := (HS.out b hb).1; have := B0.out.size; omega) (HG.out.below B0.out))
  have m0 := M0.out.cell 0
  have m1 := M0.out.cell 1
  have m2 := M0.out.cell 2
  have m3 := M0.out.cell 3
  have m4 := M0.out.cell 4
  have m5 := M0.out.cell 5
  simp only [List.getElem?_cons_zero, List.getElem?_cons_succ] at m0 m1 m2 m3 m4 m5
  clear hp hpp hnn ha hcm ht hS hG hl hat hhf
  go_enter Tryd.func7, Tryd.ntmps7
  go_wp2_with fail
  generalize World.alloc w _ = W0 at *
  refine HM.out.mono ?_
  rintro e w1 ⟨rfl, rfl⟩
  go_wp2_with fail
  refine HCK.out.mono ?_
  rintro e w2 ⟨ev, rfl, her, hb2⟩
  have HER := Lib.hid her
  have B2 := Lib.hid (B0.out.trans (hb2.mono B0.out.size))
  have HP2 := Lib.hid (HP0.out.below hb2)
  have M2 := Lib.hid (M0.out.below hb2)
  have HT2 := Lib.hid ((HT.out.below B0.out).below hb2)
  have HG2 := Lib.hid ((HG.out.below B0.out).below hb2)
  have HS2 := Lib.hid (show ∀ b, S b → b < w2.heap.size ∧ ¬ F b from fun b hb => ⟨by have := (HS.out b hb).1; have := B2.out.size; omega, (HS.out b hb).2⟩)
  clear hb2 m0 m1 m2 m3 m4 m5
  have m0 := M2.out.cell 0
  have m1 := M2.out.cell 1
  have m2 := M2.out.cell 2
  have m3 := M2.out.cell 3
  have m4 := M2.out.cell 4
  have m5 := M2.out.cell 5
  simp only [List.getElem?_cons_zero, List.getElem?_cons_succ] at m0 m1 m2 m3 m4 m5
  cases hck : checkS t with
  | cons k r =>
    rw [hck] at her
    have HLT := Lib.hid (show layTop half t h = (0, overH (k :: r), h) by unfold layTop; rw [hck, if_pos (by simp)])
    have HOV := Lib.hid (overHp_any k r ev w2 her HG2.out.e)
    obtain ⟨b, u, rfl, _⟩ := her
    clear hck
    go_wp2_with fail
    refine HOV.out.mono ?_
    rintro e w3 ⟨ev3, rfl, her3, hb3⟩
    go_wp2
    go_ret2
    rw [HLT.out]
    exact ⟨ev3, rfl, her3, HpRes.below (B2.out.trans (hb3.mono B2.out.size)) HFL.out (HpRes.same (HP2.out.below hb3))⟩
  | nil =>
    rw [hck] at her
    obtain rfl : ev = .nilIface := her
    have HCK2 := Lib.hid hck
    have HOS := Lib.hid (checkS_ok hck)
    have HTK := Lib.hid (takes_ind (SizeOf.sizeOf t) S t _ w2 (Nat.le_refl _) HT2.out HOS.out.1 HOS.out.2)
    clear hck
    go_wp2_with fail
    refine HTK.out.mono ?_
    rintro e w3 ⟨rfl, hb3⟩
    have B3 := Lib.hid (B2.out.trans (hb3.mono B2.out.size))
    have HP3 := Lib.hid (HP2.out.below hb3)
    have M3 := Lib.hid (M2.out.below hb3)
    have HT3 := Lib.hid (HT2.out.below hb3)
    have HS3 := Lib.hid (show ∀ b, S b → b < w3.heap.size ∧ ¬ F b from fun b hb => ⟨by have := (HS.out b hb).1; have := B3.out.size; omega, (HS.out b hb).2⟩)
    have HFR := Lib.hid (free_live HP3.out)
    clear hb3 m0 m1 m2 m3 m4 m5
    go_wp2_with fail
    refine HFR.out.mono ?_
    rintro e w4 ⟨rfl, n, rfl⟩
    have m0 := (M3.out.drewN n).cell 0
    have m1 := (M3.out.drewN n).cell 1
    have m2 := (M3.out.drewN n).cell 2
    have m3 := (M3.out.drewN n).cell 3
    have m4 := (M3.out.drewN n).cell 4
    have m5 := (M3.out.drewN n).cell 5
    simp only [List.getElem?_cons_zero, List.getElem?_cons_succ] at m0 m1 m2 m3 m4 m5
    have B4 := Lib.hid (below_drewN B3.out n)
    by_cases hroom : (half : Int) - h.l.length < takesT t
    · have HLT := Lib.hid (show layTop half t h = (0, [⟨hpL, 0, 61⟩], h) by unfold layTop; rw [HCK2.out, if_neg (by simp), if_pos hroom])
      go_wp2_with (go_at_call 21; refine (refusedH_any _ _).mono ?_; rintro e w' ⟨rfl, rfl⟩)
      go_ret2
      rw [HLT.out]
      exact ⟨_, rfl, ErrIs.one, HpRes.below (B4.out.alloc B4.out.size _) HFL.out (HpRes.same ((HP3.out.drewN n).below ((Below.refl _ _).alloc (Nat.le_refl _) _)))⟩
    · have HLT := Lib.hid (show layTop half t h = ((layS t h).1, [], (layS t h).2) by unfold layTop; rw [HCK2.out, if_neg (by simp), if_neg hroom])
      have HLY := Lib.hid (lay_ind (SizeOf.sizeOf t) S t _ (w3.drewN n) (Nat.le_refl _) (HP3.out.drewN n) (TmAt.frame (w := w3) (w' := w3.drewN n) (fun _ _ => rfl) HT3.out) HS3.out HOS.out.1 (by have := HL.out; omega) (by have := HAT.out; have := HOS.out.2; omega))
      go_wp2_with fail
      refine HLY.out.mono ?_
      rintro e w5 ⟨rfl, hr⟩
      go_wp2
      go_ret2
      rw [HLT.out]
      exact ⟨_, rfl, rfl, HpRes.below B4.out HFL.out hr⟩
end Go.Proofs.YtkipjbmckpmmfaaDoor
end
