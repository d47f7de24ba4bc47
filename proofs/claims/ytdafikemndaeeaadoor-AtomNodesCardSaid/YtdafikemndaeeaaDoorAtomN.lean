/- strings.Cut at one byte; package atom's Node and its reference: the pure part. -/
import Derived.Test.YtdafikemndaeeaaDoorAtomL
open Go Go.RowKit
namespace Go.Proofs.YtdafikemndaeeaaDoor

/-- Cut at a byte: the two parts, and whether the byte is there -/
def cutS (s : ByteArray) (c : UInt8) : ByteArray × ByteArray × Bool :=
  if 0 ≤ Lib.indexByte s.data.toList c then (s.extract 0 (Lib.indexByte s.data.toList c).toNat, s.extract ((Lib.indexByte s.data.toList c).toNat + 1) s.size, true) else (s, ⟨#[]⟩, false)

theorem run_to {P : Program} {t : TypeId} (h : P.underlying t = some .string) (s : ByteArray) (b : Nat) (hb : b ≤ s.size) (w : World) :
    (Instr.slice t (.string s) none (some (.int .i64 b)) none).run P w = .ok (.string (s.extract 0 b)) w := by
  simp [Instr.slice, run_underlying h, Instr.sliceBounds, Instr.sliceBound, asIntOf, hb]
theorem run_from {P : Program} {t : TypeId} (h : P.underlying t = some .string) (s : ByteArray) (a : Nat) (ha : a ≤ s.size) {x : Int} (hx : x = a) (w : World) :
    (Instr.slice t (.string s) (some (.int .i64 x)) none none).run P w = .ok (.string (s.extract a s.size)) w := by
  subst hx
  simp [Instr.slice, run_underlying h, Instr.sliceBounds, Instr.sliceBound, asIntOf, ha]

set_option maxRecDepth 100000 in
theorem icut_any (s : ByteArray) (c : UInt8) (w : World) (hs : s.size ≤ 140737488351232) :
    Calls Tryd.prog 86 #[.string s, .string ⟨#[c]⟩] w fun e w' => e = .returned (.tuple #[.string (cutS s c).1, .string (cutS s c).2.1, .bool (cutS s c).2.2]) ∧ ∃ n, w' = w.drewN n := by
  have HI := Lib.hid (fun w => Tryd.stringslite_Index_one s c w)
  by_cases h : 0 ≤ Lib.indexByte s.data.toList c
  · have e : cutS s c = (s.extract 0 (Lib.indexByte s.data.toList c).toNat, s.extract ((Lib.indexByte s.data.toList c).toNat + 1) s.size, true) := by unfold cutS; rw [if_pos h]
    obtain ⟨k, hk⟩ : ∃ k : Nat, Lib.indexByte s.data.toList c = k := ⟨(Lib.indexByte s.data.toList c).toNat, by omega⟩
    rw [hk, Int.toNat_natCast] at e
    have HE := Lib.hid e
    have hlt : k < s.size := by
      have := (Lib.indexByte_some hk).1
      have := (List.getElem?_eq_some_iff.1 this).1
      simpa using this
    rw [hk] at HI
    have hs1 := fun w => run_to (P := Tryd.prog) Tryd.underlying9 s k (by omega) w
    have hs2 := fun w => run_from (P := Tryd.prog) Tryd.underlying9 s (k + 1) (by omega) (x := (k : Int) + 1) (by omega) w
    clear e h hk
    go_enter Tryd.func86, Tryd.ntmps86
    go_wp2_with (go_at_call 97; refine (HI.out _).mono ?_; rintro e w' ⟨rfl, rfl⟩)
    go_quiet (fail)
    go_wp2
    go_ret3
    rw [HE.out]
    exact ⟨rfl, _, rfl⟩
  · have e : cutS s c = (s, ⟨#[]⟩, false) := by unfold cutS; rw [if_neg h]
    have HE := Lib.hid e
    clear e
    go_enter Tryd.func86, Tryd.ntmps86
    go_wp2_with (go_at_call 97; refine (HI.out _).mono ?_; rintro e w' ⟨rfl, rfl⟩)
    go_ret3
    rw [HE.out]
    exact ⟨rfl, 0, rfl⟩
theorem cut_any (s : ByteArray) (c : UInt8) (w : World) (hs : s.size ≤ 140737488351232) :
    Calls Tryd.prog 70 #[.string s, .string ⟨#[c]⟩] w fun e w' => e = .returned (.tuple #[.string (cutS s c).1, .string (cutS s c).2.1, .bool (cutS s c).2.2]) ∧ ∃ n, w' = w.drewN n := by
  have H := Lib.hid (icut_any s c w hs)
  go_enter Tryd.func70, Tryd.ntmps70
  go_wp2_with (go_at_call 86; refine H.out.mono ?_; rintro e w' ⟨rfl, n, rfl⟩)
  go_ret3
  exact ⟨rfl, n, rfl⟩
end Go.Proofs.YtdafikemndaeeaaDoor
