/- Texts laid together: ShkT. -/
import Derived.Test.YtokkokgdjnkbnaaGreatDoorP16
import Derived.Test.YtokkokgdjnkbnaaGreatDoorP13
section
/- Package heddleref08: Same, of a message and itself. -/
open Go Go.RowKit
namespace Go.Proofs.YtokkokgdjnkbnaaGreatDoor

set_option maxHeartbeats 4000000 in
theorem sameR_self (m : Msg) (dv dv' : Value) (w : World) (hd : RSl dv m.digest w) (hd' : RSl dv' m.digest w) :
    Calls Tryz.prog 15 #[m.val dv, m.val dv'] w fun e w' => e = .returned (.bool true) ∧ Below w.heap.size w w' := by
  have hc1 := run_slice_string ((hd.alloc (.cells #[.int .i64 m.kind, .int .u64 m.flags, .int .u32 m.creation, .int .u32 m.challenge, .string m.name, .string m.status, dv] 27 (0, 0))).alloc (.cells #[.int .i64 m.kind, .int .u64 m.flags, .int .u32 m.creation, .int .u32 m.challenge, .string m.name, .string m.status, dv'] 27 (0, 0))).slice
  have hc2 := run_slice_string ((hd'.alloc (.cells #[.int .i64 m.kind, .int .u64 m.flags, .int .u32 m.creation, .int .u32 m.challenge, .string m.name, .string m.status, dv] 27 (0, 0))).alloc (.cells #[.int .i64 m.kind, .int .u64 m.flags, .int .u32 m.creation, .int .u32 m.challenge, .string m.name, .string m.status, dv'] 27 (0, 0))).slice
  obtain ⟨da, dc, rfl, _, _⟩ := hd.shape
  obtain ⟨ea, ec, rfl, _, _⟩ := hd'.shape
  clear hd hd'
  obtain ⟨kd, fl, cr, chn, nm, st, dg⟩ := m
  unfold Msg.val at *
  go_enter Tryz.func15, Tryz.ntmps15
  go_wp2
  go_ret
  exact ⟨rfl, ((Below.refl _ w).alloc (Nat.le_refl _) _).alloc (by simp) _⟩
end Go.Proofs.YtokkokgdjnkbnaaGreatDoor
end
