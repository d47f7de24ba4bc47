/- Texts laid together: MixF, MixG, MixH, MixI, RSl, Bytes. -/
import Derived.Test.YtokkokgdjnkbnaaGreatDoorP12
import Derived.Deep.Upon
import Derived.Test.YtokkokgdjnkbnaaGreatDoorP8
import Derived.Test.YtokkokgdjnkbnaaGreatDoorP6
import Derived.Test.YtokkokgdjnkbnaaGreatDoorP10
import Derived.ProofKit
import Derived.ChangeSlices
import Derived.ChangeOld
import Derived.Carry
section
/- '[]byte(s)', then an append onto it. -/
open Go Go.RowKit
namespace Go.Proofs.YtokkokgdjnkbnaaGreatDoor

/-- the row of a conversion, whole -/
def FullConv (b : Nat) (s : ByteArray) (cap : Nat) (w : World) : Prop :=
  ∃ cs : Array Value, w.heap[b]? = some (.cells cs 5 (cs.size, cs.size + 1)) ∧ cs.size = cap ∧ s.size ≤ cap ∧ ∀ j, (h : j < s.size) → cs[j]? = some (byteV s[j])
theorem FullConv.mk (w : World) (s : ByteArray) : FullConv w.heap.size s (grownCap w s.size 0 5) (Lib.bytesWorld w 5 s) := by
  have hge := grownCap_ge w s.size 0 5
  refine ⟨_, Lib.bytesWorld_at_new w 5 s, by simp [Lib.bytesCells]; omega, hge, fun j h => ?_⟩
  have := Lib.bytesWorld_cell w 5 s j h
  rw [cell_of_block (Lib.bytesWorld_at_new w 5 s)] at this
  rw [this]
  simp [byteV, List.getD, h]; rfl
theorem FullConv.below {b B cap : Nat} {s : ByteArray} {w w' : World} (h : FullConv b s cap w) (hb : Below B w w') (hB : b < B) : FullConv b s cap w' := by
  obtain ⟨cs, h1, h2⟩ := h
  exact ⟨cs, (hb.block b hB).trans h1, h2⟩
theorem FullConv.lt {b cap : Nat} {s : ByteArray} {w : World} (h : FullConv b s cap w) : b < w.heap.size := by
  obtain ⟨cs, h1, _⟩ := h
  exact (Array.getElem?_eq_some_iff.1 h1).1

/-- a row that reads so -/
def RowIs (v : Value) (l : List UInt8) (w : World) : Prop := ∃ g c, v = .slice (some ⟨g, 0, none⟩) l.length c ∧ ∀ j, (h : j < l.length) → w.cell? ⟨g, j, none⟩ = some (byteV l[j])

theorem tape_setCells (b : Nat) : ∀ (vs : List Value) (o : Nat) (w : World), (w.setCells b o vs).tape = w.tape
  | [], _, _ => rfl
  | v :: r, o, w => by rw [World.setCells, tape_setCells b r]; rfl
theorem size_setCells (b : Nat) : ∀ (vs : List Value) (o : Nat) (w : World), (w.setCells b o vs).heap.size = w.heap.size
  | [], _, _ => rfl
  | v :: r, o, w => by rw [World.setCells, size_setCells b r]; simp [World.setCell]

theorem run_app_conv {base g cap : Nat} {s : ByteArray} {w : World} (hc : FullConv g s cap w) (hB : base ≤ g) (v : Value) (d : List UInt8) (hd : BufIs base v d w) (hd0 : d ≠ []) (hs : s.size ≤ 1000) (hl : d.length ≤ 1000) (ty : TypeId) :
    ∃ v' w', (Builtin.append_ #[25, 25] ty #[.slice (some ⟨g, 0, none⟩) s.size cap, v]).run Tryz.prog w = .ok v' w' ∧ RowIs v' (s.data.toList ++ d) w' ∧ Below base w w' := by
  obtain ⟨i0, hi, hz0, hz1, hz2⟩ := info_parts Tryz.infoByte
  have hglt := hc.lt
  obtain ⟨cs, hblk, hcs, hsc, hcell⟩ := hc
  rcases hd.shape with ⟨rfl, rfl⟩ | ⟨h, c, rfl, hh1, hh2, hh3, hh4⟩
  · exact absurd rfl hd0
  have hsrc : Src Tryz.prog 1 25 (.slice (some ⟨h, 0, none⟩) d.length c) d.length (bytesV d) w := by
    refine Src.ofSlice w Tryz.underlying25 _ _ _ _ (by rw [bytesV_length]; omega) ?_ (bytesV_one _)
    intro j u hj
    rw [Lib.add_plain, Nat.zero_add]
    have hlt : j < d.length := by have := (List.getElem?_eq_some_iff.1 hj).1; rwa [bytesV_length] at this
    rw [bytesV_get d j hlt] at hj
    cases hj
    exact hd.cell j hlt
  have hold : ∀ j, (h : j < s.size) → w.cell? ⟨g, j, none⟩ = some (byteV s[j]) := fun j h => by
    rw [cell_of_block hblk]; exact hcell j h
  have hlen : (s.data.toList ++ d).length = s.size + d.length := by rw [List.length_append, Array.length_toList]; rfl
  have hget : ∀ j, (h : j < (s.data.toList ++ d).length) → (h2 : j < s.size) → (s.data.toList ++ d)[j] = s[j] := fun j h h2 => by
    rw [List.getElem_append_left (by simpa using h2)]; rfl
  by_cases hroom : s.size + d.length ≤ cap
  · have hrun := run_append_room_src (P := Tryz.prog) w 25 25 ty 5 i0 Tryz.underlying25 hi g 0 s.size cap _ d.length (bytesV d) (by rw [hz1]; exact hsrc) hroom
      (by intro j hj; rw [hz1, cell_of_block hblk]; rw [bytesV_length] at hj; rw [Array.getElem?_eq_getElem (by omega)]; rfl)
      (by intro j hj; rw [hz1]; rw [bytesV_length] at hj; simp [World.frozen?, hblk]; omega)
    rw [hz1] at hrun
    refine ⟨_, _, hrun, ⟨g, cap, by rw [hlen], fun j hj => ?_⟩, ?_⟩
    · rw [hlen] at hj
      by_cases hj2 : j < s.size
      · rw [World.cell?_setCells_out g _ _ _ _ (fun _ _ => .inl (by simp; omega)), hold j hj2, hget j (by rw [hlen]; exact hj) hj2]
      · have := World.cell?_setCells_in g (bytesV d) (0 + s.size * 1) w (by intro k hk; rw [cell_of_block hblk]; rw [bytesV_length] at hk; rw [Array.getElem?_eq_getElem (by omega)]; rfl) (j - s.size) (by rw [bytesV_length]; omega)
        rw [show 0 + s.size * 1 + (j - s.size) = j by omega] at this
        rw [this, List.getElem_append_right (by simpa using hj2)]
        simp [bytesV]
    · exact ⟨World.os_setCells _ _ _ _, tape_setCells _ _ _ _, World.output_setCells _ _ _ _, by rw [size_setCells]; exact Nat.le_refl _, fun k hk => World.heap_setCells_other _ _ _ _ (by omega) (by omega)⟩
  · have hfc : (Builtin.firstCells i0.size s.size (.slice (some ⟨g, 0, none⟩) s.size cap)).run Tryz.prog w.drew = .ok (bytesV s.data.toList).toArray w.drew := by
      refine run_firstCells_some (P := Tryz.prog) w.drew i0.size s.size ⟨g, 0, none⟩ s.size cap _ (by rw [bytesV_length, hz1, Array.length_toList, Nat.mul_one]; rfl) (fun j u hu => ?_)
      have hlt : j < s.size := by have := (List.getElem?_eq_some_iff.1 hu).1; rw [bytesV_length] at this; simpa using this
      rw [bytesV_get _ j (by simpa using hlt)] at hu
      cases hu
      rw [Lib.add_plain, Nat.zero_add]
      exact hold j hlt
    have hrun := run_append_grow_src (P := Tryz.prog) w 25 25 ty 5 i0 (.int .u8 0) Tryz.underlying25 hi hz0 (some ⟨g, 0, none⟩) s.size cap _ hfc _ d.length (bytesV d) (by rw [hz1]; exact hsrc) (by omega) (by omega)
      (by rw [hz2]; have := nextslicecap_le (need := s.size + d.length) (old := cap) (by omega); omega)
    have happ : bytesV s.data.toList ++ bytesV d = bytesV (s.data.toList ++ d) := (bytesV_append _ _).symm
    rw [happ] at hrun
    refine ⟨_, _, hrun, ⟨_, _, by rw [hlen], fun j hj => ?_⟩, (below_drewN (Below.refl base w) 1).alloc (by show base ≤ w.heap.size; omega) _⟩
    have hb := cell_of_block (alloc_get w.drew (.cells ((bytesV (s.data.toList ++ d)).toArray ++ Builtin.zeroCells (Value.int IntKind.u8 0).cells (grownCap w (s.size + d.length) cap 5 - (s.size + d.length))) 5 (0, 0))) j
    refine hb.trans ?_
    rw [Array.getElem?_append_left (by simp only [List.size_toArray, bytesV_length]; exact hj), List.getElem?_toArray]
    exact bytesV_get _ j hj
end Go.Proofs.YtokkokgdjnkbnaaGreatDoor
end
section
/- Package mix: Digest. -/
open Go Go.RowKit
namespace Go.Proofs.YtokkokgdjnkbnaaGreatDoor

theorem cookieGo_small (s : ByteArray) : ∀ (f p : Nat), s.size ≤ p + f → p ≤ 255 → cookGo s f p < 0 → s.size ≤ 255
  | 0, p, h1, h2, _ => by omega
  | f + 1, p, h1, h2, h3 => by
    by_cases h : p < s.size
    · cases hb : okC s[p] p with
      | false => rw [cookGo_bad s f p h hb] at h3; omega
      | true =>
        rw [cookGo_good s f p h hb] at h3
        have : p < 255 := by unfold okC at hb; simp at hb; omega
        exact cookieGo_small s f (p + 1) (by omega) (by omega) h3
    · omega
theorem cookieS_ok (s : ByteArray) (h : cookieS s = []) : s.size ≤ 255 := by
  unfold cookieS at h
  by_cases h0 : s.size = 0
  · omega
  rw [if_neg h0] at h
  by_cases h1 : 0 ≤ cookGo s s.size 0
  · rw [if_pos h1] at h; cases h
  · exact cookieGo_small s s.size 0 (by omega) (by omega) (by omega)

def stepA (x : Int) (c : UInt8) : Int := IntKind.u64.wrap (bits BinOp.xor IntKind.u64 x (IntKind.u64.wrap ↑c.toNat) * 1099511628211)
def stepB (y : Int) (c : UInt8) : Int := IntKind.u64.wrap (IntKind.u64.wrap (IntKind.u64.wrap (y + IntKind.u64.wrap ↑c.toNat) * 6364136223846793005) + 1442695040888963407)
def textS (s : ByteArray) (u : Nat) : ByteArray := s ++ ⟨(Lib.decDigits u).toArray⟩
def accA (l : List UInt8) : Int := l.foldl stepA 14695981039346656037
def accB (l : List UInt8) : Int := l.foldl stepB 88172645463325252
def mixA (x y : Int) : Int := IntKind.u64.wrap (bits BinOp.xor IntKind.u64 x (y / 536870912) * 18397679294719823053)
def mixB (x y : Int) : Int := IntKind.u64.wrap (bits BinOp.xor IntKind.u64 y (mixA x y / 4294967296) * 14181476777654086739)
def mixN : Nat → Int × Int → Int × Int
  | 0, p => p
  | k + 1, p => (mixA (mixN k p).1 (mixN k p).2, mixB (mixN k p).1 (mixN k p).2)
/-- the digest of a text -/
def digS (l : List UInt8) : List UInt8 := be8 (mixN 4 (accA l, accB l)).1 ++ be8 (mixN 4 (accA l, accB l)).2
theorem digS_length (l : List UInt8) : (digS l).length = 16 := rfl
/-- Digest: the bytes, or how it is refused -/
def digestS (s : ByteArray) (u : Nat) : List UInt8 × List Lk := if cookieS s = [] then (digS (textS s u).data.toList, []) else ([], cookieS s)
theorem accA_snoc (l : List UInt8) (c : UInt8) : accA (l ++ [c]) = stepA (accA l) c := by simp [accA]
theorem accB_snoc (l : List UInt8) (c : UInt8) : accB (l ++ [c]) = stepB (accB l) c := by simp [accB]
theorem textS_list (s : ByteArray) (u : Nat) : (textS s u).data.toList = s.data.toList ++ Lib.decDigits u := by simp [textS, ByteArray.data_append]
theorem textS_size (s : ByteArray) (u : Nat) : (textS s u).size = s.size + (Lib.decDigits u).length := by
  have := congrArg List.length (textS_list s u)
  rw [List.length_append] at this
  exact this
theorem dec20 (u : Nat) (hu : u < 4294967296) : (Lib.decDigits u).length ≤ 20 := by
  by_cases h0 : u = 0
  · subst h0; rw [Lib.decDigits_one (by omega)]; simp
  rw [Lib.decDigits_length]
  have := Lib.numDigits_eq u (by omega) (by omega); split at this <;> omega

set_option maxHeartbeats 8000000 in
set_option maxRecDepth 100000 in
theorem digest_any (s : ByteArray) (u : Nat) (hu : u < 4294967296) (w : World) (hP : Pow10 w) :
    Calls Tryz.prog 95 #[.string s, .int .u32 u] w fun e w' => ∃ v ev, e = .returned (.tuple #[v, ev]) ∧ BufIs w.heap.size v (digestS s u).1 w' ∧ ErrIs w' ev (digestS s u).2 ∧ Below w.heap.size w w' := by
  have HC := Lib.hid (cookie_any s w)
  have HF := fun w1 (h : Below w.heap.size w w1) => Lib.hid (formatUint_any u (by omega) w1 (hP.below h))
  by_cases hk : cookieS s = []
  · have hkc := hk
    have hsz := cookieS_ok s hk
    have hd20 := dec20 u hu
    rw [hk] at HC
    have hcv := fun w => Lib.run_convert_string_bytes (P := Tryz.prog) w 9 25 5 (s ++ ⟨(Lib.decDigits u).toArray⟩) Tryz.underlying9 Tryz.underlying25 Tryz.underlying5
    have hcc : s.size + (⟨(Lib.decDigits u).toArray⟩ : ByteArray).size ≤ 9223372036854775807 := by
      have : (⟨(Lib.decDigits u).toArray⟩ : ByteArray).size = (Lib.decDigits u).length := rfl
      omega
    go_enter Tryz.func95, Tryz.ntmps95
    go_wp2_with fail
    refine HC.out.mono ?_
    rintro e w1 ⟨ev, rfl, her, hb1⟩
    obtain rfl : ev = .nilIface := her
    go_wp2_with fail
    refine (HF w1 hb1).out.mono ?_
    rintro e w2 ⟨rfl, hb2⟩
    have hb2 := hb1.trans (hb2.mono hb1.size)
    go_wp2_with fail
    go_loopw [7, 8, 23] (fun a b i wr => ∃ k : Nat, k ≤ s.size + (Lib.decDigits u).length ∧ a = .int .u64 (accA ((textS s u).data.toList.take k)) ∧ b = .int .u64 (accB ((textS s u).data.toList.take k)) ∧ i = .int .i64 k ∧ ConvRow w2.heap.size (textS s u) wr ∧ Below w.heap.size w wr) (fun _ _ i _ => s.size + (Lib.decDigits u).length - (intOf i).toNat)
    case atStart =>
      exact ⟨0, Nat.zero_le _, rfl, rfl, rfl, ConvRow.mk w2 (textS s u), below_bytesWorld hb2 hb2.size _ _⟩
    case round =>
      obtain ⟨k, hk, rfl, rfl, rfl, hc, hbw⟩ := hrel
      by_cases hlt : k < s.size + (Lib.decDigits u).length
      · have hlt' : (k : Int) < (s.size : Int) + (Lib.decDigits u).length := by omega
        have hltt : k < (textS s u).size := by rw [textS_size]; exact hlt
        have hcell := hc.cell k hltt
        have htk := Lib.hid (show (textS s u).data.toList.take (k + 1) = (textS s u).data.toList.take k ++ [(textS s u)[k]] by
          rw [List.take_succ_eq_append_getElem (by simpa using hltt)]; rfl)
        have hC := Lib.hid hc
        clear hc
        go_wp2
        go_roundw
        case rel => exact ⟨k + 1, by omega, by rw [htk.out, accA_snoc]; rfl, by rw [htk.out, accB_snoc]; rfl, by go_num, hC.out, hbw⟩
        case measure => simp [intOf]; omega
      · obtain rfl : k = s.size + (Lib.decDigits u).length := by omega
        have hnlt : ¬ ((s.size + (Lib.decDigits u).length : Nat) : Int) < (s.size : Int) + (Lib.decDigits u).length := by omega
        rw [show (textS s u).data.toList.take (s.size + (Lib.decDigits u).length) = (textS s u).data.toList from List.take_of_length_le (by rw [← textS_size]; simp)]
        have HR := Lib.hid (show ∀ v w', BufIs w.heap.size v ([] ++ be8 (mixN 4 (accA (textS s u).data.toList, accB (textS s u).data.toList)).1 ++ be8 (mixN 4 (accA (textS s u).data.toList, accB (textS s u).data.toList)).2) w' → BufIs w.heap.size v (digestS s u).1 w' by
          intro v w' h; unfold digestS; rw [if_pos hkc]; exact h)
        have HE := Lib.hid (show ∀ w', ErrIs w' .nilIface (digestS s u).2 by intro w'; unfold digestS; rw [if_pos hkc]; rfl)
        generalize accA (textS s u).data.toList = x0 at *
        generalize accB (textS s u).data.toList = y0 at *
        clear hcc hcv
        go_wp2
        go_loopw [7, 8, 39] (fun a b i wr' => ∃ k : Nat, k ≤ 4 ∧ a = .int .u64 (mixN k (x0, y0)).1 ∧ b = .int .u64 (mixN k (x0, y0)).2 ∧ i = .int .i64 k ∧ wr' = wr) (fun _ _ i _ => 4 - (intOf i).toNat)
        case atStart => exact ⟨0, Nat.zero_le _, rfl, rfl, rfl, rfl⟩
        case round =>
          obtain ⟨k, hk4, rfl, rfl, rfl, rfl⟩ := hrel
          by_cases h4 : k < 4
          · have h4' : (k : Int) < 4 := by omega
            go_wp2
            go_roundw
            case rel => exact ⟨k + 1, by omega, rfl, rfl, by go_num, trivial⟩
            case measure => simp [intOf]; omega
          · obtain rfl : k = 4 := by omega
            generalize (mixN 4 (x0, y0)).1 = x at *
            generalize (mixN 4 (x0, y0)).2 = y at *
            go_wp2_with fail
            refine (put_any w.heap.size _ [] x _ (BufIs.nil _ _) hbw.size (by simp)).mono ?_
            rintro e w3 ⟨v3, rfl, hv3, hb3⟩
            go_wp2_with fail
            refine (put_any w.heap.size _ _ y _ hv3 (Nat.le_trans hbw.size hb3.size) (by simp [be8])).mono ?_
            rintro e w4 ⟨v4, rfl, hv4, hb4⟩
            go_wp2
            go_ret2
            exact ⟨_, _, rfl, HR.out _ _ hv4, HE.out _, (hbw.trans hb3).trans hb4⟩
  · have HR := Lib.hid (show digestS s u = ([], cookieS s) by unfold digestS; rw [if_neg hk])
    go_enter Tryz.func95, Tryz.ntmps95
    go_wp2_with fail
    refine HC.out.mono ?_
    rintro e w1 ⟨ev, rfl, her, hb1⟩
    have hne : ∃ b, ev = .iface 128 (.pointer (some b)) := by
      cases hl : cookieS s with
      | nil => exact absurd hl hk
      | cons k r => rw [hl] at her; obtain ⟨b, u, hv, _⟩ := her; exact ⟨_, hv⟩
    obtain ⟨b, rfl⟩ := hne
    go_wp2
    go_ret2
    rw [HR.out]
    exact ⟨_, _, rfl, BufIs.nil _ _, her, hb1⟩
end Go.Proofs.YtokkokgdjnkbnaaGreatDoor
end
section
/- The reference of mix: Digest. -/
open Go Go.RowKit
namespace Go.Proofs.YtokkokgdjnkbnaaGreatDoor

theorem decDigits_ne (u : Nat) : Lib.decDigits u ≠ [] := by
  intro h
  have h1 := congrArg List.length h
  rw [Lib.decDigits_length] at h1
  rw [Lib.nDigits] at h1
  split at h1 <;> simp at h1
theorem RowIs.below {v : Value} {l : List UInt8} {w w' : World} (h : RowIs v l w) (hb : Below w.heap.size w w') : RowIs v l w' := by
  obtain ⟨g, c, rfl, hc⟩ := h
  refine ⟨g, c, rfl, fun j hj => ?_⟩
  rw [hb.cell (World.block_lt_of_cell? w _ (hc j hj))]
  exact hc j hj

theorem wp_app_run {ops : Array Oper} {rest : List Oper} {o : Oper} {a : Act} {Q : Exit → Act → World → Prop} {w : World} (hgd : o.guard = none) (s x : Operand)
    (ho : o.op = .call { callee := .builtin .append, args := #[s, x], argTypes := #[25, 25] })
    (v1 v2 v' : Value) (w' : World) (hs : a.eval s = v1) (hx : a.eval x = v2) (hrun : (Builtin.append_ #[25, 25] o.type #[v1, v2]).run Tryz.prog w = .ok v' w')
    (h : wpList Tryz.prog ops Q rest (a.put o.dst v') w') : wpList Tryz.prog ops Q (o :: rest) a w := by
  refine wpList_plain hgd fun K hK' => ?_
  unfold Oper.wp
  simp [execOp, ho, resolve, invoke, builtin, hs, hx, hrun, Result.andThen]
  exact hK' _ _ h

theorem be8_len (n : Int) : (be8 n).length = 8 := rfl
theorem be8_take (n : Int) (k : Nat) (h1 : 1 ≤ k) (h2 : k ≤ 8) : (be8 n).take (8 - (k - 1)) = (be8 n).take (8 - k) ++ [b8 n (2 ^ (8 * (k - 1)))] := by
  have : k = 1 ∨ k = 2 ∨ k = 3 ∨ k = 4 ∨ k = 5 ∨ k = 6 ∨ k = 7 ∨ k = 8 := by omega
  rcases this with h | h | h | h | h | h | h | h <;> subst h <;> rfl

set_option maxHeartbeats 16000000 in
set_option maxRecDepth 100000 in
theorem digestR_any (s : ByteArray) (u : Nat) (hu : u < 4294967296) (w : World) :
    Calls Tryz.prog 26 #[.string s, .int .u32 u] w fun e w' => ∃ v ev, e = .returned (.tuple #[v, ev]) ∧ BufIs w.heap.size v (digestS s u).1 w' ∧ LinksIs w.heap.size ev (digestS s u).2 w' ∧ Below w.heap.size w w' := by
  have HC := Lib.hid (cookieR_any s w)
  by_cases hk : cookieS s = []
  · have hkc := hk
    have hsz := cookieS_ok s hk
    have hd20 := dec20 u hu
    rw [hk] at HC
    have hcv := fun w => Lib.run_convert_string_bytes (P := Tryz.prog) w 9 25 5 s Tryz.underlying9 Tryz.underlying25 Tryz.underlying5
    go_enter Tryz.func26, Tryz.ntmps26
    go_wp2_with fail
    refine HC.out.mono ?_
    rintro e w1 ⟨lv, rfl, hlk, hb1⟩
    have hlen := run_links_len hlk
    rw [List.length_nil] at hlen
    clear hlk
    go_wp2_with fail
    have hFC := FullConv.mk w1 s
    refine (digits_any u hu _).mono ?_
    rintro e w2 ⟨dv, rfl, hdv, hb2⟩
    have hFC2 := hFC.below hb2 hFC.lt
    obtain ⟨dh, dc, rfl⟩ : ∃ h c, dv = .slice (some ⟨h, 0, none⟩) (Lib.decDigits u).length c := by
      rcases hdv.shape with ⟨_, h⟩ | ⟨g, c, h, _⟩
      · exact absurd h (decDigits_ne u)
      · exact ⟨g, c, h⟩
    have hb2' := (below_bytesWorld hb1 hb1.size 5 s).trans (hb2.mono (by rw [Lib.bytesWorld_size]; have := hb1.size; omega))
    have hbase : w.heap.size ≤ (Lib.bytesWorld w1 5 s).heap.size := by rw [Lib.bytesWorld_size]; have := hb1.size; omega
    obtain ⟨tv, w3, hrun, hrow, hb3⟩ := run_app_conv (base := w.heap.size) hFC2 hb1.size _ (Lib.decDigits u) (hdv.base hbase) (decDigits_ne u) (by omega) (by omega) 25
    have hb3' := hb2'.trans hb3
    rw [← textS_list] at hrow
    have HROW := Lib.hid hrow
    obtain ⟨tg, tc, rfl, htc⟩ := hrow
    have htl : (textS s u).data.toList.length = s.size + (Lib.decDigits u).length := by rw [textS_list, List.length_append]; rfl
    rw [htl] at hrun
    clear hFC hFC2 hb2 hb3 hdv hb1 hb2'
    have HTC := Lib.hid htc
    clear htc
    have HRUN := Lib.hid hrun
    clear hrun
    go_wp2_with (at_builtin; refine stop ?_)
    refine Stopped.of ?_
    refine wp_app_run rfl (.tmp 23) (.tmp 25) rfl _ _ _ _ rfl rfl HRUN.out ?_
    clear HRUN hcv hlen
    go_wp2_with fail
    go_loopw [7, 8, 10] (fun a b i wr => ∃ k : Nat, k ≤ s.size + (Lib.decDigits u).length ∧ a = .int .u64 (accA ((textS s u).data.toList.take k)) ∧ b = .int .u64 (accB ((textS s u).data.toList.take k)) ∧ i = .int .i64 k ∧ wr = w3) (fun _ _ i _ => s.size + (Lib.decDigits u).length - (intOf i).toNat)
    case atStart =>
      exact ⟨0, Nat.zero_le _, rfl, rfl, rfl, rfl⟩
    case round =>
      obtain ⟨k, hk, rfl, rfl, rfl, rfl⟩ := hrel
      by_cases hlt : k < s.size + (Lib.decDigits u).length
      · have hlt' : (k : Int) < (s.size : Int) + (Lib.decDigits u).length := by omega
        have hltt : k < (textS s u).data.toList.length := by rw [htl]; exact hlt
        have hcell := HTC.out k hltt
        have hby : byteV (textS s u).data.toList[k] = .int .u8 (textS s u).data.toList[k].toNat := rfl
        rw [hby] at hcell
        have htk := Lib.hid (show (textS s u).data.toList.take (k + 1) = (textS s u).data.toList.take k ++ [(textS s u).data.toList[k]] by
          rw [List.take_succ_eq_append_getElem hltt])
        clear hby
        go_wp2
        go_roundw
        case rel => exact ⟨k + 1, by omega, by rw [htk.out, accA_snoc]; rfl, by rw [htk.out, accB_snoc]; rfl, by go_num, trivial⟩
        case measure => simp [intOf]; omega
      · obtain rfl : k = s.size + (Lib.decDigits u).length := by omega
        have hnlt : ¬ ((s.size + (Lib.decDigits u).length : Nat) : Int) < (s.size : Int) + (Lib.decDigits u).length := by omega
        rw [show (textS s u).data.toList.take (s.size + (Lib.decDigits u).length) = (textS s u).data.toList from List.take_of_length_le (by rw [← textS_size]; simp)]
        have HR := Lib.hid (show ∀ v w', BufIs w.heap.size v ([] ++ be8 (mixN 4 (accA (textS s u).data.toList, accB (textS s u).data.toList)).1 ++ be8 (mixN 4 (accA (textS s u).data.toList, accB (textS s u).data.toList)).2) w' → BufIs w.heap.size v (digestS s u).1 w' by
          intro v w' h; unfold digestS; rw [if_pos hkc]; exact h)
        have HE := Lib.hid (show ∀ w', LinksIs w.heap.size (.slice none 0 0) (digestS s u).2 w' by intro w'; unfold digestS; rw [if_pos hkc]; exact LinksIs.nil _ _)
        generalize accA (textS s u).data.toList = x0 at *
        generalize accB (textS s u).data.toList = y0 at *
        go_wp2
        go_loopw [7, 8, 12] (fun a b i wr' => ∃ k : Nat, k ≤ 4 ∧ a = .int .u64 (mixN k (x0, y0)).1 ∧ b = .int .u64 (mixN k (x0, y0)).2 ∧ i = .int .i64 k ∧ wr' = wr) (fun _ _ i _ => 4 - (intOf i).toNat)
        case atStart => exact ⟨0, Nat.zero_le _, rfl, rfl, rfl, rfl⟩
        case round =>
          obtain ⟨k, hk4, rfl, rfl, rfl, rfl⟩ := hrel
          by_cases h4 : k < 4
          · have h4' : (k : Int) < 4 := by omega
            go_wp2
            go_roundw
            case rel => exact ⟨k + 1, by omega, rfl, rfl, by go_num, trivial⟩
            case measure => simp [intOf]; omega
          · have h4n : ¬ (k : Int) < 4 := by omega
            have h4e : 4 = k := by omega
            rw [h4e] at HR
            clear h4e
            generalize (mixN k (x0, y0)).1 = x at *
            generalize (mixN k (x0, y0)).2 = y at *
            have HV := Lib.hid (BufIs.nil w.heap.size wr)
            have HW := Lib.hid (Below.refl w.heap.size wr)
            have HSZ := Lib.hid hb3'.size
            have HB3 := Lib.hid hb3'
            clear hb3'
            go_wp2
            go_loopw [13, 14] (fun v i w2 => ∃ k : Nat, k ≤ 8 ∧ i = .int .i64 ((k : Int) - 1) ∧ BufIs w.heap.size v ([] ++ (be8 x).take (8 - k)) w2 ∧ Below w.heap.size w w2) (fun _ i _ => (intOf i + 1).toNat)
            case atStart => exact ⟨8, Nat.le_refl _, rfl, HV.out, HB3.out⟩
            case round =>
              obtain ⟨k, hk8, rfl, hv, hbw⟩ := hrel
              by_cases hk0 : k = 0
              · have hk1 : ¬ (0 : Int) ≤ (k : Int) - 1 := by omega
                have HV2 := Lib.hid (show BufIs w.heap.size u13 (be8 x) wr by rw [hk0] at hv; exact hv)
                clear hk0
                have HB2 := Lib.hid hbw
                have HS2 := Lib.hid (hbw.size)
                clear hv hbw
                go_wp2
                go_loopw [13, 15] (fun v i w4 => ∃ k : Nat, k ≤ 8 ∧ i = .int .i64 ((k : Int) - 1) ∧ BufIs w.heap.size v (be8 x ++ (be8 y).take (8 - k)) w4 ∧ Below w.heap.size w w4) (fun _ i _ => (intOf i + 1).toNat)
                case atStart => exact ⟨8, Nat.le_refl _, rfl, by simpa using HV2.out, HB2.out⟩
                case round =>
                  obtain ⟨k, hk8, rfl, hv, hbw⟩ := hrel
                  by_cases hk0 : k = 0
                  · have hk1 : ¬ (0 : Int) ≤ (k : Int) - 1 := by omega
                    have HV3 := Lib.hid (show BufIs w.heap.size u13 ([] ++ be8 x ++ be8 y) wr by rw [hk0] at hv; exact hv)
                    clear hk0
                    have HB4 := Lib.hid hbw
                    clear hv hbw
                    go_wp2
                    go_ret2
                    exact ⟨_, _, rfl, HR.out _ _ HV3.out, HE.out _, HB4.out⟩
                  have hk1 : (0 : Int) ≤ (k : Int) - 1 := by omega
                  have HTK := Lib.hid (be8_take y k (by omega) hk8)
                  have HV2 := Lib.hid hv
                  have HB2 := Lib.hid hbw
                  have HS2 := Lib.hid (hbw.size)
                  clear hv hbw
                  go_wp2_with (at_builtin; refine stop ?_)
                  refine Stopped.of ?_
                  refine wp_app_row rfl (.tmp 79) (.tmp 85) rfl w.heap.size u13 (be8 x ++ (be8 y).take (8 - k)) rfl (HV2.out.alloc _) ⟨wr.heap.size, 0, none⟩ 1 1 [b8 y (2 ^ (8 * (k - 1)))] rfl rfl (b8_cells _ y (2 ^ (8 * (k - 1)))) (by simp [be8_len]; omega) (by have := HS2.out; simp; omega) ?_
                  intro v3 w3' hb3 hg3
                  have H3 := Lib.hid hb3
                  have W3 := Lib.hid (below_grown (HB2.out.alloc HS2.out _) (HV2.out.alloc _) (Nat.le_refl _) (by have := HS2.out; simp; omega) hg3)
                  clear hb3 hg3
                  go_wp2
                  go_roundw
                  case rel =>
                    refine ⟨k - 1, by omega, by go_num, ?_, W3.out⟩
                    rw [HTK.out, ← List.append_assoc]
                    exact H3.out
                  case measure => simp [intOf]; omega
              have hk1 : (0 : Int) ≤ (k : Int) - 1 := by omega
              have HTK := Lib.hid (be8_take x k (by omega) hk8)
              have HV2 := Lib.hid hv
              have HB2 := Lib.hid hbw
              have HS2 := Lib.hid (hbw.size)
              clear hv hbw
              go_wp2_with (at_builtin; refine stop ?_)
              refine Stopped.of ?_
              refine wp_app_row rfl (.tmp 67) (.tmp 73) rfl w.heap.size u13 ([] ++ (be8 x).take (8 - k)) rfl (HV2.out.alloc _) ⟨wr.heap.size, 0, none⟩ 1 1 [b8 x (2 ^ (8 * (k - 1)))] rfl rfl (b8_cells _ x (2 ^ (8 * (k - 1)))) (by simp [be8_len]; omega) (by have := HS2.out; simp; omega) ?_
              intro v3 w3' hb3 hg3
              have H3 := Lib.hid hb3
              have W3 := Lib.hid (below_grown (HB2.out.alloc HS2.out _) (HV2.out.alloc _) (Nat.le_refl _) (by have := HS2.out; simp; omega) hg3)
              clear hb3 hg3
              go_wp2
              go_roundw
              case rel =>
                refine ⟨k - 1, by omega, by go_num, ?_, W3.out⟩
                rw [HTK.out, ← List.append_assoc]
                exact H3.out
              case measure => simp [intOf]; omega
  · have HR := Lib.hid (show digestS s u = ([], cookieS s) by unfold digestS; rw [if_neg hk])
    go_enter Tryz.func26, Tryz.ntmps26
    go_wp2_with fail
    refine HC.out.mono ?_
    rintro e w1 ⟨lv, rfl, hlk, hb1⟩
    have hlen := run_links_len hlk
    have hpos : (0 : Int) < (cookieS s).length := by
      cases hl : cookieS s with
      | nil => exact absurd hl hk
      | cons k r => simp
    have HL := Lib.hid hlk
    clear hlk
    go_wp2
    go_ret2
    rw [HR.out]
    exact ⟨_, _, rfl, BufIs.nil _ _, HL.out, hb1⟩
end Go.Proofs.YtokkokgdjnkbnaaGreatDoor
end
section
/- Package mix and its reference: Same; slices.Equal; the layer's sign of life. -/
open Go Go.RowKit
namespace Go.Proofs.YtokkokgdjnkbnaaGreatDoor

/-- a slice of bytes that reads so: nil, empty, or a row's part -/
def SliceIs (v : Value) (l : List UInt8) (w : World) : Prop :=
  ∃ a c, v = .slice a l.length c ∧ ∀ j, (h : j < l.length) → ∃ g o, a = some ⟨g, o, none⟩ ∧ w.cell? ⟨g, o + j, none⟩ = some (byteV l[j])
theorem SliceIs.below {v : Value} {l : List UInt8} {w w' : World} (h : SliceIs v l w) (hb : Below w.heap.size w w') : SliceIs v l w' := by
  obtain ⟨a, c, rfl, hc⟩ := h
  refine ⟨a, c, rfl, fun j hj => ?_⟩
  obtain ⟨g, o, ha, hc⟩ := hc j hj
  exact ⟨g, o, ha, by rw [hb.cell (World.block_lt_of_cell? w _ hc)]; exact hc⟩
theorem BufIs.slice {base : Nat} {v : Value} {l : List UInt8} {w : World} (h : BufIs base v l w) : SliceIs v l w := by
  rcases h.shape with ⟨rfl, rfl⟩ | ⟨g, c, rfl, _⟩
  · exact ⟨none, 0, rfl, fun j hj => absurd hj (Nat.not_lt_zero _)⟩
  · exact ⟨_, c, rfl, fun j hj => ⟨g, 0, rfl, by rw [Nat.zero_add]; exact h.cell j hj⟩⟩
theorem run_slice_string {v : Value} {l : List UInt8} {w : World} (h : SliceIs v l w) :
    (convert 25 9 v).run Tryz.prog w = .ok (.string ⟨l.toArray⟩) w := by
  obtain ⟨a, c, rfl, hc⟩ := h
  cases l with
  | nil =>
    cases a with
    | none => exact run_convert_bytes_nil w 25 5 Tryz.underlying25 Tryz.underlying5 0 c 9 Tryz.underlying9
    | some ad => exact run_convert_bytes_back w 25 9 5 ad c [] Tryz.underlying25 Tryz.underlying5 Tryz.underlying9 (fun j hj => absurd hj (Nat.not_lt_zero _))
  | cons b r =>
    obtain ⟨g, o, rfl, _⟩ := hc 0 (by simp)
    refine run_convert_bytes_back w 25 9 5 ⟨g, o, none⟩ c (b :: r) Tryz.underlying25 Tryz.underlying5 Tryz.underlying9 (fun j hj => ?_)
    obtain ⟨g', o', he, hc'⟩ := hc j hj
    cases he
    rw [Lib.add_plain]
    exact hc'
theorem run_slice_len {v : Value} {l : List UInt8} {w : World} (h : SliceIs v l w) (w2 : World) : (Builtin.len_ #[25] 3 #[v]).run Tryz.prog w2 = .ok (.int .i64 l.length) w2 := by
  have hu := Tryz.underlying25
  obtain ⟨a, c, rfl, _⟩ := h
  go_simp

set_option maxHeartbeats 4000000 in
set_option maxRecDepth 100000 in
theorem equal_any (v1 v2 : Value) (l1 l2 : List UInt8) (w : World) (h1 : SliceIs v1 l1 w) (h2 : SliceIs v2 l2 w) (m1 : l1.length ≤ maxLen) :
    Calls Tryz.prog 96 #[v1, v2] w fun e w' => e = .returned (.bool (decide (l1 = l2))) ∧ Below w.heap.size w w' := by
  unfold maxLen at m1
  obtain ⟨a1, c1, rfl, hc1⟩ := h1
  obtain ⟨a2, c2, rfl, hc2⟩ := h2
  by_cases hl : l1.length = l2.length
  · have hl' : ((l1.length : Int) != (l2.length : Int)) = false := by rw [hl]; simp
    have HL := Lib.hid hl
    have H1 := Lib.hid hc1
    have H2 := Lib.hid hc2
    clear hl hc1 hc2
    go_enter Tryz.func96, Tryz.ntmps96
    go_wp2
    go_loopw [13] (fun i wr => ∃ k n : Nat, k ≤ l1.length ∧ i = .int .i64 k ∧ l1.take k = l2.take k ∧ wr = w.drewN n) (fun i _ => l1.length - (intOf i).toNat)
    case atStart => exact ⟨0, 0, Nat.zero_le _, rfl, rfl, rfl⟩
    case round =>
      obtain ⟨k, n, hk, rfl, htk, rfl⟩ := hrel
      have HTK := Lib.hid htk
      clear htk
      by_cases hlt : k < l1.length
      · have hk2 : k < l2.length := by rw [← HL.out]; exact hlt
        have hki : (k : Int) < (l1.length : Int) := by omega
        have hki2 : (k : Int) < (l2.length : Int) := by omega
        obtain ⟨g1, o1, rfl, hx1⟩ := H1.out k hlt
        obtain ⟨g2, o2, rfl, hx2⟩ := H2.out k hk2
        have hd1 : w.cell? ⟨g1, o1 + k, none⟩ = some (.int .u8 l1[k].toNat) := hx1
        have hd2 : w.cell? ⟨g2, o2 + k, none⟩ = some (.int .u8 l2[k].toNat) := hx2
        clear hx1 hx2
        by_cases he : l1[k] = l2[k]
        · have hne : ((l1[k].toNat : Int) != (l2[k].toNat : Int)) = false := by rw [he]; simp
          have hnx := Lib.hid (show l1.take (k + 1) = l2.take (k + 1) by
            rw [List.take_succ_eq_append_getElem hlt, List.take_succ_eq_append_getElem hk2, HTK.out, he])
          clear he
          go_wp2
          go_quiet (fail)
          go_wp2
          go_roundw
          case rel => exact ⟨k + 1, _, by omega, by go_num, hnx.out, by first | rfl | rw [World.drewN_drewN]⟩
          case measure => simp [intOf]; omega
        · have hne : ((l1[k].toNat : Int) != (l2[k].toNat : Int)) = true := by
            have := byte_neb he
            simpa [bne] using this
          have hf := Lib.hid (show decide (l1 = l2) = false by
            refine decide_eq_false fun e => he ?_
            subst e; rfl)
          clear he
          go_wp2
          go_quiet (fail)
          go_wp2
          go_ret
          exact ⟨ret_bool hf.out.symm, by first | exact below_drewN (below_drewN (Below.refl _ _) _) _ | exact below_drewN (Below.refl _ _) _⟩
      · have hf := Lib.hid (show decide (l1 = l2) = true by
          have h := HTK.out
          rw [List.take_of_length_le (by omega), List.take_of_length_le (by rw [← HL.out]; omega)] at h
          simpa using h)
        obtain rfl : k = l1.length := by omega
        clear hlt
        go_wp2
        go_ret
        exact ⟨ret_bool hf.out.symm, below_drewN (Below.refl _ _) _⟩
  · have hl' : ((l1.length : Int) != (l2.length : Int)) = true := by simp; omega
    have hf : decide (l1 = l2) = false := by simpa using fun e : l1 = l2 => hl (congrArg List.length e)
    clear hl hc1 hc2
    go_enter Tryz.func96, Tryz.ntmps96
    go_wp2
    go_ret
    exact ⟨ret_bool hf.symm, Below.refl _ _⟩

/-- whether a digest is that of a cookie and a challenge -/
def sameS (s : ByteArray) (u : Nat) (d : List UInt8) : Bool := decide (cookieS s = []) && decide (digS (textS s u).data.toList = d)
theorem errIs_cookie (s : ByteArray) (h : cookieS s ≠ []) : errIsS (cookieS s) 140 = true := by
  unfold cookieS at *
  (repeat' split) <;> simp_all [errIsS, lastCode]

set_option maxHeartbeats 4000000 in
set_option maxRecDepth 100000 in
theorem same_any (s : ByteArray) (u : Nat) (dv : Value) (d : List UInt8) (w : World) (hu : u < 4294967296) (hd : SliceIs dv d w) (hP : Pow10 w) :
    Calls Tryz.prog 90 #[.string s, .int .u32 u, dv] w fun e w' => e = .returned (.bool (sameS s u d)) ∧ Below w.heap.size w w' := by
  have HD := Lib.hid (digest_any s u hu w hP)
  have HS := Lib.hid hd
  clear hd
  by_cases hk : cookieS s = []
  · have h1 : digestS s u = (digS (textS s u).data.toList, []) := by unfold digestS; rw [if_pos hk]
    rw [h1] at HD
    have hr := Lib.hid (show sameS s u d = decide (digS (textS s u).data.toList = d) by unfold sameS; simp [hk])
    clear h1
    go_enter Tryz.func90, Tryz.ntmps90
    go_wp2_with fail
    refine HD.out.mono ?_
    rintro e w1 ⟨v, ev, rfl, hv, her, hb1⟩
    go_wp2_with fail
    refine (errors_is _ _ _ _ her).mono ?_
    rintro e w2 ⟨rfl, rfl⟩
    have he : errIsS [] 140 = false := by decide
    go_wp2_with fail
    refine (equal_any v dv _ d _ hv.slice (HS.out.below hb1) (by rw [digS_length]; decide)).mono ?_
    rintro e w3 ⟨rfl, hb3⟩
    go_wp2
    go_ret
    exact ⟨ret_bool hr.out.symm, hb1.trans (hb3.mono hb1.size)⟩
  · have h1 : digestS s u = ([], cookieS s) := by unfold digestS; rw [if_neg hk]
    rw [h1] at HD
    have hr := Lib.hid (show sameS s u d = false by unfold sameS; simp [hk])
    have he := errIs_cookie s hk
    clear h1
    go_enter Tryz.func90, Tryz.ntmps90
    go_wp2_with fail
    refine HD.out.mono ?_
    rintro e w1 ⟨v, ev, rfl, hv, her, hb1⟩
    go_wp2_with fail
    refine (errors_is _ _ _ _ her).mono ?_
    rintro e w2 ⟨rfl, rfl⟩
    go_wp2
    go_ret
    exact ⟨ret_bool hr.out.symm, hb1⟩

/-- secret -/
def secretL : ByteArray := ⟨#[115, 101, 99, 114, 101, 116]⟩
theorem secret_ok : cookieS secretL = [] := by decide +kernel
theorem secret_text (u : Nat) (h : u < 10) : (textS secretL u).data.toList = [115, 101, 99, 114, 101, 116, UInt8.ofNat (48 + u)] := by
  rw [textS_list, Lib.decDigits_one h]; rfl
theorem secret_two : digS (textS secretL 7).data.toList ≠ digS (textS secretL 8).data.toList := by
  rw [secret_text 7 (by omega), secret_text 8 (by omega)]
  decide +kernel
end Go.Proofs.YtokkokgdjnkbnaaGreatDoor
end
section
/- Slices of bytes that are read: with their capacity; cuts; appends of them. No function of the program is looked at here. -/
open Go Go.RowKit
namespace Go.Proofs.YtokkokgdjnkbnaaGreatDoor

/-- the value v is a slice whose elements are l -/
def RSl (v : Value) (l : List UInt8) (w : World) : Prop :=
  ∃ a c, v = .slice a l.length c ∧ l.length ≤ c ∧ c ≤ maxLen ∧ ∀ j, (h : j < l.length) → ∃ g o, a = some ⟨g, o, none⟩ ∧ w.cell? ⟨g, o + j, none⟩ = some (byteV l[j])
theorem RSl.slice {v : Value} {l : List UInt8} {w : World} (h : RSl v l w) : SliceIs v l w := by
  obtain ⟨a, c, hv, _, _, hc⟩ := h
  exact ⟨a, c, hv, hc⟩
theorem RSl.le {v : Value} {l : List UInt8} {w : World} (h : RSl v l w) : l.length ≤ maxLen := by
  obtain ⟨a, c, hv, h1, h2, _⟩ := h; omega
theorem RSl.frame {v : Value} {l : List UInt8} {w w' : World} (h : RSl v l w) (hb : ∀ (p : Addr) x, w.cell? p = some x → w'.cell? p = some x) : RSl v l w' := by
  obtain ⟨a, c, rfl, h1, h2, hc⟩ := h
  refine ⟨a, c, rfl, h1, h2, fun j hj => ?_⟩
  obtain ⟨g, o, ha, hc⟩ := hc j hj
  exact ⟨g, o, ha, hb _ _ hc⟩
theorem rsl_far {v : Value} {l : List UInt8} {w w' : World} (h : RSl v l w) (hb : ∀ (p : Addr) x, w.cell? p = some x → (∃ n, x = .int .u8 n) → w'.cell? p = w.cell? p) : RSl v l w' := by
  obtain ⟨a, c, rfl, h1, h2, hc⟩ := h
  refine ⟨a, c, rfl, h1, h2, fun j hj => ?_⟩
  obtain ⟨g, o, ha, hc⟩ := hc j hj
  exact ⟨g, o, ha, (hb _ _ hc ⟨_, rfl⟩).trans hc⟩
theorem RSl.below {v : Value} {l : List UInt8} {w w' : World} (h : RSl v l w) (hb : Below w.heap.size w w') : RSl v l w' :=
  h.frame fun p x hx => by rw [hb.cell (World.block_lt_of_cell? w _ hx)]; exact hx
theorem RSl.drew {v : Value} {l : List UInt8} {w : World} (h : RSl v l w) : RSl v l w.drew := h.frame fun _ _ hx => hx
theorem RSl.drewN {v : Value} {l : List UInt8} {w : World} (h : RSl v l w) (n : Nat) : RSl v l (w.drewN n) := h.frame fun _ _ hx => hx
theorem RSl.alloc {v : Value} {l : List UInt8} {w : World} (h : RSl v l w) (o : Obj) : RSl v l (w.alloc o) := h.below ((Below.refl _ _).alloc (Nat.le_refl _) o)
theorem RSl.nil (w : World) : RSl (.slice none 0 0) [] w := ⟨none, 0, rfl, Nat.le_refl _, Nat.zero_le _, fun _ hj => absurd hj (Nat.not_lt_zero _)⟩
theorem run_app_nil0 {base : Nat} {v : Value} {l : List UInt8} {w : World} (h : BufIs base v l w) (c : Nat) : (Builtin.append_ #[25, 25] 25 #[v, .slice none 0 c]).run Tryz.prog w = .ok v w := by
  obtain ⟨i0, hi, _⟩ := info_parts Tryz.infoByte
  have ht := Tryz.underlying25
  rcases h.shape with ⟨rfl, rfl⟩ | ⟨g, cap, rfl, _, _, hnc, _⟩
  · simp [Builtin.append_, run_underlying ht, sizeOf, typeInfo, hi, Builtin.lenOf, Builtin.firstCells]
  · simp [Builtin.append_, run_underlying ht, sizeOf, typeInfo, hi, Builtin.lenOf, Builtin.firstCells, hnc, storeCells]
theorem BufIs.rsl {base : Nat} {v : Value} {l : List UInt8} {w : World} (h : BufIs base v l w) : RSl v l w := by
  rcases h.shape with ⟨rfl, rfl⟩ | ⟨g, c, rfl, _, _, h1, h2⟩
  · exact RSl.nil w
  · exact ⟨_, c, rfl, h1, h2, fun j hj => ⟨g, 0, rfl, by rw [Nat.zero_add]; exact h.cell j hj⟩⟩
theorem RSl.shape {v : Value} {l : List UInt8} {w : World} (h : RSl v l w) : ∃ a c, v = .slice a l.length c ∧ l.length ≤ c ∧ c ≤ maxLen := by
  obtain ⟨a, c, hv, h1, h2, _⟩ := h
  exact ⟨a, c, hv, h1, h2⟩

theorem RSl.sub {v : Value} {l : List UInt8} {w : World} (h : RSl v l w) (lo hi : Nat) (h1 : lo ≤ hi) (h2 : hi ≤ l.length) :
    ∃ v', RSl v' ((l.drop lo).take (hi - lo)) w ∧ (∀ w', (Instr.slice 25 v (some (.int .i64 (lo : Int))) (some (.int .i64 (hi : Int))) none).run Tryz.prog w' = .ok v' w') ∧
      (hi = l.length → ∀ w', (Instr.slice 25 v (some (.int .i64 (lo : Int))) none none).run Tryz.prog w' = .ok v' w') ∧
      (lo = 0 → ∀ w', (Instr.slice 25 v none (some (.int .i64 (hi : Int))) none).run Tryz.prog w' = .ok v' w') := by
  obtain ⟨a, c, rfl, hc1, hc2, hc⟩ := h
  have hlen : ((l.drop lo).take (hi - lo)).length = hi - lo := by simp; omega
  refine ⟨.slice (if c = lo then a else a.map (·.add lo)) (hi - lo) (c - lo), ⟨_, c - lo, by rw [hlen], by omega, by omega, ?_⟩, ?_, ?_, ?_⟩
  · intro j hj
    rw [hlen] at hj
    obtain ⟨g, o, rfl, hx⟩ := hc (lo + j) (by omega)
    refine ⟨g, o + lo, ?_, ?_⟩
    · rw [if_neg (by omega)]; simp only [Option.map_some, Addr.add]; split <;> simp_all
    · rw [show o + lo + j = o + (lo + j) by omega, hx]; simp
  all_goals
    have he : Tryz.prog.underlying 25 = some (.slice (Tryz.prog.elem 25)) := by kernel_rfl
    have hs : ∀ w', (sizeOf (Tryz.prog.elem 25)).run Tryz.prog w' = .ok 1 w' := fun w' => by kernel_rfl
    have hm : (if c = lo then a else a.map (·.add (lo * 1))) = (if c = lo then a else a.map (·.add lo)) := by rw [Nat.mul_one]
  · intro w'
    rw [run_slice_lh (P := Tryz.prog) w' 25 a l.length c he .i64 .i64 (lo : Int) (hi : Int) (by omega) (by omega) (by omega), hs]
    simp [Result.andThen, sliced]
  · rintro rfl w'
    rw [run_slice_l (P := Tryz.prog) w' 25 a l.length c he .i64 (lo : Int) (by omega) (by omega), hs]
    simp [Result.andThen, sliced]
  · rintro rfl w'
    rw [run_slice_h (P := Tryz.prog) w' 25 a l.length c he .i64 (hi : Int) (by omega) (by omega), hs]
    simp [Result.andThen, sliced]

/-- append of what a slice holds -/
theorem BufIs.app {base : Nat} {v sv : Value} {l d : List UInt8} {w : World} (h : BufIs base v l w) (hs : RSl sv d w) (hl : l.length + d.length ≤ 140737488355328) (hB : base ≤ w.heap.size) :
    ∃ v' w', (Builtin.append_ #[25, 25] 25 #[v, sv]).run Tryz.prog w = .ok v' w' ∧ BufIs base v' (l ++ d) w' ∧ w.grownBy w' v.ownBlock := by
  obtain ⟨i0, hi, hz0, hz1, hz2⟩ := info_parts Tryz.infoByte
  obtain ⟨a, c, rfl, hc1, hc2, hc⟩ := hs
  by_cases hd : d = []
  · subst hd
    cases a with
    | none => exact ⟨v, w, run_app_nil0 h c, by simpa using h, ⟨rfl, rfl, rfl, Nat.le_refl _, fun _ _ _ => rfl⟩⟩
    | some ad =>
      obtain ⟨v', w', hr, h2, h3, _⟩ := run_append_own_at (P := Tryz.prog) w base 25 25 5 i0 (.int .u8 0) 1 1 Tryz.underlying25 hi hz0 hz1 hz2 rfl (by decide) v l.length (bytesV l) h ad 0 c [] rfl (fun j u hj => by simp at hj) (fun u hu => by cases hu) (by unfold maxLen; omega) (by simp at hl ⊢; omega) hB
      refine ⟨v', w', hr, ?_, h3⟩
      unfold BufIs
      simpa using h2
  · obtain ⟨g, o, rfl, _⟩ := hc 0 (List.length_pos_iff.2 hd)
    obtain ⟨v', w', hr, h2, h3, _⟩ := run_append_own_at (P := Tryz.prog) w base 25 25 5 i0 (.int .u8 0) 1 1 Tryz.underlying25 hi hz0 hz1 hz2 rfl (by decide) v l.length (bytesV l) h ⟨g, o, none⟩ d.length c (bytesV d) (by rw [bytesV_length]; omega) (fun j u hj => by
        have hlt : j < d.length := by
          rcases Nat.lt_or_ge j d.length with h | h
          · exact h
          · simp [bytesV, List.getElem?_eq_none h] at hj
        rw [bytesV_get d j hlt] at hj
        cases hj
        obtain ⟨g', o', he, hx⟩ := hc j hlt
        cases he
        rw [Lib.add_plain]
        exact hx) (bytesV_one _) (by unfold maxLen; omega) (by omega) hB
    refine ⟨v', w', hr, ?_, h3⟩
    unfold BufIs
    rw [bytesV_append, List.length_append]
    exact h2
end Go.Proofs.YtokkokgdjnkbnaaGreatDoor
end
section
/- A []byte argument: what it gives a walk. -/
open Go Go.RowKit Go.ChangeShapes Go.WideShapes Go.ChangeAt
namespace Go.Proofs.YtokkokgdjnkbnaaGreatDoor

set_option maxRecDepth 100000 in
theorem bytes_open {H : Type} {enc : TypeId × Value → H} {W : World} {v : Value} {d : DataW H} {ps : List MemPlace} {r : Reach} {b0 : Nat} (hval : Value.okWide Tryz.prog W r b0 25 v)
    (h : DataW.Trod enc Tryz.prog W 0 (fun _ => true) true 25 v d ps) : (∃ l, SliceIs v l W) ∧ ∀ x ∈ ps, x.block < W.heap.size := by
  obtain ⟨a0, len, cap, rfl⟩ := okWide_slice Tryz.underlying25 hval
  obtain ⟨fuel, hf⟩ := h
  have c5 : Tryz.prog.cellsOf 5 = 1 := by kernel_rfl
  rcases open_ints Tryz.underlying25 Tryz.underlying5 c5 hf with ⟨hcs, hx⟩ | ⟨a, len', cap', zs, hcs, _, hl, hm, hz, hx, hcell, hwz⟩
  · simp [Value.cells] at hcs
    obtain ⟨rfl, rfl, rfl⟩ := hcs
    simp only [Prod.mk.injEq] at hx
    obtain ⟨rfl, rfl⟩ := hx
    exact ⟨⟨[], none, 0, rfl, fun j hj => absurd hj (Nat.not_lt_zero _)⟩, fun x hx => by cases hx⟩
  simp [Value.cells] at hcs
  obtain ⟨rfl, rfl, rfl⟩ := hcs
  simp only [Prod.mk.injEq] at hx
  obtain ⟨rfl, rfl⟩ := hx
  simp only [if_true] at hz
  obtain ⟨b, off, spot⟩ := a
  have hlz : len ≤ zs.length := by omega
  constructor
  · have hll : ((zs.take len).map fun z => UInt8.ofNat z.toNat).length = len := by rw [List.length_map, List.length_take]; omega
    refine ⟨(zs.take len).map fun z => UInt8.ofNat z.toNat, some ⟨b, off, spot⟩, cap, by rw [hll], fun j hj => ?_⟩
    rw [hll] at hj
    have hspot : spot = none := by simpa [Addr.add] using World.cell?_spot (hcell 0 (by omega))
    subst hspot
    refine ⟨b, off, rfl, ?_⟩
    have hc := hcell j (by omega)
    rw [Lib.add_plain] at hc
    rw [hc]
    have hzj : zs.getD j 0 = zs[j]'(by omega) := by simp [List.getD, show j < zs.length by omega]
    have hw := hwz _ (List.getElem_mem (show j < zs.length by omega))
    simp [Lit.wf, IntKind.min, IntKind.max, IntKind.signed, IntKind.bits] at hw
    rw [hzj]
    simp only [List.getElem_map, List.getElem_take, byteV]
    congr 2
    simp
    omega
  · intro x hx
    obtain ⟨j, hj, rfl⟩ := MemPlace.mem_row.1 hx
    have hspot : spot = none := by simpa [Addr.add] using World.cell?_spot (hcell 0 (by omega))
    subst hspot
    have hc := hcell j hj
    rw [Lib.add_plain] at hc
    exact World.block_lt_of_cell? W ⟨b, off + j, none⟩ hc
theorem bytes_row : 25 < Tryz.prog.types.size := by rw [show Tryz.prog.types.size = 229 by kernel_rfl]; decide
end Go.Proofs.YtokkokgdjnkbnaaGreatDoor
end
