/- Texts laid together: SlOpen. -/
import Derived.Test.YtlahagabcnmdiaaDoorP26
section
/- A slice of structs handed in: what it gives a walk, whatever the elements are. -/
open Go Go.RowKit Go.ChangeShapes Go.WideShapes Go.ChangeAt Go.Joins Go.Deep
namespace Go.Proofs.YtlahagabcnmdiaaDoor
set_option maxRecDepth 100000 in
theorem slice_all {H α : Type} {enc : TypeId × Value → H} {W : World} {T E : TypeId} {sz bys : Nat} (Q : α → List Value → Prop) (hu : Tryd.prog.underlying T = some (.slice E)) (hc6 : Tryd.prog.cellsOf E = sz) (hby : Tryd.prog.bytesOf E = bys) (hpos : 0 < sz)
    {n : Nat} {v : Value} {x : DataW H × List MemPlace} (h : DataW.trod enc Tryd.prog W 0 (fun _ => true) true n T [v] = some x) (hsz : ∀ q ∈ x.1.weights Tryd.prog T, q ≤ reachBytes)
    (hel : ∀ (n' : Nat) (e : DataW H × List MemPlace) (cs : List Value), n' < n → DataW.trod enc Tryd.prog W 0 (fun _ => true) true n' E cs = some e → (∀ q ∈ e.1.weights Tryd.prog E, q ≤ reachBytes) → ∃ a : α, Q a cs ∧ ∀ p ∈ e.2, p.block < W.heap.size) :
    (∃ (l : List α) (a0 : Option Addr) (cap : Nat), v = .slice a0 l.length cap ∧ (l.length ≤ cap ∧ cap ≤ maxLen) ∧ l.length * bys ≤ 140737488351232 ∧
      ∀ i (h : i < l.length), ∃ g o cs, a0 = some ⟨g, o, none⟩ ∧ cs.length = sz ∧ (∀ j, j < sz → W.cell? ⟨g, o + (i * sz + j), none⟩ = cs[j]?) ∧ Q l[i] cs) ∧ ∀ p ∈ x.2, p.block < W.heap.size := by
  rcases DataW.trod_slice hu h with ⟨hcs, hx5⟩ | ⟨a, len, cap, elems, rest, n', hn', hcs, hx5, _, hl, hm, hel', hget, hsp, _⟩
  · obtain rfl : v = .slice none 0 0 := by simpa using hcs
    subst hx5
    exact ⟨⟨[], none, 0, rfl, ⟨Nat.le_refl _, Nat.zero_le _⟩, by simp, fun i h => absurd h (Nat.not_lt_zero _)⟩, fun p hp => by cases hp⟩
  obtain rfl : v = .slice (some a) len cap := by simpa using hcs
  subst hx5
  obtain ⟨hrl, hrest⟩ := hsp rfl
  have hel2 : ∀ j, j < cap → ∃ e cs', (elems ++ rest)[j]? = some e ∧ W.cells? 0 (a.add (j * sz)) sz = some cs' ∧ DataW.trod enc Tryd.prog W 0 (fun _ => true) true n' E cs' = some e := by
    intro j hj
    by_cases hjl : j < len
    · have h := hget j hjl
      rw [hc6] at h
      have he : elems[j]? = some (elems[j]'(by omega)) := List.getElem?_eq_getElem (by omega)
      rw [he] at h
      obtain ⟨cs', hc, ht⟩ := Option.bind_eq_some_iff.1 h
      exact ⟨_, cs', by rw [List.getElem?_append_left (by omega)]; exact he, hc, ht⟩
    · have h := hrest (j - len) (by omega)
      rw [hc6, show len + (j - len) = j by omega] at h
      have he : rest[j - len]? = some (rest[j - len]'(by omega)) := List.getElem?_eq_getElem (by omega)
      rw [he] at h
      obtain ⟨cs', hc, ht⟩ := Option.bind_eq_some_iff.1 h
      exact ⟨_, cs', by rw [List.getElem?_append_right (by omega), hel']; exact he, hc, ht⟩
  have hw5 : ∀ e ∈ elems ++ rest, ∀ q ∈ e.1.weights Tryd.prog E, q ≤ reachBytes := by
    intro e he q hq
    refine hsz q ?_
    rw [DataW.weights, hu]
    simp only [List.mem_cons, List.mem_append]
    rcases List.mem_append.1 he with he | he
    · exact .inr (.inl (weightsAll_mem (List.mem_map.2 ⟨e, he, rfl⟩) q hq))
    · exact .inr (.inr (weightsAll_mem (List.mem_map.2 ⟨e, he, rfl⟩) q hq))
  have hcap : cap * bys ≤ 140737488351232 := by
    have := hsz (((elems.map (·.1)).length + (rest.map (·.1)).length) * bys) (by
      rw [DataW.weights, hu]
      simp only [hby]
      exact List.mem_cons_self)
    simp [reachBytes] at this
    have e : elems.length + rest.length = cap := by omega
    rw [e] at this
    exact this
  have hall : ∀ j, j < cap → ∃ t cs', W.cells? 0 (a.add (j * sz)) sz = some cs' ∧ Q t cs' ∧ ∀ e, (elems ++ rest)[j]? = some e → ∀ p ∈ e.2, p.block < W.heap.size := by
    intro j hj
    obtain ⟨e, cs', he, hc, ht⟩ := hel2 j hj
    obtain ⟨t, ht1, ht2⟩ := hel n' e cs' (by omega) ht (hw5 e (List.mem_of_getElem? he))
    exact ⟨t, cs', hc, ht1, fun e' he' => by rw [he] at he'; cases he'; exact ht2⟩
  obtain ⟨b, off, spot⟩ := a
  have hspot : 0 < cap → spot = none := fun h0 => by
    obtain ⟨_, cs', hc, _⟩ := hall 0 h0
    obtain ⟨_, hcl, hat⟩ := World.cells?_some hc
    have h1 := hat 0 hpos
    rw [List.getElem?_eq_getElem (by omega)] at h1
    simpa [Addr.add] using World.cell?_spot h1
  obtain ⟨l, hll, hl2⟩ := list_choose len (fun j hj => hall j (by omega))
  constructor
  · refine ⟨l, some ⟨b, off, spot⟩, cap, by rw [hll], ⟨by omega, hm⟩, Nat.le_trans (Nat.mul_le_mul_right _ (by omega)) hcap, fun j hj => ?_⟩
    have hs := hspot (by omega)
    subst hs
    obtain ⟨cs', hc, ht, _⟩ := hl2 j hj
    obtain ⟨_, hcl, hat⟩ := World.cells?_some hc
    refine ⟨b, off, cs', rfl, hcl, fun q hq => ?_, ht⟩
    have := hat q hq
    rw [Lib.add_plain, Lib.add_plain] at this
    rw [← this, Nat.add_assoc]
  · intro p hp
    simp only [List.mem_append] at hp
    have h3 : ∀ e ∈ elems ++ rest, ∀ p ∈ e.2, p.block < W.heap.size := by
      intro e he p hp
      obtain ⟨j, hj, rfl⟩ := List.getElem_of_mem he
      obtain ⟨_, _, _, _, h3⟩ := hall j (by rw [List.length_append] at hj; omega)
      exact h3 _ (List.getElem?_eq_getElem hj) p hp
    rcases hp with hp | hp
    · obtain ⟨j, hj, rfl⟩ := MemPlace.mem_row.1 hp
      rw [hc6, show elems.length + rest.length = cap by omega] at hj
      have hjc : j / sz < cap := Nat.div_lt_of_lt_mul (by rw [Nat.mul_comm]; exact hj)
      obtain ⟨_, cs', hc, _⟩ := hall (j / sz) hjc
      obtain ⟨_, hcl, hat⟩ := World.cells?_some hc
      have hs := hspot (Nat.lt_of_le_of_lt (Nat.zero_le _) hjc)
      subst hs
      have h1 := hat 0 hpos
      rw [List.getElem?_eq_getElem (by omega), Lib.add_plain, Lib.add_plain] at h1
      exact World.block_lt_of_cell? W ⟨b, off + j / sz * sz + 0, none⟩ h1
    · obtain ⟨e, he, hp⟩ := List.mem_flatMap.1 hp
      exact h3 e he p hp
end Go.Proofs.YtlahagabcnmdiaaDoor
end
