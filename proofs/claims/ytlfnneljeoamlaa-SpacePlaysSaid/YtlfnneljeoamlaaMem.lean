/-
  What holds of the world in SpacePlays: a space, two disks, the row of the disks' pointers, each apart from the others; and what a call on one of them leaves.
-/
import Derived.Test.YtlfnneljeoamlaaSame
namespace Go.Proofs.Ytlfnneljeoamlaa
open Go.RowKit
set_option linter.unusedVariables false

def upd {α : Type} (f : Nat → α) (j : Nat) (x : α) : Nat → α := fun i => if i = j then x else f i
theorem upd_same {α : Type} (f : Nat → α) (j : Nat) (x : α) : upd f j x j = x := if_pos rfl
theorem upd_other {α : Type} (f : Nat → α) {i j : Nat} (x : α) (h : i ≠ j) : upd f j x i = f i := if_neg h

structure Mem (w0 w : World) (p : Nat) (b : Nat → Nat) (L : St) (gw B : Nat) (q : Nat → Nat) (d : Nat → Rd) (u h s : Nat → Value) : Prop where
  sat : Sat w p b L
  dk : ∀ j, j ≤ 1 → DkV w (q j) B (d j) (u j) (h j) (s j)
  row : ∀ j, j ≤ 1 → w.cell? ⟨gw, j, none⟩ = some (.pointer (some ⟨q j, 0, none⟩))
  lt : gw < w.heap.size
  apart : ∀ i j, i ≤ 1 → j ≤ 1 → i ≠ j → ∀ k, Own (q i) (u i) (h i) (s i) k → ¬ Own (q j) (u j) (h j) (s j) k
  ngw : ∀ j, j ≤ 1 → ∀ k, Own (q j) (u j) (h j) (s j) k → k ≠ gw
  pB : p < B
  bB : ∀ j, j ≤ 1 → b j < B
  gB : B ≤ gw
  lo : w0.heap.size ≤ p ∧ ∀ j, j ≤ 1 → w0.heap.size ≤ b j
  hB : B ≤ w.heap.size
  o : Only (fun _ => False) w0 w
theorem Mem.both {w0 w : World} {p : Nat} {b : Nat → Nat} {L : St} {gw B : Nat} {q : Nat → Nat} {d : Nat → Rd} {u h s : Nat → Value} (m : Mem w0 w p b L gw B q d u h s) (hR : ∀ j, j ≤ 1 → Rel (L j) (d j)) : Both w p b L gw B q d u h s :=
  ⟨m.sat, m.dk, m.row, m.lt, hR⟩
theorem Mem.next {w0 w w' : World} {p : Nat} {b : Nat → Nat} {L : St} {gw B : Nat} {q : Nat → Nat} {d : Nat → Rd} {u h s : Nat → Value} (m : Mem w0 w p b L gw B q d u h s) (ho : Only (fun _ => False) w w') : Mem w0 w' p b L gw B q d u h s :=
  ⟨m.sat.only ho (fun x => x) (fun x => x) (fun x => x), fun j hj => (m.dk j hj).only ho (fun _ _ x => x), fun j hj => (Blk.cell_only (a := ⟨gw, j, none⟩) ho m.lt (fun x => x)).trans (m.row j hj), Nat.lt_of_lt_of_le m.lt ho.size, m.apart, m.ngw, m.pB, m.bB, m.gB, m.lo, Nat.le_trans m.hB ho.size, m.o.trans ho⟩
theorem rows2_not {b : Nat → Nat} {B k : Nat} (hb : ∀ j, j ≤ 1 → b j < B) (hk : B ≤ k) : ¬ Rows2 b k := by
  rintro (e | e)
  · have := hb 0 (by omega); omega
  · have := hb 1 (by omega); omega
/-- A call on the space. -/
theorem Mem.space {w0 w w' : World} {p : Nat} {b : Nat → Nat} {L L' : St} {gw B : Nat} {q : Nat → Nat} {d : Nat → Rd} {u h s : Nat → Value} (m : Mem w0 w p b L gw B q d u h s) (hs : Sat w' p b L') (ho : Only (Rows2 b) w w') : Mem w0 w' p b L' gw B q d u h s := by
  have hn : ∀ k, B ≤ k → ¬ Rows2 b k := fun k hk => rows2_not m.bB hk
  refine ⟨hs, fun j hj => (m.dk j hj).only ho (fun k hk => hn k ((m.dk j hj).lt k hk).1), fun j hj => (Blk.cell_only (a := ⟨gw, j, none⟩) ho m.lt (hn gw m.gB)).trans (m.row j hj), Nat.lt_of_lt_of_le m.lt ho.size, m.apart, m.ngw, m.pB, m.bB, m.gB, m.lo, Nat.le_trans m.hB ho.size, m.o.trans_of ho (fun i hi e => ?_)⟩
  rcases e with e | e
  · have := m.lo.2 0 (by omega); omega
  · have := m.lo.2 1 (by omega); omega
/-- A call on disk j. -/
theorem Mem.disk {w0 w w' : World} {p : Nat} {b : Nat → Nat} {L : St} {gw B : Nat} {q : Nat → Nat} {d : Nat → Rd} {u h s : Nat → Value} (m : Mem w0 w p b L gw B q d u h s) {j : Nat} (hj : j ≤ 1) {d' : Rd} (hN : DkNext w (q j) B (u j) (h j) (s j) d' w') :
    ∃ u' h' s', Mem w0 w' p b L gw B q (upd d j d') u' h' s' := by
  obtain ⟨u', h', s', hD, ho, hf⟩ := hN
  have hO : ∀ k, Own (q j) (u j) (h j) (s j) k → B ≤ k ∧ k < w.heap.size := (m.dk j hj).lt
  have hps : ∀ k, k < B → ¬ Own (q j) (u j) (h j) (s j) k := fun k hk h => by have := (hO k h).1; omega
  have hB2 := m.hB
  have own' : ∀ i, i ≤ 1 → ∀ k, Own (q i) (upd u j u' i) (upd h j h' i) (upd s j s' i) k → Own (q i) (u i) (h i) (s i) k ∨ (i = j ∧ w.heap.size ≤ k) := by
    intro i hi k hk
    by_cases hij : i = j
    · subst hij
      rw [upd_same, upd_same, upd_same] at hk
      exact (hf k hk).imp id (fun h => ⟨rfl, h⟩)
    · rw [upd_other _ _ hij, upd_other _ _ hij, upd_other _ _ hij] at hk
      exact .inl hk
  refine ⟨upd u j u', upd h j h', upd s j s', m.sat.only ho (hps _ (m.bB 0 (by omega))) (hps _ (m.bB 1 (by omega))) (hps _ m.pB), fun i hi => ?_, fun i hi => (Blk.cell_only (a := ⟨gw, i, none⟩) ho m.lt (fun h => m.ngw j hj gw h rfl)).trans (m.row i hi), Nat.lt_of_lt_of_le m.lt ho.size, fun i i' hi hi' hne k hk hk' => ?_, fun i hi k hk => ?_, m.pB, m.bB, m.gB, m.lo, Nat.le_trans m.hB ho.size, m.o.trans_of ho (fun i hi e => ?_)⟩
  · by_cases hij : i = j
    · subst hij
      rw [upd_same, upd_same, upd_same, upd_same]
      exact hD
    · rw [upd_other _ _ hij, upd_other _ _ hij, upd_other _ _ hij, upd_other _ _ hij]
      exact (m.dk i hi).only ho (fun k hk h => m.apart i j hi hj hij k hk h)
  · rcases own' i hi k hk with h1 | ⟨rfl, h1⟩ <;> rcases own' i' hi' k hk' with h2 | ⟨rfl, h2⟩
    · exact m.apart i i' hi hi' hne k h1 h2
    · have := ((m.dk i hi).lt k h1).2; omega
    · have := ((m.dk i' hi').lt k h2).2; omega
    · exact hne rfl
  · rcases own' i hi k hk with h1 | ⟨rfl, h1⟩
    · exact m.ngw i hi k h1
    · have := m.lt; omega
  · have := (hO i e).1
    have := m.lo.1
    have := m.pB
    omega
end Go.Proofs.Ytlfnneljeoamlaa
