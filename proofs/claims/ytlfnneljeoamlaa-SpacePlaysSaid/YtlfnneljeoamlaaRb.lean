/-
  What the round of SpacePlays keeps; Release and Back in the reference's disks.
-/
import Derived.Test.YtlfnneljeoamlaaOps
namespace Go.Proofs.Ytlfnneljeoamlaa
open Go.RowKit
set_option linter.unusedVariables false

theorem c0 : ((0 : Nat) : Int) = 0 := rfl
theorem c1 : ((1 : Nat) : Int) = 1 := rfl
theorem c2 : ((2 : Nat) : Int) = 2 := rfl
theorem c3 : ((3 : Nat) : Int) = 3 := rfl
theorem c4 : ((4 : Nat) : Int) = 4 := rfl
theorem c5 : ((5 : Nat) : Int) = 5 := rfl
theorem disk_next {w w' : World} {q B : Nat} {d' : Rd} {u u' h s : Value} (hD : DkV w' q B d' u' h s) (ho : Only (fun k => k = q ∨ u.ownBlock = some k) w w') (hf : ∀ g, u'.ownBlock = some g → u.ownBlock = some g ∨ w.heap.size ≤ g) : DkNext w q B u h s d' w' :=
  ⟨u', h, s, hD, ho.mono (fun k _ hk => hk.elim .inl (fun h => .inr (.inl h))), fun k hk => by
    rcases hk with h | h | h | h
    · exact .inl (.inl h)
    · exact (hf k h).imp (fun h => .inr (.inl h)) id
    · exact .inl (.inr (.inr (.inl h)))
    · exact .inl (.inr (.inr (.inr h)))⟩
/-- A block that is new to the disks is kept by a call on one of them. -/
theorem DkNext.kept {w w' : World} {q B : Nat} {d d' : Rd} {u h s : Value} (hD : DkV w q B d u h s) (hN : DkNext w q B u h s d' w') {g : Nat} (hg : g < w.heap.size) (hn : ¬ Own q u h s g) (i : Nat) : w'.cell? ⟨g, i, none⟩ = w.cell? ⟨g, i, none⟩ := by
  obtain ⟨_, _, _, _, ho, _⟩ := hN
  exact Blk.cell_only (a := ⟨g, i, none⟩) ho hg hn

/-- What holds ahead of a round. -/
def PI (w0 : World) (p : Nat) (b : Nat → Nat) (gw B : Nat) (q : Nat → Nat) (w : World) : Prop :=
  ∃ L d u h s, Mem w0 w p b L gw B q d u h s ∧ ∀ j, j ≤ 1 → Rel (L j) (d j)

theorem rel_fresh (n : Nat) (hn : 1 ≤ n) : Rel (List.replicate n (0, false)) ⟨n, [], [], []⟩ := by
  have hno : ∀ (f : Place → Prop), ¬ f (0, false) → ∀ a, (a ∈ ([] : List Nat)) ↔ 1 ≤ a ∧ ∃ p, (List.replicate n ((0 : Int), false))[a]? = some p ∧ f p := by
    intro f hf a
    refine ⟨fun h => absurd h List.not_mem_nil, ?_⟩
    rintro ⟨_, p, hp, e⟩
    rw [List.getElem?_replicate] at hp
    split at hp
    · cases hp; exact absurd e hf
    · cases hp
  refine ⟨by simp, hno (fun p => p.1 = 1) (by simp), hno (fun p => p.1 = 2) (by simp), hno (fun p => p.2 = true) (by simp), List.nodup_nil, List.nodup_nil, List.nodup_nil, ?_, ?_⟩
  · rw [List.getElem?_replicate, if_pos (by omega)]
  · intro x hx
    rw [(List.mem_replicate.1 hx).2]
    exact .inl rfl

theorem Mem.ne {w0 w : World} {p : Nat} {b : Nat → Nat} {L : St} {gw B : Nat} {q : Nat → Nat} {d : Nat → Rd} {u h s : Nat → Value} (m : Mem w0 w p b L gw B q d u h s) : q 0 ≠ q 1 := fun e => m.apart 0 1 (by omega) (by omega) (by omega) (q 0) (.inl rfl) (.inl e)
/-- Nothing is held any more, on disk j. -/
theorem Mem.drop {w0 w : World} {p : Nat} {b : Nat → Nat} {L : St} {gw B : Nat} {q : Nat → Nat} {d : Nat → Rd} {u h s : Nat → Value} (m : Mem w0 w p b L gw B q d u h s) (j : Nat) (hj : j ≤ 1) :
    ∃ u' h' s', Mem w0 (w.setCell ⟨q j, 2, none⟩ (.slice none 0 0)) p b L gw B q (upd d j { d j with h := [] }) u' h' s' := m.disk hj (held_nil (m.dk j hj))
theorem pi_release {w0 w : World} {p : Nat} {b : Nat → Nat} {L : St} {gw B : Nat} {q : Nat → Nat} {d : Nat → Rd} {u h s : Nat → Value} (m : Mem w0 w p b (allAt 0 L) gw B q d u h s) (hR : ∀ j, j ≤ 1 → Rel (L j) (d j)) :
    PI w0 p b gw B q (((w.setCell ⟨q 0, 2, none⟩ (.slice none 0 0)).setCell ⟨q 1, 2, none⟩ (.slice none 0 0)).drew) := by
  obtain ⟨u1, h1, s1, m1⟩ := m.drop 0 (by omega)
  obtain ⟨u2, h2, s2, m2⟩ := m1.drop 1 (by omega)
  refine ⟨_, _, _, _, _, m2.next (Only.refl _ _).drew, fun j hj => ?_⟩
  have e : allAt 0 L j = freed 0 (L j) := if_pos hj
  have hj' : j = 0 ∨ j = 1 := by omega
  rcases hj' with rfl | rfl
  · rw [e, upd_other _ _ (by omega), upd_same]; exact rel_release (hR 0 hj)
  · rw [e, upd_same, upd_other _ _ (by omega)]; exact rel_release (hR 1 hj)

/-- Behind k rounds of Back's loop. -/
def PB (w0 : World) (p : Nat) (b : Nat → Nat) (gw B : Nat) (q : Nat → Nat) (L : St) (k : Nat) (w : World) : Prop :=
  ∃ d u h s, Mem w0 w p b (allAt 1 L) gw B q d u h s ∧ ∀ j, j ≤ 1 → if j < k then Rel (freed 1 (L j)) (d j) else Rel (L j) (d j)
theorem PB.done {w0 w : World} {p : Nat} {b : Nat → Nat} {gw B : Nat} {q : Nat → Nat} {L : St} {k : Nat} (h : PB w0 p b gw B q L k w) (hk : 2 ≤ k) : PI w0 p b gw B q w := by
  obtain ⟨d, u, h, s, m, hR⟩ := h
  refine ⟨_, _, _, _, _, m, fun j hj => ?_⟩
  have e : allAt 1 L j = freed 1 (L j) := if_pos hj
  have := hR j hj
  rw [if_pos (by omega)] at this
  rw [e]; exact this
theorem PB.start {w0 w : World} {p : Nat} {b : Nat → Nat} {gw B : Nat} {q : Nat → Nat} {L : St} {d : Nat → Rd} {u h s : Nat → Value} (m : Mem w0 w p b (allAt 1 L) gw B q d u h s) (hR : ∀ j, j ≤ 1 → Rel (L j) (d j)) : PB w0 p b gw B q L 0 w :=
  ⟨d, u, h, s, m, fun j hj => by rw [if_neg (by omega)]; exact hR j hj⟩
theorem PB.next {w0 w w' : World} {p : Nat} {b : Nat → Nat} {gw B : Nat} {q : Nat → Nat} {L : St} {k : Nat} (h : PB w0 p b gw B q L k w) (ho : Only (fun _ => False) w w') : PB w0 p b gw B q L k w' := by
  obtain ⟨d, u, h, s, m, hR⟩ := h
  exact ⟨d, u, h, s, m.next ho, hR⟩
/-- One round of Back's loop. -/
theorem PB.step {w0 w : World} {p : Nat} {b : Nat → Nat} {gw B : Nat} {q : Nat → Nat} {L : St} {k : Nat} (h : PB w0 p b gw B q L k w) (hk : k ≤ 1) :
    w.cell? ⟨gw, k, none⟩ = some (.pointer (some ⟨q k, 0, none⟩)) ∧
    ∃ Au nu cu Ah nh ch A9 n9 c9 w' vh, w.cell? ⟨q k, 1, none⟩ = some (.slice Au nu cu) ∧ w.cell? ⟨q k, 2, none⟩ = some (.slice Ah nh ch) ∧
      (Builtin.append_ #[40, 40] 40 #[.slice Au nu cu, .slice Ah nh ch]).run Try.prog w = .ok (.slice A9 n9 c9) w' ∧
      w'.cell? ⟨q k, 1, none⟩ = some (.slice Au nu cu) ∧ w'.frozen? ⟨q k, 1, none⟩ = false ∧
      (w'.setCell ⟨q k, 1, none⟩ (.slice A9 n9 c9)).cell? ⟨gw, k, none⟩ = some (.pointer (some ⟨q k, 0, none⟩)) ∧
      (w'.setCell ⟨q k, 1, none⟩ (.slice A9 n9 c9)).cell? ⟨q k, 2, none⟩ = some vh ∧ (w'.setCell ⟨q k, 1, none⟩ (.slice A9 n9 c9)).frozen? ⟨q k, 2, none⟩ = false ∧
      w'.cell? ⟨gw, k, none⟩ = some (.pointer (some ⟨q k, 0, none⟩)) ∧ w'.cell? ⟨q k, 2, none⟩ = some (.slice Ah nh ch) ∧
      PB w0 p b gw B q L (k + 1) ((w'.setCell ⟨q k, 1, none⟩ (.slice A9 n9 c9)).setCell ⟨q k, 2, none⟩ (.slice none 0 0)) := by
  obtain ⟨d, u, h, s, m, hR⟩ := h
  have hsm := by
    have := hR k hk
    rw [if_neg (by omega)] at this
    have hl := m.sat.len k hk
    have e : (allAt 1 L k).length = (L k).length := by
      show (if k ≤ 1 then freed 1 (L k) else L k).length = _
      rw [if_pos hk]; simp [freed]
    rw [e] at hl
    exact rel_small this hl
  obtain ⟨s1, s2, s3, s4⟩ := hsm
  obtain ⟨Au, cu, hu, hRu, _⟩ := row_form (m.dk k hk).ru
  obtain ⟨Ah, ch, hh, hRh, _⟩ := row_form (m.dk k hk).rh
  obtain ⟨A9, c9, w', hap, hN, t1, t2, t3⟩ := back_u (m.dk k hk) m.hB (by omega) (by omega)
  obtain ⟨u1, h1, s1', m1⟩ := m.disk hk hN
  obtain ⟨u2, h2, s2', m2⟩ := m1.drop k hk
  have y1 : w.cell? ⟨q k, 1, none⟩ = some (u k) := (m.dk k hk).hd.cell 1
  have y2 : w.cell? ⟨q k, 2, none⟩ = some (h k) := (m.dk k hk).hd.cell 2
  have v1 := (m1.dk k hk).hd.cell 2
  have v2 := (m1.dk k hk).hd.frozen 2
  refine ⟨m.row k hk, Au, _, cu, Ah, _, ch, A9, _, c9, w', _, by rw [y1, hu], by rw [y2, hh], by rw [← hu, ← hh]; exact hap, by rw [t1, hu], t2, m1.row k hk, v1, v2, ?_, by rw [t3, hh], ⟨_, _, _, _, m2, fun j hj => ?_⟩⟩
  · have hne : gw ≠ q k := fun e => m.ngw k hk (q k) (.inl rfl) e.symm
    have r := m1.row k hk
    rwa [World.cell?_setCell_other _ _ _ _ (by intro e; cases e; exact hne rfl)] at r
  by_cases hjk : j = k
  · subst hjk
    have := hR j hj
    rw [if_neg (by omega)] at this
    rw [if_pos (by omega), upd_same, upd_same]
    exact rel_back this
  · rw [upd_other _ _ hjk, upd_other _ _ hjk]
    have := hR j hj
    by_cases hl : j < k
    · rw [if_pos hl] at this
      rw [if_pos (by omega)]; exact this
    · rw [if_neg hl] at this
      rw [if_neg (by omega)]; exact this
end Go.Proofs.Ytlfnneljeoamlaa
