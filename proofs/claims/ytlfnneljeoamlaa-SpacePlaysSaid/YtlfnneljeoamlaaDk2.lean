/-
  The reference's Act (func 15).
-/
import Derived.Test.YtlfnneljeoamlaaRef2
namespace Go.Proofs.Ytlfnneljeoamlaa
open Go.RowKit
set_option linter.unusedVariables false

/-- The disk at q, which was made of u, h, s, now is d'; of what was there only its blocks have turned. -/
def DkNext (w : World) (q B : Nat) (u h s : Value) (d' : Rd) (w' : World) : Prop := ∃ u' h' s', DkV w' q B d' u' h' s' ∧ Only (Own q u h s) w w' ∧ ∀ k, Own q u' h' s' k → Own q u h s k ∨ w.heap.size ≤ k
theorem DkNext.refl {w : World} {q B : Nat} {d : Rd} {u h s : Value} (hD : DkV w q B d u h s) : DkNext w q B u h s d w := ⟨u, h, s, hD, Only.refl _ _, fun _ h => .inl h⟩
theorem DkNext.trans {w w1 w2 : World} {q B : Nat} {d2 : Rd} {u h s u1 h1 s1 : Value} (ho : Only (Own q u h s) w w1) (hf : ∀ k, Own q u1 h1 s1 k → Own q u h s k ∨ w.heap.size ≤ k) (h2 : DkNext w1 q B u1 h1 s1 d2 w2) : DkNext w q B u h s d2 w2 := by
  obtain ⟨u2, hh2, s2, hD2, ho2, hf2⟩ := h2
  refine ⟨u2, hh2, s2, hD2, ho.trans_of ho2 (fun i hi hx => ?_), fun k hk => ?_⟩
  · rcases hf i hx with h | h
    · exact h
    · omega
  · rcases hf2 k hk with h | h
    · exact hf k h
    · exact .inr (Nat.le_trans ho.size h)
/-- A row of one more byte. -/
theorem one_new (w : World) (x : Nat) : Reads (w.alloc (.cells #[.int .u16 (x : Int)] 30)) (w.alloc (.cells #[.int .u16 (x : Int)] 30)).heap.size (some ⟨w.heap.size, 0, none⟩) 1 ([x].map uh) := ⟨rfl, fun _ => ⟨w.heap.size, 0, rfl, by simp, fun i v hv => by
  cases i with
  | zero => cases hv; exact (Blk.new w 30 #[.int .u16 (x : Int)]).cell 0
  | succ i => cases hv⟩⟩
/-- A number more in u. -/
theorem push_u {w : World} {q B : Nat} {d : Rd} {u h s : Value} (hD : DkV w q B d u h s) (hB : B ≤ w.heap.size) (x : Nat) (hn : d.u.length ≤ 100000) : ∃ A9 c9 w', (Builtin.append_ #[40, 40] 40 #[u, .slice (some ⟨w.heap.size, 0, none⟩) 1 1]).run Try.prog (w.alloc (.cells #[.int .u16 (x : Int)] 30)) = .ok (.slice A9 (d.u.length + 1) c9) w' ∧
    DkNext w q B u h s { d with u := d.u ++ [x] } (w'.setCell ⟨q, 1, none⟩ (.slice A9 (d.u.length + 1) c9)) ∧ w'.cell? ⟨q, 1, none⟩ = some u ∧ w'.frozen? ⟨q, 1, none⟩ = false := by
  obtain ⟨v', w', hap, hown, hoo, hfr⟩ := app_at hD.ru hB hn [x] _ 1 1 ((Only.refl _ w).alloc (.cells #[.int .u16 (x : Int)] 30)) (by omega) (one_new w x) (by omega)
  obtain ⟨A9, c9, hv9, _⟩ := row_form hown
  subst hv9
  have hown' : w'.ownsRow B 30 1 (.slice A9 (d.u.length + 1) c9) (d.u ++ [x]).length ((d.u ++ [x]).map uh) := by rw [List.length_append]; exact hown
  have hD' := hD.set_u hoo (fun h => hD.qu h) (fun g hg h => hD.uh_ g h hg) (fun g hg h => hD.us_ g h hg) hown' hfr
  have hdq := hD.hd.only hoo (fun h => hD.qu h)
  refine ⟨A9, c9, w', hap, ⟨_, _, _, hD', (hoo.mono (S' := Own q u h s) (fun _ _ h => .inr (.inl h))).setCell (p := ⟨q, 1, none⟩) (.inl (.inl rfl)) _, ?_⟩, hdq.cell 1, hdq.frozen 1⟩
  intro k hk
  rcases hk with h | h | h | h
  · exact .inl (.inl h)
  · exact (hfr k h).imp (fun h => .inr (.inl h)) id
  · exact .inl (.inr (.inr (.inl h)))
  · exact .inl (.inr (.inr (.inr h)))
/-- A number more in h. -/
theorem push_h {w : World} {q B : Nat} {d : Rd} {u h s : Value} (hD : DkV w q B d u h s) (hB : B ≤ w.heap.size) (x : Nat) (hn : d.h.length ≤ 100000) : ∃ A9 c9 w', (Builtin.append_ #[40, 40] 40 #[h, .slice (some ⟨w.heap.size, 0, none⟩) 1 1]).run Try.prog (w.alloc (.cells #[.int .u16 (x : Int)] 30)) = .ok (.slice A9 (d.h.length + 1) c9) w' ∧
    DkNext w q B u h s { d with h := d.h ++ [x] } (w'.setCell ⟨q, 2, none⟩ (.slice A9 (d.h.length + 1) c9)) ∧ w'.cell? ⟨q, 2, none⟩ = some h ∧ w'.frozen? ⟨q, 2, none⟩ = false := by
  obtain ⟨v', w', hap, hown, hoo, hfr⟩ := app_at hD.rh hB hn [x] _ 1 1 ((Only.refl _ w).alloc (.cells #[.int .u16 (x : Int)] 30)) (by omega) (one_new w x) (by omega)
  obtain ⟨A9, c9, hv9, _⟩ := row_form hown
  subst hv9
  have hown' : w'.ownsRow B 30 1 (.slice A9 (d.h.length + 1) c9) (d.h ++ [x]).length ((d.h ++ [x]).map uh) := by rw [List.length_append]; exact hown
  have hD' := hD.set_h hoo (fun h => hD.qh h) (fun g hg h => hD.uh_ g hg h) (fun g hg h => hD.hs_ g h hg) hown' hfr
  have hdq := hD.hd.only hoo (fun h => hD.qh h)
  refine ⟨A9, c9, w', hap, ⟨_, _, _, hD', (hoo.mono (S' := Own q u h s) (fun _ _ h => .inr (.inr (.inl h)))).setCell (p := ⟨q, 2, none⟩) (.inl (.inl rfl)) _, ?_⟩, hdq.cell 2, hdq.frozen 2⟩
  intro k hk
  rcases hk with h | h | h | h
  · exact .inl (.inl h)
  · exact .inl (.inr (.inl h))
  · exact (hfr k h).imp (fun h => .inr (.inr (.inl h))) id
  · exact .inl (.inr (.inr (.inr h)))
/-- A new row in u. -/
theorem new_u {w w1 : World} {q B : Nat} {d : Rd} {u h s v : Value} {l : List Nat} (hD : DkV w q B d u h s) (hB : B ≤ w.heap.size) (hP : PV w 30 (l.map uh) l.length v w1) :
    DkNext w q B u h s { d with u := l } (w1.setCell ⟨q, 1, none⟩ v) ∧ w1.cell? ⟨q, 1, none⟩ = some u ∧ w1.frozen? ⟨q, 1, none⟩ = false := by
  have hfr : ∀ g, v.ownBlock = some g → w.heap.size ≤ g := fun g hg => by
    obtain ⟨A, c, hv, _, _, hown, _⟩ := hP
    exact (row_lt hown g hg).1
  have hown := (by obtain ⟨_, _, _, _, _, h, _⟩ := hP; exact h : w1.ownsRow w.heap.size 30 1 v l.length (l.map uh))
  have hD' := hD.set_u hP.only (fun h => h) (fun _ _ h => h) (fun _ _ h => h) (ownsRow_mono hown hB) (fun g hg => .inr (hfr g hg))
  have hdq := hD.hd.only hP.only (fun h => h)
  refine ⟨⟨_, _, _, hD', (hP.only.mono (S' := Own q u h s) (fun _ _ h => h.elim)).setCell (p := ⟨q, 1, none⟩) (.inl (.inl rfl)) _, ?_⟩, hdq.cell 1, hdq.frozen 1⟩
  intro k hk
  rcases hk with h | h | h | h
  · exact .inl (.inl h)
  · exact .inr (hfr k h)
  · exact .inl (.inr (.inr (.inl h)))
  · exact .inl (.inr (.inr (.inr h)))
/-- A new row in h. -/
theorem new_h {w w1 : World} {q B : Nat} {d : Rd} {u h s v : Value} {l : List Nat} (hD : DkV w q B d u h s) (hB : B ≤ w.heap.size) (hP : PV w 30 (l.map uh) l.length v w1) :
    DkNext w q B u h s { d with h := l } (w1.setCell ⟨q, 2, none⟩ v) ∧ w1.cell? ⟨q, 2, none⟩ = some h ∧ w1.frozen? ⟨q, 2, none⟩ = false := by
  have hfr : ∀ g, v.ownBlock = some g → w.heap.size ≤ g := fun g hg => by
    obtain ⟨A, c, hv, _, _, hown, _⟩ := hP
    exact (row_lt hown g hg).1
  have hown := (by obtain ⟨_, _, _, _, _, h, _⟩ := hP; exact h : w1.ownsRow w.heap.size 30 1 v l.length (l.map uh))
  have hD' := hD.set_h hP.only (fun h => h) (fun _ _ h => h) (fun _ _ h => h) (ownsRow_mono hown hB) (fun g hg => .inr (hfr g hg))
  have hdq := hD.hd.only hP.only (fun h => h)
  refine ⟨⟨_, _, _, hD', (hP.only.mono (S' := Own q u h s) (fun _ _ h => h.elim)).setCell (p := ⟨q, 2, none⟩) (.inl (.inl rfl)) _, ?_⟩, hdq.cell 2, hdq.frozen 2⟩
  intro k hk
  rcases hk with h | h | h | h
  · exact .inl (.inl h)
  · exact .inl (.inr (.inl h))
  · exact .inr (hfr k h)
  · exact .inl (.inr (.inr (.inr h)))
/-- A new row in s. -/
theorem new_s {w w1 : World} {q B : Nat} {d : Rd} {u h s v : Value} {l : List Nat} (hD : DkV w q B d u h s) (hB : B ≤ w.heap.size) (hP : PV w 30 (l.map uh) l.length v w1) :
    DkNext w q B u h s { d with s := l } (w1.setCell ⟨q, 3, none⟩ v) ∧ w1.cell? ⟨q, 3, none⟩ = some s ∧ w1.frozen? ⟨q, 3, none⟩ = false := by
  have hfr : ∀ g, v.ownBlock = some g → w.heap.size ≤ g := fun g hg => by
    obtain ⟨A, c, hv, _, _, hown, _⟩ := hP
    exact (row_lt hown g hg).1
  have hown := (by obtain ⟨_, _, _, _, _, h, _⟩ := hP; exact h : w1.ownsRow w.heap.size 30 1 v l.length (l.map uh))
  have hD' := hD.set_s hP.only (fun h => h) (fun _ _ h => h) (fun _ _ h => h) (ownsRow_mono hown hB) (fun g hg => .inr (hfr g hg))
  have hdq := hD.hd.only hP.only (fun h => h)
  refine ⟨⟨_, _, _, hD', (hP.only.mono (S' := Own q u h s) (fun _ _ h => h.elim)).setCell (p := ⟨q, 3, none⟩) (.inl (.inl rfl)) _, ?_⟩, hdq.cell 3, hdq.frozen 3⟩
  intro k hk
  rcases hk with h | h | h | h
  · exact .inl (.inl h)
  · exact .inl (.inr (.inl h))
  · exact .inl (.inr (.inr (.inl h)))
  · exact .inr (hfr k h)
end Go.Proofs.Ytlfnneljeoamlaa
