/-
  A disk of the reference in memory (DkV): its four cells and its three rows, each in a block of its own; what a new row in one of its cells does.
-/
import Derived.Test.YtlfnneljeoamlaaRef1
namespace Go.Proofs.Ytlfnneljeoamlaa
open Go.RowKit
set_option linter.unusedVariables false

structure Rd where
  n : Nat
  u : List Nat
  h : List Nat
  s : List Nat

structure DkV (w : World) (q B : Nat) (d : Rd) (u h s : Value) : Prop where
  hd : Blk w q 42 #[.int .i64 d.n, u, h, s]
  ru : w.ownsRow B 30 1 u d.u.length (d.u.map uh)
  rh : w.ownsRow B 30 1 h d.h.length (d.h.map uh)
  rs : w.ownsRow B 30 1 s d.s.length (d.s.map uh)
  bq : B ≤ q
  qu : u.ownBlock ≠ some q
  qh : h.ownBlock ≠ some q
  qs : s.ownBlock ≠ some q
  uh_ : ∀ g, u.ownBlock = some g → h.ownBlock ≠ some g
  us_ : ∀ g, u.ownBlock = some g → s.ownBlock ≠ some g
  hs_ : ∀ g, h.ownBlock = some g → s.ownBlock ≠ some g
/-- The blocks of a disk. -/
def Own (q : Nat) (u h s : Value) (k : Nat) : Prop := k = q ∨ u.ownBlock = some k ∨ h.ownBlock = some k ∨ s.ownBlock = some k

theorem row_lt {w : World} {B : Nat} {e : TypeId} {sz n : Nat} {v : Value} {xs : List Value} (h : w.ownsRow B e sz v n xs) : ∀ g, v.ownBlock = some g → B ≤ g ∧ g < w.heap.size := fun g hg => by
  rcases h.2 with ⟨h1, _⟩ | ⟨g', cap, cur, h1, hb, hh, _⟩
  · subst h1; cases hg
  · subst h1
    cases hg
    refine ⟨hb, ?_⟩
    rcases Nat.lt_or_ge g' w.heap.size with h | h
    · exact h
    · rw [Array.getElem?_eq_none h] at hh; cases hh
theorem row_only {w w' : World} {S : Nat → Prop} {B : Nat} {e : TypeId} {sz n : Nat} {v : Value} {xs : List Value} (h : w.ownsRow B e sz v n xs) (ho : Only S w w') (hs : ∀ g, v.ownBlock = some g → ¬ S g) : w'.ownsRow B e sz v n xs := by
  refine ⟨h.1, ?_⟩
  have hl := row_lt h
  rcases h.2 with hn | ⟨g, cap, cur, hv, hg, hh, rest⟩
  · exact .inl hn
  · subst hv
    exact .inr ⟨g, cap, cur, rfl, hg, (ho.block g (hl g rfl).2 (hs g rfl)).trans hh, rest⟩
theorem row_form {w : World} {B : Nat} {e : TypeId} {n : Nat} {v : Value} {xs : List Value} (h : w.ownsRow B e 1 v n xs) : ∃ A c, v = .slice A n c ∧ Reads w w.heap.size A n xs ∧ n ≤ c ∧ (A = none → n = 0 ∧ c = 0) := by
  have h' := h
  rcases h.2 with ⟨h1, h2⟩ | ⟨g, cap, cur, h1, hb, hh, hc, _⟩
  · subst h1; subst h2; exact ⟨none, 0, rfl, Reads.of_own h', Nat.le_refl _, fun _ => ⟨rfl, rfl⟩⟩
  · subst h1; exact ⟨_, cap, rfl, Reads.of_own h', hc, fun h => by cases h⟩
theorem row_set {w : World} {B q i : Nat} {e : TypeId} {sz n : Nat} {v u : Value} {xs : List Value} (h : w.ownsRow B e sz v n xs) (hq : v.ownBlock ≠ some q) : (w.setCell ⟨q, i, none⟩ u).ownsRow B e sz v n xs :=
  row_only h ((Only.refl (· = q) w).setCell (p := ⟨q, i, none⟩) (.inl rfl) u) (fun g hg e => by subst e; exact hq hg)
theorem DkV.lt {w : World} {q B : Nat} {d : Rd} {u h s : Value} (hD : DkV w q B d u h s) : ∀ k, Own q u h s k → B ≤ k ∧ k < w.heap.size := by
  rintro k (rfl | h | h | h)
  · exact ⟨hD.bq, hD.hd.lt⟩
  · exact row_lt hD.ru k h
  · exact row_lt hD.rh k h
  · exact row_lt hD.rs k h
theorem DkV.only {w w' : World} {S : Nat → Prop} {q B : Nat} {d : Rd} {u h s : Value} (hD : DkV w q B d u h s) (ho : Only S w w') (hs : ∀ k, Own q u h s k → ¬ S k) : DkV w' q B d u h s :=
  ⟨hD.hd.only ho (hs q (.inl rfl)), row_only hD.ru ho (fun g hg => hs g (.inr (.inl hg))), row_only hD.rh ho (fun g hg => hs g (.inr (.inr (.inl hg)))), row_only hD.rs ho (fun g hg => hs g (.inr (.inr (.inr hg)))), hD.bq, hD.qu, hD.qh, hD.qs, hD.uh_, hD.us_, hD.hs_⟩

/-- One number more at a row's end, which lies in a row of its own. -/
theorem app_at {w : World} {B n : Nat} {v : Value} {l : List Nat} (h : w.ownsRow B 30 1 v n (l.map uh)) (hB : B ≤ w.heap.size) (hn : n ≤ 100000) (ys : List Nat) (A' : Option Addr) (m c : Nat) {w2 : World} (ho : Only (fun _ => False) w w2) (hm : 0 < m) (hy : Reads w2 w2.heap.size A' m (ys.map uh)) (hm2 : m ≤ 100000) :
    ∃ v' w', (Builtin.append_ #[40, 40] 40 #[v, .slice A' m c]).run Try.prog w2 = .ok v' w' ∧ w'.ownsRow B 30 1 v' (n + m) ((l ++ ys).map uh) ∧ Only (fun k => v.ownBlock = some k) w w' ∧ ∀ g, v'.ownBlock = some g → v.ownBlock = some g ∨ w.heap.size ≤ g := by
  obtain ⟨i30, hi, hi0, hi1, hi2⟩ := info30
  have h2 := row_only h ho (fun _ _ x => x)
  obtain ⟨b', o', rfl, _, hyc⟩ := hy.2 hm
  obtain ⟨v', w', hr, hown, hg, _, hat⟩ := run_append_own_at (P := Try.prog) w2 B 40 40 30 i30 (.int .u16 0) 1 2 und40 hi hi0 hi1 hi2 rfl (by omega) v n _ h2 ⟨b', o', none⟩ m c (ys.map uh) (by simpa using hy.1) (fun j u hu => by rw [add_lit]; exact hyc j u hu) uh_one (by unfold maxLen; omega) (by omega) (Nat.le_trans hB ho.size)
  refine ⟨v', w', hr, by rw [List.map_append]; exact hown, ?_, fun g hg' => ?_⟩
  · exact (ho.mono (S' := fun k => v.ownBlock = some k) (fun _ _ h => h.elim)).trans (Only.of_grown_own (S := fun k => v.ownBlock = some k) hg (fun g e => e))
  · rcases hat with e | e
    · exact .inl (e ▸ hg')
    · rw [e] at hg'; cases hg'; exact .inr ho.size
theorem DkV.set_u {w w' : World} {S : Nat → Prop} {q B : Nat} {d : Rd} {u h s v' : Value} {l : List Nat} (hD : DkV w q B d u h s) (ho : Only S w w') (hq : ¬ S q) (ha : ∀ g, h.ownBlock = some g → ¬ S g) (hb : ∀ g, s.ownBlock = some g → ¬ S g)
    (hv : w'.ownsRow B 30 1 v' l.length (l.map uh)) (hf : ∀ g, v'.ownBlock = some g → u.ownBlock = some g ∨ w.heap.size ≤ g) : DkV (w'.setCell ⟨q, 1, none⟩ v') q B { d with u := l } v' h s := by
  have hvq : v'.ownBlock ≠ some q := fun h => by
    rcases hf q h with h | h
    · exact hD.qu h
    · have := hD.hd.lt; omega
  have hva : ∀ g, v'.ownBlock = some g → h.ownBlock ≠ some g := fun g h => by
    rcases hf g h with h | h
    · exact hD.uh_ g h
    · intro h'; have := (row_lt hD.rh g h').2; omega
  have hvb : ∀ g, v'.ownBlock = some g → s.ownBlock ≠ some g := fun g h => by
    rcases hf g h with h | h
    · exact hD.us_ g h
    · intro h'; have := (row_lt hD.rs g h').2; omega
  have ra := row_set (i := 1) (u := v') (row_only hD.rh ho ha) hD.qh
  have rb := row_set (i := 1) (u := v') (row_only hD.rs ho hb) hD.qs
  have rv := row_set (i := 1) (u := v') hv hvq
  exact ⟨(hD.hd.only ho hq).set_ 1 v', rv, ra, rb, hD.bq, hvq, hD.qh, hD.qs, hva, hvb, hD.hs_⟩
theorem DkV.set_h {w w' : World} {S : Nat → Prop} {q B : Nat} {d : Rd} {u h s v' : Value} {l : List Nat} (hD : DkV w q B d u h s) (ho : Only S w w') (hq : ¬ S q) (ha : ∀ g, u.ownBlock = some g → ¬ S g) (hb : ∀ g, s.ownBlock = some g → ¬ S g)
    (hv : w'.ownsRow B 30 1 v' l.length (l.map uh)) (hf : ∀ g, v'.ownBlock = some g → h.ownBlock = some g ∨ w.heap.size ≤ g) : DkV (w'.setCell ⟨q, 2, none⟩ v') q B { d with h := l } u v' s := by
  have hvq : v'.ownBlock ≠ some q := fun h => by
    rcases hf q h with h | h
    · exact hD.qh h
    · have := hD.hd.lt; omega
  have hva : ∀ g, v'.ownBlock = some g → u.ownBlock ≠ some g := fun g h => by
    rcases hf g h with h | h
    · exact fun h' => hD.uh_ g h' h
    · intro h'; have := (row_lt hD.ru g h').2; omega
  have hvb : ∀ g, v'.ownBlock = some g → s.ownBlock ≠ some g := fun g h => by
    rcases hf g h with h | h
    · exact hD.hs_ g h
    · intro h'; have := (row_lt hD.rs g h').2; omega
  have ra := row_set (i := 2) (u := v') (row_only hD.ru ho ha) hD.qu
  have rb := row_set (i := 2) (u := v') (row_only hD.rs ho hb) hD.qs
  have rv := row_set (i := 2) (u := v') hv hvq
  exact ⟨(hD.hd.only ho hq).set_ 2 v', ra, rv, rb, hD.bq, hD.qu, hvq, hD.qs, fun g h h' => hva g h' h, hD.us_, hvb⟩
theorem DkV.set_s {w w' : World} {S : Nat → Prop} {q B : Nat} {d : Rd} {u h s v' : Value} {l : List Nat} (hD : DkV w q B d u h s) (ho : Only S w w') (hq : ¬ S q) (ha : ∀ g, u.ownBlock = some g → ¬ S g) (hb : ∀ g, h.ownBlock = some g → ¬ S g)
    (hv : w'.ownsRow B 30 1 v' l.length (l.map uh)) (hf : ∀ g, v'.ownBlock = some g → s.ownBlock = some g ∨ w.heap.size ≤ g) : DkV (w'.setCell ⟨q, 3, none⟩ v') q B { d with s := l } u h v' := by
  have hvq : v'.ownBlock ≠ some q := fun h => by
    rcases hf q h with h | h
    · exact hD.qs h
    · have := hD.hd.lt; omega
  have hva : ∀ g, v'.ownBlock = some g → u.ownBlock ≠ some g := fun g h => by
    rcases hf g h with h | h
    · exact fun h' => hD.us_ g h' h
    · intro h'; have := (row_lt hD.ru g h').2; omega
  have hvb : ∀ g, v'.ownBlock = some g → h.ownBlock ≠ some g := fun g h => by
    rcases hf g h with h | h
    · exact fun h' => hD.hs_ g h' h
    · intro h'; have := (row_lt hD.rh g h').2; omega
  have ra := row_set (i := 3) (u := v') (row_only hD.ru ho ha) hD.qu
  have rb := row_set (i := 3) (u := v') (row_only hD.rh ho hb) hD.qh
  have rv := row_set (i := 3) (u := v') hv hvq
  exact ⟨(hD.hd.only ho hq).set_ 3 v', ra, rb, rv, hD.bq, hD.qu, hD.qh, hvq, hD.uh_, fun g h h' => hva g h' h, fun g h h' => hvb g h' h⟩
end Go.Proofs.Ytlfnneljeoamlaa
