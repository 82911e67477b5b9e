/-
  The calls of SpacePlays' round, put together: the reference's Act by its number; the space's calls at no disk; what is held, in the reference.
-/
import Derived.Test.YtlfnneljeoamlaaMem
import Derived.Test.YtlfnneljeoamlaaNil
namespace Go.Proofs.Ytlfnneljeoamlaa
open Go.RowKit
set_option linter.unusedVariables false

theorem actR {w : World} {q B : Nat} {d : Rd} {u h s : Value} (hD : DkV w q B d u h s) (hB : B ≤ w.heap.size) (hs : d.small) (k : Nat) (hk : k ≤ 3) (x : Nat) (hx : x ≤ 65535) :
    Calls Try.prog 15 #[.pointer (some ⟨q, 0, none⟩), .int .i64 (k : Int), .int .u16 (x : Int)] w fun e w' => e = .returned (.int .i64 (d.act k x).1) ∧ DkNext w q B u h s (d.act k x).2 w' := by
  unfold Rd.act
  by_cases hb : x = 0 ∨ d.n ≤ x
  · rw [if_pos hb]
    rcases hb with h0 | h0
    · exact act_zero hD hB hs x hx h0 k
    · exact act_far hD hB hs x hx h0 k
  · rw [if_neg hb]
    have h1 : 1 ≤ x := by omega
    have h2 : x < d.n := by omega
    have hk4 : k = 0 ∨ k = 1 ∨ k = 2 ∨ k = 3 := by omega
    rcases hk4 with rfl | rfl | rfl | rfl
    · rw [if_pos rfl]
      by_cases hu : x ∈ d.u
      · rw [if_pos (.inl hu)]; exact mark_used hD hB hs x hx h1 h2 hu
      · by_cases hh : x ∈ d.h
        · rw [if_pos (.inr hh)]; exact mark_held hD hB hs x hx h1 h2 hu hh
        · rw [if_neg (fun h => h.elim hu hh)]; exact mark_yes hD hB hs x hx h1 h2 hu hh
    · rw [if_neg (by omega), if_pos rfl]
      by_cases hu : x ∈ d.u
      · rw [if_pos hu]; exact give_yes hD hB hs x hx h1 h2 hu
      · rw [if_neg hu]; exact give_no hD hB hs x hx h1 h2 hu
    · rw [if_neg (by omega), if_neg (by omega), if_pos rfl]
      by_cases hu : x ∈ d.u
      · rw [if_pos hu]; exact hold_yes hD hB hs x hx h1 h2 hu
      · rw [if_neg hu]; exact hold_no hD hB hs x hx h1 h2 hu
    · rw [if_neg (by omega), if_neg (by omega), if_neg (by omega)]
      exact sick_yes hD hB hs x hx h1 h2

/-- The space's calls 1 to 4: the function, and what it does to a row. -/
def opF (k : Nat) : Nat := if k = 0 then 16 else if k = 1 then 9 else if k = 2 then 10 else 11
def opL (k : Nat) (l : List Place) (x : Nat) : Int × List Place := if k = 0 then turnL 0 1 l x else if k = 1 then turnL 1 0 l x else if k = 2 then turnL 1 2 l x else sickL l x
theorem rel_op {l : List Place} {d : Rd} (hR : Rel l d) (k : Nat) (hk : k ≤ 3) (x : Nat) : (opL k l x).1 = (d.act k x).1 ∧ Rel (opL k l x).2 (d.act k x).2 := by
  have hk4 : k = 0 ∨ k = 1 ∨ k = 2 ∨ k = 3 := by omega
  rcases hk4 with rfl | rfl | rfl | rfl
  · exact rel_mark hR x
  · exact rel_give hR x
  · exact rel_hold hR x
  · exact rel_sick hR x
theorem opS {w : World} {p : Nat} {b : Nat → Nat} {L : St} (hs : Sat w p b L) {j : Nat} (hj : j ≤ 1) (k : Nat) (hk : k ≤ 3) (x : Nat) (hx : x ≤ 65535) :
    Calls Try.prog (opF k) #[.pointer (some ⟨p, 0, none⟩), .int .i64 (j : Int), .int .u16 (x : Int)] w fun e w' => e = .returned (.int .i64 (opL k (L j) x).1) ∧ Sat w' p b (L.upd j (opL k (L j) x).2) ∧ Only (Rows2 b) w w' := by
  have hk4 : k = 0 ∨ k = 1 ∨ k = 2 ∨ k = 3 := by omega
  rcases hk4 with rfl | rfl | rfl | rfl
  · have := mark_in hs hj x hx; rw [turnAt_eq] at this; exact this
  · have := give_in hs hj x hx; rw [turnAt_eq] at this; exact this
  · have := hold_in hs hj x hx; rw [turnAt_eq] at this; exact this
  · have := sick_in hs hj x hx; rw [sickAt_eq] at this; exact this

theorem act_out (p : Addr) (k : Nat) (hk : k = 16 ∨ k = 9 ∨ k = 10 ∨ k = 11) (d a : Int) (w : World) (h : d < 0 ∨ 1 < d) (ha : 0 ≤ a) (ha' : a ≤ 65535) :
    Calls Try.prog k #[.pointer (some p), .int .i64 d, .int .u16 a] w fun e w' => e = .returned (.int .i64 1) ∧ Only (fun _ => False) w w' := by
  rcases hk with rfl | rfl | rfl | rfl
  · go_enter Try.func16, Try.ntmps16
    go_wp2_with (first | (go_at_call 22; refine (turn_any _ _ _).mono ?_; rintro e w' ⟨rfl, rfl⟩) | (go_at_call 21; refine (with_out _ _ _ _ _ h ha ha').mono ?_; rintro e w' ⟨rfl, rfl⟩))
    go_ret
    exact ⟨rfl, ((Only.refl _ _).alloc _).alloc _⟩
  · go_enter Try.func9, Try.ntmps9
    go_wp2_with (first | (go_at_call 22; refine (turn_any _ _ _).mono ?_; rintro e w' ⟨rfl, rfl⟩) | (go_at_call 21; refine (with_out _ _ _ _ _ h ha ha').mono ?_; rintro e w' ⟨rfl, rfl⟩))
    go_ret
    exact ⟨rfl, ((Only.refl _ _).alloc _).alloc _⟩
  · go_enter Try.func10, Try.ntmps10
    go_wp2_with (first | (go_at_call 22; refine (turn_any _ _ _).mono ?_; rintro e w' ⟨rfl, rfl⟩) | (go_at_call 21; refine (with_out _ _ _ _ _ h ha ha').mono ?_; rintro e w' ⟨rfl, rfl⟩))
    go_ret
    exact ⟨rfl, ((Only.refl _ _).alloc _).alloc _⟩
  · go_enter Try.func11, Try.ntmps11
    go_wp2_with (go_at_call 21; refine (with_out _ _ _ _ _ h ha ha').mono ?_; rintro e w' ⟨rfl, rfl⟩)
    go_ret
    exact ⟨rfl, Only.refl _ _⟩

theorem upd_rel {L : St} {d : Nat → Rd} (hR : ∀ j, j ≤ 1 → Rel (L j) (d j)) {j : Nat} {l' : List Place} {d' : Rd} (h : Rel l' d') : ∀ i, i ≤ 1 → Rel ((L.upd j l') i) (upd d j d' i) := by
  intro i hi
  by_cases hij : i = j
  · subst hij; rw [St.upd_same, upd_same]; exact h
  · rw [St.upd_other _ _ hij, upd_other _ _ hij]; exact hR i hi

/-- Nothing is held any more. -/
theorem held_nil {w : World} {q B : Nat} {d : Rd} {u h s : Value} (hD : DkV w q B d u h s) : DkNext w q B u h s { d with h := [] } (w.setCell ⟨q, 2, none⟩ (.slice none 0 0)) := by
  have hD' := hD.set_h (S := fun _ => False) (Only.refl _ w) (fun h => h) (fun _ _ h => h) (fun _ _ h => h) (World.ownsRow_nil w B 30 1) (v' := .slice none 0 0) (l := []) (fun g hg => by cases hg)
  refine ⟨_, _, _, hD', ((Only.refl (Own q u h s) w).setCell (p := ⟨q, 2, none⟩) (.inl (.inl rfl)) _), fun k hk => ?_⟩
  rcases hk with h | h | h | h
  · exact .inl (.inl h)
  · exact .inl (.inr (.inl h))
  · cases h
  · exact .inl (.inr (.inr (.inr h)))
/-- All that are held are used. -/
theorem back_u {w : World} {q B : Nat} {d : Rd} {u h s : Value} (hD : DkV w q B d u h s) (hB : B ≤ w.heap.size) (hn : d.u.length ≤ 90000) (hm : d.h.length ≤ 90000) : ∃ A9 c9 w', (Builtin.append_ #[40, 40] 40 #[u, h]).run Try.prog w = .ok (.slice A9 (d.u.length + d.h.length) c9) w' ∧
    DkNext w q B u h s { d with u := d.u ++ d.h } (w'.setCell ⟨q, 1, none⟩ (.slice A9 (d.u.length + d.h.length) c9)) ∧ w'.cell? ⟨q, 1, none⟩ = some u ∧ w'.frozen? ⟨q, 1, none⟩ = false ∧ w'.cell? ⟨q, 2, none⟩ = some h := by
  obtain ⟨Ah, ch, hh, hRh, _⟩ := row_form hD.rh
  have key : ∃ v' w', (Builtin.append_ #[40, 40] 40 #[u, h]).run Try.prog w = .ok v' w' ∧ w'.ownsRow B 30 1 v' (d.u.length + d.h.length) ((d.u ++ d.h).map uh) ∧ Only (fun k => u.ownBlock = some k) w w' ∧ ∀ g, v'.ownBlock = some g → u.ownBlock = some g ∨ w.heap.size ≤ g := by
    rcases Nat.eq_zero_or_pos d.h.length with h0 | h0
    · have he : d.h = [] := List.eq_nil_of_length_eq_zero h0
      obtain ⟨Au, cu, hu, _, hc, hAu⟩ := row_form hD.ru
      obtain ⟨i30, hi, _⟩ := info30
      refine ⟨u, w, ?_, by rw [he, List.append_nil]; exact hD.ru, Only.refl _ w, fun g hg => .inl hg⟩
      rw [hh, h0, hu]
      exact run_append_zero w 40 40 30 i30 und40 hi Au Ah d.u.length cu ch hc hAu
    · have := app_at hD.ru hB (by omega) d.h Ah d.h.length ch (Only.refl _ w) h0 hRh (by omega)
      rw [← hh] at this
      exact this
  obtain ⟨v', w', hap, hown, hoo, hfr⟩ := key
  obtain ⟨A9, c9, hv9, _⟩ := row_form hown
  subst hv9
  have hown' : w'.ownsRow B 30 1 (.slice A9 (d.u.length + d.h.length) c9) (d.u ++ d.h).length ((d.u ++ d.h).map uh) := by rw [List.length_append]; exact hown
  have hD' := hD.set_u hoo (fun h => hD.qu h) (fun g hg h => hD.uh_ g h hg) (fun g hg h => hD.us_ g h hg) hown' hfr
  have hdq := hD.hd.only hoo (fun h => hD.qu h)
  refine ⟨A9, c9, w', hap, ⟨_, _, _, hD', (hoo.mono (S' := Own q u h s) (fun _ _ h => .inr (.inl h))).setCell (p := ⟨q, 1, none⟩) (.inl (.inl rfl)) _, ?_⟩, hdq.cell 1, hdq.frozen 1, hdq.cell 2⟩
  intro k hk
  rcases hk with h | h | h | h
  · exact .inl (.inl h)
  · exact (hfr k h).imp (fun h => .inr (.inl h)) id
  · exact .inl (.inr (.inr (.inl h)))
  · exact .inl (.inr (.inr (.inr h)))
end Go.Proofs.Ytlfnneljeoamlaa
