/-
  The walk of the law SpaceNil: it returns true, whatever its four numbers are.
-/
import Derived.Test.YtlfnneljeoamlaaW6
import Derived.WalkKit
import Derived.WalkLawsBesides
import Derived.WalkSpells
import Derived.BigQuiet
import Derived.Deep.QuietTactic
import Derived.Deep.RegionHeld3
import Derived.Deep.LoopGhost
import Derived.Outline
import Derived.Lib.Hide
namespace Go.Proofs.Ytlfnneljeoamlaa
open Go.RowKit
theorem act_nil (k : Nat) (hk : k = 16 ∨ k = 9 ∨ k = 10 ∨ k = 11) (d a : Int) (w : World) :
    Calls Try.prog k #[.pointer none, .int .i64 d, .int .u16 a] w fun e w' => e = .returned (.int .i64 2) ∧ Only (fun _ => False) w w' := by
  rcases hk with rfl | rfl | rfl | rfl
  · go_enter Try.func16, Try.ntmps16
    go_wp2_with (first | (go_at_call 22; refine (turn_any _ _ _).mono ?_; rintro e w' ⟨rfl, rfl⟩) | (go_at_call 21; refine (with_nil _ _ _ _).mono ?_; rintro e w' ⟨rfl, rfl⟩))
    go_ret
    exact ⟨rfl, ((Only.refl _ _).alloc _).alloc _⟩
  · go_enter Try.func9, Try.ntmps9
    go_wp2_with (first | (go_at_call 22; refine (turn_any _ _ _).mono ?_; rintro e w' ⟨rfl, rfl⟩) | (go_at_call 21; refine (with_nil _ _ _ _).mono ?_; rintro e w' ⟨rfl, rfl⟩))
    go_ret
    exact ⟨rfl, ((Only.refl _ _).alloc _).alloc _⟩
  · go_enter Try.func10, Try.ntmps10
    go_wp2_with (first | (go_at_call 22; refine (turn_any _ _ _).mono ?_; rintro e w' ⟨rfl, rfl⟩) | (go_at_call 21; refine (with_nil _ _ _ _).mono ?_; rintro e w' ⟨rfl, rfl⟩))
    go_ret
    exact ⟨rfl, ((Only.refl _ _).alloc _).alloc _⟩
  · go_enter Try.func11, Try.ntmps11
    go_wp2_with (go_at_call 21; refine (with_nil _ _ _ _).mono ?_; rintro e w' ⟨rfl, rfl⟩)
    go_ret
    exact ⟨rfl, Only.refl _ _⟩

theorem all_nil (t : Int) (w : World) : Calls Try.prog 24 #[.pointer none, .int .i64 t] w fun e w' => e = .returned (.tuple #[]) ∧ w = w' := by
  go_enter Try.func24, Try.ntmps24
  go_wp2
  go_loop [7] (fun i => ∃ k : Nat, k ≤ 2 ∧ i = .int .i64 k) (fun i => 2 - (intOf i).toNat)
  case atStart => exact ⟨0, by omega, rfl⟩
  case round =>
    obtain ⟨i, hi, rfl⟩ := hrel
    by_cases hlt : i < 2
    · go_wp2_with (go_at_call 20; refine (disk_nil _ _).mono ?_; rintro e w' ⟨rfl, rfl⟩)
      go_loop [15] (fun v => v = .int .i64 0) (fun _ => 0)
      case atStart => rfl
      case round =>
        subst hrel
        go_wp2
        go_round
        case rel => exact ⟨i + 1, by omega, by go_num⟩
        case measure => simp [intOf]; omega
    · go_wp2
      go_end0
      exact ⟨rfl, rfl⟩
theorem release_nil (w : World) : Calls Try.prog 12 #[.pointer none] w fun e w' => e = .returned (.tuple #[]) ∧ w = w' := by
  go_enter Try.func12, Try.ntmps12
  go_wp2_with (go_at_call 24; refine (all_nil _ _).mono ?_; rintro e w' ⟨rfl, rfl⟩)
  go_end0
  exact ⟨rfl, rfl⟩
theorem back_nil (w : World) : Calls Try.prog 17 #[.pointer none] w fun e w' => e = .returned (.tuple #[]) ∧ w = w' := by
  go_enter Try.func17, Try.ntmps17
  go_wp2_with (go_at_call 24; refine (all_nil _ _).mono ?_; rintro e w' ⟨rfl, rfl⟩)
  go_end0
  exact ⟨rfl, rfl⟩

theorem Only.none_trans {w w1 w2 : World} (h : Only (fun _ => False) w w1) (k : Only (fun _ => False) w1 w2) : Only (fun _ => False) w w2 := h.trans k

/-- What New gives, whatever the numbers: nil and ErrArg, or a space and OK. -/
theorem new_any (a b : Int) (w : World) :
    Calls Try.prog 7 #[.int .i64 a, .int .i64 b] w fun e w' => Only (fun _ => False) w w' ∧
      (((1 ≤ a ∧ a ≤ 4096 ∧ 1 ≤ b ∧ b ≤ 4096) ∧ ∃ p, e = .returned (.tuple #[.pointer (some p), .int .i64 0])) ∨
       (¬ (1 ≤ a ∧ a ≤ 4096 ∧ 1 ≤ b ∧ b ≤ 4096) ∧ e = .returned (.tuple #[.pointer none, .int .i64 1]))) := by
  by_cases ha : 1 ≤ a ∧ a ≤ 4096
  · obtain ⟨n, rfl⟩ := Int.eq_ofNat_of_zero_le (show 0 ≤ a by omega)
    by_cases hb : 1 ≤ b ∧ b ≤ 4096
    · exact (new_w n b w ha.1 ha.2 hb.1 hb.2).mono fun e w' ⟨h1, _, h2⟩ => ⟨h2, .inl ⟨⟨ha.1, ha.2, hb.1, hb.2⟩, _, h1⟩⟩
    · exact (new_bad2 n b w (by omega) (by omega) (by omega)).mono fun e w' ⟨h1, h2⟩ => ⟨h2, .inr ⟨by omega, h1⟩⟩
  · exact (new_bad1 a b w (by omega)).mono fun e w' ⟨h1, h2⟩ => ⟨h2, .inr ⟨by omega, h1⟩⟩

set_option maxHeartbeats 1000000 in
theorem spaceNil_yes (a b d x : Int) (hx0 : 0 ≤ x) (hx1 : x ≤ 65535) (w : World) (h1 : 1 ≤ a) (h2 : a ≤ 4096) (h3 : 1 ≤ b) (h4 : b ≤ 4096) :
    Calls Try.prog 5 #[.int .i64 a, .int .i64 b, .int .i64 d, .int .u16 x] w fun e w' => e = .returned (.bool true) ∧ Below w.heap.size w w' := by
  go_enter Try.func5, Try.ntmps5
  go_wp2_with fail
  refine (release_nil _).mono ?_
  rintro e w1 ⟨rfl, rfl⟩
  go_wp2_with fail
  refine (back_nil _).mono ?_
  rintro e w1 ⟨rfl, rfl⟩
  go_wp2_with fail
  refine (new_any a b w).mono ?_
  rintro e w1 ⟨ho1, (⟨_, p, rfl⟩ | ⟨hf, _⟩)⟩
  rotate_left
  · exact absurd ⟨h1, h2, h3, h4⟩ hf
  go_wp2_with fail
  refine (alloc_nil _ _).mono ?_
  rintro e w2 ⟨rfl, rfl⟩
  go_wp2_with fail
  refine (act_nil 16 (by simp) _ _ _).mono ?_
  rintro e w3 ⟨rfl, ho3⟩
  go_wp2_with fail
  refine (act_nil 9 (by simp) _ _ _).mono ?_
  rintro e w4 ⟨rfl, ho4⟩
  go_wp2_with fail
  refine (act_nil 10 (by simp) _ _ _).mono ?_
  rintro e w5 ⟨rfl, ho5⟩
  go_wp2_with fail
  refine (act_nil 11 (by simp) _ _ _).mono ?_
  rintro e w6 ⟨rfl, ho6⟩
  go_wp2_with fail
  refine (is_nil _ _ _ hx0 hx1).mono ?_
  rintro e w7 ⟨rfl, rfl⟩
  go_wp2_with fail
  refine (count_nil _ _).mono ?_
  rintro e w8 ⟨rfl, ho8⟩
  go_wp2_with fail
  refine (wakes_true _).mono ?_
  rintro e w9 ⟨rfl, ho9⟩
  go_wp2_with fail
  go_ret
  exact ⟨rfl, ((((((ho1.none_trans ho3).none_trans ho4).none_trans ho5).none_trans ho6).none_trans ho8).none_trans ho9).below (Nat.le_refl _) (fun _ _ h => h)⟩

set_option maxHeartbeats 1000000 in
theorem spaceNil_no1 (a b d x : Int) (hx0 : 0 ≤ x) (hx1 : x ≤ 65535) (w : World) (h1 : ¬ 1 ≤ a) :
    Calls Try.prog 5 #[.int .i64 a, .int .i64 b, .int .i64 d, .int .u16 x] w fun e w' => e = .returned (.bool true) ∧ Below w.heap.size w w' := by
  go_enter Try.func5, Try.ntmps5
  go_wp2_with fail
  refine (release_nil _).mono ?_
  rintro e w1 ⟨rfl, rfl⟩
  go_wp2_with fail
  refine (back_nil _).mono ?_
  rintro e w1 ⟨rfl, rfl⟩
  go_wp2_with fail
  refine (new_any a b w).mono ?_
  rintro e w1 ⟨ho1, (⟨ht, _⟩ | ⟨_, rfl⟩)⟩
  · exact absurd ht (by omega)
  go_wp2_with fail
  refine (alloc_nil _ _).mono ?_
  rintro e w2 ⟨rfl, rfl⟩
  go_wp2_with fail
  refine (act_nil 16 (by simp) _ _ _).mono ?_
  rintro e w3 ⟨rfl, ho3⟩
  go_wp2_with fail
  refine (act_nil 9 (by simp) _ _ _).mono ?_
  rintro e w4 ⟨rfl, ho4⟩
  go_wp2_with fail
  refine (act_nil 10 (by simp) _ _ _).mono ?_
  rintro e w5 ⟨rfl, ho5⟩
  go_wp2_with fail
  refine (act_nil 11 (by simp) _ _ _).mono ?_
  rintro e w6 ⟨rfl, ho6⟩
  go_wp2_with fail
  refine (is_nil _ _ _ hx0 hx1).mono ?_
  rintro e w7 ⟨rfl, rfl⟩
  go_wp2_with fail
  refine (count_nil _ _).mono ?_
  rintro e w8 ⟨rfl, ho8⟩
  go_wp2_with fail
  refine (wakes_true _).mono ?_
  rintro e w9 ⟨rfl, ho9⟩
  go_wp2_with fail
  go_ret
  exact ⟨rfl, ((((((ho1.none_trans ho3).none_trans ho4).none_trans ho5).none_trans ho6).none_trans ho8).none_trans ho9).below (Nat.le_refl _) (fun _ _ h => h)⟩

set_option maxHeartbeats 1000000 in
theorem spaceNil_no2 (a b d x : Int) (hx0 : 0 ≤ x) (hx1 : x ≤ 65535) (w : World) (h1 : 1 ≤ a) (h2 : ¬ a ≤ 4096) :
    Calls Try.prog 5 #[.int .i64 a, .int .i64 b, .int .i64 d, .int .u16 x] w fun e w' => e = .returned (.bool true) ∧ Below w.heap.size w w' := by
  go_enter Try.func5, Try.ntmps5
  go_wp2_with fail
  refine (release_nil _).mono ?_
  rintro e w1 ⟨rfl, rfl⟩
  go_wp2_with fail
  refine (back_nil _).mono ?_
  rintro e w1 ⟨rfl, rfl⟩
  go_wp2_with fail
  refine (new_any a b w).mono ?_
  rintro e w1 ⟨ho1, (⟨ht, _⟩ | ⟨_, rfl⟩)⟩
  · exact absurd ht (by omega)
  go_wp2_with fail
  refine (alloc_nil _ _).mono ?_
  rintro e w2 ⟨rfl, rfl⟩
  go_wp2_with fail
  refine (act_nil 16 (by simp) _ _ _).mono ?_
  rintro e w3 ⟨rfl, ho3⟩
  go_wp2_with fail
  refine (act_nil 9 (by simp) _ _ _).mono ?_
  rintro e w4 ⟨rfl, ho4⟩
  go_wp2_with fail
  refine (act_nil 10 (by simp) _ _ _).mono ?_
  rintro e w5 ⟨rfl, ho5⟩
  go_wp2_with fail
  refine (act_nil 11 (by simp) _ _ _).mono ?_
  rintro e w6 ⟨rfl, ho6⟩
  go_wp2_with fail
  refine (is_nil _ _ _ hx0 hx1).mono ?_
  rintro e w7 ⟨rfl, rfl⟩
  go_wp2_with fail
  refine (count_nil _ _).mono ?_
  rintro e w8 ⟨rfl, ho8⟩
  go_wp2_with fail
  refine (wakes_true _).mono ?_
  rintro e w9 ⟨rfl, ho9⟩
  go_wp2_with fail
  go_ret
  exact ⟨rfl, ((((((ho1.none_trans ho3).none_trans ho4).none_trans ho5).none_trans ho6).none_trans ho8).none_trans ho9).below (Nat.le_refl _) (fun _ _ h => h)⟩

set_option maxHeartbeats 1000000 in
theorem spaceNil_no3 (a b d x : Int) (hx0 : 0 ≤ x) (hx1 : x ≤ 65535) (w : World) (h1 : 1 ≤ a) (h2 : a ≤ 4096) (h3 : ¬ 1 ≤ b) :
    Calls Try.prog 5 #[.int .i64 a, .int .i64 b, .int .i64 d, .int .u16 x] w fun e w' => e = .returned (.bool true) ∧ Below w.heap.size w w' := by
  go_enter Try.func5, Try.ntmps5
  go_wp2_with fail
  refine (release_nil _).mono ?_
  rintro e w1 ⟨rfl, rfl⟩
  go_wp2_with fail
  refine (back_nil _).mono ?_
  rintro e w1 ⟨rfl, rfl⟩
  go_wp2_with fail
  refine (new_any a b w).mono ?_
  rintro e w1 ⟨ho1, (⟨ht, _⟩ | ⟨_, rfl⟩)⟩
  · exact absurd ht (by omega)
  go_wp2_with fail
  refine (alloc_nil _ _).mono ?_
  rintro e w2 ⟨rfl, rfl⟩
  go_wp2_with fail
  refine (act_nil 16 (by simp) _ _ _).mono ?_
  rintro e w3 ⟨rfl, ho3⟩
  go_wp2_with fail
  refine (act_nil 9 (by simp) _ _ _).mono ?_
  rintro e w4 ⟨rfl, ho4⟩
  go_wp2_with fail
  refine (act_nil 10 (by simp) _ _ _).mono ?_
  rintro e w5 ⟨rfl, ho5⟩
  go_wp2_with fail
  refine (act_nil 11 (by simp) _ _ _).mono ?_
  rintro e w6 ⟨rfl, ho6⟩
  go_wp2_with fail
  refine (is_nil _ _ _ hx0 hx1).mono ?_
  rintro e w7 ⟨rfl, rfl⟩
  go_wp2_with fail
  refine (count_nil _ _).mono ?_
  rintro e w8 ⟨rfl, ho8⟩
  go_wp2_with fail
  refine (wakes_true _).mono ?_
  rintro e w9 ⟨rfl, ho9⟩
  go_wp2_with fail
  go_ret
  exact ⟨rfl, ((((((ho1.none_trans ho3).none_trans ho4).none_trans ho5).none_trans ho6).none_trans ho8).none_trans ho9).below (Nat.le_refl _) (fun _ _ h => h)⟩

set_option maxHeartbeats 1000000 in
theorem spaceNil_no4 (a b d x : Int) (hx0 : 0 ≤ x) (hx1 : x ≤ 65535) (w : World) (h1 : 1 ≤ a) (h2 : a ≤ 4096) (h3 : 1 ≤ b) (h4 : ¬ b ≤ 4096) :
    Calls Try.prog 5 #[.int .i64 a, .int .i64 b, .int .i64 d, .int .u16 x] w fun e w' => e = .returned (.bool true) ∧ Below w.heap.size w w' := by
  have hd : decide (b ≤ 4096) = false := by simpa using h4
  go_enter Try.func5, Try.ntmps5
  go_wp2_with fail
  refine (release_nil _).mono ?_
  rintro e w1 ⟨rfl, rfl⟩
  go_wp2_with fail
  refine (back_nil _).mono ?_
  rintro e w1 ⟨rfl, rfl⟩
  go_wp2_with fail
  refine (new_any a b w).mono ?_
  rintro e w1 ⟨ho1, (⟨ht, _⟩ | ⟨_, rfl⟩)⟩
  · exact absurd ht (by omega)
  go_wp2_with fail
  refine (alloc_nil _ _).mono ?_
  rintro e w2 ⟨rfl, rfl⟩
  go_wp2_with fail
  refine (act_nil 16 (by simp) _ _ _).mono ?_
  rintro e w3 ⟨rfl, ho3⟩
  go_wp2_with fail
  refine (act_nil 9 (by simp) _ _ _).mono ?_
  rintro e w4 ⟨rfl, ho4⟩
  go_wp2_with fail
  refine (act_nil 10 (by simp) _ _ _).mono ?_
  rintro e w5 ⟨rfl, ho5⟩
  go_wp2_with fail
  refine (act_nil 11 (by simp) _ _ _).mono ?_
  rintro e w6 ⟨rfl, ho6⟩
  go_wp2_with fail
  refine (is_nil _ _ _ hx0 hx1).mono ?_
  rintro e w7 ⟨rfl, rfl⟩
  go_wp2_with fail
  refine (count_nil _ _).mono ?_
  rintro e w8 ⟨rfl, ho8⟩
  go_wp2_with fail
  refine (wakes_true _).mono ?_
  rintro e w9 ⟨rfl, ho9⟩
  go_wp2_with fail
  go_ret
  exact ⟨rfl, ((((((ho1.none_trans ho3).none_trans ho4).none_trans ho5).none_trans ho6).none_trans ho8).none_trans ho9).below (Nat.le_refl _) (fun _ _ h => h)⟩

theorem spaceNil_walk (a b d x : Int) (hx0 : 0 ≤ x) (hx1 : x ≤ 65535) (w : World) :
    Calls Try.prog 5 #[.int .i64 a, .int .i64 b, .int .i64 d, .int .u16 x] w fun e w' => e = .returned (.bool true) ∧ Below w.heap.size w w' := by
  by_cases h1 : 1 ≤ a
  · by_cases h2 : a ≤ 4096
    · by_cases h3 : 1 ≤ b
      · by_cases h4 : b ≤ 4096
        · exact spaceNil_yes a b d x hx0 hx1 w h1 h2 h3 h4
        · exact spaceNil_no4 a b d x hx0 hx1 w h1 h2 h3 h4
      · exact spaceNil_no3 a b d x hx0 hx1 w h1 h2 h3
    · exact spaceNil_no2 a b d x hx0 hx1 w h1 h2
  · exact spaceNil_no1 a b d x hx0 hx1 w h1
end Go.Proofs.Ytlfnneljeoamlaa
