/-
  kintsugiref03.width (func 51).
-/
import Derived.Test.YtnclappdokhciaaF
import Derived.Lib.Hide
namespace Go.Proofs.Ytnclappdokhciaa
open Go Go.RowKit
set_option linter.unusedVariables false

def cont (b : Nat) : Prop := 128 ≤ b ∧ b ≤ 191
/-- The width, as the document tells it. -/
def widT (n b0 b1 b2 b3 : Nat) : Nat :=
  if b0 < 128 then 1
  else if 192 ≤ b0 ∧ b0 < 224 then (if n < 2 then 0 else if b1 < 128 ∨ 191 < b1 then 0 else if 64 * (b0 - 192) + b1 - 128 < 128 then 0 else 2)
  else if 224 ≤ b0 ∧ b0 < 240 then (if n < 3 then 0 else if (b1 < 128 ∨ 191 < b1) ∨ (b2 < 128 ∨ 191 < b2) then 0
    else if 64 * (64 * (b0 - 224) + b1 - 128) + b2 - 128 < 2048 ∨ (55296 ≤ 64 * (64 * (b0 - 224) + b1 - 128) + b2 - 128 ∧ 64 * (64 * (b0 - 224) + b1 - 128) + b2 - 128 ≤ 57343) then 0 else 3)
  else if 240 ≤ b0 ∧ b0 < 248 then (if n < 4 then 0 else if (b1 < 128 ∨ 191 < b1) ∨ (b2 < 128 ∨ 191 < b2) ∨ (b3 < 128 ∨ 191 < b3) then 0
    else if 64 * (64 * (64 * (b0 - 240) + b1 - 128) + b2 - 128) + b3 - 128 < 65536 ∨ 1114111 < 64 * (64 * (64 * (b0 - 240) + b1 - 128) + b2 - 128) + b3 - 128 then 0 else 4)
  else 0
set_option maxHeartbeats 2000000 in
theorem widT_eq (n b0 b1 b2 b3 : Nat) (h0 : b0 < 256) (h1 : b1 < 256) (h2 : b2 < 256) (h3 : b3 < 256) : (if (Lib.decodeN n b0 b1 b2 b3).1 = 65533 ∧ (Lib.decodeN n b0 b1 b2 b3).2 = 1 then 0 else (Lib.decodeN n b0 b1 b2 b3).2) = widT n b0 b1 b2 b3 := by
  have key : ∀ (r : Nat × Nat) (x y : Nat), r = Lib.decodeN n b0 b1 b2 b3 → x = r.1 → y = r.2 → (if x = 65533 ∧ y = 1 then 0 else y) = widT n b0 b1 b2 b3 := by
    intro r x y hr hx hy
    unfold Lib.decodeN at hr
    by_cases c0 : b0 < 128
    · rw [if_pos c0] at hr; subst hr; simp only at hx hy
      unfold widT; rw [if_pos c0]
      split <;> omega
    rw [if_neg c0] at hr
    unfold widT
    rw [if_neg c0]
    by_cases c2 : 192 ≤ b0 ∧ b0 < 224
    · rw [if_pos c2]
      by_cases c21 : b0 / 32 = 6 ∧ (1 < n ∧ b1 / 64 = 2)
      · rw [if_pos c21] at hr
        by_cases c22 : b0 % 32 * 64 + b1 % 64 ≥ 128
        · rw [if_pos c22] at hr; subst hr; simp only at hx hy
          repeat' split
          all_goals omega
        · rw [if_neg c22] at hr; subst hr; simp only at hx hy
          repeat' split
          all_goals omega
      · rw [if_neg c21, if_neg (by omega), if_neg (by omega)] at hr; subst hr; simp only at hx hy
        repeat' split
        all_goals omega
    rw [if_neg c2]
    rw [if_neg (by omega)] at hr
    by_cases c3 : 224 ≤ b0 ∧ b0 < 240
    · rw [if_pos c3]
      by_cases c31 : b0 / 16 = 14 ∧ (1 < n ∧ b1 / 64 = 2) ∧ (2 < n ∧ b2 / 64 = 2)
      · rw [if_pos c31] at hr
        by_cases c32 : b0 % 16 * 4096 + b1 % 64 * 64 + b2 % 64 ≥ 2048 ∧ (b0 % 16 * 4096 + b1 % 64 * 64 + b2 % 64 < 55296 ∨ (57344 ≤ b0 % 16 * 4096 + b1 % 64 * 64 + b2 % 64 ∧ b0 % 16 * 4096 + b1 % 64 * 64 + b2 % 64 ≤ 1114111))
        · rw [if_pos c32] at hr; subst hr; simp only at hx hy
          repeat' split
          all_goals omega
        · rw [if_neg c32] at hr; subst hr; simp only at hx hy
          repeat' split
          all_goals omega
      · rw [if_neg c31, if_neg (by omega)] at hr; subst hr; simp only at hx hy
        repeat' split
        all_goals omega
    rw [if_neg c3]
    rw [if_neg (by omega)] at hr
    by_cases c4 : 240 ≤ b0 ∧ b0 < 248
    · rw [if_pos c4]
      by_cases c41 : b0 / 8 = 30 ∧ (1 < n ∧ b1 / 64 = 2) ∧ (2 < n ∧ b2 / 64 = 2) ∧ (3 < n ∧ b3 / 64 = 2)
      · rw [if_pos c41] at hr
        by_cases c42 : b0 % 8 * 262144 + b1 % 64 * 4096 + b2 % 64 * 64 + b3 % 64 ≥ 65536 ∧ (b0 % 8 * 262144 + b1 % 64 * 4096 + b2 % 64 * 64 + b3 % 64 < 55296 ∨ (57344 ≤ b0 % 8 * 262144 + b1 % 64 * 4096 + b2 % 64 * 64 + b3 % 64 ∧ b0 % 8 * 262144 + b1 % 64 * 4096 + b2 % 64 * 64 + b3 % 64 ≤ 1114111))
        · rw [if_pos c42] at hr; subst hr; simp only at hx hy
          repeat' split
          all_goals omega
        · rw [if_neg c42] at hr; subst hr; simp only at hx hy
          repeat' split
          all_goals omega
      · rw [if_neg c41] at hr; subst hr; simp only at hx hy
        repeat' split
        all_goals omega
    rw [if_neg c4]
    rw [if_neg (by omega)] at hr
    subst hr; simp only at hx hy
    split <;> omega
  exact key _ _ _ rfl rfl rfl
theorem wd_eq (s : ByteArray) (i : Nat) : wd s i = widT (s.size - i) (bt s i) (bt s (i + 1)) (bt s (i + 2)) (bt s (i + 3)) := by
  unfold wd; rw [dec_eq]; exact widT_eq _ _ _ _ _ (bt_lt ..) (bt_lt ..) (bt_lt ..) (bt_lt ..)

theorem wrap_b (b : Nat) (h : b < 256) : wrap64 (b : Int) = b := by unfold wrap64; omega

theorem t_cont2 (n b0 b1 b2 b3 : Nat) (h2 : 192 ≤ b0) (h3 : b0 < 224) (h4 : 2 ≤ n) (h : b1 < 128 ∨ 191 < b1) : widT n b0 b1 b2 b3 = 0 := by
  unfold widT; rw [if_neg (by omega), if_pos (by omega), if_neg (by omega), if_pos h]
theorem t_cont3 (n b0 b1 b2 b3 : Nat) (h2 : 224 ≤ b0) (h3 : b0 < 240) (h4 : 3 ≤ n) (h : (b1 < 128 ∨ 191 < b1) ∨ (b2 < 128 ∨ 191 < b2)) : widT n b0 b1 b2 b3 = 0 := by
  unfold widT; rw [if_neg (by omega), if_neg (by omega), if_pos (by omega), if_neg (by omega), if_pos h]
theorem t_cont4 (n b0 b1 b2 b3 : Nat) (h2 : 240 ≤ b0) (h3 : b0 < 248) (h4 : 4 ≤ n) (h : (b1 < 128 ∨ 191 < b1) ∨ (b2 < 128 ∨ 191 < b2) ∨ (b3 < 128 ∨ 191 < b3)) : widT n b0 b1 b2 b3 = 0 := by
  unfold widT; rw [if_neg (by omega), if_neg (by omega), if_neg (by omega), if_pos (by omega), if_neg (by omega), if_pos h]
theorem t_end2 (n b0 b1 b2 b3 : Nat) (h2 : 192 ≤ b0) (h3 : b0 < 224) (h4 : 2 ≤ n) (p1 : 128 ≤ b1) (q1 : b1 ≤ 191) (X : Int) (hX : X = 64 * ((b0 : Int) - 192) + (b1 : Int) - 128) : widT n b0 b1 b2 b3 = if X < 128 then 0 else 2 := by
  unfold widT; rw [if_neg (by omega), if_pos (by omega), if_neg (by omega), if_neg (by omega)]
  by_cases h : X < 128
  · rw [if_pos h, if_pos (by omega)]
  · rw [if_neg h, if_neg (by omega)]
theorem t_end3 (n b0 b1 b2 b3 : Nat) (h2 : 224 ≤ b0) (h3 : b0 < 240) (h4 : 3 ≤ n) (p1 : 128 ≤ b1) (q1 : b1 ≤ 191) (p2 : 128 ≤ b2) (q2 : b2 ≤ 191) (X : Int) (hX : X = 64 * (64 * ((b0 : Int) - 224) + (b1 : Int) - 128) + (b2 : Int) - 128) : widT n b0 b1 b2 b3 = if X < 2048 ∨ (55296 ≤ X ∧ X ≤ 57343) then 0 else 3 := by
  unfold widT; rw [if_neg (by omega), if_neg (by omega), if_pos (by omega), if_neg (by omega), if_neg (by omega)]
  by_cases h : X < 2048 ∨ (55296 ≤ X ∧ X ≤ 57343)
  · rw [if_pos h, if_pos (by omega)]
  · rw [if_neg h, if_neg (by omega)]
theorem t_end4 (n b0 b1 b2 b3 : Nat) (h2 : 240 ≤ b0) (h3 : b0 < 248) (h4 : 4 ≤ n) (p1 : 128 ≤ b1) (q1 : b1 ≤ 191) (p2 : 128 ≤ b2) (q2 : b2 ≤ 191) (p3 : 128 ≤ b3) (q3 : b3 ≤ 191) (X : Int) (hX : X = 64 * (64 * (64 * ((b0 : Int) - 240) + (b1 : Int) - 128) + (b2 : Int) - 128) + (b3 : Int) - 128) : widT n b0 b1 b2 b3 = if X < 65536 ∨ 1114111 < X then 0 else 4 := by
  unfold widT; rw [if_neg (by omega), if_neg (by omega), if_neg (by omega), if_pos (by omega), if_neg (by omega), if_neg (by omega)]
  by_cases h : X < 65536 ∨ 1114111 < X
  · rw [if_pos h, if_pos (by omega)]
  · rw [if_neg h, if_neg (by omega)]

set_option maxRecDepth 10000 in
set_option maxHeartbeats 2000000 in
theorem width_a (s : ByteArray) (i : Nat) (hi : i < s.size) (hs : s.size ≤ 1000000) (w : World) (h : bt s i < 128) :
    Calls Try.prog 51 #[.string s, .int .i64 (i : Int)] w fun e w' => e = .returned (.int .i64 (wd s i)) ∧ w = w' := by
  rw [wd_eq]
  have i0 : (0 : Int) ≤ (i : Int) := by omega
  have i1 : (i : Int) < (s.size : Int) := by omega
  have e0 : ((s[i]'hi).toNat) = bt s i := (bt_at s i hi).symm
  have hb0 := bt_lt s i
  generalize bt s (i + 1) = b1
  generalize bt s (i + 2) = b2
  generalize bt s (i + 3) = b3
  generalize bt s i = b0 at *
  have w0 := wrap_b b0 hb0
  have e9 : widT (s.size - i) b0 b1 b2 b3 = 1 := by unfold widT; (repeat' split) <;> omega
  rw [e9]
  clear e9
  go_enter Try.func51, Try.ntmps51
  go_wp2
  all_goals go_ret
  all_goals exact ⟨rfl, rfl⟩

set_option maxRecDepth 10000 in
set_option maxHeartbeats 2000000 in
theorem width_x1 (s : ByteArray) (i : Nat) (hi : i < s.size) (hs : s.size ≤ 1000000) (w : World) (h : 128 ≤ bt s i) (h2 : bt s i < 192) :
    Calls Try.prog 51 #[.string s, .int .i64 (i : Int)] w fun e w' => e = .returned (.int .i64 (wd s i)) ∧ w = w' := by
  rw [wd_eq]
  have i0 : (0 : Int) ≤ (i : Int) := by omega
  have i1 : (i : Int) < (s.size : Int) := by omega
  have e0 : ((s[i]'hi).toNat) = bt s i := (bt_at s i hi).symm
  have hb0 := bt_lt s i
  generalize bt s (i + 1) = b1
  generalize bt s (i + 2) = b2
  generalize bt s (i + 3) = b3
  generalize bt s i = b0 at *
  have w0 := wrap_b b0 hb0
  have e9 : widT (s.size - i) b0 b1 b2 b3 = 0 := by unfold widT; (repeat' split) <;> omega
  rw [e9]
  clear e9
  go_enter Try.func51, Try.ntmps51
  go_wp2
  all_goals go_ret
  all_goals exact ⟨rfl, rfl⟩

set_option maxRecDepth 10000 in
set_option maxHeartbeats 2000000 in
theorem width_x2 (s : ByteArray) (i : Nat) (hi : i < s.size) (hs : s.size ≤ 1000000) (w : World) (h : 248 ≤ bt s i) :
    Calls Try.prog 51 #[.string s, .int .i64 (i : Int)] w fun e w' => e = .returned (.int .i64 (wd s i)) ∧ w = w' := by
  rw [wd_eq]
  have i0 : (0 : Int) ≤ (i : Int) := by omega
  have i1 : (i : Int) < (s.size : Int) := by omega
  have e0 : ((s[i]'hi).toNat) = bt s i := (bt_at s i hi).symm
  have hb0 := bt_lt s i
  generalize bt s (i + 1) = b1
  generalize bt s (i + 2) = b2
  generalize bt s (i + 3) = b3
  generalize bt s i = b0 at *
  have w0 := wrap_b b0 hb0
  have e9 : widT (s.size - i) b0 b1 b2 b3 = 0 := by unfold widT; (repeat' split) <;> omega
  rw [e9]
  clear e9
  go_enter Try.func51, Try.ntmps51
  go_wp2
  all_goals go_ret
  all_goals exact ⟨rfl, rfl⟩

set_option maxRecDepth 10000 in
set_option maxHeartbeats 2000000 in
theorem width_s2 (s : ByteArray) (i : Nat) (hi : i < s.size) (hs : s.size ≤ 1000000) (w : World) (h2 : 192 ≤ bt s i) (h3 : bt s i < 224) (h4 : ¬ 2 ≤ s.size - i) :
    Calls Try.prog 51 #[.string s, .int .i64 (i : Int)] w fun e w' => e = .returned (.int .i64 (wd s i)) ∧ w = w' := by
  rw [wd_eq]
  have i0 : (0 : Int) ≤ (i : Int) := by omega
  have i1 : (i : Int) < (s.size : Int) := by omega
  have e0 : ((s[i]'hi).toNat) = bt s i := (bt_at s i hi).symm
  have hb0 := bt_lt s i
  generalize bt s (i + 1) = b1
  generalize bt s (i + 2) = b2
  generalize bt s (i + 3) = b3
  generalize bt s i = b0 at *
  have w0 := wrap_b b0 hb0
  have e9 : widT (s.size - i) b0 b1 b2 b3 = 0 := by unfold widT; (repeat' split) <;> omega
  rw [e9]
  clear e9
  go_enter Try.func51, Try.ntmps51
  go_wp2
  all_goals go_ret
  all_goals exact ⟨rfl, rfl⟩

set_option maxRecDepth 10000 in
set_option maxHeartbeats 2000000 in
theorem width_2 (s : ByteArray) (i : Nat) (hi : i < s.size) (hs : s.size ≤ 1000000) (w : World) (h2 : 192 ≤ bt s i) (h3 : bt s i < 224) (h4 : 2 ≤ s.size - i) :
    Calls Try.prog 51 #[.string s, .int .i64 (i : Int)] w fun e w' => e = .returned (.int .i64 (wd s i)) ∧ w = w' := by
  rw [wd_eq]
  have i0 : (0 : Int) ≤ (i : Int) := by omega
  have i1 : (i : Int) < (s.size : Int) := by omega
  have e0 : ((s[i]'hi).toNat) = bt s i := (bt_at s i hi).symm
  have hb0 := bt_lt s i
  have i21 : i + 1 < s.size := Nat.lt_of_lt_of_le (Nat.add_lt_add_left (Nat.lt_of_lt_of_le (by decide : 1 < 2) h4) i) (Nat.le_of_eq (Nat.add_sub_of_le (Nat.le_of_lt hi)))
  have i11 : ((i : Int) + 1) < (s.size : Int) := by omega
  have wi1 : wrap64 ((i : Int) + 1) = ((i + 1 : Nat) : Int) := by unfold wrap64; omega
  have e1 : ((s[i + 1]'i21).toNat) = bt s (i + 1) := (bt_at s (i + 1) i21).symm
  have hb1 := bt_lt s (i + 1)
  generalize bt s (i + 2) = b2
  generalize bt s (i + 3) = b3
  generalize bt s (i + 1) = b1 at *
  generalize bt s i = b0 at *
  have w0 := wrap_b b0 hb0
  have w1 := wrap_b b1 hb1
  have H1 := Lib.hid (And.intro i11 (And.intro wi1 (And.intro e1 (And.intro hb1 w1))))
  clear i11 wi1 e1 hb1 w1
  go_enter Try.func51, Try.ntmps51
  go_wp2
  simp only [show decide ((b0 : Int) < 128) = false from decide_eq_false (by omega), show decide ((b0 : Int) < 224) = true from decide_eq_true (by omega)]
  have H0 := Lib.hid (And.intro h2 (And.intro h3 (And.intro h4 (And.intro hb0 e0))))
  go_loopw [4, 7, 8, 9] (fun _ x t _ wr => wr = w ∧ ((t = .int .i64 1 ∧ ∃ X : Int, x = .int .i64 X ∧ 0 ≤ X ∧ X < 32 ∧ Hid (X = ((b0 : Int) - 192))) ∨ (t = .int .i64 2 ∧ ∃ X : Int, x = .int .i64 X ∧ 0 ≤ X ∧ X < 2048 ∧ Hid (X = (64 * ((b0 : Int) - 192) + (b1 : Int) - 128) ∧ 128 ≤ b1 ∧ b1 ≤ 191)))) (fun _ _ t _ _ => 2 - (intOf t).toNat)
  case atStart => exact ⟨rfl, .inl ⟨rfl, _, rfl, by omega, by omega, Lib.hid rfl⟩⟩
  case round =>
    clear h2 h3 h4 hb0 e0 w0
    obtain ⟨rfl, hr⟩ := hrel
    rcases hr with ⟨rfl, X, rfl, X0, X1, hX⟩ | ⟨rfl, X, rfl, X0, X1, hX⟩
    · obtain ⟨i11, wi1, e1, hb1, w1⟩ := H1.out
      by_cases c1 : b1 < 128
      · have kk := Lib.hid (t_cont2 (s.size - i) b0 b1 b2 b3 H0.out.1 H0.out.2.1 H0.out.2.2.1 (by omega))
        go_wp2
        go_ret
        refine ⟨?_, rfl⟩
        rw [kk.out]
        rfl
      · by_cases c2 : 191 < b1
        · have kk := Lib.hid (t_cont2 (s.size - i) b0 b1 b2 b3 H0.out.1 H0.out.2.1 H0.out.2.2.1 (by omega))
          go_wp2
          go_ret
          refine ⟨?_, rfl⟩
          rw [kk.out]
          rfl
        · go_wp2
          have p1 : 128 ≤ b1 := by omega
          have q1 : b1 ≤ 191 := by omega
          have hXe := hX.out
          go_roundw
          case rel => exact ⟨by first | rfl | trivial, .inr (⟨rfl, _, rfl, by omega, by omega, Lib.hid ⟨by rw [hXe], p1, q1⟩⟩)⟩
          case measure => simp [intOf]
    · obtain ⟨hXe, p1, q1⟩ := hX.out
      have kk := Lib.hid (t_end2 (s.size - i) b0 b1 b2 b3 H0.out.1 H0.out.2.1 H0.out.2.2.1 p1 q1 X hXe)
      clear hXe p1 q1 hX
      go_wp2
      all_goals go_ret
      all_goals refine ⟨?_, rfl⟩
      all_goals rw [kk.out]
      all_goals first
        | (rw [if_pos (by omega)]; rfl)
        | (rw [if_neg (by omega)]; rfl)

set_option maxRecDepth 10000 in
set_option maxHeartbeats 2000000 in
theorem width_s3 (s : ByteArray) (i : Nat) (hi : i < s.size) (hs : s.size ≤ 1000000) (w : World) (h2 : 224 ≤ bt s i) (h3 : bt s i < 240) (h4 : ¬ 3 ≤ s.size - i) :
    Calls Try.prog 51 #[.string s, .int .i64 (i : Int)] w fun e w' => e = .returned (.int .i64 (wd s i)) ∧ w = w' := by
  rw [wd_eq]
  have i0 : (0 : Int) ≤ (i : Int) := by omega
  have i1 : (i : Int) < (s.size : Int) := by omega
  have e0 : ((s[i]'hi).toNat) = bt s i := (bt_at s i hi).symm
  have hb0 := bt_lt s i
  generalize bt s (i + 1) = b1
  generalize bt s (i + 2) = b2
  generalize bt s (i + 3) = b3
  generalize bt s i = b0 at *
  have w0 := wrap_b b0 hb0
  have e9 : widT (s.size - i) b0 b1 b2 b3 = 0 := by unfold widT; (repeat' split) <;> omega
  rw [e9]
  clear e9
  go_enter Try.func51, Try.ntmps51
  go_wp2
  all_goals go_ret
  all_goals exact ⟨rfl, rfl⟩

set_option maxRecDepth 10000 in
set_option maxHeartbeats 2000000 in
theorem width_3 (s : ByteArray) (i : Nat) (hi : i < s.size) (hs : s.size ≤ 1000000) (w : World) (h2 : 224 ≤ bt s i) (h3 : bt s i < 240) (h4 : 3 ≤ s.size - i) :
    Calls Try.prog 51 #[.string s, .int .i64 (i : Int)] w fun e w' => e = .returned (.int .i64 (wd s i)) ∧ w = w' := by
  rw [wd_eq]
  have i0 : (0 : Int) ≤ (i : Int) := by omega
  have i1 : (i : Int) < (s.size : Int) := by omega
  have e0 : ((s[i]'hi).toNat) = bt s i := (bt_at s i hi).symm
  have hb0 := bt_lt s i
  have i21 : i + 1 < s.size := Nat.lt_of_lt_of_le (Nat.add_lt_add_left (Nat.lt_of_lt_of_le (by decide : 1 < 3) h4) i) (Nat.le_of_eq (Nat.add_sub_of_le (Nat.le_of_lt hi)))
  have i11 : ((i : Int) + 1) < (s.size : Int) := by omega
  have wi1 : wrap64 ((i : Int) + 1) = ((i + 1 : Nat) : Int) := by unfold wrap64; omega
  have e1 : ((s[i + 1]'i21).toNat) = bt s (i + 1) := (bt_at s (i + 1) i21).symm
  have hb1 := bt_lt s (i + 1)
  have i22 : i + 2 < s.size := Nat.lt_of_lt_of_le (Nat.add_lt_add_left (Nat.lt_of_lt_of_le (by decide : 2 < 3) h4) i) (Nat.le_of_eq (Nat.add_sub_of_le (Nat.le_of_lt hi)))
  have i12 : ((i : Int) + 2) < (s.size : Int) := by omega
  have wi2 : wrap64 ((i : Int) + 2) = ((i + 2 : Nat) : Int) := by unfold wrap64; omega
  have e2 : ((s[i + 2]'i22).toNat) = bt s (i + 2) := (bt_at s (i + 2) i22).symm
  have hb2 := bt_lt s (i + 2)
  generalize bt s (i + 3) = b3
  generalize bt s (i + 2) = b2 at *
  generalize bt s (i + 1) = b1 at *
  generalize bt s i = b0 at *
  have w0 := wrap_b b0 hb0
  have w1 := wrap_b b1 hb1
  have w2 := wrap_b b2 hb2
  have H1 := Lib.hid (And.intro i11 (And.intro wi1 (And.intro e1 (And.intro hb1 w1))))
  clear i11 wi1 e1 hb1 w1
  have H2 := Lib.hid (And.intro i12 (And.intro wi2 (And.intro e2 (And.intro hb2 w2))))
  clear i12 wi2 e2 hb2 w2
  go_enter Try.func51, Try.ntmps51
  go_wp2
  simp only [show decide ((b0 : Int) < 128) = false from decide_eq_false (by omega), show decide ((b0 : Int) < 224) = false from decide_eq_false (by omega), show decide ((b0 : Int) < 240) = true from decide_eq_true (by omega)]
  have H0 := Lib.hid (And.intro h2 (And.intro h3 (And.intro h4 (And.intro hb0 e0))))
  go_loopw [4, 7, 8, 9] (fun _ x t _ wr => wr = w ∧ ((t = .int .i64 1 ∧ ∃ X : Int, x = .int .i64 X ∧ 0 ≤ X ∧ X < 16 ∧ Hid (X = ((b0 : Int) - 224))) ∨ (t = .int .i64 2 ∧ ∃ X : Int, x = .int .i64 X ∧ 0 ≤ X ∧ X < 1024 ∧ Hid (X = (64 * ((b0 : Int) - 224) + (b1 : Int) - 128) ∧ 128 ≤ b1 ∧ b1 ≤ 191)) ∨ (t = .int .i64 3 ∧ ∃ X : Int, x = .int .i64 X ∧ 0 ≤ X ∧ X < 65536 ∧ Hid (X = (64 * (64 * ((b0 : Int) - 224) + (b1 : Int) - 128) + (b2 : Int) - 128) ∧ 128 ≤ b1 ∧ b1 ≤ 191 ∧ 128 ≤ b2 ∧ b2 ≤ 191)))) (fun _ _ t _ _ => 3 - (intOf t).toNat)
  case atStart => exact ⟨rfl, .inl ⟨rfl, _, rfl, by omega, by omega, Lib.hid rfl⟩⟩
  case round =>
    clear h2 h3 h4 hb0 e0 w0
    obtain ⟨rfl, hr⟩ := hrel
    rcases hr with ⟨rfl, X, rfl, X0, X1, hX⟩ | ⟨rfl, X, rfl, X0, X1, hX⟩ | ⟨rfl, X, rfl, X0, X1, hX⟩
    · obtain ⟨i11, wi1, e1, hb1, w1⟩ := H1.out
      by_cases c1 : b1 < 128
      · have kk := Lib.hid (t_cont3 (s.size - i) b0 b1 b2 b3 H0.out.1 H0.out.2.1 H0.out.2.2.1 (by omega))
        go_wp2
        go_ret
        refine ⟨?_, rfl⟩
        rw [kk.out]
        rfl
      · by_cases c2 : 191 < b1
        · have kk := Lib.hid (t_cont3 (s.size - i) b0 b1 b2 b3 H0.out.1 H0.out.2.1 H0.out.2.2.1 (by omega))
          go_wp2
          go_ret
          refine ⟨?_, rfl⟩
          rw [kk.out]
          rfl
        · go_wp2
          have p1 : 128 ≤ b1 := by omega
          have q1 : b1 ≤ 191 := by omega
          have hXe := hX.out
          go_roundw
          case rel => exact ⟨by first | rfl | trivial, .inr (.inl ⟨rfl, _, rfl, by omega, by omega, Lib.hid ⟨by rw [hXe], p1, q1⟩⟩)⟩
          case measure => simp [intOf]
    · obtain ⟨i12, wi2, e2, hb2, w2⟩ := H2.out
      by_cases c1 : b2 < 128
      · have kk := Lib.hid (t_cont3 (s.size - i) b0 b1 b2 b3 H0.out.1 H0.out.2.1 H0.out.2.2.1 (by omega))
        go_wp2
        go_ret
        refine ⟨?_, rfl⟩
        rw [kk.out]
        rfl
      · by_cases c2 : 191 < b2
        · have kk := Lib.hid (t_cont3 (s.size - i) b0 b1 b2 b3 H0.out.1 H0.out.2.1 H0.out.2.2.1 (by omega))
          go_wp2
          go_ret
          refine ⟨?_, rfl⟩
          rw [kk.out]
          rfl
        · go_wp2
          have p2 : 128 ≤ b2 := by omega
          have q2 : b2 ≤ 191 := by omega
          obtain ⟨hXe, p1, q1⟩ := hX.out
          go_roundw
          case rel => exact ⟨by first | rfl | trivial, .inr (.inr (⟨rfl, _, rfl, by omega, by omega, Lib.hid ⟨by rw [hXe], p1, q1, p2, q2⟩⟩))⟩
          case measure => simp [intOf]
    · obtain ⟨hXe, p1, q1, p2, q2⟩ := hX.out
      have kk := Lib.hid (t_end3 (s.size - i) b0 b1 b2 b3 H0.out.1 H0.out.2.1 H0.out.2.2.1 p1 q1 p2 q2 X hXe)
      clear hXe p1 q1 p2 q2 hX
      go_wp2
      all_goals go_ret
      all_goals refine ⟨?_, rfl⟩
      all_goals rw [kk.out]
      all_goals first
        | (rw [if_pos (by omega)]; rfl)
        | (rw [if_neg (by omega)]; rfl)

set_option maxRecDepth 10000 in
set_option maxHeartbeats 2000000 in
theorem width_s4 (s : ByteArray) (i : Nat) (hi : i < s.size) (hs : s.size ≤ 1000000) (w : World) (h2 : 240 ≤ bt s i) (h3 : bt s i < 248) (h4 : ¬ 4 ≤ s.size - i) :
    Calls Try.prog 51 #[.string s, .int .i64 (i : Int)] w fun e w' => e = .returned (.int .i64 (wd s i)) ∧ w = w' := by
  rw [wd_eq]
  have i0 : (0 : Int) ≤ (i : Int) := by omega
  have i1 : (i : Int) < (s.size : Int) := by omega
  have e0 : ((s[i]'hi).toNat) = bt s i := (bt_at s i hi).symm
  have hb0 := bt_lt s i
  generalize bt s (i + 1) = b1
  generalize bt s (i + 2) = b2
  generalize bt s (i + 3) = b3
  generalize bt s i = b0 at *
  have w0 := wrap_b b0 hb0
  have e9 : widT (s.size - i) b0 b1 b2 b3 = 0 := by unfold widT; (repeat' split) <;> omega
  rw [e9]
  clear e9
  go_enter Try.func51, Try.ntmps51
  go_wp2
  all_goals go_ret
  all_goals exact ⟨rfl, rfl⟩

set_option maxRecDepth 10000 in
set_option maxHeartbeats 2000000 in
theorem width_4 (s : ByteArray) (i : Nat) (hi : i < s.size) (hs : s.size ≤ 1000000) (w : World) (h2 : 240 ≤ bt s i) (h3 : bt s i < 248) (h4 : 4 ≤ s.size - i) :
    Calls Try.prog 51 #[.string s, .int .i64 (i : Int)] w fun e w' => e = .returned (.int .i64 (wd s i)) ∧ w = w' := by
  rw [wd_eq]
  have i0 : (0 : Int) ≤ (i : Int) := by omega
  have i1 : (i : Int) < (s.size : Int) := by omega
  have e0 : ((s[i]'hi).toNat) = bt s i := (bt_at s i hi).symm
  have hb0 := bt_lt s i
  have i21 : i + 1 < s.size := Nat.lt_of_lt_of_le (Nat.add_lt_add_left (Nat.lt_of_lt_of_le (by decide : 1 < 4) h4) i) (Nat.le_of_eq (Nat.add_sub_of_le (Nat.le_of_lt hi)))
  have i11 : ((i : Int) + 1) < (s.size : Int) := by omega
  have wi1 : wrap64 ((i : Int) + 1) = ((i + 1 : Nat) : Int) := by unfold wrap64; omega
  have e1 : ((s[i + 1]'i21).toNat) = bt s (i + 1) := (bt_at s (i + 1) i21).symm
  have hb1 := bt_lt s (i + 1)
  have i22 : i + 2 < s.size := Nat.lt_of_lt_of_le (Nat.add_lt_add_left (Nat.lt_of_lt_of_le (by decide : 2 < 4) h4) i) (Nat.le_of_eq (Nat.add_sub_of_le (Nat.le_of_lt hi)))
  have i12 : ((i : Int) + 2) < (s.size : Int) := by omega
  have wi2 : wrap64 ((i : Int) + 2) = ((i + 2 : Nat) : Int) := by unfold wrap64; omega
  have e2 : ((s[i + 2]'i22).toNat) = bt s (i + 2) := (bt_at s (i + 2) i22).symm
  have hb2 := bt_lt s (i + 2)
  have i23 : i + 3 < s.size := Nat.lt_of_lt_of_le (Nat.add_lt_add_left (Nat.lt_of_lt_of_le (by decide : 3 < 4) h4) i) (Nat.le_of_eq (Nat.add_sub_of_le (Nat.le_of_lt hi)))
  have i13 : ((i : Int) + 3) < (s.size : Int) := by omega
  have wi3 : wrap64 ((i : Int) + 3) = ((i + 3 : Nat) : Int) := by unfold wrap64; omega
  have e3 : ((s[i + 3]'i23).toNat) = bt s (i + 3) := (bt_at s (i + 3) i23).symm
  have hb3 := bt_lt s (i + 3)
  generalize bt s (i + 3) = b3 at *
  generalize bt s (i + 2) = b2 at *
  generalize bt s (i + 1) = b1 at *
  generalize bt s i = b0 at *
  have w0 := wrap_b b0 hb0
  have w1 := wrap_b b1 hb1
  have w2 := wrap_b b2 hb2
  have w3 := wrap_b b3 hb3
  have H1 := Lib.hid (And.intro i11 (And.intro wi1 (And.intro e1 (And.intro hb1 w1))))
  clear i11 wi1 e1 hb1 w1
  have H2 := Lib.hid (And.intro i12 (And.intro wi2 (And.intro e2 (And.intro hb2 w2))))
  clear i12 wi2 e2 hb2 w2
  have H3 := Lib.hid (And.intro i13 (And.intro wi3 (And.intro e3 (And.intro hb3 w3))))
  clear i13 wi3 e3 hb3 w3
  go_enter Try.func51, Try.ntmps51
  go_wp2
  simp only [show decide ((b0 : Int) < 128) = false from decide_eq_false (by omega), show decide ((b0 : Int) < 224) = false from decide_eq_false (by omega), show decide ((b0 : Int) < 240) = false from decide_eq_false (by omega), show decide ((b0 : Int) < 248) = true from decide_eq_true (by omega)]
  have H0 := Lib.hid (And.intro h2 (And.intro h3 (And.intro h4 (And.intro hb0 e0))))
  go_loopw [4, 7, 8, 9] (fun _ x t _ wr => wr = w ∧ ((t = .int .i64 1 ∧ ∃ X : Int, x = .int .i64 X ∧ 0 ≤ X ∧ X < 8 ∧ Hid (X = ((b0 : Int) - 240))) ∨ (t = .int .i64 2 ∧ ∃ X : Int, x = .int .i64 X ∧ 0 ≤ X ∧ X < 512 ∧ Hid (X = (64 * ((b0 : Int) - 240) + (b1 : Int) - 128) ∧ 128 ≤ b1 ∧ b1 ≤ 191)) ∨ (t = .int .i64 3 ∧ ∃ X : Int, x = .int .i64 X ∧ 0 ≤ X ∧ X < 32768 ∧ Hid (X = (64 * (64 * ((b0 : Int) - 240) + (b1 : Int) - 128) + (b2 : Int) - 128) ∧ 128 ≤ b1 ∧ b1 ≤ 191 ∧ 128 ≤ b2 ∧ b2 ≤ 191)) ∨ (t = .int .i64 4 ∧ ∃ X : Int, x = .int .i64 X ∧ 0 ≤ X ∧ X < 2097152 ∧ Hid (X = (64 * (64 * (64 * ((b0 : Int) - 240) + (b1 : Int) - 128) + (b2 : Int) - 128) + (b3 : Int) - 128) ∧ 128 ≤ b1 ∧ b1 ≤ 191 ∧ 128 ≤ b2 ∧ b2 ≤ 191 ∧ 128 ≤ b3 ∧ b3 ≤ 191)))) (fun _ _ t _ _ => 4 - (intOf t).toNat)
  case atStart => exact ⟨rfl, .inl ⟨rfl, _, rfl, by omega, by omega, Lib.hid rfl⟩⟩
  case round =>
    clear h2 h3 h4 hb0 e0 w0
    obtain ⟨rfl, hr⟩ := hrel
    rcases hr with ⟨rfl, X, rfl, X0, X1, hX⟩ | ⟨rfl, X, rfl, X0, X1, hX⟩ | ⟨rfl, X, rfl, X0, X1, hX⟩ | ⟨rfl, X, rfl, X0, X1, hX⟩
    · obtain ⟨i11, wi1, e1, hb1, w1⟩ := H1.out
      by_cases c1 : b1 < 128
      · have kk := Lib.hid (t_cont4 (s.size - i) b0 b1 b2 b3 H0.out.1 H0.out.2.1 H0.out.2.2.1 (by omega))
        go_wp2
        go_ret
        refine ⟨?_, rfl⟩
        rw [kk.out]
        rfl
      · by_cases c2 : 191 < b1
        · have kk := Lib.hid (t_cont4 (s.size - i) b0 b1 b2 b3 H0.out.1 H0.out.2.1 H0.out.2.2.1 (by omega))
          go_wp2
          go_ret
          refine ⟨?_, rfl⟩
          rw [kk.out]
          rfl
        · go_wp2
          have p1 : 128 ≤ b1 := by omega
          have q1 : b1 ≤ 191 := by omega
          have hXe := hX.out
          go_roundw
          case rel => exact ⟨by first | rfl | trivial, .inr (.inl ⟨rfl, _, rfl, by omega, by omega, Lib.hid ⟨by rw [hXe], p1, q1⟩⟩)⟩
          case measure => simp [intOf]
    · obtain ⟨i12, wi2, e2, hb2, w2⟩ := H2.out
      by_cases c1 : b2 < 128
      · have kk := Lib.hid (t_cont4 (s.size - i) b0 b1 b2 b3 H0.out.1 H0.out.2.1 H0.out.2.2.1 (by omega))
        go_wp2
        go_ret
        refine ⟨?_, rfl⟩
        rw [kk.out]
        rfl
      · by_cases c2 : 191 < b2
        · have kk := Lib.hid (t_cont4 (s.size - i) b0 b1 b2 b3 H0.out.1 H0.out.2.1 H0.out.2.2.1 (by omega))
          go_wp2
          go_ret
          refine ⟨?_, rfl⟩
          rw [kk.out]
          rfl
        · go_wp2
          have p2 : 128 ≤ b2 := by omega
          have q2 : b2 ≤ 191 := by omega
          obtain ⟨hXe, p1, q1⟩ := hX.out
          go_roundw
          case rel => exact ⟨by first | rfl | trivial, .inr (.inr (.inl ⟨rfl, _, rfl, by omega, by omega, Lib.hid ⟨by rw [hXe], p1, q1, p2, q2⟩⟩))⟩
          case measure => simp [intOf]
    · obtain ⟨i13, wi3, e3, hb3, w3⟩ := H3.out
      by_cases c1 : b3 < 128
      · have kk := Lib.hid (t_cont4 (s.size - i) b0 b1 b2 b3 H0.out.1 H0.out.2.1 H0.out.2.2.1 (by omega))
        go_wp2
        go_ret
        refine ⟨?_, rfl⟩
        rw [kk.out]
        rfl
      · by_cases c2 : 191 < b3
        · have kk := Lib.hid (t_cont4 (s.size - i) b0 b1 b2 b3 H0.out.1 H0.out.2.1 H0.out.2.2.1 (by omega))
          go_wp2
          go_ret
          refine ⟨?_, rfl⟩
          rw [kk.out]
          rfl
        · go_wp2
          have p3 : 128 ≤ b3 := by omega
          have q3 : b3 ≤ 191 := by omega
          obtain ⟨hXe, p1, q1, p2, q2⟩ := hX.out
          go_roundw
          case rel => exact ⟨by first | rfl | trivial, .inr (.inr (.inr (⟨rfl, _, rfl, by omega, by omega, Lib.hid ⟨by rw [hXe], p1, q1, p2, q2, p3, q3⟩⟩)))⟩
          case measure => simp [intOf]
    · obtain ⟨hXe, p1, q1, p2, q2, p3, q3⟩ := hX.out
      have kk := Lib.hid (t_end4 (s.size - i) b0 b1 b2 b3 H0.out.1 H0.out.2.1 H0.out.2.2.1 p1 q1 p2 q2 p3 q3 X hXe)
      clear hXe p1 q1 p2 q2 p3 q3 hX
      go_wp2
      all_goals go_ret
      all_goals refine ⟨?_, rfl⟩
      all_goals rw [kk.out]
      all_goals first
        | (rw [if_pos (by omega)]; rfl)
        | (rw [if_neg (by omega)]; rfl)

/-- kintsugiref03.width. -/
theorem width_any (s : ByteArray) (i : Nat) (hi : i < s.size) (hs : s.size ≤ 1000000) (w : World) :
    Calls Try.prog 51 #[.string s, .int .i64 (i : Int)] w fun e w' => e = .returned (.int .i64 (wd s i)) ∧ w = w' := by
  by_cases h1 : bt s i < 128
  · exact width_a s i hi hs w h1
  by_cases h2 : bt s i < 192
  · exact width_x1 s i hi hs w (by omega) h2
  by_cases h3 : bt s i < 224
  · by_cases h : 2 ≤ s.size - i
    · exact width_2 s i hi hs w (by omega) h3 h
    · exact width_s2 s i hi hs w (by omega) h3 h
  by_cases h4 : bt s i < 240
  · by_cases h : 3 ≤ s.size - i
    · exact width_3 s i hi hs w (by omega) h4 h
    · exact width_s3 s i hi hs w (by omega) h4 h
  by_cases h5 : bt s i < 248
  · by_cases h : 4 ≤ s.size - i
    · exact width_4 s i hi hs w (by omega) h5 h
    · exact width_s4 s i hi hs w (by omega) h5 h
  exact width_x2 s i hi hs w (by omega)
end Go.Proofs.Ytnclappdokhciaa
