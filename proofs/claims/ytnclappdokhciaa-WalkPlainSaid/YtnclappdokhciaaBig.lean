/-
  The reference's width, Fault, Check, may, Are for names of any length.
-/
import Derived.Test.YtnclappdokhciaaD4
namespace Go.Proofs.Ytnclappdokhciaa
open Go Go.RowKit
set_option linter.unusedVariables false
set_option maxRecDepth 10000 in
set_option maxHeartbeats 2000000 in
theorem width_aX (s : ByteArray) (i : Nat) (hi : i < s.size) (hs : s.size ≤ 9223372036854775807) (w : World) (h : bt s i < 128) :
    Calls Try.prog 51 #[.string s, .int .i64 (i : Int)] w fun e w' => e = .returned (.int .i64 (wd s i)) ∧ w = w' := by
  rw [wd_eq]
  have i0 : (0 : Int) ≤ (i : Int) := by omega
  have i1 : (i : Int) < (s.size : Int) := by omega
  have e0 : ((s[i]'hi).toNat) = bt s i := (bt_at s i hi).symm
  have hb0 := bt_lt s i
  generalize bt s (i + 1) = b1
  generalize bt s (i + 2) = b2
  generalize bt s (i + 3) = b3
  generalize bt s i = b0 at *
  have w0 := wrap_b b0 hb0
  have e9 : widT (s.size - i) b0 b1 b2 b3 = 1 := by unfold widT; (repeat' split) <;> omega
  rw [e9]
  clear e9
  go_enter Try.func51, Try.ntmps51
  go_wp2
  all_goals go_ret
  all_goals exact ⟨rfl, rfl⟩

set_option maxRecDepth 10000 in
set_option maxHeartbeats 2000000 in
theorem width_x1X (s : ByteArray) (i : Nat) (hi : i < s.size) (hs : s.size ≤ 9223372036854775807) (w : World) (h : 128 ≤ bt s i) (h2 : bt s i < 192) :
    Calls Try.prog 51 #[.string s, .int .i64 (i : Int)] w fun e w' => e = .returned (.int .i64 (wd s i)) ∧ w = w' := by
  rw [wd_eq]
  have i0 : (0 : Int) ≤ (i : Int) := by omega
  have i1 : (i : Int) < (s.size : Int) := by omega
  have e0 : ((s[i]'hi).toNat) = bt s i := (bt_at s i hi).symm
  have hb0 := bt_lt s i
  generalize bt s (i + 1) = b1
  generalize bt s (i + 2) = b2
  generalize bt s (i + 3) = b3
  generalize bt s i = b0 at *
  have w0 := wrap_b b0 hb0
  have e9 : widT (s.size - i) b0 b1 b2 b3 = 0 := by unfold widT; (repeat' split) <;> omega
  rw [e9]
  clear e9
  go_enter Try.func51, Try.ntmps51
  go_wp2
  all_goals go_ret
  all_goals exact ⟨rfl, rfl⟩

set_option maxRecDepth 10000 in
set_option maxHeartbeats 2000000 in
theorem width_x2X (s : ByteArray) (i : Nat) (hi : i < s.size) (hs : s.size ≤ 9223372036854775807) (w : World) (h : 248 ≤ bt s i) :
    Calls Try.prog 51 #[.string s, .int .i64 (i : Int)] w fun e w' => e = .returned (.int .i64 (wd s i)) ∧ w = w' := by
  rw [wd_eq]
  have i0 : (0 : Int) ≤ (i : Int) := by omega
  have i1 : (i : Int) < (s.size : Int) := by omega
  have e0 : ((s[i]'hi).toNat) = bt s i := (bt_at s i hi).symm
  have hb0 := bt_lt s i
  generalize bt s (i + 1) = b1
  generalize bt s (i + 2) = b2
  generalize bt s (i + 3) = b3
  generalize bt s i = b0 at *
  have w0 := wrap_b b0 hb0
  have e9 : widT (s.size - i) b0 b1 b2 b3 = 0 := by unfold widT; (repeat' split) <;> omega
  rw [e9]
  clear e9
  go_enter Try.func51, Try.ntmps51
  go_wp2
  all_goals go_ret
  all_goals exact ⟨rfl, rfl⟩

set_option maxRecDepth 10000 in
set_option maxHeartbeats 2000000 in
theorem width_s2X (s : ByteArray) (i : Nat) (hi : i < s.size) (hs : s.size ≤ 9223372036854775807) (w : World) (h2 : 192 ≤ bt s i) (h3 : bt s i < 224) (h4 : ¬ 2 ≤ s.size - i) :
    Calls Try.prog 51 #[.string s, .int .i64 (i : Int)] w fun e w' => e = .returned (.int .i64 (wd s i)) ∧ w = w' := by
  rw [wd_eq]
  have i0 : (0 : Int) ≤ (i : Int) := by omega
  have i1 : (i : Int) < (s.size : Int) := by omega
  have e0 : ((s[i]'hi).toNat) = bt s i := (bt_at s i hi).symm
  have hb0 := bt_lt s i
  generalize bt s (i + 1) = b1
  generalize bt s (i + 2) = b2
  generalize bt s (i + 3) = b3
  generalize bt s i = b0 at *
  have w0 := wrap_b b0 hb0
  have e9 : widT (s.size - i) b0 b1 b2 b3 = 0 := by unfold widT; (repeat' split) <;> omega
  rw [e9]
  clear e9
  go_enter Try.func51, Try.ntmps51
  go_wp2
  all_goals go_ret
  all_goals exact ⟨rfl, rfl⟩

set_option maxRecDepth 10000 in
set_option maxHeartbeats 2000000 in
theorem width_2X (s : ByteArray) (i : Nat) (hi : i < s.size) (hs : s.size ≤ 9223372036854775807) (w : World) (h2 : 192 ≤ bt s i) (h3 : bt s i < 224) (h4 : 2 ≤ s.size - i) :
    Calls Try.prog 51 #[.string s, .int .i64 (i : Int)] w fun e w' => e = .returned (.int .i64 (wd s i)) ∧ w = w' := by
  rw [wd_eq]
  have i0 : (0 : Int) ≤ (i : Int) := by omega
  have i1 : (i : Int) < (s.size : Int) := by omega
  have e0 : ((s[i]'hi).toNat) = bt s i := (bt_at s i hi).symm
  have hb0 := bt_lt s i
  have i21 : i + 1 < s.size := Nat.lt_of_lt_of_le (Nat.add_lt_add_left (Nat.lt_of_lt_of_le (by decide : 1 < 2) h4) i) (Nat.le_of_eq (Nat.add_sub_of_le (Nat.le_of_lt hi)))
  have i11 : ((i : Int) + 1) < (s.size : Int) := by omega
  have wi1 : wrap64 ((i : Int) + 1) = ((i + 1 : Nat) : Int) := by unfold wrap64; omega
  have e1 : ((s[i + 1]'i21).toNat) = bt s (i + 1) := (bt_at s (i + 1) i21).symm
  have hb1 := bt_lt s (i + 1)
  generalize bt s (i + 2) = b2
  generalize bt s (i + 3) = b3
  generalize bt s (i + 1) = b1 at *
  generalize bt s i = b0 at *
  have w0 := wrap_b b0 hb0
  have w1 := wrap_b b1 hb1
  have H1 := Lib.hid (And.intro i11 (And.intro wi1 (And.intro e1 (And.intro hb1 w1))))
  clear i11 wi1 e1 hb1 w1
  go_enter Try.func51, Try.ntmps51
  go_wp2
  simp only [show decide ((b0 : Int) < 128) = false from decide_eq_false (by omega), show decide ((b0 : Int) < 224) = true from decide_eq_true (by omega)]
  have H0 := Lib.hid (And.intro h2 (And.intro h3 (And.intro h4 (And.intro hb0 e0))))
  go_loopw [4, 7, 8, 9] (fun _ x t _ wr => wr = w ∧ ((t = .int .i64 1 ∧ ∃ X : Int, x = .int .i64 X ∧ 0 ≤ X ∧ X < 32 ∧ Hid (X = ((b0 : Int) - 192))) ∨ (t = .int .i64 2 ∧ ∃ X : Int, x = .int .i64 X ∧ 0 ≤ X ∧ X < 2048 ∧ Hid (X = (64 * ((b0 : Int) - 192) + (b1 : Int) - 128) ∧ 128 ≤ b1 ∧ b1 ≤ 191)))) (fun _ _ t _ _ => 2 - (intOf t).toNat)
  case atStart => exact ⟨rfl, .inl ⟨rfl, _, rfl, by omega, by omega, Lib.hid rfl⟩⟩
  case round =>
    clear h2 h3 h4 hb0 e0 w0
    obtain ⟨rfl, hr⟩ := hrel
    rcases hr with ⟨rfl, X, rfl, X0, X1, hX⟩ | ⟨rfl, X, rfl, X0, X1, hX⟩
    · obtain ⟨i11, wi1, e1, hb1, w1⟩ := H1.out
      by_cases c1 : b1 < 128
      · have kk := Lib.hid (t_cont2 (s.size - i) b0 b1 b2 b3 H0.out.1 H0.out.2.1 H0.out.2.2.1 (by omega))
        go_wp2
        go_ret
        refine ⟨?_, rfl⟩
        rw [kk.out]
        rfl
      · by_cases c2 : 191 < b1
        · have kk := Lib.hid (t_cont2 (s.size - i) b0 b1 b2 b3 H0.out.1 H0.out.2.1 H0.out.2.2.1 (by omega))
          go_wp2
          go_ret
          refine ⟨?_, rfl⟩
          rw [kk.out]
          rfl
        · go_wp2
          have p1 : 128 ≤ b1 := by omega
          have q1 : b1 ≤ 191 := by omega
          have hXe := hX.out
          go_roundw
          case rel => exact ⟨by first | rfl | trivial, .inr (⟨rfl, _, rfl, by omega, by omega, Lib.hid ⟨by rw [hXe], p1, q1⟩⟩)⟩
          case measure => simp [intOf]
    · obtain ⟨hXe, p1, q1⟩ := hX.out
      have kk := Lib.hid (t_end2 (s.size - i) b0 b1 b2 b3 H0.out.1 H0.out.2.1 H0.out.2.2.1 p1 q1 X hXe)
      clear hXe p1 q1 hX
      go_wp2
      all_goals go_ret
      all_goals refine ⟨?_, rfl⟩
      all_goals rw [kk.out]
      all_goals first
        | (rw [if_pos (by omega)]; rfl)
        | (rw [if_neg (by omega)]; rfl)

set_option maxRecDepth 10000 in
set_option maxHeartbeats 2000000 in
theorem width_s3X (s : ByteArray) (i : Nat) (hi : i < s.size) (hs : s.size ≤ 9223372036854775807) (w : World) (h2 : 224 ≤ bt s i) (h3 : bt s i < 240) (h4 : ¬ 3 ≤ s.size - i) :
    Calls Try.prog 51 #[.string s, .int .i64 (i : Int)] w fun e w' => e = .returned (.int .i64 (wd s i)) ∧ w = w' := by
  rw [wd_eq]
  have i0 : (0 : Int) ≤ (i : Int) := by omega
  have i1 : (i : Int) < (s.size : Int) := by omega
  have e0 : ((s[i]'hi).toNat) = bt s i := (bt_at s i hi).symm
  have hb0 := bt_lt s i
  generalize bt s (i + 1) = b1
  generalize bt s (i + 2) = b2
  generalize bt s (i + 3) = b3
  generalize bt s i = b0 at *
  have w0 := wrap_b b0 hb0
  have e9 : widT (s.size - i) b0 b1 b2 b3 = 0 := by unfold widT; (repeat' split) <;> omega
  rw [e9]
  clear e9
  go_enter Try.func51, Try.ntmps51
  go_wp2
  all_goals go_ret
  all_goals exact ⟨rfl, rfl⟩

set_option maxRecDepth 10000 in
set_option maxHeartbeats 2000000 in
theorem width_3X (s : ByteArray) (i : Nat) (hi : i < s.size) (hs : s.size ≤ 9223372036854775807) (w : World) (h2 : 224 ≤ bt s i) (h3 : bt s i < 240) (h4 : 3 ≤ s.size - i) :
    Calls Try.prog 51 #[.string s, .int .i64 (i : Int)] w fun e w' => e = .returned (.int .i64 (wd s i)) ∧ w = w' := by
  rw [wd_eq]
  have i0 : (0 : Int) ≤ (i : Int) := by omega
  have i1 : (i : Int) < (s.size : Int) := by omega
  have e0 : ((s[i]'hi).toNat) = bt s i := (bt_at s i hi).symm
  have hb0 := bt_lt s i
  have i21 : i + 1 < s.size := Nat.lt_of_lt_of_le (Nat.add_lt_add_left (Nat.lt_of_lt_of_le (by decide : 1 < 3) h4) i) (Nat.le_of_eq (Nat.add_sub_of_le (Nat.le_of_lt hi)))
  have i11 : ((i : Int) + 1) < (s.size : Int) := by omega
  have wi1 : wrap64 ((i : Int) + 1) = ((i + 1 : Nat) : Int) := by unfold wrap64; omega
  have e1 : ((s[i + 1]'i21).toNat) = bt s (i + 1) := (bt_at s (i + 1) i21).symm
  have hb1 := bt_lt s (i + 1)
  have i22 : i + 2 < s.size := Nat.lt_of_lt_of_le (Nat.add_lt_add_left (Nat.lt_of_lt_of_le (by decide : 2 < 3) h4) i) (Nat.le_of_eq (Nat.add_sub_of_le (Nat.le_of_lt hi)))
  have i12 : ((i : Int) + 2) < (s.size : Int) := by omega
  have wi2 : wrap64 ((i : Int) + 2) = ((i + 2 : Nat) : Int) := by unfold wrap64; omega
  have e2 : ((s[i + 2]'i22).toNat) = bt s (i + 2) := (bt_at s (i + 2) i22).symm
  have hb2 := bt_lt s (i + 2)
  generalize bt s (i + 3) = b3
  generalize bt s (i + 2) = b2 at *
  generalize bt s (i + 1) = b1 at *
  generalize bt s i = b0 at *
  have w0 := wrap_b b0 hb0
  have w1 := wrap_b b1 hb1
  have w2 := wrap_b b2 hb2
  have H1 := Lib.hid (And.intro i11 (And.intro wi1 (And.intro e1 (And.intro hb1 w1))))
  clear i11 wi1 e1 hb1 w1
  have H2 := Lib.hid (And.intro i12 (And.intro wi2 (And.intro e2 (And.intro hb2 w2))))
  clear i12 wi2 e2 hb2 w2
  go_enter Try.func51, Try.ntmps51
  go_wp2
  simp only [show decide ((b0 : Int) < 128) = false from decide_eq_false (by omega), show decide ((b0 : Int) < 224) = false from decide_eq_false (by omega), show decide ((b0 : Int) < 240) = true from decide_eq_true (by omega)]
  have H0 := Lib.hid (And.intro h2 (And.intro h3 (And.intro h4 (And.intro hb0 e0))))
  go_loopw [4, 7, 8, 9] (fun _ x t _ wr => wr = w ∧ ((t = .int .i64 1 ∧ ∃ X : Int, x = .int .i64 X ∧ 0 ≤ X ∧ X < 16 ∧ Hid (X = ((b0 : Int) - 224))) ∨ (t = .int .i64 2 ∧ ∃ X : Int, x = .int .i64 X ∧ 0 ≤ X ∧ X < 1024 ∧ Hid (X = (64 * ((b0 : Int) - 224) + (b1 : Int) - 128) ∧ 128 ≤ b1 ∧ b1 ≤ 191)) ∨ (t = .int .i64 3 ∧ ∃ X : Int, x = .int .i64 X ∧ 0 ≤ X ∧ X < 65536 ∧ Hid (X = (64 * (64 * ((b0 : Int) - 224) + (b1 : Int) - 128) + (b2 : Int) - 128) ∧ 128 ≤ b1 ∧ b1 ≤ 191 ∧ 128 ≤ b2 ∧ b2 ≤ 191)))) (fun _ _ t _ _ => 3 - (intOf t).toNat)
  case atStart => exact ⟨rfl, .inl ⟨rfl, _, rfl, by omega, by omega, Lib.hid rfl⟩⟩
  case round =>
    clear h2 h3 h4 hb0 e0 w0
    obtain ⟨rfl, hr⟩ := hrel
    rcases hr with ⟨rfl, X, rfl, X0, X1, hX⟩ | ⟨rfl, X, rfl, X0, X1, hX⟩ | ⟨rfl, X, rfl, X0, X1, hX⟩
    · obtain ⟨i11, wi1, e1, hb1, w1⟩ := H1.out
      by_cases c1 : b1 < 128
      · have kk := Lib.hid (t_cont3 (s.size - i) b0 b1 b2 b3 H0.out.1 H0.out.2.1 H0.out.2.2.1 (by omega))
        go_wp2
        go_ret
        refine ⟨?_, rfl⟩
        rw [kk.out]
        rfl
      · by_cases c2 : 191 < b1
        · have kk := Lib.hid (t_cont3 (s.size - i) b0 b1 b2 b3 H0.out.1 H0.out.2.1 H0.out.2.2.1 (by omega))
          go_wp2
          go_ret
          refine ⟨?_, rfl⟩
          rw [kk.out]
          rfl
        · go_wp2
          have p1 : 128 ≤ b1 := by omega
          have q1 : b1 ≤ 191 := by omega
          have hXe := hX.out
          go_roundw
          case rel => exact ⟨by first | rfl | trivial, .inr (.inl ⟨rfl, _, rfl, by omega, by omega, Lib.hid ⟨by rw [hXe], p1, q1⟩⟩)⟩
          case measure => simp [intOf]
    · obtain ⟨i12, wi2, e2, hb2, w2⟩ := H2.out
      by_cases c1 : b2 < 128
      · have kk := Lib.hid (t_cont3 (s.size - i) b0 b1 b2 b3 H0.out.1 H0.out.2.1 H0.out.2.2.1 (by omega))
        go_wp2
        go_ret
        refine ⟨?_, rfl⟩
        rw [kk.out]
        rfl
      · by_cases c2 : 191 < b2
        · have kk := Lib.hid (t_cont3 (s.size - i) b0 b1 b2 b3 H0.out.1 H0.out.2.1 H0.out.2.2.1 (by omega))
          go_wp2
          go_ret
          refine ⟨?_, rfl⟩
          rw [kk.out]
          rfl
        · go_wp2
          have p2 : 128 ≤ b2 := by omega
          have q2 : b2 ≤ 191 := by omega
          obtain ⟨hXe, p1, q1⟩ := hX.out
          go_roundw
          case rel => exact ⟨by first | rfl | trivial, .inr (.inr (⟨rfl, _, rfl, by omega, by omega, Lib.hid ⟨by rw [hXe], p1, q1, p2, q2⟩⟩))⟩
          case measure => simp [intOf]
    · obtain ⟨hXe, p1, q1, p2, q2⟩ := hX.out
      have kk := Lib.hid (t_end3 (s.size - i) b0 b1 b2 b3 H0.out.1 H0.out.2.1 H0.out.2.2.1 p1 q1 p2 q2 X hXe)
      clear hXe p1 q1 p2 q2 hX
      go_wp2
      all_goals go_ret
      all_goals refine ⟨?_, rfl⟩
      all_goals rw [kk.out]
      all_goals first
        | (rw [if_pos (by omega)]; rfl)
        | (rw [if_neg (by omega)]; rfl)

set_option maxRecDepth 10000 in
set_option maxHeartbeats 2000000 in
theorem width_s4X (s : ByteArray) (i : Nat) (hi : i < s.size) (hs : s.size ≤ 9223372036854775807) (w : World) (h2 : 240 ≤ bt s i) (h3 : bt s i < 248) (h4 : ¬ 4 ≤ s.size - i) :
    Calls Try.prog 51 #[.string s, .int .i64 (i : Int)] w fun e w' => e = .returned (.int .i64 (wd s i)) ∧ w = w' := by
  rw [wd_eq]
  have i0 : (0 : Int) ≤ (i : Int) := by omega
  have i1 : (i : Int) < (s.size : Int) := by omega
  have e0 : ((s[i]'hi).toNat) = bt s i := (bt_at s i hi).symm
  have hb0 := bt_lt s i
  generalize bt s (i + 1) = b1
  generalize bt s (i + 2) = b2
  generalize bt s (i + 3) = b3
  generalize bt s i = b0 at *
  have w0 := wrap_b b0 hb0
  have e9 : widT (s.size - i) b0 b1 b2 b3 = 0 := by unfold widT; (repeat' split) <;> omega
  rw [e9]
  clear e9
  go_enter Try.func51, Try.ntmps51
  go_wp2
  all_goals go_ret
  all_goals exact ⟨rfl, rfl⟩

set_option maxRecDepth 10000 in
set_option maxHeartbeats 2000000 in
theorem width_4X (s : ByteArray) (i : Nat) (hi : i < s.size) (hs : s.size ≤ 9223372036854775807) (w : World) (h2 : 240 ≤ bt s i) (h3 : bt s i < 248) (h4 : 4 ≤ s.size - i) :
    Calls Try.prog 51 #[.string s, .int .i64 (i : Int)] w fun e w' => e = .returned (.int .i64 (wd s i)) ∧ w = w' := by
  rw [wd_eq]
  have i0 : (0 : Int) ≤ (i : Int) := by omega
  have i1 : (i : Int) < (s.size : Int) := by omega
  have e0 : ((s[i]'hi).toNat) = bt s i := (bt_at s i hi).symm
  have hb0 := bt_lt s i
  have i21 : i + 1 < s.size := Nat.lt_of_lt_of_le (Nat.add_lt_add_left (Nat.lt_of_lt_of_le (by decide : 1 < 4) h4) i) (Nat.le_of_eq (Nat.add_sub_of_le (Nat.le_of_lt hi)))
  have i11 : ((i : Int) + 1) < (s.size : Int) := by omega
  have wi1 : wrap64 ((i : Int) + 1) = ((i + 1 : Nat) : Int) := by unfold wrap64; omega
  have e1 : ((s[i + 1]'i21).toNat) = bt s (i + 1) := (bt_at s (i + 1) i21).symm
  have hb1 := bt_lt s (i + 1)
  have i22 : i + 2 < s.size := Nat.lt_of_lt_of_le (Nat.add_lt_add_left (Nat.lt_of_lt_of_le (by decide : 2 < 4) h4) i) (Nat.le_of_eq (Nat.add_sub_of_le (Nat.le_of_lt hi)))
  have i12 : ((i : Int) + 2) < (s.size : Int) := by omega
  have wi2 : wrap64 ((i : Int) + 2) = ((i + 2 : Nat) : Int) := by unfold wrap64; omega
  have e2 : ((s[i + 2]'i22).toNat) = bt s (i + 2) := (bt_at s (i + 2) i22).symm
  have hb2 := bt_lt s (i + 2)
  have i23 : i + 3 < s.size := Nat.lt_of_lt_of_le (Nat.add_lt_add_left (Nat.lt_of_lt_of_le (by decide : 3 < 4) h4) i) (Nat.le_of_eq (Nat.add_sub_of_le (Nat.le_of_lt hi)))
  have i13 : ((i : Int) + 3) < (s.size : Int) := by omega
  have wi3 : wrap64 ((i : Int) + 3) = ((i + 3 : Nat) : Int) := by unfold wrap64; omega
  have e3 : ((s[i + 3]'i23).toNat) = bt s (i + 3) := (bt_at s (i + 3) i23).symm
  have hb3 := bt_lt s (i + 3)
  generalize bt s (i + 3) = b3 at *
  generalize bt s (i + 2) = b2 at *
  generalize bt s (i + 1) = b1 at *
  generalize bt s i = b0 at *
  have w0 := wrap_b b0 hb0
  have w1 := wrap_b b1 hb1
  have w2 := wrap_b b2 hb2
  have w3 := wrap_b b3 hb3
  have H1 := Lib.hid (And.intro i11 (And.intro wi1 (And.intro e1 (And.intro hb1 w1))))
  clear i11 wi1 e1 hb1 w1
  have H2 := Lib.hid (And.intro i12 (And.intro wi2 (And.intro e2 (And.intro hb2 w2))))
  clear i12 wi2 e2 hb2 w2
  have H3 := Lib.hid (And.intro i13 (And.intro wi3 (And.intro e3 (And.intro hb3 w3))))
  clear i13 wi3 e3 hb3 w3
  go_enter Try.func51, Try.ntmps51
  go_wp2
  simp only [show decide ((b0 : Int) < 128) = false from decide_eq_false (by omega), show decide ((b0 : Int) < 224) = false from decide_eq_false (by omega), show decide ((b0 : Int) < 240) = false from decide_eq_false (by omega), show decide ((b0 : Int) < 248) = true from decide_eq_true (by omega)]
  have H0 := Lib.hid (And.intro h2 (And.intro h3 (And.intro h4 (And.intro hb0 e0))))
  go_loopw [4, 7, 8, 9] (fun _ x t _ wr => wr = w ∧ ((t = .int .i64 1 ∧ ∃ X : Int, x = .int .i64 X ∧ 0 ≤ X ∧ X < 8 ∧ Hid (X = ((b0 : Int) - 240))) ∨ (t = .int .i64 2 ∧ ∃ X : Int, x = .int .i64 X ∧ 0 ≤ X ∧ X < 512 ∧ Hid (X = (64 * ((b0 : Int) - 240) + (b1 : Int) - 128) ∧ 128 ≤ b1 ∧ b1 ≤ 191)) ∨ (t = .int .i64 3 ∧ ∃ X : Int, x = .int .i64 X ∧ 0 ≤ X ∧ X < 32768 ∧ Hid (X = (64 * (64 * ((b0 : Int) - 240) + (b1 : Int) - 128) + (b2 : Int) - 128) ∧ 128 ≤ b1 ∧ b1 ≤ 191 ∧ 128 ≤ b2 ∧ b2 ≤ 191)) ∨ (t = .int .i64 4 ∧ ∃ X : Int, x = .int .i64 X ∧ 0 ≤ X ∧ X < 2097152 ∧ Hid (X = (64 * (64 * (64 * ((b0 : Int) - 240) + (b1 : Int) - 128) + (b2 : Int) - 128) + (b3 : Int) - 128) ∧ 128 ≤ b1 ∧ b1 ≤ 191 ∧ 128 ≤ b2 ∧ b2 ≤ 191 ∧ 128 ≤ b3 ∧ b3 ≤ 191)))) (fun _ _ t _ _ => 4 - (intOf t).toNat)
  case atStart => exact ⟨rfl, .inl ⟨rfl, _, rfl, by omega, by omega, Lib.hid rfl⟩⟩
  case round =>
    clear h2 h3 h4 hb0 e0 w0
    obtain ⟨rfl, hr⟩ := hrel
    rcases hr with ⟨rfl, X, rfl, X0, X1, hX⟩ | ⟨rfl, X, rfl, X0, X1, hX⟩ | ⟨rfl, X, rfl, X0, X1, hX⟩ | ⟨rfl, X, rfl, X0, X1, hX⟩
    · obtain ⟨i11, wi1, e1, hb1, w1⟩ := H1.out
      by_cases c1 : b1 < 128
      · have kk := Lib.hid (t_cont4 (s.size - i) b0 b1 b2 b3 H0.out.1 H0.out.2.1 H0.out.2.2.1 (by omega))
        go_wp2
        go_ret
        refine ⟨?_, rfl⟩
        rw [kk.out]
        rfl
      · by_cases c2 : 191 < b1
        · have kk := Lib.hid (t_cont4 (s.size - i) b0 b1 b2 b3 H0.out.1 H0.out.2.1 H0.out.2.2.1 (by omega))
          go_wp2
          go_ret
          refine ⟨?_, rfl⟩
          rw [kk.out]
          rfl
        · go_wp2
          have p1 : 128 ≤ b1 := by omega
          have q1 : b1 ≤ 191 := by omega
          have hXe := hX.out
          go_roundw
          case rel => exact ⟨by first | rfl | trivial, .inr (.inl ⟨rfl, _, rfl, by omega, by omega, Lib.hid ⟨by rw [hXe], p1, q1⟩⟩)⟩
          case measure => simp [intOf]
    · obtain ⟨i12, wi2, e2, hb2, w2⟩ := H2.out
      by_cases c1 : b2 < 128
      · have kk := Lib.hid (t_cont4 (s.size - i) b0 b1 b2 b3 H0.out.1 H0.out.2.1 H0.out.2.2.1 (by omega))
        go_wp2
        go_ret
        refine ⟨?_, rfl⟩
        rw [kk.out]
        rfl
      · by_cases c2 : 191 < b2
        · have kk := Lib.hid (t_cont4 (s.size - i) b0 b1 b2 b3 H0.out.1 H0.out.2.1 H0.out.2.2.1 (by omega))
          go_wp2
          go_ret
          refine ⟨?_, rfl⟩
          rw [kk.out]
          rfl
        · go_wp2
          have p2 : 128 ≤ b2 := by omega
          have q2 : b2 ≤ 191 := by omega
          obtain ⟨hXe, p1, q1⟩ := hX.out
          go_roundw
          case rel => exact ⟨by first | rfl | trivial, .inr (.inr (.inl ⟨rfl, _, rfl, by omega, by omega, Lib.hid ⟨by rw [hXe], p1, q1, p2, q2⟩⟩))⟩
          case measure => simp [intOf]
    · obtain ⟨i13, wi3, e3, hb3, w3⟩ := H3.out
      by_cases c1 : b3 < 128
      · have kk := Lib.hid (t_cont4 (s.size - i) b0 b1 b2 b3 H0.out.1 H0.out.2.1 H0.out.2.2.1 (by omega))
        go_wp2
        go_ret
        refine ⟨?_, rfl⟩
        rw [kk.out]
        rfl
      · by_cases c2 : 191 < b3
        · have kk := Lib.hid (t_cont4 (s.size - i) b0 b1 b2 b3 H0.out.1 H0.out.2.1 H0.out.2.2.1 (by omega))
          go_wp2
          go_ret
          refine ⟨?_, rfl⟩
          rw [kk.out]
          rfl
        · go_wp2
          have p3 : 128 ≤ b3 := by omega
          have q3 : b3 ≤ 191 := by omega
          obtain ⟨hXe, p1, q1, p2, q2⟩ := hX.out
          go_roundw
          case rel => exact ⟨by first | rfl | trivial, .inr (.inr (.inr (⟨rfl, _, rfl, by omega, by omega, Lib.hid ⟨by rw [hXe], p1, q1, p2, q2, p3, q3⟩⟩)))⟩
          case measure => simp [intOf]
    · obtain ⟨hXe, p1, q1, p2, q2, p3, q3⟩ := hX.out
      have kk := Lib.hid (t_end4 (s.size - i) b0 b1 b2 b3 H0.out.1 H0.out.2.1 H0.out.2.2.1 p1 q1 p2 q2 p3 q3 X hXe)
      clear hXe p1 q1 p2 q2 p3 q3 hX
      go_wp2
      all_goals go_ret
      all_goals refine ⟨?_, rfl⟩
      all_goals rw [kk.out]
      all_goals first
        | (rw [if_pos (by omega)]; rfl)
        | (rw [if_neg (by omega)]; rfl)

/-- kintsugiref03.width. -/
theorem width_anyX (s : ByteArray) (i : Nat) (hi : i < s.size) (hs : s.size ≤ 9223372036854775807) (w : World) :
    Calls Try.prog 51 #[.string s, .int .i64 (i : Int)] w fun e w' => e = .returned (.int .i64 (wd s i)) ∧ w = w' := by
  by_cases h1 : bt s i < 128
  · exact width_aX s i hi hs w h1
  by_cases h2 : bt s i < 192
  · exact width_x1X s i hi hs w (by omega) h2
  by_cases h3 : bt s i < 224
  · by_cases h : 2 ≤ s.size - i
    · exact width_2X s i hi hs w (by omega) h3 h
    · exact width_s2X s i hi hs w (by omega) h3 h
  by_cases h4 : bt s i < 240
  · by_cases h : 3 ≤ s.size - i
    · exact width_3X s i hi hs w (by omega) h4 h
    · exact width_s3X s i hi hs w (by omega) h4 h
  by_cases h5 : bt s i < 248
  · by_cases h : 4 ≤ s.size - i
    · exact width_4X s i hi hs w (by omega) h5 h
    · exact width_s4X s i hi hs w (by omega) h5 h
  exact width_x2X s i hi hs w (by omega)

set_option maxRecDepth 10000 in
set_option maxHeartbeats 2000000 in
/-- kintsugiref03.Fault. -/
theorem faultR_anyX (s : ByteArray) (bad : Nat) (hb : bad < 128) (hs : s.size ≤ 9223372036854775807) (w : World) :
    Calls Try.prog 48 #[.string s, .int .u8 (bad : Int)] w fun e w' => e = .returned (.int .i64 (fault s bad)) ∧ w = w' := by
  go_enter Try.func48, Try.ntmps48
  go_wp2
  go_loopw [4, 5, 6] (fun _ a _ wr => wr = w ∧ ∃ (pos f : Nat), a = .int .i64 pos ∧ faultF s bad f pos = fault s bad ∧ s.size ≤ pos + f ∧ pos ≤ s.size) (fun _ a _ _ => s.size - (intOf a).toNat)
  case atStart => exact ⟨rfl, 0, s.size, rfl, rfl, by omega, by omega⟩
  case round =>
    obtain ⟨rfl, pos, f, rfl, hf, hsz, hle⟩ := hrel
    by_cases hp : pos < s.size
    · have i0 : (0 : Int) ≤ (pos : Int) := by omega
      have i1 : (pos : Int) < (s.size : Int) := by omega
      have e0 : ((s[pos]'hp).toNat) = bt s pos := (bt_at s pos hp).symm
      have hwd := dec_pos s pos
      have hde := dec_end s pos hp
      have hw0 : wd s pos = 0 ∨ wd s pos = (Utf8.decode s pos).2 := by unfold wd; split <;> simp
      obtain ⟨f, rfl⟩ : ∃ g, f = g + 1 := ⟨f - 1, by omega⟩
      have hlo := (dec_lo s pos).1
      have cW := width_anyX s pos hp hs wr
      have hst : (if bt s pos = 0 ∨ bt s pos = bad then 26 else if wd s pos = 0 then 36 else faultF s bad f (pos + wd s pos)) = fault s bad := by
        rw [← hf]; conv => rhs; unfold faultF
        rw [if_pos hp]
      have hw1 : bt s pos < 128 → wd s pos = 1 := fun h => by rw [wd_eq]; unfold widT; exact if_pos h
      clear hf hlo
      have hb0 := bt_lt s pos
      generalize bt s pos = b0 at *
      generalize wd s pos = d at *
      by_cases hz : d = 0
      · subst hz
        have kk := Lib.hid (show fault s bad = 36 by rw [← hst, if_neg (by intro h; have := hw1 (by omega); omega), if_pos rfl])
        clear hst hw1
        go_wp2_with (go_at_call 51; refine cW.mono ?_; rintro e w1 ⟨rfl, rfl⟩)
        go_ret
        exact ⟨by rw [kk.out]; rfl, rfl⟩
      · have hz2 : ((d : Int) == 0) = false := beq_false_of_ne (by omega)
        by_cases hbad : b0 = 0 ∨ b0 = bad
        · have kk := Lib.hid (show fault s bad = 26 by rw [← hst, if_pos hbad])
          clear hst hw1
          by_cases h0 : b0 = 0
          · subst h0
            go_wp2_with (go_at_call 51; refine cW.mono ?_; rintro e w1 ⟨rfl, rfl⟩)
            go_ret
            exact ⟨by rw [kk.out]; rfl, rfl⟩
          · have hb : b0 = bad := hbad.resolve_left h0
            have h02 : ((b0 : Int) == 0) = false := beq_false_of_ne (by omega)
            subst hb
            go_wp2_with (go_at_call 51; refine cW.mono ?_; rintro e w1 ⟨rfl, rfl⟩)
            go_ret
            exact ⟨by rw [kk.out]; rfl, rfl⟩
        · have kk := Lib.hid (show faultF s bad f (pos + d) = fault s bad by rw [← hst, if_neg hbad, if_neg hz])
          clear hst hw1
          have h02 : ((b0 : Int) == 0) = false := beq_false_of_ne (by omega)
          have h03 : ((b0 : Int) == (bad : Int)) = false := beq_false_of_ne (by omega)
          go_wp2_with (go_at_call 51; refine cW.mono ?_; rintro e w1 ⟨rfl, rfl⟩)
          go_roundw
          case rel => exact ⟨by first | rfl | trivial, pos + d, f, by go_num, kk.out, by omega, by omega⟩
          case measure => simp [intOf]; omega
    · have k0 : fault s bad = 0 := by
        rw [← hf]
        cases f with
        | zero => rfl
        | succ f => unfold faultF; exact if_neg hp
      go_wp2
      go_ret
      exact ⟨by rw [k0]; rfl, rfl⟩

set_option maxRecDepth 10000 in
set_option maxHeartbeats 2000000 in
theorem checkR_anyX (s : ByteArray) (hs : s.size ≤ 9223372036854775807) (w : World) :
    Calls Try.prog 21 #[.string s] w fun e w' => e = .returned (.int .i64 (checkS s)) ∧ w = w' := by
  have hF := faultR_anyX s 47 (by omega) hs w
  generalize hk : checkS s = k
  unfold checkS at hk
  generalize hf : fault s 47 = e at *
  by_cases h0 : e = 0
  · subst h0
    rw [if_pos rfl] at hk
    go_enter Try.func21, Try.ntmps21
    go_wp2_with (go_at_call 48; refine hF.mono ?_; rintro e w1 ⟨rfl, rfl⟩)
    all_goals go_ret
    all_goals refine ⟨?_, rfl⟩
    all_goals rw [← hk]
    all_goals first
      | (rw [if_pos (by simp_all)]; rfl)
      | (rw [if_neg (by simp_all), if_pos (by omega)]; rfl)
      | (rw [if_neg (by simp_all), if_neg (by omega)]; rfl)
  · rw [if_neg h0] at hk
    subst hk
    go_enter Try.func21, Try.ntmps21
    go_wp2_with (go_at_call 48; refine hF.mono ?_; rintro e w1 ⟨rfl, rfl⟩)
    all_goals go_ret
    all_goals exact ⟨rfl, rfl⟩

set_option maxRecDepth 10000 in
set_option maxHeartbeats 4000000 in
theorem mayR_anyX (e : Ent) (hs : e.nm.size ≤ 9223372036854775807) (w : World) :
    Calls Try.prog 71 #[.agg e.cells.toArray] w fun r w' => r = .returned (.int .i64 (mayS e)) ∧ Only (fun _ => False) w w' := by
  have ho := (Only.refl (fun _ => False) w).alloc (.cells #[.string e.nm, .int .u16 e.num, .int .u8 e.kind] 79)
  have hb := Blk.new w 79 #[.string e.nm, .int .u16 e.num, .int .u8 e.kind]
  simp only [Ent.cells]
  go_enter Try.func71, Try.ntmps71
  go_wp2_with fail
  generalize w.alloc _ = w2 at *
  generalize hg0 : w.heap.size = g at *
  refine (checkR_anyX e.nm (by omega) w2).mono ?_
  rintro r w3 ⟨rfl, rfl⟩
  have ho3 := Lib.hid ho
  have q0 := hb.cell 0
  have q1 := hb.cell 1
  have q2 := hb.cell 2
  simp only [List.getElem?_toArray, List.getElem?_cons_zero, List.getElem?_cons_succ] at q0 q1 q2
  clear hb ho
  have hk : mayS e = if checkS e.nm = 0 then (if e.num < 1 ∨ 255 < e.num ∨ e.kind < 1 ∨ 3 < e.kind then 26 else 0) else checkS e.nm := rfl
  replace hk := Lib.hid hk
  obtain ⟨nm, num, kind⟩ := e
  simp only at *
  generalize checkS nm = k at *
  by_cases hk0 : k = 0
  · subst hk0
    by_cases h1 : num < 1
    · have h1' : (num : Int) < 1 := by omega
      go_wp2
      go_ret
      exact ⟨by rw [hk.out, if_pos trivial, if_pos (by omega)]; rfl, ho3.out⟩
    · have h1' : ¬ (num : Int) < 1 := by omega
      by_cases h2 : 255 < num
      · have h2' : (255 : Int) < (num : Int) := by omega
        go_wp2
        go_ret
        exact ⟨by rw [hk.out, if_pos trivial, if_pos (by omega)]; rfl, ho3.out⟩
      · have h2' : ¬ (255 : Int) < (num : Int) := by omega
        by_cases h3 : kind < 1
        · have h3' : (kind : Int) < 1 := by omega
          go_wp2
          go_ret
          exact ⟨by rw [hk.out, if_pos trivial, if_pos (by omega)]; rfl, ho3.out⟩
        · have h3' : ¬ (kind : Int) < 1 := by omega
          by_cases h4 : 3 < kind
          · have h4' : (3 : Int) < (kind : Int) := by omega
            go_wp2
            go_ret
            exact ⟨by rw [hk.out, if_pos trivial, if_pos (by omega)]; rfl, ho3.out⟩
          · have h4' : ¬ (3 : Int) < (kind : Int) := by omega
            go_wp2
            go_ret
            exact ⟨by rw [hk.out, if_pos trivial, if_neg (by omega)]; rfl, ho3.out⟩
  · have hkb : (k == 0) = false := beq_false_of_ne hk0
    go_wp2
    go_ret
    exact ⟨by rw [hk.out, if_neg hk0]; rfl, ho3.out⟩

set_option maxRecDepth 10000 in
set_option maxHeartbeats 4000000 in
theorem areR_anyX (l : List Ent) (A : Option Addr) (c : Nat) (w : World) (h : RowE w A l c) (hn : l.length ≤ 100000) (hs : ∀ e ∈ l, e.nm.size ≤ 9223372036854775807) :
    Calls Try.prog 53 #[.slice A l.length c] w fun r w' => r = .returned (.bool (areS l)) ∧ Only (fun _ => False) w w' := by
  go_enter Try.func53, Try.ntmps53
  go_wp2
  go_loopw [2, 3] (fun _ k wr => ∃ (i f : Nat), k = .int .i64 i ∧ i + f = l.length ∧ Only (fun _ => False) w wr ∧ areFrom l l.length 0 = areFrom l f i) (fun _ k _ => l.length - (intOf k).toNat)
  case atStart => exact ⟨0, l.length, rfl, by omega, Only.refl _ _, rfl⟩
  case round =>
    obtain ⟨i, f, rfl, hif, ho, hf⟩ := hrel
    by_cases hlt : i < l.length
    · obtain ⟨x, hx⟩ : ∃ x, l[i]? = some x := ⟨_, List.getElem?_eq_getElem hlt⟩
      obtain ⟨b, o, rfl, hb1, d0, d1, d2⟩ := (h.only ho (fun _ _ x => x)).lit hx
      have i0 : (0 : Int) ≤ (i : Int) := by omega
      have i1 : (i : Int) < (l.length : Int) := by omega
      replace hf := Lib.hid hf
      replace hx := Lib.hid hx
      go_wp2_with fail
      have hxs : x.nm.size ≤ 9223372036854775807 := hs x (List.mem_of_getElem? hx.out)
      have hrow := h.only ho (fun _ _ x => x)
      have ho2 := ho
      have hM := fun W => mayR_anyX x hxs W
      simp only [Ent.cells] at hM
      have hst : areFrom l l.length 0 = (okAt l i x && areFrom l (f - 1) (i + 1)) := by
        rw [hf.out]
        obtain ⟨f, rfl⟩ : ∃ k, f = k + 1 := ⟨f - 1, by omega⟩
        rw [areFrom, hx.out]; rfl
      replace hst := Lib.hid hst
      clear hf
      by_cases hm : mayS x = 0
      · simp only [hm] at hM
        replace hM := Lib.hid hM
        by_cases hi0 : i = 0
        · subst hi0
          simp only [show ((0 : Nat) : Int) = 0 from rfl]
          refine wp_region_class (fun W => Only (fun _ => False) wr W) (by kernel_rfl) (by kernel_rfl) (Only.refl _ _).drew ?_
          repeat (first
            | go_big_quiet_skip
            | (go_big_quiet_want
               first
                 | (refine quiet_load_mid 79 (.tmp 12) rfl b o rfl [.string x.nm, .int .u16 x.num, .int .u8 x.kind] _ (fun W hW => by have := (hrow.only hW (fun _ _ x => x)).range hx.out; rwa [Nat.zero_mul, Nat.add_zero] at this) Try.underlying79 rfl (by kernel_rfl) ?_; simp only [Act.put, List.setIfInBounds_toArray, List.set_cons_zero, List.set_cons_succ]; go_big_quiet_on)
                 | (go_big_quiet_op
                    first
                      | go_big_quiet_on
                      | (refine ⟨_, fun _ _ => by with_reducible rfl, ?_⟩; go_big_quiet_on)
                      | (apply Exists.intro
                         refine ⟨fun W hW => ?_, ?_⟩
                         · (go_at_call 71; with_reducible refine (hM.out W).mono ?_; rintro x w' ⟨rfl, hn⟩; exact ⟨rfl, Only.trans hW hn⟩)
                         go_big_quiet_on))))
          refine wpQuiet_nil ?_
          intro w5 h5
          replace h5 := Lib.hid (ho2.trans h5)
          clear hM ho2
          have hst2 : areFrom l l.length 0 = areFrom l (f - 1) 1 := by
            rw [hst.out, okAt, decide_eq_true hm]; simp
          replace hst2 := Lib.hid hst2
          clear hst
          go_wp2
          go_roundw
          case rel => exact ⟨1, f - 1, rfl, by omega, h5.out, hst2.out⟩
          case measure => simp [intOf]; omega
        · obtain ⟨m, rfl⟩ : ∃ m, i = m + 1 := ⟨i - 1, by omega⟩
          obtain ⟨y, hy⟩ : ∃ y, l[m]? = some y := ⟨_, List.getElem?_eq_getElem (by omega)⟩
          obtain ⟨b', o', hbb, hyb, e0, _, _⟩ := hrow.lit hy
          cases hbb
          have j0 : (0 : Int) < (m : Int) + 1 := by omega
          have j1 : (0 : Int) ≤ (m : Int) := by omega
          have j2 : (m : Int) < (l.length : Int) := by omega
          replace hy := Lib.hid hy
          simp only [show ((m + 1 : Nat) : Int) = (m : Int) + 1 from rfl]
          by_cases hbl : Op.bytesLess y.nm.toList x.nm.toList = true
          · skip
            refine wp_region_class (fun W => Only (fun _ => False) wr W) (by kernel_rfl) (by kernel_rfl) (Only.refl _ _).drew ?_
            repeat (first
              | go_big_quiet_skip
              | (go_big_quiet_want
                 first
                   | (refine quiet_load_mid 79 (.tmp 12) rfl b (o + (m + 1) * 3) rfl [.string x.nm, .int .u16 x.num, .int .u8 x.kind] _ (fun W hW => (hrow.only hW (fun _ _ x => x)).range hx.out) Try.underlying79 rfl (by kernel_rfl) ?_; simp only [Act.put, List.setIfInBounds_toArray, List.set_cons_zero, List.set_cons_succ]; go_big_quiet_on)
                   | (refine quiet_load_cell 9 (.tmp 24) rfl ⟨b, o + m * 3, none⟩ rfl (.string y.nm) _ (fun W hW => (Blk.cell_only hW (a := ⟨b, o + m * 3, none⟩) hyb (fun x => x)).trans e0) rfl Try.underlying9 ?_; simp only [Act.put, List.setIfInBounds_toArray, List.set_cons_zero, List.set_cons_succ]; go_big_quiet_on)
                   | (refine quiet_load_cell 9 (.tmp 29) rfl ⟨b, o + (m + 1) * 3, none⟩ rfl (.string x.nm) _ (fun W hW => (Blk.cell_only hW (a := ⟨b, o + (m + 1) * 3, none⟩) hyb (fun x => x)).trans d0) rfl Try.underlying9 ?_; simp only [Act.put, List.setIfInBounds_toArray, List.set_cons_zero, List.set_cons_succ]; go_big_quiet_on)
                   | (refine quiet_geq 9 9 (.tmp 25) (.tmp 30) rfl y.nm x.nm rfl rfl false (by rw [hbl]; rfl) ?_; simp only [Act.put, List.setIfInBounds_toArray, List.set_cons_zero, List.set_cons_succ]; go_big_quiet_on)
                   | (go_big_quiet_op
                      first
                        | go_big_quiet_on
                        | (refine ⟨_, fun _ _ => by with_reducible rfl, ?_⟩; go_big_quiet_on)
                        | (apply Exists.intro
                           refine ⟨fun W hW => ?_, ?_⟩
                           · (go_at_call 71; with_reducible refine (hM.out W).mono ?_; rintro x w' ⟨rfl, hn⟩; exact ⟨rfl, Only.trans hW hn⟩)
                           go_big_quiet_on))))
            refine wpQuiet_nil ?_
            intro w5 h5
            replace h5 := Lib.hid (ho2.trans h5)
            clear hM ho2
            have hst2 : areFrom l l.length 0 = areFrom l (f - 1) (m + 2) := by
              rw [hst.out, okAt, decide_eq_true hm, show m + 1 - 1 = m from rfl, hy.out]; simp [lessB, hbl]
            replace hst2 := Lib.hid hst2
            clear hst
            go_wp2
            go_roundw
            case rel => exact ⟨m + 2, f - 1, by go_num, by omega, h5.out, hst2.out⟩
            case measure => simp [intOf]; omega
          · replace hbl : Op.bytesLess y.nm.toList x.nm.toList = false := by simpa using hbl
            refine wp_region_class (fun W => Only (fun _ => False) wr W) (by kernel_rfl) (by kernel_rfl) (Only.refl _ _).drew ?_
            repeat (first
              | go_big_quiet_skip
              | (go_big_quiet_want
                 first
                   | (refine quiet_load_mid 79 (.tmp 12) rfl b (o + (m + 1) * 3) rfl [.string x.nm, .int .u16 x.num, .int .u8 x.kind] _ (fun W hW => (hrow.only hW (fun _ _ x => x)).range hx.out) Try.underlying79 rfl (by kernel_rfl) ?_; simp only [Act.put, List.setIfInBounds_toArray, List.set_cons_zero, List.set_cons_succ]; go_big_quiet_on)
                   | (refine quiet_load_cell 9 (.tmp 24) rfl ⟨b, o + m * 3, none⟩ rfl (.string y.nm) _ (fun W hW => (Blk.cell_only hW (a := ⟨b, o + m * 3, none⟩) hyb (fun x => x)).trans e0) rfl Try.underlying9 ?_; simp only [Act.put, List.setIfInBounds_toArray, List.set_cons_zero, List.set_cons_succ]; go_big_quiet_on)
                   | (refine quiet_load_cell 9 (.tmp 29) rfl ⟨b, o + (m + 1) * 3, none⟩ rfl (.string x.nm) _ (fun W hW => (Blk.cell_only hW (a := ⟨b, o + (m + 1) * 3, none⟩) hyb (fun x => x)).trans d0) rfl Try.underlying9 ?_; simp only [Act.put, List.setIfInBounds_toArray, List.set_cons_zero, List.set_cons_succ]; go_big_quiet_on)
                   | (refine quiet_geq 9 9 (.tmp 25) (.tmp 30) rfl y.nm x.nm rfl rfl true (by rw [hbl]; rfl) ?_; simp only [Act.put, List.setIfInBounds_toArray, List.set_cons_zero, List.set_cons_succ]; go_big_quiet_on)
                   | (go_big_quiet_op
                      first
                        | go_big_quiet_on
                        | (refine ⟨_, fun _ _ => by with_reducible rfl, ?_⟩; go_big_quiet_on)
                        | (apply Exists.intro
                           refine ⟨fun W hW => ?_, ?_⟩
                           · (go_at_call 71; with_reducible refine (hM.out W).mono ?_; rintro x w' ⟨rfl, hn⟩; exact ⟨rfl, Only.trans hW hn⟩)
                           go_big_quiet_on))))
            refine wpQuiet_nil ?_
            intro w5 h5
            replace h5 := Lib.hid (ho2.trans h5)
            clear hM ho2
            have hst2 : areS l = false := by
              unfold areS
              rw [hst.out, okAt, decide_eq_true hm, show m + 1 - 1 = m from rfl, hy.out]; simp [lessB, hbl]
            replace hst2 := Lib.hid hst2
            clear hst
            go_wp2
            go_ret
            exact ⟨by rw [hst2.out]; rfl, h5.out⟩
      · have hst2 : areS l = false := by
          unfold areS
          rw [hst.out, okAt, decide_eq_false hm]; simp
        replace hst2 := Lib.hid hst2
        clear hst
        generalize mayS x = k at *
        have hk1 : (k == 0) = false := beq_false_of_ne hm
        have hk2 : (k != 0) = true := by simp [bne, hk1]
        replace hM := Lib.hid hM
        refine wp_region_class (fun W => Only (fun _ => False) wr W) (by kernel_rfl) (by kernel_rfl) (Only.refl _ _).drew ?_
        repeat (first
          | go_big_quiet_skip
          | (go_big_quiet_want
             first
               | (refine quiet_load_mid 79 (.tmp 12) rfl b (o + i * 3) rfl [.string x.nm, .int .u16 x.num, .int .u8 x.kind] _ (fun W hW => (hrow.only hW (fun _ _ x => x)).range hx.out) Try.underlying79 rfl (by kernel_rfl) ?_; simp only [Act.put, List.setIfInBounds_toArray, List.set_cons_zero, List.set_cons_succ]; go_big_quiet_on)
               | (go_big_quiet_op
                  first
                    | go_big_quiet_on
                    | (refine ⟨_, fun _ _ => by with_reducible rfl, ?_⟩; go_big_quiet_on)
                    | (apply Exists.intro
                       refine ⟨fun W hW => ?_, ?_⟩
                       · (go_at_call 71; with_reducible refine (hM.out W).mono ?_; rintro x w' ⟨rfl, hn⟩; exact ⟨rfl, Only.trans hW hn⟩)
                       go_big_quiet_on))))
        refine wpQuiet_nil ?_
        intro w5 h5
        replace h5 := Lib.hid (ho2.trans h5)
        clear hM ho2
        go_wp2
        go_ret
        exact ⟨by rw [hst2.out]; rfl, h5.out⟩
    · have hfz : f = 0 := by omega
      subst hfz
      have hst : areS l = decide (l.length ≤ 64) := by unfold areS; rw [hf, areFrom]; simp
      replace hst := Lib.hid hst
      clear hf
      by_cases h64 : l.length ≤ 64
      · have h64i : (l.length : Int) ≤ 64 := by omega
        go_wp2
        go_ret
        exact ⟨by rw [hst.out, decide_eq_true h64]; rfl, ho⟩
      · have h64i : ¬ (l.length : Int) ≤ 64 := by omega
        go_wp2
        go_ret
        exact ⟨by rw [hst.out, decide_eq_false h64]; rfl, ho⟩
end Go.Proofs.Ytnclappdokhciaa
