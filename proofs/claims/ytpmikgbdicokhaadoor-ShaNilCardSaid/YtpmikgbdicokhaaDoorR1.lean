/-
  The reference's turned (func 23), moved (func 27), constants (func 22).
-/
import Derived.Test.YtpmikgbdicokhaaDoorPcW
namespace Go.Proofs.YtpmikgbdicokhaaDoor
open Go.RowKit
set_option linter.unusedVariables false

/-- Turned to the right by one place, k times. -/
def tn (x : Nat) : Nat → Nat
  | 0 => x
  | k + 1 => tn x k / 2 + (tn x k % 2) * 2147483648
theorem tn_eq {x : Nat} (hx : x < 4294967296) : ∀ k, k ≤ 31 → tn x k = x / 2 ^ k + (x % 2 ^ k) * 2 ^ (32 - k)
  | 0, _ => by simp [tn, Nat.mod_one]
  | k + 1, h => by
    rw [tn, tn_eq hx k (by omega)]
    have e1 : (2 : Nat) ^ (32 - k) = 2 * 2 ^ (31 - k) := by rw [show 32 - k = (31 - k) + 1 by omega, Nat.pow_succ]; omega
    have e2 : (2 : Nat) ^ k * 2 ^ (31 - k) = 2147483648 := by rw [← Nat.pow_add, show k + (31 - k) = 31 by omega]
    rw [e1, show (x % 2 ^ k) * (2 * 2 ^ (31 - k)) = 2 * (x % 2 ^ k * 2 ^ (31 - k)) by rw [Nat.mul_left_comm]]
    rw [show 32 - (k + 1) = 31 - k by omega, Nat.mod_pow_succ, Nat.pow_succ, ← Nat.div_div_eq_div_mul]
    have e3 : (x % 2 ^ k + 2 ^ k * (x / 2 ^ k % 2)) * 2 ^ (31 - k) = x % 2 ^ k * 2 ^ (31 - k) + (x / 2 ^ k % 2) * 2147483648 := by
      rw [Nat.add_mul, ← e2]
      congr 1
      rw [Nat.mul_comm (2 ^ k) (x / 2 ^ k % 2), Nat.mul_assoc]
    rw [e3]
    generalize x % 2 ^ k * 2 ^ (31 - k) = a
    generalize x / 2 ^ k = b
    omega
theorem tn_rot {x : Nat} (hx : x < 4294967296) {k : Nat} (hk : k ≤ 31) : tn x k = rot k x := by
  rw [tn_eq hx k hk]
  unfold rot
  have e0 : (4294967296 : Nat) = 2 ^ k * 2 ^ (32 - k) := by rw [← Nat.pow_add, show k + (32 - k) = 32 by omega]
  have e1 : x * 2 ^ (32 - k) % 4294967296 = (x % 2 ^ k) * 2 ^ (32 - k) := by rw [e0, Nat.mul_mod_mul_right]
  have e2 : x / 2 ^ k < 2 ^ (32 - k) := by
    rw [Nat.div_lt_iff_lt_mul (Nat.two_pow_pos k), Nat.mul_comm, ← e0]; exact hx
  rw [e1, Nat.mul_comm, ← Nat.two_pow_add_eq_or_of_lt e2, Nat.add_comm]
theorem tn_lt {x : Nat} (hx : x < 4294967296) {k : Nat} (hk : k ≤ 31) : tn x k < 4294967296 := by rw [tn_rot hx hk]; exact rot_lt k hx

set_option maxHeartbeats 1000000 in
theorem turned_any (x n : Nat) (hx : x < 4294967296) (hn : n ≤ 31) (w : World) : Calls Tryd.prog 23 #[.int .u32 (x : Int), .int .i64 (n : Int)] w fun e w' => e = .returned (.int .u32 (rot n x : Int)) ∧ w = w' := by
  go_enter Tryd.func23, Tryd.ntmps23
  go_wp2
  go_loopw [0, 5, 6] (fun v t _ wr => ∃ (k : Nat), v = .int .u32 (tn x k : Int) ∧ t = .int .i64 k ∧ k ≤ n ∧ w = wr) (fun _ t _ _ => n - (intOf t).toNat)
  case atStart => exact ⟨0, rfl, rfl, by omega, rfl⟩
  case round =>
    obtain ⟨k, rfl, rfl, hkn, rfl⟩ := hrel
    by_cases hlt : k < n
    · have hy := tn_lt hx (show k ≤ 31 by omega)
      have hs : tn x (k + 1) = tn x k / 2 + (tn x k % 2) * 2147483648 := rfl
      generalize tn x k = y at *
      replace hs := Lib.hid hs
      have m1 : (y : Int).tmod 2 = (y : Int) % 2 := Int.tmod_eq_emod_of_nonneg (by omega)
      have m2 : IntKind.u32.wrap ((y : Int) / 2) = (y : Int) / 2 := IntWalk.u32_in _ (by omega)
      have m3 : IntKind.u32.wrap ((y : Int) / 2 + 2147483648) = (y : Int) / 2 + 2147483648 := IntWalk.u32_in _ (by omega)
      have m4 : (y : Int).tdiv 2 = (y : Int) / 2 := Int.tdiv_eq_ediv_of_nonneg (by omega)
      by_cases hp : y % 2 = 1
      · have p1 : (y : Int) % 2 = 1 := by omega
        have p2 := Lib.hid (show (y : Int) / 2 + 2147483648 = ((y / 2 + y % 2 * 2147483648 : Nat) : Int) by omega)
        clear hp
        go_wp2
        go_roundw
        case rel => exact ⟨k + 1, by rw [hs.out, p2.out], by go_num, by omega, by first | rfl | trivial⟩
        case measure => simp [intOf]; omega
      · have p1 : (y : Int) % 2 = 0 := by omega
        have p2 := Lib.hid (show (y : Int) / 2 = ((y / 2 + y % 2 * 2147483648 : Nat) : Int) by omega)
        clear hp
        go_wp2
        go_roundw
        case rel => exact ⟨k + 1, by rw [hs.out, p2.out], by go_num, by omega, by first | rfl | trivial⟩
        case measure => simp [intOf]; omega
    · obtain rfl : k = n := by omega
      have hr := Lib.hid (tn_rot hx hn)
      obtain ⟨y, hy⟩ : ∃ y, tn x k = y := ⟨_, rfl⟩
      rw [hy]
      rw [hy] at hr
      clear hy
      go_wp2
      go_ret
      exact ⟨by rw [← hr.out]; rfl, rfl⟩

set_option maxHeartbeats 1000000 in
theorem moved_any (x n : Nat) (hx : x < 4294967296) (hn : n ≤ 31) (w : World) : Calls Tryd.prog 27 #[.int .u32 (x : Int), .int .i64 (n : Int)] w fun e w' => e = .returned (.int .u32 ((x / 2 ^ n : Nat) : Int)) ∧ w = w' := by
  go_enter Tryd.func27, Tryd.ntmps27
  go_wp2
  go_loopw [0, 5] (fun v t wr => ∃ (k : Nat), v = .int .u32 ((x / 2 ^ k : Nat) : Int) ∧ t = .int .i64 k ∧ k ≤ n ∧ w = wr) (fun _ t _ => n - (intOf t).toNat)
  case atStart => exact ⟨0, by simp, rfl, by omega, rfl⟩
  case round =>
    obtain ⟨k, rfl, rfl, hkn, rfl⟩ := hrel
    by_cases hlt : k < n
    · have hy := div_lt (2 ^ k) hx
      have hs : x / 2 ^ (k + 1) = x / 2 ^ k / 2 := by rw [Nat.pow_succ, ← Nat.div_div_eq_div_mul]
      generalize x / 2 ^ k = y at *
      replace hs := Lib.hid hs
      have m2 : IntKind.u32.wrap ((y : Int) / 2) = (y : Int) / 2 := IntWalk.u32_in _ (by omega)
      have m4 : (y : Int).tdiv 2 = (y : Int) / 2 := Int.tdiv_eq_ediv_of_nonneg (by omega)
      go_wp2
      go_roundw
      case rel => exact ⟨k + 1, by rw [hs.out]; rfl, by go_num, by omega, by first | rfl | trivial⟩
      case measure => simp [intOf]; omega
    · obtain rfl : k = n := by omega
      obtain ⟨y, hy⟩ : ∃ y, x / 2 ^ k = y := ⟨_, rfl⟩
      rw [hy]
      go_wp2
      go_ret
      exact ⟨by rw [hy]; rfl, rfl⟩

theorem consts_any (w : World) : Calls Tryd.prog 22 #[] w fun e w' => e = .returned (.slice (some ⟨w.heap.size, 0, none⟩) 64 64) ∧ w.alloc (.cells (kk.map uw).toArray 36) = w' := by
  go_enter Tryd.func22, Tryd.ntmps22
  go_wp2
  go_ret
  exact ⟨rfl, rfl⟩
end Go.Proofs.YtpmikgbdicokhaaDoor
