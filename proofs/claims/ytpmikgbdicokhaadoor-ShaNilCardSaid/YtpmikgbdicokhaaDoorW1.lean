import Derived.Test.YtpmikgbdicokhaaDoorRows
import Derived.Test.YtpmikgbdicokhaaDoorBase
import Derived.Test.YtpmikgbdicokhaaDoorSpec
import Derived.WalkKit
import Derived.WalkLawsBesides
import Derived.WalkSpells
import Derived.BigQuiet
import Derived.Deep.QuietTactic
import Derived.Deep.RegionHeld3
import Derived.StillTailTactics
import Derived.Deep.LoopGhost
import Derived.Outline
import Derived.Lib.Hide
namespace Go.Proofs.YtpmikgbdicokhaaDoor
open Go.RowKit
set_option linter.unusedVariables false

theorem ret_u32 {a b : Int} (h : a = b) : Ending.returned (.int .u32 a) = .returned (.int .u32 b) := by rw [h]

theorem rotl_any (x s : Nat) (n : Int) (hx : x < 4294967296) (w : World) (h1 : 1 ≤ n) (h2 : n ≤ 31) (h3 : 1 ≤ s) (h4 : s ≤ 31) (h : bits .and .u64 (IntKind.u64.wrap (-n)) 31 = s) :
    Calls Tryd.prog 28 #[.int .u32 x, .int .i64 (-n)] w fun e w' => e = .returned (.int .u32 (bits .or .u32 ((x : Int) * 2 ^ s % 4294967296) ((x : Int) / 2 ^ (32 - s)))) ∧ w = w' := by
  go_enter Tryd.func28, Tryd.ntmps28
  go_wp2
  go_ret
  exact ⟨rfl, rfl⟩

theorem rot_any (x k : Nat) (n : Int) (hn : n = k) (hx : x < 4294967296) (w : World) (h1 : 1 ≤ k) (h2 : k ≤ 31) (h : bits .and .u64 (IntKind.u64.wrap (-n)) 31 = ((32 - k : Nat) : Int)) :
    Calls Tryd.prog 26 #[.int .u32 x, .int .i64 n] w fun e w' => e = .returned (.int .u32 (rot k x)) ∧ w = w' := by
  have hc := rotl_any x (32 - k) n hx w (by omega) (by omega) (by omega) (by omega) h
  have h1' : 1 ≤ n := by omega
  have h2' : n ≤ 31 := by omega
  have e : bits .or .u32 ((x : Int) * 2 ^ (32 - k) % 4294967296) ((x : Int) / 2 ^ (32 - (32 - k))) = (rot k x : Nat) := by
    have e1 : (x : Int) * 2 ^ (32 - k) % 4294967296 = ((x * 2 ^ (32 - k) % 4294967296 : Nat) : Int) := by rw [Int.natCast_emod, Int.natCast_mul, Int.natCast_pow]; rfl
    have e2 : (x : Int) / 2 ^ (32 - (32 - k)) = ((x / 2 ^ k : Nat) : Int) := by rw [show 32 - (32 - k) = k by omega, Int.natCast_ediv, Int.natCast_pow]; rfl
    rw [e1, e2, u32_or_nat _ _ (Nat.mod_lt _ (by omega)) (div_lt _ hx)]
    rfl
  rw [e] at hc
  clear e h hn
  go_enter Tryd.func26, Tryd.ntmps26
  go_wp2_with (go_at_call 28; refine hc.mono ?_; rintro e w' ⟨rfl, rfl⟩)
  go_ret
  exact ⟨rfl, rfl⟩

/-- turn, at the numbers at which it is called. -/
theorem rot_n (x : Nat) (n : Int) (hx : x < 4294967296) (hk : n = 2 ∨ n = 6 ∨ n = 7 ∨ n = 11 ∨ n = 13 ∨ n = 17 ∨ n = 18 ∨ n = 19 ∨ n = 22 ∨ n = 25) (w : World) :
    Calls Tryd.prog 26 #[.int .u32 x, .int .i64 n] w fun e w' => e = .returned (.int .u32 (rot n.toNat x)) ∧ w = w' := by
  rcases hk with rfl | rfl | rfl | rfl | rfl | rfl | rfl | rfl | rfl | rfl
  · exact rot_any x 2 2 rfl hx w (by omega) (by omega) (by decide)
  · exact rot_any x 6 6 rfl hx w (by omega) (by omega) (by decide)
  · exact rot_any x 7 7 rfl hx w (by omega) (by omega) (by decide)
  · exact rot_any x 11 11 rfl hx w (by omega) (by omega) (by decide)
  · exact rot_any x 13 13 rfl hx w (by omega) (by omega) (by decide)
  · exact rot_any x 17 17 rfl hx w (by omega) (by omega) (by decide)
  · exact rot_any x 18 18 rfl hx w (by omega) (by omega) (by decide)
  · exact rot_any x 19 19 rfl hx w (by omega) (by omega) (by decide)
  · exact rot_any x 22 22 rfl hx w (by omega) (by omega) (by decide)
  · exact rot_any x 25 25 rfl hx w (by omega) (by omega) (by decide)
end Go.Proofs.YtpmikgbdicokhaaDoor
