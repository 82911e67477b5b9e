import Derived.Test.YtpmikgbdicokhaaDoorW5
import Derived.Deep.WholeRow
import Derived.WalkKit
import Derived.WalkLawsBesides
import Derived.WalkSpells
import Derived.BigQuiet
import Derived.BigRegion
import Derived.Deep.QuietTactic
import Derived.Deep.RegionHeld3
import Derived.StillTailTactics
import Derived.Deep.LoopGhost
import Derived.Outline
import Derived.Lib.Hide
namespace Go.Proofs.YtpmikgbdicokhaaDoor
open Go.RowKit
set_option linter.unusedVariables false

/-- The closure that lays a word's bytes. -/
theorem put_any (g : Nat) (f : Nat → Value) (k x : Nat) (hk : k < 8) (hx : x < 4294967296) (w : World) (ht : Tab w g 24 32 f) :
    Calls Tryd.prog 20 #[.int .i64 k, .int .u32 x, .pointer (some ⟨g, 0, none⟩)] w fun e w' => e = .returned (.tuple #[]) ∧
      Tab w' g 24 32 (put (put (put (put f (4 * k) (ub (x / 16777216))) (4 * k + 1) (ub (x / 65536 % 256))) (4 * k + 2) (ub (x / 256 % 256))) (4 * k + 3) (ub (x % 256))) ∧ Only (· = g) w w' := by
  have z0 := ht.cell (4 * k) (by omega)
  have z1 := ht.cell (4 * k + 1) (by omega)
  have z2 := ht.cell (4 * k + 2) (by omega)
  have z3 := ht.cell (4 * k + 3) (by omega)
  have f0 := ht.frozen (4 * k)
  have f1 := ht.frozen (4 * k + 1)
  have f2 := ht.frozen (4 * k + 2)
  have f3 := ht.frozen (4 * k + 3)
  go_enter Tryd.func20, Tryd.ntmps20
  go_wp2
  go_end0
  have e0 : (x : Int) / 16777216 = ((x / 16777216 : Nat) : Int) := by omega
  have e1 : (x : Int) / 65536 % 256 = ((x / 65536 % 256 : Nat) : Int) := by omega
  have e2 : (x : Int) / 256 % 256 = ((x / 256 % 256 : Nat) : Int) := by omega
  have e3 : (x : Int) % 256 = ((x % 256 : Nat) : Int) := by omega
  rw [e0, e1, e2, e3]
  refine ⟨rfl, (((ht.set_ (4 * k) _).set_ (4 * k + 1) _).set_ (4 * k + 2) _).set_ (4 * k + 3) _, ?_⟩
  exact ((((Only.refl (· = g) w).setCell (p := ⟨g, 4 * k, none⟩) (.inl rfl) _).setCell (p := ⟨g, 4 * k + 1, none⟩) (.inl rfl) _).setCell (p := ⟨g, 4 * k + 2, none⟩) (.inl rfl) _).setCell (p := ⟨g, 4 * k + 3, none⟩) (.inl rfl) _
end Go.Proofs.YtpmikgbdicokhaaDoor
