/-
  kintsugilaw13.ContentNil (func 4).
-/
import Derived.Test.YtpkadhgoaaphkaaWk
namespace Go.Proofs.Ytpkadhgoaaphkaa
open Go Go.RowKit Go.Shelf
set_option linter.unusedVariables false
set_option maxRecDepth 20000 in
set_option maxHeartbeats 8000000 in
theorem contentNil_any (size : Nat) (fr n : Int) (A : Option Addr) (l c : Nat) (w : World) :
    Calls Try.prog 4 #[.int .u32 size, .int .i64 fr, .int .i64 n, .slice A l c] w fun r w' => r = .returned (.bool true) ∧ Only (fun _ => False) w w' := by
  have hR := fun W => read_err .nilIface 0 (.inl rfl) size fr n 2 (by decide) W (may_nil fr n)
  have hW := fun W => write_err .nilIface 0 (.inl rfl) size fr 2 A l c (by decide) W (may_nil fr l)
  have hT := fun W => trunc_err .nilIface 0 (.inl rfl) size fr 2 (by decide) W (may_nil fr 0)
  have hK := wakes_any
  replace hR := Lib.hid hR
  replace hW := Lib.hid hW
  replace hT := Lib.hid hT
  replace hK := Lib.hid hK
  by_cases h : 3000 < l
  · have i0 : (3000 : Int) < (l : Int) := by omega
    go_enter Try.func4, Try.ntmps4
    go_wp2_with fail
    refine (hK.out _).mono ?_
    rintro r w1 ⟨rfl, ho⟩
    go_wp2
    go_ret
    exact ⟨rfl, ho⟩
  · have i0 : (l : Int) ≤ (3000 : Int) := by omega
    go_enter Try.func4, Try.ntmps4
    go_wp2_with fail
    refine (hR.out _).mono ?_
    rintro r w1 ⟨rfl, o1⟩
    go_wp2_with fail
    refine (hW.out _).mono ?_
    rintro r w2 ⟨rfl, o2⟩
    go_wp2_with fail
    refine (hT.out _).mono ?_
    rintro r w3 ⟨rfl, o3⟩
    have o13 := (o1.trans o2).trans o3
    clear o1 o2 o3
    go_wp2_with fail
    refine (hK.out _).mono ?_
    rintro r w4 ⟨rfl, o4⟩
    go_wp2
    go_ret
    exact ⟨rfl, o13.trans o4⟩
end Go.Proofs.Ytpkadhgoaaphkaa
