/-
  kintsugilaw03.NameJoins (func 4).
-/
import Derived.Test.YtnclappdokhciaaS7
import Derived.Test.YtnclappdokhciaaJ1
namespace Go.Proofs.Ytnclappdokhciaa
open Go Go.RowKit
set_option linter.unusedVariables false

set_option maxRecDepth 10000 in
set_option maxHeartbeats 4000000 in
theorem joins_any (a b : Bool) (l : List ByteArray) (A : Option Addr) (c : Nat) (w : World) (h : RowS w A l c) :
    Calls Try.prog 4 #[.bool a, .bool b, .slice A l.length c] w fun e w' => e = .returned (.bool true) ∧ Only (fun _ => False) w w' := by
  by_cases hn : 30 < l.length
  · have g1 : (30 : Int) < (l.length : Int) := by omega
    go_enter Try.func4, Try.ntmps4
    go_wp2_with fail
    refine (wakes_true w).mono ?_
    rintro e w1 ⟨rfl, ho⟩
    go_wp2
    go_ret
    exact ⟨rfl, ho⟩
  · have g1 : ¬ (30 : Int) < (l.length : Int) := by omega
    go_enter Try.func4, Try.ntmps4
    go_wp2
    go_loopw [6, 7] (fun _ t wr => wr = w ∧ ∃ i : Nat, t = .int .i64 i ∧ i ≤ l.length ∧ ∀ (j : Nat) x, j < i → l[j]? = some x → x.size ≤ 60) (fun _ t _ => l.length - (intOf t).toNat)
    case atStart => exact ⟨rfl, 0, rfl, by omega, fun j x hj => by omega⟩
    case round =>
      obtain ⟨rfl, i, rfl, hi, hall⟩ := hrel
      by_cases hlt : i < l.length
      · obtain ⟨x, hx⟩ : ∃ x, l[i]? = some x := ⟨_, List.getElem?_eq_getElem hlt⟩
        obtain ⟨b1, o1, rfl, hl1, d1⟩ := h.cell hx
        have i0 : (0 : Int) ≤ (i : Int) := by omega
        have i1 : (i : Int) < (l.length : Int) := by omega
        by_cases h60 : 60 < x.size
        · have j1 : (60 : Int) < (x.size : Int) := by omega
          clear hx hall h
          go_wp2_with fail
          refine (wakes_true wr).mono ?_
          rintro e w1 ⟨rfl, ho⟩
          go_wp2
          go_ret
          exact ⟨rfl, ho⟩
        · have j1 : ¬ (60 : Int) < (x.size : Int) := by omega
          have hall2 := Lib.hid (show ∀ (j : Nat) y, j < i + 1 → l[j]? = some y → y.size ≤ 60 from fun j y hj hy => by
            by_cases e : j = i
            · subst e; rw [hx] at hy; cases hy; omega
            · exact hall j y (by omega) hy)
          clear hx hall h
          go_wp2
          go_roundw
          case rel => exact ⟨by first | rfl | trivial, i + 1, by go_num, by omega, hall2.out⟩
          case measure => simp [intOf]; omega
      · obtain rfl : i = l.length := by omega
        have h60 : ∀ x ∈ l, x.size ≤ 60 := fun x hx => by
          obtain ⟨j, hj⟩ := List.getElem?_of_mem hx
          exact hall j x (List.getElem?_eq_some_iff.1 hj).1 hj
        have hlen := joinL_len l h60
        go_wp2_with fail
        refine (join_any a b l (by omega) A c wr h (by omega)).mono ?_
        rintro e w1 ⟨rfl, ho1⟩
        go_wp2_with fail
        refine (joinR_any a b l (by omega) A c w1 (h.only ho1 (fun _ _ _ x => x)) h60).mono ?_
        rintro e w2 ⟨rfl, ho2⟩
        go_wp2_with fail
        refine (wakes_true w2).mono ?_
        rintro e w3 ⟨rfl, ho3⟩
        go_wp2
        go_ret
        exact ⟨rfl, (ho1.trans ho2).trans ho3⟩
end Go.Proofs.Ytnclappdokhciaa
