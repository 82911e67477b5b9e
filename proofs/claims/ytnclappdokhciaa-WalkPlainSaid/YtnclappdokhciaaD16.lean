/-
  The law's wakes (func 34).
-/
import Derived.Test.YtnclappdokhciaaD15
namespace Go.Proofs.Ytnclappdokhciaa
open Go Go.RowKit
set_option linter.unusedVariables false
theorem are_sz {l : List Ent} (h : areS l = true) : ∀ e ∈ l, e.nm.size ≤ 1000000 := fun e he => by
  have := check_ok (may_ok (are_may h e he)).1
  omega
theorem place_eq {l : List Ent} {s : ByteArray} {i : Nat} {b : Bool} (hR : Rise l) (hP : PlaceAt l s i b) : (if b then l[i]? else none) = findE l s ∧ b = (findE l s).isSome := by
  cases b with
  | true =>
    obtain ⟨x, h1, h2, _⟩ := place_true hR hP
    rw [h2]
    exact ⟨h1, rfl⟩
  | false =>
    rw [(place_false hR hP).1]
    exact ⟨rfl, rfl⟩
theorem findD_any (l : List Ent) (A : Option Addr) (c : Nat) (s : ByteArray) (w : World) (h : RowE w A l c) (hn : l.length ≤ 64) (hR : Rise l) :
    Calls Try.prog 32 #[.slice A l.length c, .string s] w fun r w' => r = .returned (.tuple #[.agg ((findE l s).getD noEnt).cells.toArray, .bool (findE l s).isSome]) ∧ Only (fun _ => False) w w' := by
  refine (find_any l A c s w h (by omega) (mono_of hR s)).mono ?_
  rintro r w' ⟨i, b, hP, rfl, ho⟩
  obtain ⟨h1, h2⟩ := place_eq hR hP
  rw [h1, ← h2]
  exact ⟨rfl, ho⟩
def ea : Ent := ⟨⟨#[97]⟩, 3, 2⟩
def eb : Ent := ⟨⟨#[98]⟩, 2, 1⟩
theorem kd1 : addS [] eb = ([eb], 0) := by kernel_rfl
theorem kd2 : addS [eb] ea = ([ea, eb], 0) := by kernel_rfl
theorem kd3 : putS [ea, eb] = ([1, 97, 3, 0, 2, 1, 98, 2, 0, 1], 0) := by kernel_rfl
theorem kd4 : takeS [1, 97, 3, 0, 2, 1, 98, 2, 0, 1] = ([ea, eb], 0) := by kernel_rfl
theorem kd5 : findE [ea, eb] ⟨#[98]⟩ = some eb := by kernel_rfl
theorem kd6 : dropS [ea, eb] ⟨#[99]⟩ = ([], 20) := by kernel_rfl
theorem kd7 : areS [] = true := by kernel_rfl
theorem kd8 : areS [eb] = true := by kernel_rfl
theorem kd9 : areS [ea, eb] = true := by kernel_rfl
set_option maxRecDepth 20000 in
set_option maxHeartbeats 8000000 in
theorem wakesE (w : World) :
    Calls Try.prog 34 #[] w fun r w' => r = .returned (.bool true) ∧ Only (fun _ => False) w w' := by
  have hR1 := rise_of kd7
  have hR2 := rise_of kd8
  have hR3 := rise_of kd9
  replace hR1 := Lib.hid hR1
  replace hR2 := Lib.hid hR2
  replace hR3 := Lib.hid hR3
  have c1 := add_any [] none 0 eb w (RowE.nil w) (by simp) hR1.out (by decide)
  rw [kd1] at c1
  simp only [eb, Ent.cells] at c1
  go_enter Try.func34, Try.ntmps34
  go_wp2_with fail
  refine c1.mono ?_
  rintro r w1 ⟨A1, c1', rfl, h1, ho1⟩
  clear c1
  have c2 := add_any [eb] A1 c1' ea w1 h1 (by decide) hR2.out (by decide)
  rw [kd2] at c2
  simp only [ea, Ent.cells] at c2
  simp only [List.length_cons, List.length_nil, Nat.zero_add] at c2 ⊢
  go_wp2_with fail
  refine c2.mono ?_
  rintro r w2 ⟨A2, c2', rfl, h2, ho2⟩
  clear c2 h1
  have h2' : RowE w2 A2 [ea, eb] c2' := h2
  clear h2
  have e2 : [ea, eb].length = 2 := rfl
  have e10 : ([1, 97, 3, 0, 2, 1, 98, 2, 0, 1] : List UInt8).length = 10 := rfl
  have hsz := are_sz kd9
  have c3 := putD_any [ea, eb] A2 c2' w2 h2' (by decide) hsz
  rw [kd3, e2] at c3
  simp only [e10] at c3
  simp only [Nat.reduceAdd]
  go_wp2_with fail
  refine c3.mono ?_
  rintro r w3 ⟨A3, c3', rfl, h3, ho3⟩
  clear c3
  have c4 := takeD_any [1, 97, 3, 0, 2, 1, 98, 2, 0, 1] A3 c3' w3 h3 (by decide)
  rw [kd4, e10] at c4
  simp only [e2] at c4
  go_wp2_with fail
  refine c4.mono ?_
  rintro r w4 ⟨A4, c4', rfl, h4, ho4⟩
  clear c4 h4
  have ho24 := ho3.trans ho4
  have h24 := h2'.only ho24 (fun _ _ x => x)
  have h34 := h3.only ho4 (fun _ _ x => x)
  have c5 := findD_any [ea, eb] A2 c2' ⟨#[98]⟩ w4 h24 (by decide) hR3.out
  rw [kd5, e2] at c5
  simp only [Option.getD_some, Option.isSome_some, eb, Ent.cells] at c5
  clear h2' h3
  go_wp2_with fail
  refine c5.mono ?_
  rintro r w5 ⟨rfl, ho5⟩
  clear c5
  have hb6 := Blk.new w5 63 #[.string ⟨#[98]⟩, .int .u16 2, .int .u8 1]
  have ho6 := ho5.alloc (.cells #[.string ⟨#[98]⟩, .int .u16 2, .int .u8 1] 63)
  have c6 := drop_any [ea, eb] A2 c2' ⟨#[99]⟩ (w5.alloc (.cells #[.string ⟨#[98]⟩, .int .u16 2, .int .u8 1] 63)) (h24.only ho6 (fun _ _ x => x)) (by decide) hR3.out
  rw [kd6, e2] at c6
  simp only [List.length_nil] at c6
  have hoA := ho1.trans ho2
  have hoB := hoA.trans ho24
  have hoC := hoB.trans ho6
  have h36 := h34.only ho6 (fun _ _ x => x)
  clear hoA hoB ho1 ho2 ho3 ho4 ho24 ho5 ho6 h24 h34
  go_wp2_with fail
  generalize w5.alloc _ = w6 at *
  generalize w5.heap.size = g6 at *
  refine c6.mono ?_
  rintro r w7 ⟨A7, c7', rfl, h7, ho7⟩
  have hb7 := hb6.only ho7 (fun x => x)
  have h37 := (h36.only ho7 (fun _ _ x => x)).str
  have q0 := hb7.cell 0
  have q1 := hb7.cell 1
  have q2 := hb7.cell 2
  simp only [List.getElem?_toArray, List.getElem?_cons_zero, List.getElem?_cons_succ] at q0 q1 q2
  have ho9 := hoC.trans ho7
  clear c6 hb6 h36 h7 ho7 hoC hb7
  rw [e10] at h37
  clear e2 e10
  go_wp2
  go_ret
  exact ⟨rfl, ho9⟩
end Go.Proofs.Ytnclappdokhciaa
