/-
  kintsugilaw03.wakes (func 13).
-/
import Derived.Test.YtnclappdokhciaaS6
namespace Go.Proofs.Ytnclappdokhciaa
open Go Go.RowKit
set_option linter.unusedVariables false

theorem k1 : split ⟨#[47, 47, 97, 47, 46, 47, 98, 47]⟩ = ⟨true, [⟨#[97]⟩, ⟨#[98]⟩], true, 0⟩ := by kernel_rfl
theorem k2 : split ⟨#[97, 255]⟩ = ⟨false, [], false, 36⟩ := by kernel_rfl
theorem k3 : checkS ⟨#[120]⟩ = 0 := by kernel_rfl
theorem k4 : checkS ⟨#[46, 46]⟩ = 26 := by kernel_rfl
theorem k5 : joinS true [⟨#[97]⟩, ⟨#[98]⟩] true = ⟨#[47, 97, 47, 98, 47]⟩ := by kernel_rfl
theorem k6 : (joinL [⟨#[97]⟩, ⟨#[98]⟩]).length = 3 := by kernel_rfl

set_option maxRecDepth 10000 in
set_option maxHeartbeats 4000000 in
theorem wakes_true (w : World) :
    Calls Try.prog 13 #[] w fun e w' => e = .returned (.bool true) ∧ Only (fun _ => False) w w' := by
  have c1 := split_any ⟨#[47, 47, 97, 47, 46, 47, 98, 47]⟩ w
  rw [k1] at c1
  have c2 := fun w => split_any ⟨#[97, 255]⟩ w
  rw [k2] at c2
  go_enter Try.func13, Try.ntmps13
  go_wp2_with fail
  refine c1.mono ?_
  rintro e w1 ⟨A, c, rfl, hr1, ho1⟩
  go_wp2_with fail
  refine (c2 _).mono ?_
  rintro e w2 ⟨A2, c2', rfl, hr2, ho2⟩
  have hb1 := (Blk.new w1 25 #[.bool true, .slice A 2 c, .bool true]).only ho2 (fun x => x)
  have ho3 : Only (fun _ => False) w w2 := (ho1.alloc _).trans ho2
  have hr3 := hr1.only (((Only.refl (fun _ => False) w1).alloc (.cells #[.bool true, .slice A 2 c, .bool true] 25)).trans ho2) (fun _ _ _ x => x)
  clear hr1 hr2 ho1 ho2 c1 c2
  generalize w1.heap.size = g at *
  have hb2 := hb1.alloc (.cells #[.bool false, .slice A2 0 c2', .bool false] 25)
  have y0 := hb2.cell 0
  have y1 := hb2.cell 1
  have y2 := hb2.cell 2
  simp only [List.getElem?_toArray, List.getElem?_cons_zero, List.getElem?_cons_succ] at y0 y1 y2
  go_wp2_with fail
  refine (of_any true true A 2 c _).mono ?_
  rintro e w3 ⟨rfl, ho4⟩
  clear y0 y1 y2
  go_wp2_with fail
  have ho5 := (Only.refl (fun _ => False) w2).alloc (.cells #[.bool false, .slice A2 0 c2', .bool false] 25)
  have ho6 : Only (fun _ => False) w2 (w3.alloc (.cells #[.string ⟨#[97]⟩, .string ⟨#[98]⟩] 9)) := (ho5.trans ho4).alloc _
  have hR1 := hr3.only ho6 (fun _ _ _ x => x)
  have hR2 : RowS (w3.alloc (.cells #[.string ⟨#[97]⟩, .string ⟨#[98]⟩] 9)) (some ⟨w3.heap.size, 0, none⟩) [⟨#[97]⟩, ⟨#[98]⟩] 2 := by
    refine ⟨⟨rfl, fun _ => ⟨w3.heap.size, 0, rfl, by simp, fun j u hu => ?_⟩⟩, Nat.le_refl _, fun h => by cases h⟩
    have hb := Blk.new w3 9 #[.string ⟨#[97]⟩, .string ⟨#[98]⟩]
    rw [Nat.zero_add, hb.cell j]
    simpa [strs] using hu
  refine (same_true true true [⟨#[97]⟩, ⟨#[98]⟩] A (some ⟨w3.heap.size, 0, none⟩) c 2 _ hR1 hR2 (by decide)).mono ?_
  rintro e w4 ⟨rfl, ho7⟩
  have hr4 := hR1.only ho7 (fun _ _ _ x => x)
  have hb4 := (hb1.only ho6 (fun x => x)).only ho7 (fun x => x)
  have ho8 := (ho3.trans ho6).trans ho7
  clear hR1 hR2 ho7 ho6 ho5 ho4 ho3 hb1 hb2 hr3
  go_wp2_with fail
  refine (check_any ⟨#[120]⟩ (by decide) w4).mono ?_
  rintro e w5 ⟨rfl, ho9⟩
  rw [k3]
  have hr5 := hr4.only ho9 (fun _ _ _ x => x)
  have hb5 := hb4.only ho9 (fun x => x)
  have ho10 := ho8.trans ho9
  clear hr4 hb4 ho8 ho9
  go_wp2_with fail
  refine (check_any ⟨#[46, 46]⟩ (by decide) w5).mono ?_
  rintro e w6 ⟨rfl, ho9⟩
  rw [k4]
  have hr6 := hr5.only ho9 (fun _ _ _ x => x)
  have hb6 := hb5.only ho9 (fun x => x)
  have ho11 := ho10.trans ho9
  clear hr5 hb5 ho10 ho9
  have y0 := hb6.cell 0
  have y1 := hb6.cell 1
  have y2 := hb6.cell 2
  simp only [List.getElem?_toArray, List.getElem?_cons_zero, List.getElem?_cons_succ] at y0 y1 y2
  go_wp2_with fail
  refine (join_any true true [⟨#[97]⟩, ⟨#[98]⟩] (by decide) A c w6 hr6 (by rw [k6]; decide)).mono ?_
  rintro e w7 ⟨rfl, ho9⟩
  rw [k5]
  have hfin := Lib.hid (ho11.trans ho9)
  clear hr6 hb6 ho11 ho9 y0 y1 y2
  go_wp2
  go_ret
  exact ⟨rfl, hfin.out⟩
end Go.Proofs.Ytnclappdokhciaa
