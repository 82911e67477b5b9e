/-
  name.Split whole; kintsugilaw03.of; kintsugiref03.Same.
-/
import Derived.Test.YtnclappdokhciaaS3
namespace Go.Proofs.Ytnclappdokhciaa
open Go Go.RowKit
set_option linter.unusedVariables false

set_option maxRecDepth 10000 in
set_option maxHeartbeats 2000000 in
theorem split_bad (s : ByteArray) (h0 : 0 < s.size) (h1 : s.size ≤ 256) (k : Int) (hf : fault s 0 = k) (hk : k ≠ 0) (w : World) :
    Calls Try.prog 14 #[.string s] w fun e w' => ∃ A c, e = .returned (.tuple #[.agg #[.bool false, .slice A 0 c, .bool false], .int .i64 k]) ∧ RowS w' A [] c ∧ Only (fun _ => False) w w' := by
  have hF := fun w => fault_any s 0 (by omega) (by omega) w
  rw [hf] at hF
  have hne : ¬ s.toList = [] := fun e => by
    have := toList_empty s
    rw [e, decide_eq_false (by omega)] at this
    cases this
  have hne2 : s.toList.isEmpty = false := by rw [toList_empty, decide_eq_false (by omega)]
  have i3 : ¬ (256 : Int) < (s.size : Int) := by omega
  have hk2 : (k == 0) = false := beq_false_of_ne hk
  go_enter Try.func14, Try.ntmps14
  go_wp2_with fail
  refine (hF _).mono ?_
  rintro e w1 ⟨rfl, ho1⟩
  have hb1 := (Blk.new (w.alloc (.cells #[.string s] 9)) 25 #[.bool false, .slice none 0 0, .bool false]).only ho1 (fun x => x)
  rw [World.size_alloc] at hb1
  have ho2 : Only (fun _ => False) w w1 := (((Only.refl _ w).alloc _).alloc _).trans ho1
  have r0 := hb1.cell 0
  have r1 := hb1.cell 1
  have r2 := hb1.cell 2
  have z0 := hb1.frozen 0
  have z1 := hb1.frozen 1
  have z2 := hb1.frozen 2
  simp only [List.getElem?_toArray, List.getElem?_cons_zero, List.getElem?_cons_succ] at r0 r1 r2
  have fin := Lib.hid (And.intro (((hb1.set_ 0 (.bool false)).set_ 1 (.slice none 0 0)).set_ 2 (.bool false)) (((ho2.setCell (p := ⟨w.heap.size + 1, 0, none⟩) (.inr (by show _ ≤ w.heap.size + 1; omega)) (.bool false)).setCell (p := ⟨w.heap.size + 1, 1, none⟩) (.inr (by show _ ≤ w.heap.size + 1; omega)) (.slice none 0 0)).setCell (p := ⟨w.heap.size + 1, 2, none⟩) (.inr (by show _ ≤ w.heap.size + 1; omega)) (.bool false)))
  clear hb1 ho2 ho1 hF
  go_wp2
  exact bodyPost_ret (res14 _ _ (w.heap.size + 1) _ _ _ _ rfl rfl fin.out.1) rfl ⟨none, 0, rfl, RowS.nil _, fin.out.2⟩

set_option maxRecDepth 10000 in
set_option maxHeartbeats 2000000 in
theorem split_none (s : ByteArray) (h0 : s.size = 0) (w : World) :
    Calls Try.prog 14 #[.string s] w fun e w' => ∃ A c, e = .returned (.tuple #[.agg #[.bool false, .slice A 0 c, .bool false], .int .i64 20]) ∧ RowS w' A [] c ∧ Only (fun _ => False) w w' := by
  have hne2 : s.toList.isEmpty = true := by rw [toList_empty, decide_eq_true h0]
  have hne : s.toList = [] := by simpa using hne2
  have hb1 := Lib.hid (Blk.new (w.alloc (.cells #[.string s] 9)) 25 #[.bool false, .slice none 0 0, .bool false])
  clear h0
  go_enter Try.func14, Try.ntmps14
  go_wp2
  refine bodyPost_ret (res14 _ _ (w.heap.size + 1) (.bool false) (.slice none 0 0) (.bool false) _ rfl rfl ?_) rfl ⟨none, 0, rfl, RowS.nil _, ((Only.refl _ w).alloc _).alloc _⟩
  have := hb1.out
  rwa [World.size_alloc] at this

set_option maxRecDepth 10000 in
set_option maxHeartbeats 2000000 in
theorem split_far (s : ByteArray) (h0 : 256 < s.size) (w : World) :
    Calls Try.prog 14 #[.string s] w fun e w' => ∃ A c, e = .returned (.tuple #[.agg #[.bool false, .slice A 0 c, .bool false], .int .i64 33]) ∧ RowS w' A [] c ∧ Only (fun _ => False) w w' := by
  have hne : ¬ s.toList = [] := fun e => by
    have := toList_empty s
    rw [e, decide_eq_false (by omega)] at this
    cases this
  have hne2 : s.toList.isEmpty = false := by rw [toList_empty, decide_eq_false (by omega)]
  have i3 : (256 : Int) < (s.size : Int) := by omega
  have hb1 := Lib.hid (Blk.new (w.alloc (.cells #[.string s] 9)) 25 #[.bool false, .slice none 0 0, .bool false])
  go_enter Try.func14, Try.ntmps14
  go_wp2
  refine bodyPost_ret (res14 _ _ (w.heap.size + 1) (.bool false) (.slice none 0 0) (.bool false) _ rfl rfl ?_) rfl ⟨none, 0, rfl, RowS.nil _, ((Only.refl _ w).alloc _).alloc _⟩
  have := hb1.out
  rwa [World.size_alloc] at this

/-- name.Split. -/
theorem split_any (s : ByteArray) (w : World) :
    Calls Try.prog 14 #[.string s] w fun e w' => ∃ A c, e = .returned (.tuple #[.agg #[.bool (split s).ab, .slice A (split s).parts.length c, .bool (split s).sl], .int .i64 (split s).err]) ∧ RowS w' A (split s).parts c ∧ Only (fun _ => False) w w' := by
  unfold split
  by_cases h0 : s.size = 0
  · rw [if_pos h0]; exact split_none s h0 w
  rw [if_neg h0]
  by_cases h1 : 256 < s.size
  · rw [if_pos h1]; exact split_far s h1 w
  rw [if_neg h1]
  by_cases h2 : fault s 0 = 0
  · rw [if_neg (fun h => h h2)]
    exact split_ok s (by omega) (by omega) h2 _ _ _ _ rfl w
  · rw [if_pos h2]
    exact split_bad s (by omega) (by omega) _ rfl h2 w
end Go.Proofs.Ytnclappdokhciaa
