/-
  kintsugilaw03.NameSplits (func 3).
-/
import Derived.Test.YtnclappdokhciaaS7
import Derived.Test.YtnclappdokhciaaB2
namespace Go.Proofs.Ytnclappdokhciaa
open Go Go.RowKit
set_option linter.unusedVariables false

theorem split_len (s : ByteArray) (h : s.size ≤ 1000) : (split s).parts.length ≤ 10000 := by
  have hp := pieces_len s
  have hf := List.length_filter_le keepB (pieces s)
  unfold split
  repeat' split
  all_goals simp only [List.length_nil]
  all_goals omega
set_option maxRecDepth 10000 in
set_option maxHeartbeats 4000000 in
theorem splits_any (s : ByteArray) (w : World) :
    Calls Try.prog 3 #[.string s] w fun e w' => e = .returned (.bool true) ∧ Only (fun _ => False) w w' := by
  by_cases h : 400 < s.size
  · have g1 : (400 : Int) < (s.size : Int) := by omega
    go_enter Try.func3, Try.ntmps3
    go_wp2_with fail
    refine (wakes_true w).mono ?_
    rintro e w1 ⟨rfl, ho⟩
    go_wp2
    go_ret
    exact ⟨rfl, ho⟩
  · have g1 : ¬ (400 : Int) < (s.size : Int) := by omega
    have hlen := split_len s (by omega)
    have hA := fun w => split_any s w
    have hB := fun w => splitR_any s w
    generalize split s = T at *
    obtain ⟨ta, tp, ts, te⟩ := T
    simp only at hA hB hlen
    go_enter Try.func3, Try.ntmps3
    go_wp2_with fail
    refine (hA _).mono ?_
    rintro e w1 ⟨A, c, rfl, hr1, ho1⟩
    go_wp2_with fail
    refine (hB _).mono ?_
    rintro e w2 ⟨A2, c2, rfl, hr2, ho2⟩
    have hb3 := (Blk.new w1 25 #[.bool ta, .slice A tp.length c, .bool ts]).only ho2 (fun x => x)
    have hr3 := hr1.only (((Only.refl (fun _ => False) w1).alloc (.cells #[.bool ta, .slice A tp.length c, .bool ts] 25)).trans ho2) (fun _ _ _ x => x)
    have ho3 := (ho1.alloc (.cells #[.bool ta, .slice A tp.length c, .bool ts] 25)).trans ho2
    clear hr1 ho1 ho2 hA hB
    generalize hg3 : w1.heap.size = g3 at *
    clear hg3
    go_wp2_with fail
    have hb3' := hb3.alloc (.cells #[.bool ta, .slice A2 tp.length c2, .bool ts] 29)
    have hb5 := Blk.new w2 29 #[.bool ta, .slice A2 tp.length c2, .bool ts]
    have ho4 := (Only.refl (fun _ => False) w2).alloc (.cells #[.bool ta, .slice A2 tp.length c2, .bool ts] 29)
    have hr4 := hr3.only ho4 (fun _ _ _ x => x)
    have hr5 := hr2.only ho4 (fun _ _ _ x => x)
    have ho5 := ho3.trans ho4
    clear hb3 hr3 hr2 ho3 ho4
    generalize hW : w2.alloc _ = w3 at *
    clear hW
    generalize hg5 : w2.heap.size = g5 at *
    clear hg5
    have key : ∀ W, Only (fun _ => False) w3 W → W.cell? ⟨g3, 0, none⟩ = some (.bool ta) ∧ W.cell? ⟨g3, 1, none⟩ = some (.slice A tp.length c) ∧ W.cell? ⟨g3, 2, none⟩ = some (.bool ts) ∧ W.cell? ⟨g5, 0, none⟩ = some (.bool ta) ∧ W.cell? ⟨g5, 1, none⟩ = some (.slice A2 tp.length c2) ∧ W.cell? ⟨g5, 2, none⟩ = some (.bool ts) := fun W ho => by
      have x3 := hb3'.only ho (fun x => x)
      have x5 := hb5.only ho (fun x => x)
      exact ⟨x3.cell 0, x3.cell 1, x3.cell 2, x5.cell 0, x5.cell 1, x5.cell 2⟩
    refine wp_region_E 12 (fun W => W.cell? ⟨g3, 0, none⟩ = some (.bool ta) ∧ W.cell? ⟨g3, 1, none⟩ = some (.slice A tp.length c) ∧ W.cell? ⟨g3, 2, none⟩ = some (.bool ts) ∧ W.cell? ⟨g5, 0, none⟩ = some (.bool ta) ∧ W.cell? ⟨g5, 1, none⟩ = some (.slice A2 tp.length c2) ∧ W.cell? ⟨g5, 2, none⟩ = some (.bool ts)) (by kernel_rfl) ?_
    have oD := (Only.refl (fun _ => False) w3).drew
    have hS0 := key _ oD
    refine E_take (v := ?v00) 0 rfl (by kernel_rfl) (by kernel_rfl) (by kernel_rfl) (by kernel_rfl) (by kernel_rfl) (by kernel_rfl) (fun _ _ _ h => h) rfl hS0 ?v0h0 ?_
    case v0h0 => intro W hW; obtain ⟨s1, s2, s3, s4, s5, s6⟩ := hW; go_simp; try with_reducible rfl
    simp only [Act.put, List.setIfInBounds_toArray, List.set_cons_zero, List.set_cons_succ]
    refine E_take (v := ?v01) 1 rfl (by kernel_rfl) (by kernel_rfl) (by kernel_rfl) (by kernel_rfl) (by kernel_rfl) (by kernel_rfl) (fun _ _ _ h => h) rfl hS0 ?v0h1 ?_
    case v0h1 => intro W hW; obtain ⟨s1, s2, s3, s4, s5, s6⟩ := hW; go_simp; try with_reducible rfl
    simp only [Act.put, List.setIfInBounds_toArray, List.set_cons_zero, List.set_cons_succ]
    refine E_take (v := ?v02) 2 rfl (by kernel_rfl) (by kernel_rfl) (by kernel_rfl) (by kernel_rfl) (by kernel_rfl) (by kernel_rfl) (fun _ _ _ h => h) rfl hS0 ?v0h2 ?_
    case v0h2 => intro W hW; obtain ⟨s1, s2, s3, s4, s5, s6⟩ := hW; go_simp; try with_reducible rfl
    simp only [Act.put, List.setIfInBounds_toArray, List.set_cons_zero, List.set_cons_succ]
    refine E_take (v := ?v03) 3 rfl (by kernel_rfl) (by kernel_rfl) (by kernel_rfl) (by kernel_rfl) (by kernel_rfl) (by kernel_rfl) (fun _ _ _ h => h) rfl hS0 ?v0h3 ?_
    case v0h3 => intro W hW; obtain ⟨s1, s2, s3, s4, s5, s6⟩ := hW; go_simp; try with_reducible rfl
    simp only [Act.put, List.setIfInBounds_toArray, List.set_cons_zero, List.set_cons_succ]
    refine E_take (v := ?v04) 4 rfl (by kernel_rfl) (by kernel_rfl) (by kernel_rfl) (by kernel_rfl) (by kernel_rfl) (by kernel_rfl) (fun _ _ _ h => h) rfl hS0 ?v0h4 ?_
    case v0h4 => intro W hW; obtain ⟨s1, s2, s3, s4, s5, s6⟩ := hW; go_simp; try with_reducible rfl
    simp only [Act.put, List.setIfInBounds_toArray, List.set_cons_zero, List.set_cons_succ]
    refine E_take (v := ?v06) 6 rfl (by kernel_rfl) (by kernel_rfl) (by kernel_rfl) (by kernel_rfl) (by kernel_rfl) (by kernel_rfl) (fun _ _ _ h => h) rfl hS0 ?v0h6 ?_
    case v0h6 => intro W hW; obtain ⟨s1, s2, s3, s4, s5, s6⟩ := hW; go_simp; try with_reducible rfl
    simp only [Act.put, List.setIfInBounds_toArray, List.set_cons_zero, List.set_cons_succ]
    refine E_one 5 (by kernel_rfl) rfl (fun K hK => ?_)
    go_simp
    refine (of_any ta ts A tp.length c _).mono ?_
    rintro e w5 ⟨rfl, o1⟩
    have oE := oD.trans o1
    have hS1 := key _ oE
    refine hK.out _ _ (fun _ => hS1) ?_
    clear hK K
    try simp only [Act.put, List.setIfInBounds_toArray, List.set_cons_zero, List.set_cons_succ]
    refine E_one 7 (by kernel_rfl) rfl (fun K hK => ?_)
    go_simp
    refine (same_true ta ts tp A A2 c c2 _ (hr4.only oE (fun _ _ _ x => x)) (hr5.only oE (fun _ _ _ x => x)) (by omega)).mono ?_
    rintro e w6 ⟨rfl, o2⟩
    have oF := oE.trans o2
    have hS2 := key _ oF
    refine hK.out _ _ (fun _ => hS2) ?_
    clear hK K
    try simp only [Act.put, List.setIfInBounds_toArray, List.set_cons_zero, List.set_cons_succ]
    refine E_take (v := ?v28) 8 rfl (by kernel_rfl) (by kernel_rfl) (by kernel_rfl) (by kernel_rfl) (by kernel_rfl) (by kernel_rfl) (fun _ _ _ h => h) rfl hS2 ?v2h8 ?_
    case v2h8 => intro W hW; obtain ⟨s1, s2, s3, s4, s5, s6⟩ := hW; go_simp; try with_reducible rfl
    simp only [Act.put, List.setIfInBounds_toArray, List.set_cons_zero, List.set_cons_succ]
    refine E_take (v := ?v29) 9 rfl (by kernel_rfl) (by kernel_rfl) (by kernel_rfl) (by kernel_rfl) (by kernel_rfl) (by kernel_rfl) (fun _ _ _ h => h) rfl hS2 ?v2h9 ?_
    case v2h9 => intro W hW; obtain ⟨s1, s2, s3, s4, s5, s6⟩ := hW; go_simp; try with_reducible rfl
    simp only [Act.put, List.setIfInBounds_toArray, List.set_cons_zero, List.set_cons_succ]
    refine E_one 10 (by kernel_rfl) rfl (fun K hK => ?_)
    go_simp
    refine (wakes_true _).mono ?_
    rintro e w7 ⟨rfl, o3⟩
    have oG := oF.trans o3
    have hS3 := key _ oG
    refine hK.out _ _ (fun _ => hS3) ?_
    clear hK K
    try simp only [Act.put, List.setIfInBounds_toArray, List.set_cons_zero, List.set_cons_succ]
    refine E_take (v := ?v311) 11 rfl (by kernel_rfl) (by kernel_rfl) (by kernel_rfl) (by kernel_rfl) (by kernel_rfl) (by kernel_rfl) (fun _ _ _ h => h) rfl hS3 ?v3h11 ?_
    case v3h11 => intro W hW; obtain ⟨s1, s2, s3, s4, s5, s6⟩ := hW; go_simp; try with_reducible rfl
    simp only [Act.put, List.setIfInBounds_toArray, List.set_cons_zero, List.set_cons_succ]
    refine E_one 12 (by kernel_rfl) rfl (fun K hK => ?_)
    go_simp
    refine hK.out _ _ (fun h => absurd h (by decide)) ?_
    clear hK K
    try simp only [Act.put, List.setIfInBounds_toArray, List.set_cons_zero, List.set_cons_succ]
    refine E_done (by kernel_rfl) ?_
    go_wp2
    go_ret
    exact ⟨rfl, ho5.trans oG⟩
end Go.Proofs.Ytnclappdokhciaa
