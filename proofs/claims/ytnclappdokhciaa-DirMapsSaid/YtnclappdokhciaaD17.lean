/-
  kintsugilaw14.DirBytes (func 10).
-/
import Derived.Test.YtnclappdokhciaaD16
namespace Go.Proofs.Ytnclappdokhciaa
open Go Go.RowKit
set_option linter.unusedVariables false
theorem great_not {l : List Ent} (h : greatE l = false) : l.length ≤ 100 ∧ ∀ e ∈ l, e.nm.size ≤ 300 := by
  unfold greatE at h
  rw [Bool.or_eq_false_iff] at h
  refine ⟨Nat.not_lt.1 (of_decide_eq_false h.1), fun e he => ?_⟩
  have h2 := h.2
  rw [List.any_eq_false] at h2
  have := h2 e he
  simp only [decide_eq_true_eq] at this
  omega
theorem take_le (b : List UInt8) : (takeS b).1.length ≤ 64 := by
  unfold takeS
  split
  · split
    · rename_i h; exact (are_ok h).1
    · simp
  · simp
theorem put_le (l : List Ent) : (putS l).1.length ≤ 28 * 64 := by
  unfold putS
  split
  · rename_i h
    have h1 := putB_len l (fun e he => check_ok (may_ok (are_may h e he)).1)
    have h2 := (are_ok h).1
    have : 28 * l.length ≤ 28 * 64 := Nat.mul_le_mul_left _ h2
    simp only; omega
  · simp
set_option maxRecDepth 20000 in
set_option maxHeartbeats 8000000 in
theorem bytesE_any (l : List Ent) (A : Option Addr) (c : Nat) (b : List UInt8) (A2 : Option Addr) (c2 : Nat) (w : World) (h : RowE w A l c) (h2 : RowB w A2 b c2) :
    Calls Try.prog 10 #[.slice A l.length c, .slice A2 b.length c2] w fun r w' => r = .returned (.bool true) ∧ Only (fun _ => False) w w' := by
  have hG := greatE_any l A c w h
  cases hg : greatE l with
  | true =>
    rw [hg] at hG
    replace hG := Lib.hid hG
    clear hg
    go_enter Try.func10, Try.ntmps10
    go_wp2_with fail
    refine hG.out.mono ?_
    rintro r w1 ⟨rfl, rfl⟩
    go_wp2_with fail
    refine (wakesE w).mono ?_
    rintro r w1 ⟨rfl, ho⟩
    go_wp2
    go_ret
    exact ⟨rfl, ho⟩
  | false =>
    obtain ⟨hl, hs⟩ := great_not hg
    rw [hg] at hG
    replace hG := Lib.hid hG
    replace hs := Lib.hid hs
    clear hg
    by_cases hb : 4000 < b.length
    · have i0 : (4000 : Int) < (b.length : Int) := by omega
      go_enter Try.func10, Try.ntmps10
      go_wp2_with fail
      refine hG.out.mono ?_
      rintro r w1 ⟨rfl, rfl⟩
      go_wp2_with fail
      refine (wakesE w).mono ?_
      rintro r w1 ⟨rfl, ho⟩
      go_wp2
      go_ret
      exact ⟨rfl, ho⟩
    · have i0 : ¬ (4000 : Int) < (b.length : Int) := by omega
      have hpl := put_le l
      have htl := take_le b
      go_enter Try.func10, Try.ntmps10
      go_wp2_with fail
      refine hG.out.mono ?_
      rintro r w1 ⟨rfl, rfl⟩
      go_wp2_with fail
      refine (ofE_any l A c w h (by omega)).mono ?_
      rintro r w1 ⟨A3, c3, rfl, h3, ho1⟩
      go_wp2_with fail
      refine (putD_any l A3 c3 w1 h3 (by omega) (fun e he => Nat.le_trans (hs.out e he) (by omega))).mono ?_
      rintro r w2 ⟨A4, c4, rfl, h4, ho2⟩
      have ho12 := ho1.trans ho2
      have hp4 := putR_any l A c w2 (h.only ho12 (fun _ _ x => x)) (by omega) (fun e he => Nat.le_trans (hs.out e he) (by omega))
      generalize putS l = P at *
      obtain ⟨pl, pe⟩ := P
      simp only at *
      replace hp4 := Lib.hid hp4
      go_wp2_with fail
      refine hp4.out.mono ?_
      rintro r w3 ⟨A5, c5, rfl, h5, ho3⟩
      have ho123 := ho12.trans ho3
      have hT := takeD_any b A2 c2 w3 (h2.only ho123 (fun _ _ x => x)) (by omega)
      have hT2 := fun W h => takeR_any b A2 c2 W h (by omega)
      generalize takeS b = T at *
      obtain ⟨tl, te⟩ := T
      simp only at *
      replace hT := Lib.hid hT
      replace hT2 := Lib.hid hT2
      go_wp2_with fail
      refine hT.out.mono ?_
      rintro r w4 ⟨A6, c6, rfl, h6, ho4⟩
      have ho14 := ho123.trans ho4
      go_wp2_with fail
      refine (hT2.out w4 (h2.only ho14 (fun _ _ x => x))).mono ?_
      rintro r w5 ⟨A7, c7, rfl, h7, ho5⟩
      have ho15 := ho14.trans ho5
      have h65 := h6.only ho5 (fun _ _ x => x)
      have hs4 := ((h4.only ho3 (fun _ _ x => x)).only (ho4.trans ho5) (fun _ _ x => x)).str
      have hs5 := (h5.only (ho4.trans ho5) (fun _ _ x => x)).str
      have hsm := sameE_true tl A6 A7 c6 c7 w5 h65 h7 (by omega)
      replace hsm := Lib.hid hsm
      clear hp4 hT hT2 h h2 h3 h4 h5 h6 h65 h7 ho1 ho2 ho3 ho4 ho5 ho12 ho123 ho14 hs hG
      go_wp2_with fail
      refine hsm.out.mono ?_
      rintro r w6 ⟨rfl, ho6⟩
      have ho16 := ho15.trans ho6
      clear ho15 ho6 hsm hs4 hs5
      go_wp2_with fail
      refine (wakesE w6).mono ?_
      rintro r w7 ⟨rfl, ho7⟩
      have ho17 := ho16.trans ho7
      clear ho16 ho7
      go_wp2
      go_ret
      exact ⟨rfl, ho17⟩
end Go.Proofs.Ytnclappdokhciaa
