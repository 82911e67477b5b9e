/-
  dir.Entry's may, the reference's May (func 70, 71).
-/
import Derived.Test.YtnclappdokhciaaD2
namespace Go.Proofs.Ytnclappdokhciaa
open Go Go.RowKit
set_option linter.unusedVariables false
def mayS (e : Ent) : Int := if checkS e.nm = 0 then (if e.num < 1 ∨ 255 < e.num ∨ e.kind < 1 ∨ 3 < e.kind then 26 else 0) else checkS e.nm
set_option maxRecDepth 10000 in
set_option maxHeartbeats 4000000 in
theorem may_any (e : Ent) (hs : e.nm.size ≤ 1000000) (w : World) :
    Calls Try.prog 70 #[.agg e.cells.toArray] w fun r w' => r = .returned (.int .i64 (mayS e)) ∧ Only (fun _ => False) w w' := by
  have ho := (Only.refl (fun _ => False) w).alloc (.cells #[.string e.nm, .int .u16 e.num, .int .u8 e.kind] 63)
  have hb := Blk.new w 63 #[.string e.nm, .int .u16 e.num, .int .u8 e.kind]
  simp only [Ent.cells]
  go_enter Try.func70, Try.ntmps70
  go_wp2_with fail
  generalize w.alloc _ = w2 at *
  generalize hg0 : w.heap.size = g at *
  refine (check_any e.nm (by omega) w2).mono ?_
  rintro r w3 ⟨rfl, ho2⟩
  have hb3 := hb.only ho2 (fun x => x)
  have ho3 := Lib.hid (ho.trans ho2)
  have q0 := hb3.cell 0
  have q1 := hb3.cell 1
  have q2 := hb3.cell 2
  simp only [List.getElem?_toArray, List.getElem?_cons_zero, List.getElem?_cons_succ] at q0 q1 q2
  clear hb hb3 ho ho2
  have hk : mayS e = if checkS e.nm = 0 then (if e.num < 1 ∨ 255 < e.num ∨ e.kind < 1 ∨ 3 < e.kind then 26 else 0) else checkS e.nm := rfl
  replace hk := Lib.hid hk
  obtain ⟨nm, num, kind⟩ := e
  simp only at *
  generalize checkS nm = k at *
  by_cases hk0 : k = 0
  · subst hk0
    by_cases h1 : num < 1
    · have h1' : (num : Int) < 1 := by omega
      go_wp2
      go_ret
      exact ⟨by rw [hk.out, if_pos trivial, if_pos (by omega)]; rfl, ho3.out⟩
    · have h1' : ¬ (num : Int) < 1 := by omega
      by_cases h2 : 255 < num
      · have h2' : (255 : Int) < (num : Int) := by omega
        go_wp2
        go_ret
        exact ⟨by rw [hk.out, if_pos trivial, if_pos (by omega)]; rfl, ho3.out⟩
      · have h2' : ¬ (255 : Int) < (num : Int) := by omega
        by_cases h3 : kind < 1
        · have h3' : (kind : Int) < 1 := by omega
          go_wp2
          go_ret
          exact ⟨by rw [hk.out, if_pos trivial, if_pos (by omega)]; rfl, ho3.out⟩
        · have h3' : ¬ (kind : Int) < 1 := by omega
          by_cases h4 : 3 < kind
          · have h4' : (3 : Int) < (kind : Int) := by omega
            go_wp2
            go_ret
            exact ⟨by rw [hk.out, if_pos trivial, if_pos (by omega)]; rfl, ho3.out⟩
          · have h4' : ¬ (3 : Int) < (kind : Int) := by omega
            go_wp2
            go_ret
            exact ⟨by rw [hk.out, if_pos trivial, if_neg (by omega)]; rfl, ho3.out⟩
  · have hkb : (k == 0) = false := beq_false_of_ne hk0
    go_wp2
    go_ret
    exact ⟨by rw [hk.out, if_neg hk0]; rfl, ho3.out⟩
set_option maxRecDepth 10000 in
set_option maxHeartbeats 4000000 in
theorem mayR_any (e : Ent) (hs : e.nm.size ≤ 1000000) (w : World) :
    Calls Try.prog 71 #[.agg e.cells.toArray] w fun r w' => r = .returned (.int .i64 (mayS e)) ∧ Only (fun _ => False) w w' := by
  have ho := (Only.refl (fun _ => False) w).alloc (.cells #[.string e.nm, .int .u16 e.num, .int .u8 e.kind] 79)
  have hb := Blk.new w 79 #[.string e.nm, .int .u16 e.num, .int .u8 e.kind]
  simp only [Ent.cells]
  go_enter Try.func71, Try.ntmps71
  go_wp2_with fail
  generalize w.alloc _ = w2 at *
  generalize hg0 : w.heap.size = g at *
  refine (checkR_any e.nm (by omega) w2).mono ?_
  rintro r w3 ⟨rfl, rfl⟩
  have ho3 := Lib.hid ho
  have q0 := hb.cell 0
  have q1 := hb.cell 1
  have q2 := hb.cell 2
  simp only [List.getElem?_toArray, List.getElem?_cons_zero, List.getElem?_cons_succ] at q0 q1 q2
  clear hb ho
  have hk : mayS e = if checkS e.nm = 0 then (if e.num < 1 ∨ 255 < e.num ∨ e.kind < 1 ∨ 3 < e.kind then 26 else 0) else checkS e.nm := rfl
  replace hk := Lib.hid hk
  obtain ⟨nm, num, kind⟩ := e
  simp only at *
  generalize checkS nm = k at *
  by_cases hk0 : k = 0
  · subst hk0
    by_cases h1 : num < 1
    · have h1' : (num : Int) < 1 := by omega
      go_wp2
      go_ret
      exact ⟨by rw [hk.out, if_pos trivial, if_pos (by omega)]; rfl, ho3.out⟩
    · have h1' : ¬ (num : Int) < 1 := by omega
      by_cases h2 : 255 < num
      · have h2' : (255 : Int) < (num : Int) := by omega
        go_wp2
        go_ret
        exact ⟨by rw [hk.out, if_pos trivial, if_pos (by omega)]; rfl, ho3.out⟩
      · have h2' : ¬ (255 : Int) < (num : Int) := by omega
        by_cases h3 : kind < 1
        · have h3' : (kind : Int) < 1 := by omega
          go_wp2
          go_ret
          exact ⟨by rw [hk.out, if_pos trivial, if_pos (by omega)]; rfl, ho3.out⟩
        · have h3' : ¬ (kind : Int) < 1 := by omega
          by_cases h4 : 3 < kind
          · have h4' : (3 : Int) < (kind : Int) := by omega
            go_wp2
            go_ret
            exact ⟨by rw [hk.out, if_pos trivial, if_pos (by omega)]; rfl, ho3.out⟩
          · have h4' : ¬ (3 : Int) < (kind : Int) := by omega
            go_wp2
            go_ret
            exact ⟨by rw [hk.out, if_pos trivial, if_neg (by omega)]; rfl, ho3.out⟩
  · have hkb : (k == 0) = false := beq_false_of_ne hk0
    go_wp2
    go_ret
    exact ⟨by rw [hk.out, if_neg hk0]; rfl, ho3.out⟩
end Go.Proofs.Ytnclappdokhciaa
