/-
  name.Join (func 18).
-/
import Derived.Test.YtnclappdokhciaaS5
namespace Go.Proofs.Ytnclappdokhciaa
open Go Go.RowKit
set_option linter.unusedVariables false

theorem app_ba (x y : List UInt8) : (⟨x.toArray⟩ : ByteArray) ++ ⟨y.toArray⟩ = ⟨(x ++ y).toArray⟩ := by
  apply ByteArray.ext
  simp
/-- The parts, slashes between. -/
def joinL (l : List ByteArray) : List UInt8 := Lib.join (l.map (·.data.toList)) [47]
/-- Where l is not nil. -/
def lastDots (l : List ByteArray) : Bool := (l.getLastD ⟨#[]⟩).toList == [46, 46]
def joinS (a : Bool) (l : List ByteArray) (b : Bool) : ByteArray :=
  if l = [] then (if a then ⟨#[47]⟩ else ⟨#[46]⟩)
  else ⟨((if a then [47] else []) ++ joinL l ++ (if b && !lastDots l then [47] else [])).toArray⟩

set_option maxRecDepth 10000 in
set_option maxHeartbeats 2000000 in
theorem join_nil (a b : Bool) (A : Option Addr) (c : Nat) (w : World) :
    Calls Try.prog 18 #[.agg #[.bool a, .slice A 0 c, .bool b]] w fun e w' => e = .returned (.string (if a then ⟨#[47]⟩ else ⟨#[46]⟩)) ∧ Only (fun _ => False) w w' := by
  have ho := Lib.hid ((Only.refl (fun _ => False) w).alloc (.cells #[.bool a, .slice A 0 c, .bool b] 25))
  cases a with
  | true =>
    go_enter Try.func18, Try.ntmps18
    go_wp2_with (go_at_call 50; refine (Try.strings_Join_none _ _ _ _).mono ?_; rintro e w' ⟨rfl, rfl⟩)
    go_ret
    exact ⟨rfl, ho.out⟩
  | false =>
    go_enter Try.func18, Try.ntmps18
    go_wp2_with (go_at_call 50; refine (Try.strings_Join_none _ _ _ _).mono ?_; rintro e w' ⟨rfl, rfl⟩)
    go_ret
    exact ⟨rfl, ho.out⟩
set_option maxRecDepth 10000 in
set_option maxHeartbeats 2000000 in
theorem join_some (a b : Bool) (l : List ByteArray) (hl : l ≠ []) (hn : l.length ≤ 1000) (A : Option Addr) (c : Nat) (w : World) (h : RowS w A l c) (hlen : (joinL l).length ≤ 1000000) :
    Calls Try.prog 18 #[.agg #[.bool a, .slice A l.length c, .bool b]] w fun e w' => e = .returned (.string (joinS a l b)) ∧ Only (fun _ => False) w w' := by
  have ho := ((Only.refl (fun _ => False) w).alloc (.cells #[.bool a, .slice A l.length c, .bool b] 25))
  have hb := Blk.new w 25 #[.bool a, .slice A l.length c, .bool b]
  have hpos : 0 < l.length := List.length_pos_iff.2 hl
  obtain ⟨x, hx⟩ : ∃ x, l[l.length - 1]? = some x := ⟨_, List.getElem?_eq_getElem (by omega)⟩
  have h2 := h.only ho (fun _ _ _ x => x)
  obtain ⟨b1, o1, rfl, hl1, d1⟩ := h2.cell hx
  have hcells : ∀ (j : Nat) y, l[j]? = some y → (w.alloc (.cells #[.bool a, .slice (some ⟨b1, o1, none⟩) l.length c, .bool b] 25)).cell? ⟨b1, o1 + j, none⟩ = some (.string y) := fun j y hy => by
    obtain ⟨b2, o2, e, _, d⟩ := h2.cell hy
    cases e
    exact d
  have hJ := Lib.hid (Try.strings_Join b1 o1 c l ⟨#[47]⟩ _ hcells hl1 (by omega) h.2.1 (by simpa [joinL] using (by omega : (joinL l).length ≤ 140737488355328)))
  go_enter Try.func18, Try.ntmps18
  go_wp2_with fail
  refine hJ.out.mono ?_
  rintro e w' ⟨rfl, hbel⟩
  have hb' := hb.only (Only.of_below hbel (fun _ => False)) (fun x => x)
  have c0 := hb'.cell 0
  have c1 := hb'.cell 1
  have c2 := hb'.cell 2
  have d1' := (hbel.cell (p := ⟨b1, o1 + (l.length - 1), none⟩) hl1).trans d1
  simp only [List.getElem?_toArray, List.getElem?_cons_zero, List.getElem?_cons_succ] at c0 c1 c2
  have hfin := Lib.hid (ho.trans (Only.of_below hbel (fun _ => False)))
  have hlast : lastDots l = (x.toList == [46, 46]) := by
    unfold lastDots
    rw [List.getLastD_eq_getLast?, List.getLast?_eq_getElem?, hx]; rfl
  clear hb' hb hJ hcells h2 hbel ho d1 h hx hl1
  obtain ⟨m, hm⟩ : ∃ m, l.length = m + 1 := ⟨l.length - 1, by omega⟩
  have hS : joinS a l b = ⟨((if a then [47] else []) ++ joinL l ++ (if b && !(x.toList == [46, 46]) then [47] else [])).toArray⟩ := by unfold joinS; rw [if_neg hl, hlast]
  replace hS := Lib.hid hS
  clear hlast
  rw [hm] at d1'
  simp only [Nat.add_sub_cancel] at d1'
  have hJL : Lib.join (l.map (fun x => x.data.toList)) [47] = joinL l := rfl
  rw [hJL]
  clear hJL
  generalize joinL l = J at *
  have hl0 : ¬ ((m : Int) + 1) = 0 := by omega
  have m0 : (0 : Int) ≤ (m : Int) := by omega
  have m1 : (m : Int) < (m : Int) + 1 := by omega
  simp only [hm] at c1 ⊢
  cases b with
  | false =>
    cases a with
    | false =>
      go_wp2
      go_ret
      refine ⟨congrArg Ending.returned (congrArg Value.string ?_), hfin.out⟩
      rw [hS.out]
      simp
    | true =>
      go_wp2
      go_ret
      refine ⟨congrArg Ending.returned (congrArg Value.string ?_), hfin.out⟩
      rw [hS.out]
      simp [app_ba [47] J]
  | true =>
    by_cases hxx : x.toList = [46, 46]
    · cases a with
      | false =>
        go_wp2
        go_ret
        refine ⟨congrArg Ending.returned (congrArg Value.string ?_), hfin.out⟩
        rw [hS.out]
        simp [hxx]
      | true =>
        go_wp2
        go_ret
        refine ⟨congrArg Ending.returned (congrArg Value.string ?_), hfin.out⟩
        rw [hS.out]
        simp [hxx, app_ba [47] J]
    · have hxb : (x.toList == [46, 46]) = false := beq_false_of_ne hxx
      cases a with
      | false =>
        go_wp2
        go_ret
        refine ⟨congrArg Ending.returned (congrArg Value.string ?_), hfin.out⟩
        rw [hS.out]
        simp [hxb, app_ba J [47]]
      | true =>
        go_wp2
        go_ret
        refine ⟨congrArg Ending.returned (congrArg Value.string ?_), hfin.out⟩
        rw [hS.out]
        simp [hxb, app_ba J [47], app_ba [47] (J ++ [47])]
/-- name.Join. -/
theorem join_any (a b : Bool) (l : List ByteArray) (hn : l.length ≤ 1000) (A : Option Addr) (c : Nat) (w : World) (h : RowS w A l c) (hlen : (joinL l).length ≤ 1000000) :
    Calls Try.prog 18 #[.agg #[.bool a, .slice A l.length c, .bool b]] w fun e w' => e = .returned (.string (joinS a l b)) ∧ Only (fun _ => False) w w' := by
  by_cases hl : l = []
  · subst hl
    have := join_nil a b A c w
    unfold joinS
    rw [if_pos rfl]
    exact this
  · exact join_some a b l hl hn A c w h hlen
end Go.Proofs.Ytnclappdokhciaa
