/-
  kintsugiref03.Join (func 19).
-/
import Derived.Test.YtnclappdokhciaaS6
namespace Go.Proofs.Ytnclappdokhciaa
open Go Go.RowKit
set_option linter.unusedVariables false

theorem joinL_cons (x : ByteArray) (r : List ByteArray) : joinL (x :: r) = x.data.toList ++ Lib.joinTail [47] (r.map (·.data.toList)) := Lib.join_cons _ _ _
theorem joinL_snoc (l : List ByteArray) (hl : l ≠ []) (x : ByteArray) : joinL (l ++ [x]) = joinL l ++ [47] ++ x.data.toList := by
  cases l with
  | nil => exact absurd rfl hl
  | cons y r =>
    rw [List.cons_append, joinL_cons, joinL_cons]
    simp [Lib.joinTail]
theorem app_x (l : List UInt8) (x : ByteArray) : (⟨l.toArray⟩ : ByteArray) ++ x = ⟨(l ++ x.data.toList).toArray⟩ := by
  apply ByteArray.ext
  simp
theorem take_snoc (l : List ByteArray) (i : Nat) (x : ByteArray) (hx : l[i]? = some x) : l.take (i + 1) = l.take i ++ [x] := by
  rw [List.take_add_one, hx]; rfl

theorem joinTail_len : ∀ (r : List ByteArray), (∀ x ∈ r, x.size ≤ 60) → (Lib.joinTail [47] (r.map (·.data.toList))).length ≤ 61 * r.length
  | [], _ => Nat.le_refl _
  | x :: r, h => by
    have ih := joinTail_len r (fun y hy => h y (List.mem_cons_of_mem _ hy))
    have hx := h x (List.mem_cons_self ..)
    have hl := length_toList x
    unfold Lib.joinTail at *
    simp only [List.map_cons, List.flatten_cons, List.length_append, List.length_cons, List.length_nil] at *
    omega
theorem joinL_len (l : List ByteArray) (h : ∀ x ∈ l, x.size ≤ 60) : (joinL l).length ≤ 61 * l.length := by
  cases l with
  | nil => exact Nat.le_refl _
  | cons x r =>
    rw [joinL_cons]
    have := joinTail_len r (fun y hy => h y (List.mem_cons_of_mem _ hy))
    have hx := h x (List.mem_cons_self ..)
    have hl := length_toList x
    rw [List.length_append, List.length_cons]
    omega

set_option maxRecDepth 10000 in
set_option maxHeartbeats 4000000 in
theorem joinR_any (a b : Bool) (l : List ByteArray) (hn : l.length ≤ 1000) (A : Option Addr) (c : Nat) (w : World) (h : RowS w A l c) (h60 : ∀ x ∈ l, x.size ≤ 60) :
    Calls Try.prog 19 #[.agg #[.bool a, .slice A l.length c, .bool b]] w fun e w' => e = .returned (.string (joinS a l b)) ∧ Only (fun _ => False) w w' := by
  have ho := ((Only.refl (fun _ => False) w).alloc (.cells #[.bool a, .slice A l.length c, .bool b] 29))
  have hb := Blk.new w 29 #[.bool a, .slice A l.length c, .bool b]
  have h2 := h.only ho (fun _ _ _ x => x)
  go_enter Try.func19, Try.ntmps19
  go_wp2
  generalize hW : w.alloc _ = w2 at *
  clear hW
  generalize hg : w.heap.size = g at *
  clear hg h
  have q0 := hb.cell 0
  have q1 := hb.cell 1
  have q2 := hb.cell 2
  simp only [List.getElem?_toArray, List.getElem?_cons_zero, List.getElem?_cons_succ] at q0 q1 q2
  clear hb
  go_loopw [3, 4] (fun t k wr => wr = w2 ∧ ∃ (i : Nat) (S : ByteArray), k = .int .i64 i ∧ t = .string S ∧ i ≤ l.length ∧ S = ⟨(joinL (l.take i)).toArray⟩) (fun _ k _ => l.length - (intOf k).toNat)
  case atStart => exact ⟨rfl, 0, ⟨#[]⟩, rfl, rfl, by omega, rfl⟩
  case round =>
    obtain ⟨rfl, i, S, rfl, rfl, hi, hS⟩ := hrel
    by_cases hlt : i < l.length
    · obtain ⟨x, hx⟩ : ∃ x, l[i]? = some x := ⟨_, List.getElem?_eq_getElem hlt⟩
      obtain ⟨b1, o1, rfl, hl1, d1⟩ := h2.cell hx
      have i0 : (0 : Int) ≤ (i : Int) := by omega
      have i1 : (i : Int) < (l.length : Int) := by omega
      have hts := take_snoc l i x hx
      have hx60 : x.size ≤ 60 := h60 x (List.mem_of_getElem? hx)
      have hSs : S.size ≤ 100000 := by
        have h1 := joinL_len (l.take i) (fun y hy => h60 y (List.mem_of_mem_take hy))
        rw [List.length_take] at h1
        have h2 : S.size = (joinL (l.take i)).length := by rw [hS]; exact List.size_toArray
        omega
      replace hx := Lib.hid hx
      replace h60 := Lib.hid h60
      replace h2 := Lib.hid h2
      by_cases h0 : i = 0
      · subst h0
        simp only [Nat.add_zero] at d1
        have hS2 : S ++ x = ⟨(joinL (l.take (0 + 1))).toArray⟩ := by
          rw [hts, hS, app_x]
          simp [joinL, Lib.join_one, Lib.join_nil]
        replace hS2 := Lib.hid hS2
        clear hS hts
        go_wp2
        go_roundw
        case rel => exact ⟨by first | rfl | trivial, 1, S ++ x, by go_num, rfl, by omega, hS2.out⟩
        case measure => simp [intOf]; omega
      · have hS2 : S ++ ⟨#[47]⟩ ++ x = ⟨(joinL (l.take (i + 1))).toArray⟩ := by
          rw [hts, joinL_snoc _ (by intro e; have := congrArg List.length e; rw [List.length_take] at this; simp only [List.length_nil] at this; omega), hS, app_ba _ [47], app_x]
        replace hS2 := Lib.hid hS2
        have i2 : (0 : Int) < (i : Int) := by omega
        clear hS hts
        go_wp2
        go_roundw
        case rel => exact ⟨by first | rfl | trivial, i + 1, S ++ ⟨#[47]⟩ ++ x, by go_num, rfl, by omega, hS2.out⟩
        case measure => simp [intOf]; omega
    · obtain rfl : i = l.length := by omega
      rw [List.take_length] at hS
      subst hS
      by_cases hl : l = []
      · subst hl
        clear h60
        cases a with
        | true =>
          go_wp2
          go_ret
          exact ⟨by rfl, ho⟩
        | false =>
          go_wp2
          go_ret
          exact ⟨by rfl, ho⟩
      · have hpos : 0 < l.length := List.length_pos_iff.2 hl
        obtain ⟨x, hx⟩ : ∃ x, l[l.length - 1]? = some x := ⟨_, List.getElem?_eq_getElem (by omega)⟩
        obtain ⟨b1, o1, rfl, hl1, d1⟩ := h2.cell hx
        have hlast : lastDots l = (x.toList == [46, 46]) := by
          unfold lastDots
          rw [List.getLastD_eq_getLast?, List.getLast?_eq_getElem?, hx]; rfl
        have hS : joinS a l b = ⟨((if a then [47] else []) ++ joinL l ++ (if b && !(x.toList == [46, 46]) then [47] else [])).toArray⟩ := by unfold joinS; rw [if_neg hl, hlast]
        replace hS := Lib.hid hS
        have hfin := Lib.hid ho
        obtain ⟨m, hm⟩ : ∃ m, l.length = m + 1 := ⟨l.length - 1, by omega⟩
        rw [hm] at d1
        simp only [Nat.add_sub_cancel] at d1
        clear hlast hx h2 ho hl1
        have hJl : (joinL l).length ≤ 100000 := by have := joinL_len l h60; omega
        clear h60
        generalize joinL l = J at *
        have m0 : (0 : Int) ≤ (m : Int) := by omega
        have m1 : (m : Int) < (m : Int) + 1 := by omega
        simp only [hm] at q1 ⊢
        simp only [show ((m + 1 : Nat) : Int) = (m : Int) + 1 from rfl]
        cases b with
        | false =>
          cases a with
          | false =>
            go_wp2
            go_ret
            refine ⟨congrArg Ending.returned (congrArg Value.string ?_), hfin.out⟩
            rw [hS.out]
            simp
          | true =>
            go_wp2
            go_ret
            refine ⟨congrArg Ending.returned (congrArg Value.string ?_), hfin.out⟩
            rw [hS.out]
            simp [app_ba [47] J]
        | true =>
          by_cases hxx : x.toList = [46, 46]
          · cases a with
            | false =>
              go_wp2
              go_ret
              refine ⟨congrArg Ending.returned (congrArg Value.string ?_), hfin.out⟩
              rw [hS.out]
              simp [hxx]
            | true =>
              go_wp2
              go_ret
              refine ⟨congrArg Ending.returned (congrArg Value.string ?_), hfin.out⟩
              rw [hS.out]
              simp [hxx, app_ba [47] J]
          · have hxb : (x.toList == [46, 46]) = false := beq_false_of_ne hxx
            cases a with
            | false =>
              go_wp2
              go_ret
              refine ⟨congrArg Ending.returned (congrArg Value.string ?_), hfin.out⟩
              rw [hS.out]
              simp [hxb, app_ba J [47]]
            | true =>
              go_wp2
              go_ret
              refine ⟨congrArg Ending.returned (congrArg Value.string ?_), hfin.out⟩
              rw [hS.out]
              simp [hxb, app_ba J [47], app_ba [47] (J ++ [47])]
end Go.Proofs.Ytnclappdokhciaa
