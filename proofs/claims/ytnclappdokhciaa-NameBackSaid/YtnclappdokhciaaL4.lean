/-
  What Split told is joined to a path that Split tells the same of: the law (plain).
-/
import Derived.Test.YtnclappdokhciaaL3
namespace Go.Proofs.Ytnclappdokhciaa
open Go Go.RowKit
set_option linter.unusedVariables false

theorem kA : split ⟨#[47]⟩ = ⟨true, [], true, 0⟩ := by kernel_rfl
theorem kB : split ⟨#[46]⟩ = ⟨false, [], true, 0⟩ := by kernel_rfl
/-- How long what is joined of parts is, and one more. -/
def cB (l : List ByteArray) : Nat := (l.map fun x => x.size + 1).sum
theorem cB_nil : cB [] = 0 := rfl
theorem cB_cons (x : ByteArray) (l : List ByteArray) : cB (x :: l) = x.size + 1 + cB l := by simp [cB]
theorem cB_app (l m : List ByteArray) : cB (l ++ m) = cB l + cB m := by simp [cB]
theorem cB_filter (p : ByteArray → Bool) : ∀ l, cB (l.filter p) ≤ cB l
  | [] => Nat.le_refl _
  | x :: l => by
    have := cB_filter p l
    rw [List.filter_cons]
    split
    · rw [cB_cons, cB_cons]; omega
    · rw [cB_cons]; omega
theorem join_cB : ∀ (l : List ByteArray), l ≠ [] → (Lib.join (l.map (·.data.toList)) [47]).length + 1 = cB l
  | [], h => absurd rfl h
  | [x], _ => by
    rw [List.map_cons, List.map_nil, Lib.join_one, cB_cons, cB_nil, length_toList]
  | x :: y :: r, _ => by
    have ih := join_cB (y :: r) (by simp)
    rw [List.map_cons, List.map_cons, join_cons2, ← List.map_cons (f := fun x : ByteArray => x.data.toList), List.length_append, List.length_cons, ih, cB_cons x, length_toList]
    omega
theorem size_cB (s : ByteArray) : s.size + 1 = cB (pieces s) := by
  rw [← join_cB (pieces s) (by unfold pieces; simp), pieces_sp, join_sp, length_toList]
/-- A text begins with a slash just where its first part is empty. -/
theorem first_47 (s : ByteArray) (h : 0 < s.size) : ∃ x r, sp s.data.toList = x :: r ∧ (bt s 0 = 47 ↔ x = []) ∧ (x = [] → r ≠ []) := by
  have hl := length_toList s
  cases hd : s.data.toList with
  | nil => rw [hd] at hl; simp at hl; omega
  | cons b t =>
    have hb : bt s 0 = b.toNat := bt_get s 0 b (by rw [hd]; rfl)
    rw [sp_cons]
    by_cases e : b = 47
    · rw [if_pos e]
      exact ⟨[], sp t, rfl, ⟨fun _ => rfl, fun _ => by rw [hb, e]; rfl⟩, fun _ => sp_ne t⟩
    · rw [if_neg e]
      cases hs : sp t with
      | nil => exact absurd hs (sp_ne t)
      | cons y ys => exact ⟨b :: y, ys, rfl, ⟨fun h => absurd ((u47 b).1 (by rw [← hb]; exact h)) e, fun h => by simp at h⟩, fun h => by simp at h⟩
theorem toList_ne {x : ByteArray} (h : keepB x = true) : x.data.toList ≠ [] := by
  have := ((keep_iff x).1 h).1
  rwa [ByteArray.toList_eq] at this
theorem keep_empty : keepB ⟨#[]⟩ = false := by
  cases h : keepB ⟨#[]⟩ with
  | false => rfl
  | true => exact absurd rfl (toList_ne h)
theorem emp : (⟨#[]⟩ : ByteArray).toList.isEmpty = true := by rw [toList_empty]; rfl
theorem filter_pre (t : Bool) : (preP t).filter keepB = [] := by
  cases t with
  | false => rfl
  | true => simp [preP, keep_empty]
theorem lastDots_snoc (l : List ByteArray) (x : ByteArray) : lastDots (l ++ [x]) = (x.toList == [46, 46]) := by
  unfold lastDots
  rw [List.getLastD_eq_getLast?, List.getLast?_concat]; rfl

theorem back_law (s : ByteArray) (h0 : 0 < s.size) (h1 : s.size ≤ 256) (hf : fault s 0 = 0) (hl : longB (pieces s) = false) :
    split (joinS (decide (bt s 0 = 47)) ((pieces s).filter keepB) (endB s || dotsB (lastNE (pieces s)))) = ⟨decide (bt s 0 = 47), (pieces s).filter keepB, endB s || dotsB (lastNE (pieces s)), 0⟩ ∧
    (joinS (decide (bt s 0 = 47)) ((pieces s).filter keepB) (endB s || dotsB (lastNE (pieces s)))).size ≤ s.size := by
  by_cases hn : (pieces s).filter keepB = []
  · have hsl : (endB s || dotsB (lastNE (pieces s))) = true := sl_of s h0 (.inl (by
      cases hk : keepB (lastP s) with
      | false => rfl
      | true =>
        have : lastP s ∈ (pieces s).filter keepB := List.mem_filter.2 ⟨by rw [pieces_eq]; simp, hk⟩
        rw [hn] at this; cases this))
    rw [hn, hsl]
    unfold joinS
    rw [if_pos rfl]
    cases decide (bt s 0 = 47) with
    | true => exact ⟨kA, h0⟩
    | false => exact ⟨kB, h0⟩
  · obtain ⟨l', P, hlP⟩ : ∃ l' P, (pieces s).filter keepB = l' ++ [P] := ⟨_, _, (List.dropLast_concat_getLast hn).symm⟩
    have hPm : P ∈ (pieces s).filter keepB := by rw [hlP]; simp
    obtain ⟨hPp, hPk⟩ := List.mem_filter.1 hPm
    have hall : ∀ x ∈ (pieces s).filter keepB, x ∈ pieces s ∧ keepB x = true := fun x hx => List.mem_filter.1 hx
    have hfD : (pieces s).filter keepB = (cut s s.size).2.filter keepB ++ if keepB (lastP s) then [lastP s] else [] := by rw [pieces_eq, keep_snoc]
    have hPlast : keepB (lastP s) = true → P = lastP s := fun hk => by
      rw [hk, if_pos rfl, hlP] at hfD
      exact (List.append_inj' hfD rfl).2 |> fun h => by injection h
    have hld : lastDots ((pieces s).filter keepB) = (P.toList == [46, 46]) := by rw [hlP, lastDots_snoc]
    have hdots : dotsB P = (P.toList == [46, 46]) := by
      unfold dotsB
      rw [show (P.toList == [46]) = false from beq_false_of_ne ((keep_iff P).1 hPk).2, Bool.false_or]
    -- two points at the end say 'directory'
    have hds : (P.toList == [46, 46]) = true → (endB s || dotsB (lastNE (pieces s))) = true := fun hd => by
      refine sl_of s h0 ?_
      cases hk : keepB (lastP s) with
      | false => exact .inl rfl
      | true => exact .inr (by rw [← hPlast hk]; exact beq_iff_eq.1 hd)
    have hdn : keepB (lastP s) = true → (endB s || dotsB (lastNE (pieces s))) = (P.toList == [46, 46]) := fun hk => by
      have hne := ((keep_iff (lastP s)).1 hk).1
      have hem : (lastP s).toList.isEmpty = false := by cases hz : (lastP s).toList with | nil => exact absurd hz hne | cons _ _ => rfl
      rw [endB_eq s h0, hem, Bool.false_or, lastNE_pieces]
      unfold lastN
      rw [hem, if_neg (by decide), ← hPlast hk, hdots]
    generalize hsl : (endB s || dotsB (lastNE (pieces s))) = sl at *
    have hpc := pieces_join (decide (bt s 0 = 47)) ((pieces s).filter keepB) sl hn (fun x hx => piece_no47 (hall x hx).1)
    have hdata := joinS_data (decide (bt s 0 = 47)) ((pieces s).filter keepB) sl hn
    rw [hld] at hpc hdata
    generalize htr : (sl && !(P.toList == [46, 46])) = tr at *
    generalize hJ : joinS (decide (bt s 0 = 47)) ((pieces s).filter keepB) sl = J at *
    -- its length
    have hJc := size_cB J
    have hsc := size_cB s
    rw [hpc, cB_app, cB_app] at hJc
    have hpD : cB (pieces s) = cB (cut s s.size).2 + ((lastP s).size + 1) := by rw [pieces_eq, cB_app, cB_cons, cB_nil]
    have hpre : ∀ t, cB (preP t) = if t then 1 else 0 := fun t => by cases t <;> rfl
    have hD1 : cB ((cut s s.size).2.filter keepB) + cB (preP (decide (bt s 0 = 47))) ≤ cB (cut s s.size).2 := by
      rw [hpre]
      by_cases ha : bt s 0 = 47
      · rw [decide_eq_true ha, if_pos rfl]
        obtain ⟨x, r, e1, e2, e3⟩ := first_47 s h0
        have hx := e2.1 ha
        have hr := e3 hx
        rw [← pieces_sp, pieces_eq] at e1
        cases hD : (cut s s.size).2 with
        | nil => rw [hD] at e1; simp at e1; exact absurd e1.2 hr
        | cons y D =>
          rw [hD] at e1
          simp only [List.cons_append, List.map_cons, List.cons.injEq] at e1
          have hy : keepB y = false := by
            cases hk : keepB y with
            | false => rfl
            | true => exact absurd (e1.1.trans hx) (toList_ne hk)
          rw [List.filter_cons, hy, if_neg (by decide), cB_cons]
          have := cB_filter keepB D
          omega
      · rw [decide_eq_false ha, if_neg (by decide)]
        have := cB_filter keepB (cut s s.size).2
        omega
    have hD2 : cB (if keepB (lastP s) = true then [lastP s] else []) + cB (preP tr) ≤ (lastP s).size + 1 := by
      rw [hpre]
      cases hk : keepB (lastP s) with
      | true =>
        have : tr = false := by
          rw [← htr, hdn hk]; cases (P.toList == [46, 46]) <;> rfl
        rw [this, if_pos rfl, if_neg (by decide), cB_cons, cB_nil]
        omega
      | false =>
        rw [if_neg (by decide), cB_nil]
        split <;> omega
    have hlc : cB ((pieces s).filter keepB) = cB ((cut s s.size).2.filter keepB) + cB (if keepB (lastP s) = true then [lastP s] else []) := by rw [hfD, cB_app]
    have hsize : J.size ≤ s.size := by omega
    refine ⟨?_, hsize⟩
    -- what is told of it
    have hmem : ∀ x ∈ pieces J, x = ⟨#[]⟩ ∨ x ∈ (pieces s).filter keepB := fun x hx => by
      have hp : ∀ t, x ∈ preP t → x = ⟨#[]⟩ := fun t ht => by
        unfold preP at ht
        split at ht
        · exact List.mem_singleton.1 ht
        · cases ht
      rw [hpc] at hx
      rcases List.mem_append.1 hx with h | h
      · rcases List.mem_append.1 h with h | h
        · exact .inl (hp _ h)
        · exact .inr h
      · exact .inl (hp _ h)
    have hJ0 : 0 < J.size := by
      rcases Nat.eq_zero_or_pos J.size with h | h
      · have hP1 : P.data.toList ∈ sp J.data.toList := by
          rw [← pieces_sp, hpc]
          exact List.mem_map.2 ⟨P, List.mem_append_left _ (List.mem_append_right _ hPm), rfl⟩
        have : J.data.toList = [] := List.eq_nil_of_length_eq_zero (by rw [length_toList]; exact h)
        rw [this] at hP1
        exact absurd (by simpa [sp] using hP1) (toList_ne hPk)
      · exact h
    have hJf : fault J 0 = 0 := by
      rw [fault_iff J 0 (by omega), hdata]
      refine val_join _ (fun y hy => ?_)
      obtain ⟨x, hx, rfl⟩ := List.mem_map.1 hy
      rw [← hpc] at hx
      rcases hmem x hx with rfl | hx
      · exact Val.nil 0
      · exact piece_val hf (hall x hx).1
    have hJl : longB (pieces J) = false := by
      refine List.any_eq_false.2 (fun x hx => ?_)
      rcases hmem x hx with rfl | hx
      · decide
      · have := piece_short hl (hall x hx).1
        simpa using this
    have hJk : (pieces J).filter keepB = (pieces s).filter keepB := by
      rw [hpc, List.filter_append, List.filter_append, filter_pre, filter_pre, List.nil_append, List.append_nil]
      exact List.filter_eq_self.2 (fun x hx => (hall x hx).2)
    have hJa : decide (bt J 0 = 47) = decide (bt s 0 = 47) := by
      obtain ⟨x, r, e1, e2, _⟩ := first_47 J hJ0
      rw [← pieces_sp, hpc] at e1
      by_cases ha : bt s 0 = 47
      · rw [decide_eq_true ha] at e1 ⊢
        simp only [preP, if_true, List.cons_append, List.nil_append, List.map_cons, List.cons.injEq] at e1
        exact decide_eq_true (e2.2 e1.1.symm)
      · rw [decide_eq_false ha] at e1 ⊢
        refine decide_eq_false (fun h => ?_)
        have hx := e2.1 h
        cases hc : (pieces s).filter keepB with
        | nil => exact hn hc
        | cons y m =>
          rw [hc] at e1
          simp only [preP, Bool.false_eq_true, if_false, List.nil_append, List.cons_append, List.map_cons, List.cons.injEq] at e1
          exact toList_ne (hall y (by rw [hc]; exact List.mem_cons_self ..)).2 (e1.1.trans hx)
    have hPne : P.toList.isEmpty = false := by
      have := ((keep_iff P).1 hPk).1
      cases hz : P.toList with
      | nil => exact absurd hz this
      | cons _ _ => rfl
    have hNE : lastNE (pieces J) = P := by
      rw [hpc, hlP, ← List.append_assoc]
      have h3 : lastNE (preP (decide (bt s 0 = 47)) ++ l' ++ [P]) = P := by
        rw [lastNE_snoc]; unfold lastN; rw [hPne]; rfl
      cases tr with
      | false => simp only [preP, Bool.false_eq_true, if_false, List.append_nil] at h3 ⊢; exact h3
      | true =>
        rw [show preP true = [⟨#[]⟩] from rfl, lastNE_snoc, h3]
        unfold lastN; rw [emp]; rfl
    have hend : endB J = tr := by
      rw [endB_eq J hJ0]
      have hlp : (cut J J.size).2 ++ [lastP J] = preP (decide (bt s 0 = 47)) ++ (l' ++ [P]) ++ preP tr := by rw [← pieces_eq, hpc, hlP]
      cases tr with
      | false =>
        simp only [preP, Bool.false_eq_true, if_false, List.append_nil] at hlp
        rw [← List.append_assoc] at hlp
        have := (List.append_inj' hlp rfl).2
        injection this with e
        rw [e]; exact hPne
      | true =>
        rw [show preP true = [⟨#[]⟩] from rfl] at hlp
        have := (List.append_inj' hlp rfl).2
        injection this with e
        rw [e]; exact emp
    unfold split
    rw [if_neg (by omega), if_neg (by omega), if_neg (fun h => h hJf), if_neg (by rw [hJl]; decide), hJk, hJa, hend, hNE, hdots]
    congr 1
    rw [← htr]
    cases hd : (P.toList == [46, 46]) with
    | true => rw [hds hd]; rfl
    | false => simp
end Go.Proofs.Ytnclappdokhciaa
