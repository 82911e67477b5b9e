/-
  What Split told is joined to a path that Split tells the same of (plain).
-/
import Derived.Test.YtnclappdokhciaaL2
import Derived.Test.YtnclappdokhciaaJ1
namespace Go.Proofs.Ytnclappdokhciaa
open Go Go.RowKit
set_option linter.unusedVariables false

theorem keep_iff (x : ByteArray) : keepB x = true ↔ x.toList ≠ [] ∧ x.toList ≠ [46] := by
  unfold keepB
  cases h : x.toList with
  | nil => simp
  | cons a r => simp; exact Decidable.imp_iff_not_or.symm
def lastP (s : ByteArray) : ByteArray := s.extract (cut s s.size).1 s.size
theorem pieces_eq (s : ByteArray) : pieces s = (cut s s.size).2 ++ [lastP s] := rfl
theorem endB_eq (s : ByteArray) (h : 0 < s.size) : endB s = (lastP s).toList.isEmpty := by
  rw [toList_empty]
  unfold endB lastP
  rw [ext_size _ _ _ (Nat.le_refl _)]
  obtain ⟨m, hm⟩ : ∃ m, s.size = m + 1 := ⟨s.size - 1, by omega⟩
  have hc := cut_succ s m
  have hl := cut_le s m
  rw [hm, Nat.add_sub_cancel, hc]
  by_cases h47 : bt s m = 47
  · rw [if_pos h47, decide_eq_true h47, decide_eq_true (by simp)]
  · rw [if_neg h47, decide_eq_false h47, decide_eq_false (by omega)]
theorem lastNE_pieces (s : ByteArray) : lastNE (pieces s) = lastN (lastNE (cut s s.size).2) (lastP s) := by rw [pieces_eq, lastNE_snoc]
/-- If the last part that is kept is two points, or none is kept, the path's end says 'directory'. -/
theorem sl_of (s : ByteArray) (h : 0 < s.size) (hk : keepB (lastP s) = false ∨ (lastP s).toList = [46, 46]) : (endB s || dotsB (lastNE (pieces s))) = true := by
  rw [endB_eq s h, lastNE_pieces]
  unfold lastN
  cases he : (lastP s).toList with
  | nil => simp
  | cons b r =>
    have hne : ¬ (lastP s).toList.isEmpty = true := by rw [he]; simp
    rw [if_neg (by simp)]
    rcases hk with hk | hk
    · have : (lastP s).toList = [46] := by
        apply Classical.byContradiction
        intro h46
        have := (keep_iff (lastP s)).2 ⟨by rw [he]; simp, h46⟩
        rw [hk] at this; cases this
      simp [dotsB, this]
    · simp [dotsB, hk]
theorem mem_pieces {s x : ByteArray} (hx : x ∈ pieces s) : x.data.toList ∈ sp s.data.toList := by
  rw [← pieces_sp]; exact List.mem_map.2 ⟨x, hx, rfl⟩
theorem piece_no47 {s x : ByteArray} (hx : x ∈ pieces s) : (47 : UInt8) ∉ x.data.toList := sp_no _ _ (mem_pieces hx)
theorem piece_val {s x : ByteArray} (hf : fault s 0 = 0) (hx : x ∈ pieces s) : Val 0 x.data.toList := by
  have hv := (fault_iff s 0 (by omega)).1 hf
  rw [← join_sp s.data.toList] at hv
  exact val_parts _ hv _ (mem_pieces hx)
theorem piece_short {s x : ByteArray} (hl : longB (pieces s) = false) (hx : x ∈ pieces s) : x.size ≤ 24 := by
  have := List.any_eq_false.1 hl x hx
  simpa using this
/-- Each part is two points, or a name that an entry may have. -/
theorem part_fine {s x : ByteArray} (hf : fault s 0 = 0) (hl : longB (pieces s) = false) (hx : x ∈ (pieces s).filter keepB) : x.toList = [46, 46] ∨ checkS x = 0 := by
  obtain ⟨hm, hk⟩ := List.mem_filter.1 hx
  obtain ⟨k1, k2⟩ := (keep_iff x).1 hk
  by_cases h2 : x.toList = [46, 46]
  · exact .inl h2
  · right
    have hv := (fault_iff x 47 (by omega)).2 ((piece_val hf hm).no47 (piece_no47 hm))
    have hs := piece_short hl hm
    unfold checkS
    rw [if_pos hv, if_neg (by rintro ((e | e) | e); exact k1 e; exact k2 e; exact h2 e), if_neg (by omega)]
theorem data_inj {l m : List ByteArray} (h : l.map (·.data.toList) = m.map (·.data.toList)) : l = m := by
  induction l generalizing m with
  | nil => cases m with | nil => rfl | cons _ _ => simp at h
  | cons x l ih =>
    cases m with
    | nil => simp at h
    | cons y m =>
      simp only [List.map_cons, List.cons.injEq] at h
      rw [ih h.2]
      congr 1
      exact ByteArray.ext (Array.ext' h.1)
/-- The parts of what is joined. -/
def preP (a : Bool) : List ByteArray := if a then [⟨#[]⟩] else []
theorem joinS_data (a : Bool) (l : List ByteArray) (b : Bool) (hl : l ≠ []) : (joinS a l b).data.toList = Lib.join ((preP a ++ l ++ preP (b && !lastDots l)).map (·.data.toList)) [47] := by
  unfold joinS
  rw [if_neg hl]
  have hmid : ∀ (t : Bool), Lib.join ((l ++ preP t).map (·.data.toList)) [47] = joinL l ++ (if t then [47] else []) := by
    intro t
    cases t with
    | false => simp [preP, joinL]
    | true =>
      have := joinL_snoc l hl ⟨#[]⟩
      unfold joinL at this ⊢
      simpa [preP] using this
  cases a with
  | false =>
    rw [show preP false ++ l ++ preP (b && !lastDots l) = l ++ preP (b && !lastDots l) from rfl, hmid]
    simp
  | true =>
    have hne : l ++ preP (b && !lastDots l) ≠ [] := by simp [hl]
    cases hm : l ++ preP (b && !lastDots l) with
    | nil => exact absurd hm hne
    | cons y r =>
      rw [show preP true ++ l ++ preP (b && !lastDots l) = ⟨#[]⟩ :: (l ++ preP (b && !lastDots l)) from rfl, hm]
      have h2 := hmid (b && !lastDots l)
      rw [hm] at h2
      rw [List.map_cons, List.map_cons, join_cons2, ← List.map_cons (f := fun x : ByteArray => x.data.toList), h2]
      simp
theorem pieces_join (a : Bool) (l : List ByteArray) (b : Bool) (hl : l ≠ []) (hn : ∀ x ∈ l, (47 : UInt8) ∉ x.data.toList) : pieces (joinS a l b) = preP a ++ l ++ preP (b && !lastDots l) := by
  apply data_inj
  rw [pieces_sp, joinS_data a l b hl]
  refine sp_join _ (by simp [hl]) (fun x hx => ?_)
  obtain ⟨y, hy, rfl⟩ := List.mem_map.1 hx
  have hp : ∀ t, y ∈ preP t → (47 : UInt8) ∉ y.data.toList := by
    intro t ht
    unfold preP at ht
    split at ht
    · rw [List.mem_singleton.1 ht]; simp
    · cases ht
  rcases List.mem_append.1 hy with h | h
  · rcases List.mem_append.1 h with h | h
    · exact hp _ h
    · exact hn y h
  · exact hp _ h
end Go.Proofs.Ytnclappdokhciaa
