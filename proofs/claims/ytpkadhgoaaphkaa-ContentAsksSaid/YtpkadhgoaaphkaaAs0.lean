/-
  Plain law: which leaves an act asks for.
-/
import Derived.Test.YtpkadhgoaaphkaaDo
namespace Go.Proofs.Ytpkadhgoaaphkaa
open Go Go.RowKit Go.Shelf
set_option linter.unusedVariables false
/-- The leaves that were asked for are among those that must be, and rise. -/
structure AskN (d fr t : Nat) (qs : List Nat) : Prop where
  each : ∀ k ∈ qs, fr / 512 ≤ k ∧ 512 * k < t ∧ ¬ (d = 1 ∧ fr ≤ 512 * k ∧ 512 * k + 512 ≤ t) ∧ k < 64
  ris : qs.Pairwise fun a b => a < b
  lt : t ≤ 40000 ∧ fr ≤ 40000
theorem ris_at {qs : List Nat} (h : qs.Pairwise fun a b => a < b) {i a b : Nat} (ha : qs[i]? = some a) (hb : qs[i + 1]? = some b) : a < b := by
  have h1 := (List.getElem?_eq_some_iff.1 ha)
  have h2 := (List.getElem?_eq_some_iff.1 hb)
  have := List.pairwise_iff_getElem.1 h i (i + 1) h1.1 h2.1 (by omega)
  rw [h1.2, h2.2] at this
  exact this
theorem ris_mono {f : Nat → List Nat} {base : Nat} (h0 : f 0 = []) (hs : ∀ i, f (i + 1) = f i ∨ f (i + 1) = f i ++ [base + i]) : ∀ i, (∀ k ∈ f i, k < base + i) ∧ (f i).Pairwise fun a b => a < b
  | 0 => by rw [h0]; exact ⟨fun _ h => (by cases h), List.Pairwise.nil⟩
  | i + 1 => by
    obtain ⟨h1, h2⟩ := ris_mono h0 hs i
    rcases hs i with e | e
    · rw [e]; exact ⟨fun k hk => (by have := h1 k hk; omega), h2⟩
    · rw [e]
      refine ⟨fun k hk => ?_, List.pairwise_append.2 ⟨h2, List.pairwise_singleton _ _, fun a ha b hb => ?_⟩⟩
      · rcases List.mem_append.1 hk with hk | hk
        · have := h1 k hk; omega
        · rw [List.mem_singleton.1 hk]; omega
      · rw [List.mem_singleton.1 hb]; exact h1 a ha
theorem mem_upto {f : Nat → List Nat} {base : Nat} (h0 : f 0 = []) {P : Nat → Prop} (hs : ∀ i, f (i + 1) = f i ∨ (f (i + 1) = f i ++ [base + i] ∧ P i)) : ∀ i k, k ∈ f i → ∃ j, j < i ∧ k = base + j ∧ P j
  | 0, k, h => by rw [h0] at h; cases h
  | i + 1, k, h => by
    rcases hs i with e | ⟨e, p⟩
    · rw [e] at h
      obtain ⟨j, hj, e1, hp⟩ := mem_upto h0 hs i k h
      exact ⟨j, by omega, e1, hp⟩
    · rw [e] at h
      rcases List.mem_append.1 h with h | h
      · obtain ⟨j, hj, e1, hp⟩ := mem_upto h0 hs i k h
        exact ⟨j, by omega, e1, hp⟩
      · exact ⟨i, by omega, List.mem_singleton.1 h, p⟩
theorem any_false {qs : List Nat} {p : Nat → Bool} (h : ∀ k ∈ qs, p k = false) : qs.any p = false := by
  rw [List.any_eq_false]
  intro k hk
  rw [h k hk]
  exact Bool.false_ne_true
theorem any_true {qs : List Nat} {p : Nat → Bool} {k : Nat} (hk : k ∈ qs) (h : p k = true) : qs.any p = true := List.any_eq_true.2 ⟨k, hk, h⟩
/-! Reads. -/
theorem askd_step (fr i : Nat) : askd fr (i + 1) = askd fr i ∨ (askd fr (i + 1) = askd fr i ++ [fr / 512 + i] ∧ True) := .inr ⟨(askd_succ fr i).symm, trivial⟩
theorem askd_ok {fr en i : Nat} (hi : i ≤ cnt fr en) (he : en ≤ 32768) (hf : fr ≤ 40000) : AskN 0 fr en (askd fr i) := by
  refine ⟨fun k hk => ?_, (ris_mono (f := askd fr) rfl (fun i => .inr (askd_succ fr i).symm) i).2, by omega, hf⟩
  obtain ⟨j, hj, rfl, _⟩ := mem_upto (f := askd fr) rfl (askd_step fr) i k hk
  have h4 := pc_le (fr := fr) (en := en) (i := j) (by omega)
  have hlf : (pc fr en j).lf = fr / 512 + j := rfl
  rw [hlf] at h4
  omega
theorem askd_mem {fr i j : Nat} (h : j < i) : fr / 512 + j ∈ askd fr i := by
  unfold askd
  exact List.mem_map.2 ⟨j, List.mem_range.2 h, rfl⟩
/-! Writes. -/
theorem wrA_step (fr en i : Nat) : wrA fr en (i + 1) = wrA fr en i ∨ (wrA fr en (i + 1) = wrA fr en i ++ [fr / 512 + i] ∧ (pc fr en i).hi - (pc fr en i).fr < 512) := by
  show wrA fr en i ++ wrAsk fr en i = _ ∨ wrA fr en i ++ wrAsk fr en i = _ ∧ _
  unfold wrAsk
  split
  · exact .inr ⟨rfl, by assumption⟩
  · exact .inl (List.append_nil _)
theorem wrA_ok {fr en i : Nat} (hi : i ≤ cnt fr en) (he : en ≤ 32768) (hf : fr ≤ 40000) : AskN 1 fr en (wrA fr en i) := by
  refine ⟨fun k hk => ?_, (ris_mono (f := wrA fr en) rfl (fun i => (wrA_step fr en i).imp id And.left) i).2, by omega, hf⟩
  obtain ⟨j, hj, rfl, hp⟩ := mem_upto (f := wrA fr en) rfl (wrA_step fr en) i k hk
  have h4 := pc_le (fr := fr) (en := en) (i := j) (by omega)
  have hlf : (pc fr en j).lf = fr / 512 + j := rfl
  rw [hlf] at h4
  have h5 : fr ≤ 512 * (fr / 512 + j) → 512 * (fr / 512 + j) + 512 ≤ en → (pc fr en j).hi - (pc fr en j).fr = 512 := by
    intro a b
    unfold pc
    simp only
    omega
  refine ⟨by omega, by omega, fun ⟨_, a, b⟩ => ?_, by omega⟩
  have := h5 a b
  omega
theorem wrA_mem {fr en i j : Nat} (h : j < i) (hp : (pc fr en j).hi - (pc fr en j).fr < 512) : fr / 512 + j ∈ wrA fr en i := by
  induction i with
  | zero => omega
  | succ i ih =>
    show _ ∈ wrA fr en i ++ wrAsk fr en i
    by_cases e : j = i
    · subst e
      unfold wrAsk
      rw [if_pos hp]
      exact List.mem_append.2 (.inr (List.mem_singleton.2 rfl))
    · exact List.mem_append.2 (.inl (ih (by omega)))
theorem wrA_prop {fr en i k : Nat} (h : k ∈ wrA fr en i) : ∃ j, j < i ∧ k = fr / 512 + j ∧ (pc fr en j).hi - (pc fr en j).fr < 512 := mem_upto (f := wrA fr en) rfl (wrA_step fr en) i k h
theorem wr_noBad {m : Nat → List UInt8} {bad : Nat} {bs : List UInt8} {fr en i : Nat} (h : (wrK m bad bs fr en).N i) : (wrA fr en i).any (isBad bad) = false :=
  any_false fun k hk => by
    obtain ⟨j, hj, rfl, hp⟩ := wrA_prop hk
    exact h j hj hp
theorem wr_bad {m : Nat → List UInt8} {bad : Nat} {bs : List UInt8} {fr en i : Nat} (h : (wrK m bad bs fr en).D i) : (wrA fr en i).any (isBad bad) = true := by
  obtain ⟨h0, h1, h2, _⟩ := h
  exact any_true (wrA_mem (j := i - 1) (by omega) h1) h2
/-! Cuts. -/
theorem trA_step (fr en i : Nat) : trA fr en (i + 1) = trA fr en i ∨ (trA fr en (i + 1) = trA fr en i ++ [fr / 512 + i] ∧ (pc fr en i).fr ≠ 0) := by
  show trA fr en i ++ trAsk fr en i = _ ∨ trA fr en i ++ trAsk fr en i = _ ∧ _
  unfold trAsk
  split
  · exact .inl (List.append_nil _)
  · exact .inr ⟨rfl, by assumption⟩
theorem trA_prop {fr en i k : Nat} (h : k ∈ trA fr en i) : ∃ j, j < i ∧ k = fr / 512 + j ∧ (pc fr en j).fr ≠ 0 := mem_upto (f := trA fr en) rfl (trA_step fr en) i k h
theorem trA_ok {d fr en i : Nat} (hd : d ≠ 1) (hi : i ≤ cnt fr en) (he : en ≤ 32768) (hf : fr ≤ 32768) : AskN d fr (fr + 1) (trA fr en i) := by
  refine ⟨fun k hk => ?_, (ris_mono (f := trA fr en) rfl (fun i => (trA_step fr en i).imp id And.left) i).2, by omega, by omega⟩
  obtain ⟨j, hj, rfl, hp⟩ := trA_prop hk
  have h4 := pc_le (fr := fr) (en := en) (i := j) (by omega)
  have hlf : (pc fr en j).lf = fr / 512 + j := rfl
  rw [hlf] at h4
  have h5 : 512 * (fr / 512 + j) < fr := by
    unfold pc at hp
    simp only at hp
    omega
  exact ⟨by omega, by omega, fun h => hd h.1, by omega⟩
theorem trA_some {fr en i k : Nat} (h : k ∈ trA fr en i) (hi : i ≤ cnt fr en) : fr % 512 ≠ 0 ∧ fr < en := by
  obtain ⟨j, hj, rfl, hp⟩ := trA_prop h
  have hc : 0 < cnt fr en := by omega
  have hlt : fr < en := by unfold cnt at hc; split at hc <;> omega
  refine ⟨?_, hlt⟩
  unfold pc at hp
  simp only at hp
  omega
theorem trA_mem {fr en i j : Nat} (h : j < i) (hp : (pc fr en j).fr ≠ 0) : fr / 512 + j ∈ trA fr en i := by
  induction i with
  | zero => omega
  | succ i ih =>
    show _ ∈ trA fr en i ++ trAsk fr en i
    by_cases e : j = i
    · subst e
      unfold trAsk
      rw [if_neg hp]
      exact List.mem_append.2 (.inr (List.mem_singleton.2 rfl))
    · exact List.mem_append.2 (.inl (ih (by omega)))
theorem tr_noBad {m : Nat → List UInt8} {bad : Nat} {fr en i : Nat} (h : (trK m bad fr en).N i) : (trA fr en i).any (isBad bad) = false :=
  any_false fun k hk => by
    obtain ⟨j, hj, rfl, hp⟩ := trA_prop hk
    exact h j hj hp
theorem tr_bad {m : Nat → List UInt8} {bad : Nat} {fr en i : Nat} (h : (trK m bad fr en).D i) : (trA fr en i).any (isBad bad) = true := by
  obtain ⟨h0, h1, h2, _⟩ := h
  exact any_true (trA_mem (j := i - 1) (by omega) h1) h2
end Go.Proofs.Ytpkadhgoaaphkaa
