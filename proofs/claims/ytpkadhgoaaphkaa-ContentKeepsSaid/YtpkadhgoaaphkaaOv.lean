/-
  Plain law: what a shelf's leaves have behind changes; which leaves were asked for.
-/
import Derived.Test.YtpkadhgoaaphkaaWk
namespace Go.Proofs.Ytpkadhgoaaphkaa
open Go Go.RowKit
set_option linter.unusedVariables false
def putM (m : Nat → List UInt8) (k : Nat) (b : List UInt8) : Nat → List UInt8 := fun i => if i = k then b else m i
/-- A shelf's bytes behind changes. -/
def ovM (m : Nat → List UInt8) : List (Nat × List UInt8) → Nat → List UInt8
  | [] => m
  | (k, b) :: r => ovM (putM m k b) r
theorem ovM_app (l l' : List (Nat × List UInt8)) : ∀ m, ovM m (l ++ l') = ovM (ovM m l) l' := by
  induction l with
  | nil => intro m; rfl
  | cons x r ih => intro m; obtain ⟨k', b'⟩ := x; exact ih _
theorem ovM_snoc (l : List (Nat × List UInt8)) (k : Nat) (b : List UInt8) (m : Nat → List UInt8) : ovM m (l ++ [(k, b)]) = putM (ovM m l) k b := by
  rw [ovM_app]; rfl
/-- Changes' leaves rise, within the shelf. -/
def RisP (l : List (Nat × List UInt8)) : Prop := (∀ c ∈ l, c.1 < 64) ∧ l.Pairwise fun a b => a.1 < b.1
theorem RisP.nil_ : RisP [] := ⟨fun _ h => (by cases h), List.Pairwise.nil⟩
theorem wrL_lf (m : Nat → List UInt8) (bs : List UInt8) (fr en : Nat) : ∀ i, (∀ c ∈ wrL m bs fr en i, c.1 < fr / 512 + i) ∧ (wrL m bs fr en i).Pairwise fun a b => a.1 < b.1
  | 0 => ⟨fun _ h => (by cases h), List.Pairwise.nil⟩
  | i + 1 => by
    obtain ⟨h1, h2⟩ := wrL_lf m bs fr en i
    unfold wrL
    refine ⟨fun c hc => ?_, List.pairwise_append.2 ⟨h2, List.pairwise_singleton _ _, fun a ha b hb => ?_⟩⟩
    · rcases List.mem_append.1 hc with hc | hc
      · have := h1 c hc; omega
      · rw [List.mem_singleton.1 hc]; unfold pc; simp only; omega
    · rw [List.mem_singleton.1 hb]; have := h1 a ha; unfold pc; simp only; omega
theorem trL_lf (m : Nat → List UInt8) (fr en : Nat) : ∀ i, (∀ c ∈ trL m fr en i, c.1 < fr / 512 + i) ∧ (trL m fr en i).Pairwise fun a b => a.1 < b.1
  | 0 => ⟨fun _ h => (by cases h), List.Pairwise.nil⟩
  | i + 1 => by
    obtain ⟨h1, h2⟩ := trL_lf m fr en i
    have hO : trOne m fr en i = [] ∨ ∃ b, trOne m fr en i = [(fr / 512 + i, b)] := by
      unfold trOne
      split
      · exact .inr ⟨_, rfl⟩
      · split
        · exact .inr ⟨_, rfl⟩
        · exact .inl rfl
    unfold trL
    rcases hO with e | ⟨b, e⟩
    · rw [e, List.append_nil]
      exact ⟨fun c hc => (by have := h1 c hc; omega), h2⟩
    · rw [e]
      refine ⟨fun c hc => ?_, List.pairwise_append.2 ⟨h2, List.pairwise_singleton _ _, fun a ha b hb => ?_⟩⟩
      · rcases List.mem_append.1 hc with hc | hc
        · have := h1 c hc; omega
        · rw [List.mem_singleton.1 hc]; simp only; omega
      · rw [List.mem_singleton.1 hb]; have := h1 a ha; simp only; omega
theorem cnt_top {fr en : Nat} (h : en ≤ 32768) : fr / 512 + cnt fr en ≤ 64 ∨ cnt fr en = 0 := by unfold cnt; split <;> omega
theorem wrL_ris (m : Nat → List UInt8) (bs : List UInt8) {fr en : Nat} (h : en ≤ 32768) : RisP (wrL m bs fr en (cnt fr en)) := by
  rcases cnt_top (fr := fr) h with h' | h'
  · exact ⟨fun c hc => by have := (wrL_lf m bs fr en _).1 c hc; omega, (wrL_lf m bs fr en _).2⟩
  · rw [h']; exact RisP.nil_
theorem trL_ris (m : Nat → List UInt8) {fr en : Nat} (h : en ≤ 32768) : RisP (trL m fr en (cnt fr en)) := by
  rcases cnt_top (fr := fr) h with h' | h'
  · exact ⟨fun c hc => by have := (trL_lf m fr en _).1 c hc; omega, (trL_lf m fr en _).2⟩
  · rw [h']; exact RisP.nil_
theorem wr_at (m : Nat → List UInt8) (bs : List UInt8) (fr en : Nat) : ∀ (i k : Nat), ovM m (wrL m bs fr en i) k = if fr / 512 ≤ k ∧ k < fr / 512 + i then wrOne m bs fr en (k - fr / 512) else m k
  | 0, k => by rw [if_neg (by omega)]; rfl
  | i + 1, k => by
    unfold wrL
    rw [ovM_snoc]
    unfold putM
    by_cases e : k = (pc fr en i).lf
    · rw [if_pos e]
      have e2 : k = fr / 512 + i := e
      rw [if_pos (by omega), show k - fr / 512 = i by omega]
    · rw [if_neg e, wr_at m bs fr en i k]
      have e2 : ¬ k = fr / 512 + i := e
      by_cases h : fr / 512 ≤ k ∧ k < fr / 512 + i
      · rw [if_pos h, if_pos (by omega)]
      · rw [if_neg h, if_neg (by omega)]
/-- What a leaf has behind a cut. -/
def trB (m : Nat → List UInt8) (fr en i : Nat) : List UInt8 :=
  if (pc fr en i).fr = 0 then [] else if 0 < (m (pc fr en i).lf).length then (leafB m (pc fr en i).lf).take (pc fr en i).fr ++ List.replicate (512 - (pc fr en i).fr) 0 else m (pc fr en i).lf
theorem tr_at (m : Nat → List UInt8) (fr en : Nat) : ∀ (i k : Nat), ovM m (trL m fr en i) k = if fr / 512 ≤ k ∧ k < fr / 512 + i then trB m fr en (k - fr / 512) else m k
  | 0, k => by rw [if_neg (by omega)]; rfl
  | i + 1, k => by
    unfold trL trOne
    have ih := tr_at m fr en i k
    have hlf : (pc fr en i).lf = fr / 512 + i := rfl
    by_cases e : k = fr / 512 + i
    · rw [if_pos (show fr / 512 ≤ k ∧ k < fr / 512 + (i + 1) by omega), show k - fr / 512 = i by omega]
      rw [if_neg (by omega)] at ih
      unfold trB
      split
      · rw [ovM_snoc]; unfold putM; rw [if_pos (by rw [hlf]; exact e)]
      · split
        · rw [ovM_snoc]; unfold putM; rw [if_pos (by rw [hlf]; exact e)]
        · rw [List.append_nil, ih, e]; rfl
    · have e2 : ¬ k = (pc fr en i).lf := e
      have hR : (if fr / 512 ≤ k ∧ k < fr / 512 + (i + 1) then trB m fr en (k - fr / 512) else m k) = if fr / 512 ≤ k ∧ k < fr / 512 + i then trB m fr en (k - fr / 512) else m k := by
        by_cases h : fr / 512 ≤ k ∧ k < fr / 512 + i
        · rw [if_pos h, if_pos (by omega)]
        · rw [if_neg h, if_neg (by omega)]
      rw [hR, ← ih]
      split
      · rw [ovM_snoc]; unfold putM; rw [if_neg e2]
      · split
        · rw [ovM_snoc]; unfold putM; rw [if_neg e2]
        · rw [List.append_nil]
theorem leafB_of {m : Nat → List UInt8} {k : Nat} (h : 0 < (m k).length) : leafB m k = m k := by unfold leafB; rw [if_neg (by omega)]
theorem leafB_congr {m m' : Nat → List UInt8} {k : Nat} (h : m k = m' k) : leafB m k = leafB m' k := by unfold leafB; rw [h]
theorem Z512_at (i : Nat) : Z512.getD i 0 = 0 := by
  unfold Z512
  rw [List.getD_eq_getElem?_getD, List.getElem?_replicate]
  split <;> rfl
theorem rep_at (n i : Nat) : (List.replicate n (0 : UInt8)).getD i 0 = 0 := by
  rw [List.getD_eq_getElem?_getD, List.getElem?_replicate]
  split <;> rfl
theorem wrOne_len {m : Nat → List UInt8} (hz : Szd m) {bs : List UInt8} {fr i : Nat} (hi : i < cnt fr (fr + bs.length)) (h : fr + bs.length ≤ 32768) : (wrOne m bs fr (fr + bs.length) i).length = 512 := by
  have h1 := at_succ hi
  have h4 := pc_le hi
  have h5 : (wrBase m (pc fr (fr + bs.length) i)).length = 512 := by
    unfold wrBase
    split
    · exact leafB_len hz (by omega)
    · exact Z512_len
  have h6 : fr ≤ at_ fr (fr + bs.length) i := by unfold at_; omega
  have h7 : at_ fr (fr + bs.length) (i + 1) ≤ fr + bs.length := by unfold at_; omega
  unfold wrOne
  rw [List.length_append, List.length_append, List.length_take, List.length_take, List.length_drop, List.length_drop, h5]
  omega
/-- A written place. -/
theorem wr_byte {m : Nat → List UInt8} (hz : Szd m) {bs : List UInt8} {fr : Nat} (h : fr + bs.length ≤ 32768) (p : Nat) :
    byteAt (ovM m (wrL m bs fr (fr + bs.length) (cnt fr (fr + bs.length)))) p = if fr ≤ p ∧ p < fr + bs.length then bs.getD (p - fr) 0 else byteAt m p := by
  have hk := wr_at m bs fr (fr + bs.length) (cnt fr (fr + bs.length)) (p / 512)
  by_cases hin : fr / 512 ≤ p / 512 ∧ p / 512 < fr / 512 + cnt fr (fr + bs.length)
  · rw [if_pos hin] at hk
    have hi : p / 512 - fr / 512 < cnt fr (fr + bs.length) := by omega
    have hl := wrOne_len hz hi h
    rw [← hk] at hl
    unfold byteAt
    rw [leafB_of (by omega), hk]
    generalize hj : p / 512 - fr / 512 = j at *
    have h1 := at_succ hi
    have h2 := at_fr hi
    have h3 := at_lf hi
    have h4 := pc_le hi
    have hlf : (pc fr (fr + bs.length) j).lf = p / 512 := by show fr / 512 + j = _; omega
    have h5 : (wrBase m (pc fr (fr + bs.length) j)).length = 512 := by
      unfold wrBase
      split
      · exact leafB_len hz (by omega)
      · exact Z512_len
    have h6 : fr ≤ at_ fr (fr + bs.length) j := by unfold at_; omega
    have h7 : at_ fr (fr + bs.length) (j + 1) ≤ fr + bs.length := by unfold at_; omega
    have h8 : (pc fr (fr + bs.length) j).fr = 0 ∨ at_ fr (fr + bs.length) j = fr := by unfold at_ pc; simp only; omega
    have h9 : (pc fr (fr + bs.length) j).hi = 512 ∨ at_ fr (fr + bs.length) (j + 1) = fr + bs.length := by unfold at_ pc; simp only; omega
    have hb : ∀ q, q = p % 512 → (q < (pc fr (fr + bs.length) j).fr ∨ (pc fr (fr + bs.length) j).hi ≤ q) → (wrBase m (pc fr (fr + bs.length) j)).getD q 0 = (leafB m (p / 512)).getD q 0 := by
      intro q hq hh
      unfold wrBase
      rw [if_pos (by omega), hlf]
    unfold wrOne
    generalize pc fr (fr + bs.length) j = P at *
    obtain ⟨pl, pf, ph⟩ := P
    simp only at *
    have t1 : ((wrBase m ⟨pl, pf, ph⟩).take pf).length = pf := by rw [List.length_take, h5]; omega
    have t2 : ((bs.drop (at_ fr (fr + bs.length) j - fr)).take (ph - pf)).length = ph - pf := by rw [List.length_take, List.length_drop]; omega
    rw [getD_app, List.length_append, t1, t2]
    by_cases c1 : p % 512 < pf
    · rw [if_pos (by omega), getD_app, t1, if_pos c1, getD_take _ _ _ c1, hb _ rfl (.inl c1), if_neg (by omega)]
    · by_cases c2 : p % 512 < ph
      · rw [if_pos (by omega), getD_app, t1, if_neg c1, getD_take _ _ _ (by omega), getD_drop, if_pos (by omega)]
        congr 1
        omega
      · rw [if_neg (by omega), getD_drop, show ph + (p % 512 - (pf + (ph - pf))) = p % 512 by omega, hb _ rfl (.inr (by omega)), if_neg (by omega)]
  · rw [if_neg hin] at hk
    unfold byteAt
    rw [leafB_congr hk, if_neg]
    unfold cnt at hin
    split at hin <;> omega
/-- A place behind a cut. -/
theorem tr_byte {m : Nat → List UInt8} (hz : Szd m) {fr en : Nat} (h : en ≤ 32768) (h0 : ∀ p, en ≤ p → p < 32768 → byteAt m p = 0) (p : Nat) (hp : p < 32768) :
    byteAt (ovM m (trL m fr en (cnt fr en))) p = if p < fr then byteAt m p else 0 := by
  have hk := tr_at m fr en (cnt fr en) (p / 512)
  by_cases hin : fr / 512 ≤ p / 512 ∧ p / 512 < fr / 512 + cnt fr en
  · rw [if_pos hin] at hk
    have hi : p / 512 - fr / 512 < cnt fr en := by omega
    generalize hj : p / 512 - fr / 512 = j at *
    have h4 := pc_le hi
    have hlf : (pc fr en j).lf = p / 512 := by show fr / 512 + j = _; omega
    have h8 : (pc fr en j).fr = 0 ∧ 512 * (fr / 512 + j) ≥ fr ∨ 512 * (fr / 512 + j) + (pc fr en j).fr = fr := by unfold pc; simp only; omega
    unfold trB at hk
    rw [hlf] at hk
    by_cases c0 : (pc fr en j).fr = 0
    · rw [if_pos c0] at hk
      unfold byteAt leafB
      rw [hk]
      simp only [List.length_nil, if_true, Z512_at]
      rw [if_neg (by omega)]
    · rw [if_neg c0] at hk
      by_cases c1 : 0 < (m (p / 512)).length
      · rw [if_pos c1] at hk
        have hl : (leafB m (p / 512)).length = 512 := leafB_len hz (by omega)
        have hl2 : 0 < (ovM m (trL m fr en (cnt fr en)) (p / 512)).length := by rw [hk, List.length_append, List.length_take, hl, List.length_replicate]; omega
        unfold byteAt
        rw [leafB_of hl2, hk, getD_app, List.length_take, hl, show min (pc fr en j).fr 512 = (pc fr en j).fr by omega]
        by_cases c2 : p % 512 < (pc fr en j).fr
        · rw [if_pos c2, getD_take _ _ _ c2, if_pos (by omega)]
        · rw [if_neg c2, rep_at, if_neg (by omega)]
      · rw [if_neg c1] at hk
        have hz0 : byteAt m p = 0 := by unfold byteAt leafB; rw [if_pos (by omega), Z512_at]
        have e : byteAt (ovM m (trL m fr en (cnt fr en))) p = byteAt m p := by unfold byteAt; rw [leafB_congr hk]
        rw [e, hz0]
        split <;> rfl
  · rw [if_neg hin] at hk
    have e : byteAt (ovM m (trL m fr en (cnt fr en))) p = byteAt m p := by unfold byteAt; rw [leafB_congr hk]
    rw [e]
    split
    · rfl
    · rename_i hfp
      refine h0 p ?_ hp
      unfold cnt at hin
      split at hin <;> omega
end Go.Proofs.Ytpkadhgoaaphkaa
