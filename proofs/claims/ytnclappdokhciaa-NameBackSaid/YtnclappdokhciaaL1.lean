/-
  A path split at its slashes, as lists: what is split is joined, what is joined is split. Plain Lean.
-/
import Derived.Test.YtnclappdokhciaaS6
namespace Go.Proofs.Ytnclappdokhciaa
open Go Go.RowKit
set_option linter.unusedVariables false

def head1 (p : List UInt8) : List (List UInt8) → List (List UInt8)
  | [] => [p]
  | x :: xs => (p ++ x) :: xs
def sp : List UInt8 → List (List UInt8)
  | [] => [[]]
  | b :: r => if b = 47 then [] :: sp r else head1 [b] (sp r)
theorem sp_cons (b : UInt8) (r : List UInt8) : sp (b :: r) = if b = 47 then [] :: sp r else head1 [b] (sp r) := rfl
theorem sp_ne : ∀ l, sp l ≠ []
  | [] => by simp [sp]
  | b :: r => by
    unfold sp; split
    · simp
    · cases sp r <;> simp [head1]
theorem head1_nil (l : List (List UInt8)) (h : l ≠ []) : head1 [] l = l := by
  cases l with
  | nil => exact absurd rfl h
  | cons x xs => rfl
theorem head1_head1 (p q : List UInt8) (l : List (List UInt8)) (h : l ≠ []) : head1 p (head1 q l) = head1 (p ++ q) l := by
  cases l with
  | nil => exact absurd rfl h
  | cons x xs => simp [head1]
theorem u47 (b : UInt8) : b.toNat = 47 ↔ b = 47 := u8_of b 47 (by omega)
theorem ext_list (s : ByteArray) (a b : Nat) : (s.extract a b).data.toList = (s.data.toList.drop a).take (b - a) := by
  have := ByteArray.toList_eq (s.extract a b)
  simp [List.take_drop]
/-- The parts of a path, as lists. -/
theorem cut_sp (s : ByteArray) : ∀ k, k ≤ s.size → sp s.data.toList = (cut s k).2.map (·.data.toList) ++ head1 ((s.data.toList.drop (cut s k).1).take (k - (cut s k).1)) (sp (s.data.toList.drop k)) := by
  intro k
  induction k with
  | zero =>
    intro _
    simp only [cut, List.map_nil, List.nil_append, List.drop_zero, Nat.sub_zero, List.take_zero]
    rw [head1_nil _ (sp_ne _)]
  | succ k ih =>
    intro hk
    have ih := ih (by omega)
    have hl := length_toList s
    have hlt : k < s.data.toList.length := by omega
    have hd : s.data.toList.drop k = s.data.toList[k] :: s.data.toList.drop (k + 1) := List.drop_eq_getElem_cons hlt
    have hb : bt s k = (s.data.toList[k]).toNat := bt_get s k _ (List.getElem?_eq_getElem hlt)
    have hcl := cut_le s k
    rw [hd] at ih
    rw [ih, cut_succ]
    by_cases h47 : bt s k = 47
    · rw [if_pos h47]
      have e47 : s.data.toList[k] = 47 := (u47 _).1 (by rw [← hb]; exact h47)
      conv => lhs; unfold sp
      rw [if_pos e47]
      simp only [List.map_append, List.map_cons, List.map_nil, Nat.sub_self, List.take_zero]
      rw [head1_nil _ (sp_ne _), ext_list]
      simp [head1]
    · rw [if_neg h47]
      have e47 : ¬ s.data.toList[k] = 47 := fun e => h47 (by rw [hb]; exact (u47 _).2 e)
      conv => lhs; unfold sp
      rw [if_neg e47, head1_head1 _ _ _ (sp_ne _)]
      congr 2
      rw [show k + 1 - (cut s k).1 = (k - (cut s k).1) + 1 by omega, List.take_add_one, List.getElem?_drop, show (cut s k).1 + (k - (cut s k).1) = k by omega, List.getElem?_eq_getElem hlt]
      rfl
theorem pieces_sp (s : ByteArray) : (pieces s).map (·.data.toList) = sp s.data.toList := by
  have := cut_sp s s.size (Nat.le_refl _)
  rw [this]
  have hl := length_toList s
  unfold pieces
  rw [List.map_append, List.map_cons, List.map_nil, ext_list, List.drop_eq_nil_of_le (by omega : s.data.toList.length ≤ s.size)]
  simp [sp, head1]
/-- What is split has no slash in it. -/
theorem sp_no : ∀ l x, x ∈ sp l → (47 : UInt8) ∉ x
  | [], x, h => by simp [sp] at h; subst h; simp
  | b :: r, x, h => by
    unfold sp at h
    split at h
    · rcases List.mem_cons.1 h with rfl | h
      · simp
      · exact sp_no r x h
    · rename_i hb
      have ih := sp_no r
      cases hs : sp r with
      | nil => exact absurd hs (sp_ne r)
      | cons y ys =>
        rw [hs] at h ih
        simp only [head1, List.mem_cons] at h
        rcases h with rfl | h
        · intro hm
          rcases List.mem_cons.1 hm with e | e
          · exact hb e.symm
          · exact ih y (List.mem_cons_self ..) e
        · exact ih x (List.mem_cons_of_mem _ h)
/-- What is joined of parts without a slash is split into them. -/
theorem sp_app : ∀ (x : List UInt8) (r : List UInt8), (47 : UInt8) ∉ x → sp (x ++ 47 :: r) = x :: sp r
  | [], r, _ => by simp [sp]
  | b :: x, r, h => by
    have hb : ¬ b = 47 := fun e => h (by rw [e]; exact List.mem_cons_self ..)
    rw [List.cons_append, sp_cons]
    rw [if_neg hb, sp_app x r (fun e => h (List.mem_cons_of_mem _ e))]
    rfl
theorem sp_one : ∀ (x : List UInt8), (47 : UInt8) ∉ x → sp x = [x]
  | [], _ => rfl
  | b :: x, h => by
    have hb : ¬ b = 47 := fun e => h (by rw [e]; exact List.mem_cons_self ..)
    unfold sp
    rw [if_neg hb, sp_one x (fun e => h (List.mem_cons_of_mem _ e))]
    rfl
theorem join_cons2 (x y : List UInt8) (r : List (List UInt8)) : Lib.join (x :: y :: r) [47] = x ++ 47 :: Lib.join (y :: r) [47] := by
  rw [Lib.join_cons, Lib.join_cons]
  simp [Lib.joinTail]
theorem sp_join : ∀ (P : List (List UInt8)), P ≠ [] → (∀ x ∈ P, (47 : UInt8) ∉ x) → sp (Lib.join P [47]) = P
  | [], h, _ => absurd rfl h
  | [x], _, h => by rw [Lib.join_one]; exact sp_one x (h x (List.mem_cons_self ..))
  | x :: y :: r, _, h => by
    rw [join_cons2, sp_app x _ (h x (List.mem_cons_self ..)), sp_join (y :: r) (by simp) (fun z hz => h z (List.mem_cons_of_mem _ hz))]
theorem join_sp : ∀ l, Lib.join (sp l) [47] = l
  | [] => by simp [sp, Lib.join_one]
  | b :: r => by
    have ih := join_sp r
    unfold sp
    split
    · rename_i hb
      cases hs : sp r with
      | nil => exact absurd hs (sp_ne r)
      | cons y ys => rw [hs] at ih; rw [join_cons2, ih, hb]; rfl
    · cases hs : sp r with
      | nil => exact absurd hs (sp_ne r)
      | cons y ys =>
        rw [hs] at ih
        simp only [head1]
        rw [Lib.join_cons] at ih ⊢
        rw [List.cons_append, List.nil_append, List.cons_append, ih]
end Go.Proofs.Ytnclappdokhciaa
