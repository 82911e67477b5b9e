/-
  What a path tells (plain), and the closure's step in its words.
-/
import Derived.Test.YtnclappdokhciaaS1
namespace Go.Proofs.Ytnclappdokhciaa
open Go Go.RowKit
set_option linter.unusedVariables false

def keepB (x : ByteArray) : Bool := !x.toList.isEmpty && !(x.toList == [46])
def dotsB (x : ByteArray) : Bool := x.toList == [46] || x.toList == [46, 46]
def longB (D : List ByteArray) : Bool := D.any fun x => decide (24 < x.size)
def lastN (a x : ByteArray) : ByteArray := if x.toList.isEmpty then a else x
def lastNE (D : List ByteArray) : ByteArray := D.foldl lastN ⟨#[]⟩
/-- Where the part begins that byte k is of, and the parts ahead of it, empty ones too. -/
def cut (s : ByteArray) : Nat → Nat × List ByteArray
  | 0 => (0, [])
  | k + 1 => if bt s k = 47 then (k + 1, (cut s k).2 ++ [s.extract (cut s k).1 k]) else cut s k
def pieces (s : ByteArray) : List ByteArray := (cut s s.size).2 ++ [s.extract (cut s s.size).1 s.size]
def endB (s : ByteArray) : Bool := decide (bt s (s.size - 1) = 47)
theorem cut_succ (s : ByteArray) (k : Nat) : cut s (k + 1) = if bt s k = 47 then (k + 1, (cut s k).2 ++ [s.extract (cut s k).1 k]) else cut s k := rfl
theorem cut_le (s : ByteArray) : ∀ k, (cut s k).1 ≤ k
  | 0 => Nat.le_refl _
  | k + 1 => by
    rw [cut_succ]; split
    · exact Nat.le_refl _
    · exact Nat.le_succ_of_le (cut_le s k)
theorem cut_len (s : ByteArray) : ∀ k, (cut s k).2.length ≤ k
  | 0 => Nat.le_refl _
  | k + 1 => by
    rw [cut_succ]; split
    · rw [List.length_append]; exact Nat.succ_le_succ (cut_len s k)
    · exact Nat.le_succ_of_le (cut_len s k)
theorem cut_skip (s : ByteArray) (k : Nat) : ∀ n, (∀ j, k ≤ j → j < k + n → bt s j ≠ 47) → cut s (k + n) = cut s k
  | 0, _ => rfl
  | n + 1, h => by
    rw [← Nat.add_assoc, cut_succ]
    rw [if_neg (h (k + n) (by omega) (by omega))]
    exact cut_skip s k n (fun j h1 h2 => h j h1 (by omega))
/-- What one rune more does. -/
theorem cut_rune (s : ByteArray) (k : Nat) : cut s (k + (Utf8.decode s k).2) = if bt s k = 47 then (k + 1, (cut s k).2 ++ [s.extract (cut s k).1 k]) else cut s k := by
  have hp := dec_pos s k
  have := cut_skip s (k + 1) ((Utf8.decode s k).2 - 1) (fun j h1 h2 => by
    have := dec_inner s k (j - k) (by omega) (by omega)
    rw [show k + (j - k) = j by omega] at this
    omega)
  rw [show k + 1 + ((Utf8.decode s k).2 - 1) = k + (Utf8.decode s k).2 by omega] at this
  rw [this, cut_succ]

/-- What Split tells. -/
structure Told where
  ab : Bool
  parts : List ByteArray
  sl : Bool
  err : Int
def split (s : ByteArray) : Told :=
  if s.size = 0 then ⟨false, [], false, 20⟩
  else if 256 < s.size then ⟨false, [], false, 33⟩
  else if fault s 0 ≠ 0 then ⟨false, [], false, fault s 0⟩
  else if longB (pieces s) = true then ⟨false, [], false, 33⟩
  else ⟨decide (bt s 0 = 47), (pieces s).filter keepB, endB s || dotsB (lastNE (pieces s)), 0⟩

theorem toList_empty (x : ByteArray) : x.toList.isEmpty = decide (x.size = 0) := by
  rw [ByteArray.toList_eq]
  have := length_toList x
  cases h : x.data.toList with
  | nil => rw [h] at this; rw [decide_eq_true (by simpa using this.symm)]; rfl
  | cons a l => rw [h] at this; rw [decide_eq_false (by simp at this; omega)]; rfl
theorem longB_snoc (D : List ByteArray) (x : ByteArray) : longB (D ++ [x]) = (longB D || decide (24 < x.size)) := by simp [longB]
theorem lastNE_snoc (D : List ByteArray) (x : ByteArray) : lastNE (D ++ [x]) = lastN (lastNE D) x := by simp [lastNE]
theorem keep_snoc (D : List ByteArray) (x : ByteArray) : (D ++ [x]).filter keepB = D.filter keepB ++ if keepB x then [x] else [] := by
  rw [List.filter_append]; congr 1
  simp [List.filter_cons]

/-- The closure's step. -/
theorem part_any (w : World) (B pb ab lb qb : Nat) (s : ByteArray) (at_ to_ : Nat) (ab_ : Bool) (v : Value) (D : List ByteArray) (sl : Bool) (h : PSt w B pb ab lb qb s at_ (longB D) ab_ v (D.filter keepB) sl) (h1 : at_ ≤ to_) (h2 : to_ ≤ s.size) (hs : s.size ≤ 100000)
    (hD : D.length ≤ 100000) (hsl : (sl || endB s) = (dotsB (lastNE D) || endB s)) (hto : to_ < s.size → bt s to_ = 47) :
    Calls Try.prog 47 #[.int .i64 (to_ : Int), .pointer (some ⟨pb, 0, none⟩), .pointer (some ⟨ab, 0, none⟩), .pointer (some ⟨lb, 0, none⟩), .pointer (some ⟨qb, 0, none⟩)] w fun e w' => e = .returned (.tuple #[]) ∧ Only (PS B ab lb qb) w w' ∧
      ∃ v' sl', PSt w' B pb ab lb qb s (to_ + 1) (longB (D ++ [s.extract at_ to_])) ab_ v' ((D ++ [s.extract at_ to_]).filter keepB) sl' ∧ (sl' || endB s) = (dotsB (lastNE (D ++ [s.extract at_ to_])) || endB s) := by
  have hsz := ext_size s at_ to_ h2
  have hn : (D.filter keepB).length ≤ 100000 := Nat.le_trans (List.length_filter_le _ _) hD
  rw [longB_snoc, keep_snoc, lastNE_snoc]
  have hem := toList_empty (s.extract at_ to_)
  have hlen : (s.extract at_ to_).toList.length = to_ - at_ := by rw [ByteArray.toList_eq, length_toList, hsz]
  by_cases e0 : (s.extract at_ to_).toList = []
  · have hat : at_ = to_ := by rw [e0] at hlen; simp at hlen; omega
    refine (part_empty w B pb ab lb qb s at_ to_ _ ab_ v _ sl h h1 h2 (by omega) hat).mono fun e w' ⟨he, ho, hP⟩ => ⟨he, ho, v, sl, ?_, ?_⟩
    · rw [show keepB (s.extract at_ to_) = false by simp [keepB, e0], show decide (24 < (s.extract at_ to_).size) = false from decide_eq_false (by omega), Bool.or_false]
      simpa using hP
    · rw [show lastN (lastNE D) (s.extract at_ to_) = lastNE D by simp [lastN, e0]]; exact hsl
  by_cases e1 : (s.extract at_ to_).toList = [46]
  · have h24 : ¬ 24 < (s.extract at_ to_).size := by rw [e1] at hlen; simp at hlen; omega
    refine (part_dot w B pb ab lb qb s at_ to_ _ ab_ v _ sl h h1 h2 (by omega) e1).mono fun e w' ⟨he, ho, hP⟩ => ⟨he, ho, v, true, ?_, ?_⟩
    · rw [show keepB (s.extract at_ to_) = false by simp [keepB, e1], decide_eq_false h24, Bool.or_false]
      simpa using hP
    · rw [show lastN (lastNE D) (s.extract at_ to_) = s.extract at_ to_ by simp [lastN, e1], show dotsB (s.extract at_ to_) = true by simp [dotsB, e1]]
  by_cases e2 : (s.extract at_ to_).toList = [46, 46]
  · have h24 : ¬ 24 < (s.extract at_ to_).size := by rw [e2] at hlen; simp at hlen; omega
    refine (part_dots w B pb ab lb qb s at_ to_ _ ab_ v _ sl h h1 h2 (by omega) hn e2).mono fun e w' ⟨he, ho, v', hP⟩ => ⟨he, ho, v', true, ?_, ?_⟩
    · rw [show keepB (s.extract at_ to_) = true by simp [keepB, e2], decide_eq_false h24, Bool.or_false]
      simpa using hP
    · rw [show lastN (lastNE D) (s.extract at_ to_) = s.extract at_ to_ by simp [lastN, e2], show dotsB (s.extract at_ to_) = true by simp [dotsB, e2]]
  · refine (part_name w B pb ab lb qb s at_ to_ _ ab_ v _ sl h h1 h2 (by omega) hn e0 e1 e2).mono fun e w' ⟨he, ho, v', hP⟩ => ⟨he, ho, v', decide (to_ < s.size ∧ to_ = s.size - 1), ?_, ?_⟩
    · rw [show keepB (s.extract at_ to_) = true by simp [keepB, e0, e1], hsz]
      exact hP
    · rw [show lastN (lastNE D) (s.extract at_ to_) = s.extract at_ to_ by simp [lastN, e0], show dotsB (s.extract at_ to_) = false by simp [dotsB, e1, e2], Bool.false_or]
      by_cases hc : to_ < s.size ∧ to_ = s.size - 1
      · rw [decide_eq_true hc, Bool.true_or]
        have := hto hc.1
        rw [hc.2] at this
        exact (decide_eq_true this).symm
      · rw [decide_eq_false hc, Bool.false_or]
end Go.Proofs.Ytnclappdokhciaa
