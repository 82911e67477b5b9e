/-
  UTF-8 as the model decodes it: how wide a rune is, what its inner bytes are; what the loops of names over runes give. Plain Lean, no program.
-/
import Derived.Lib.DecodeN
import Derived.Laws.RangeAny
import Derived.Lib.Strings
namespace Go.Proofs.Ytnclappdokhciaa
open Go
set_option linter.unusedVariables false

/-- Byte i of s. -/
def bt (s : ByteArray) (i : Nat) : Nat := (s.get! i).toNat
theorem bt_lt (s : ByteArray) (i : Nat) : bt s i < 256 := (s.get! i).toNat_lt
theorem bt_at (s : ByteArray) (i : Nat) (h : i < s.size) : bt s i = (s[i]'h).toNat := by
  have := get_at s i h
  rw [Nat.add_zero] at this
  unfold bt; rw [this]
theorem dec_eq (s : ByteArray) (i : Nat) : Utf8.decode s i = Lib.decodeN (s.size - i) (bt s i) (bt s (i + 1)) (bt s (i + 2)) (bt s (i + 3)) := Lib.decode_at s i

theorem decN_pos (n b0 b1 b2 b3 : Nat) : 1 ≤ (Lib.decodeN n b0 b1 b2 b3).2 := by
  unfold Lib.decodeN; repeat' split
  all_goals simp
theorem decN_le (n b0 b1 b2 b3 : Nat) (hn : 1 ≤ n) : (Lib.decodeN n b0 b1 b2 b3).2 ≤ n := by
  unfold Lib.decodeN; repeat' split
  all_goals simp only
  all_goals omega
theorem decN_in (n b0 b1 b2 b3 : Nat) : (2 ≤ (Lib.decodeN n b0 b1 b2 b3).2 → b1 / 64 = 2) ∧ (3 ≤ (Lib.decodeN n b0 b1 b2 b3).2 → b2 / 64 = 2) ∧ (4 ≤ (Lib.decodeN n b0 b1 b2 b3).2 → b3 / 64 = 2) ∧ (Lib.decodeN n b0 b1 b2 b3).2 ≤ 4 := by
  unfold Lib.decodeN; repeat' split
  all_goals simp only
  all_goals omega
theorem decN_lo (n b0 b1 b2 b3 : Nat) : (b0 < 128 → Lib.decodeN n b0 b1 b2 b3 = (b0, 1)) ∧ (128 ≤ b0 → 128 ≤ (Lib.decodeN n b0 b1 b2 b3).1) := by
  unfold Lib.decodeN
  refine ⟨fun h => if_pos h, fun h => ?_⟩
  repeat' split
  all_goals simp only
  all_goals omega
/-- A rune that reads as 0xFFFD: none, or the three bytes of 0xFFFD. -/
theorem decN_bad (n b0 b1 b2 b3 : Nat) (h0 : b0 < 256) (h1 : b1 < 256) (h2 : b2 < 256) (h : (Lib.decodeN n b0 b1 b2 b3).1 = 65533) :
    ((Lib.decodeN n b0 b1 b2 b3).2 = 1 ∧ ¬ (3 ≤ n ∧ b0 = 239 ∧ b1 = 191 ∧ b2 = 189)) ∨ ((Lib.decodeN n b0 b1 b2 b3).2 = 3 ∧ (3 ≤ n ∧ b0 = 239 ∧ b1 = 191 ∧ b2 = 189)) := by
  revert h
  unfold Lib.decodeN
  repeat' split
  all_goals intro h
  all_goals simp only [true_and] at h ⊢
  all_goals omega

/-- How wide the rune at i is; 0: none begins. -/
def wd (s : ByteArray) (i : Nat) : Nat := if (Utf8.decode s i).1 = 65533 ∧ (Utf8.decode s i).2 = 1 then 0 else (Utf8.decode s i).2
theorem dec_pos (s : ByteArray) (i : Nat) : 1 ≤ (Utf8.decode s i).2 := by rw [dec_eq]; exact decN_pos ..
theorem dec_end (s : ByteArray) (i : Nat) (h : i < s.size) : i + (Utf8.decode s i).2 ≤ s.size := by
  have := decN_le (s.size - i) (bt s i) (bt s (i + 1)) (bt s (i + 2)) (bt s (i + 3)) (by omega)
  rw [dec_eq]; omega
theorem dec_inner (s : ByteArray) (i j : Nat) (h1 : 1 ≤ j) (h2 : j < (Utf8.decode s i).2) : 128 ≤ bt s (i + j) := by
  rw [dec_eq] at h2
  obtain ⟨a, b, c, d⟩ := decN_in (s.size - i) (bt s i) (bt s (i + 1)) (bt s (i + 2)) (bt s (i + 3))
  have hj : j = 1 ∨ j = 2 ∨ j = 3 := by omega
  rcases hj with rfl | rfl | rfl
  · have := a (by omega); omega
  · have := b (by omega); omega
  · have := c (by omega); omega
theorem dec_lo (s : ByteArray) (i : Nat) : (bt s i < 128 → Utf8.decode s i = (bt s i, 1)) ∧ (128 ≤ bt s i → 128 ≤ (Utf8.decode s i).1) := by
  rw [dec_eq]; exact decN_lo ..
/-- A rune below 128 is its byte. -/
theorem dec_is (s : ByteArray) (i k : Nat) (hk : k < 128) : (Utf8.decode s i).1 = k ↔ bt s i = k := by
  obtain ⟨a, b⟩ := dec_lo s i
  rcases Nat.lt_or_ge (bt s i) 128 with h | h
  · rw [a h]
  · have := b h
    constructor <;> intro e <;> omega

/-- The fault of a text in which a byte below 128 may not be. -/
def faultF (s : ByteArray) (bad : Nat) : Nat → Nat → Int
  | 0, _ => 0
  | f + 1, i => if i < s.size then
      (if bt s i = 0 ∨ bt s i = bad then 26 else if wd s i = 0 then 36 else faultF s bad f (i + wd s i)) else 0
def fault (s : ByteArray) (bad : Nat) : Int := faultF s bad s.size 0
theorem faultF_more (s : ByteArray) (bad : Nat) : ∀ (f i : Nat), s.size ≤ i + f → ∀ g, faultF s bad (f + g) i = faultF s bad f i
  | 0, i, h, g => by
    rw [Nat.zero_add]
    cases g with
    | zero => rfl
    | succ g => unfold faultF; rw [if_neg (by omega)]
  | f + 1, i, h, g => by
    rw [show f + 1 + g = (f + g) + 1 by omega]
    unfold faultF
    by_cases hi : i < s.size
    · rw [if_pos hi, if_pos hi]
      by_cases h1 : bt s i = 0 ∨ bt s i = bad
      · rw [if_pos h1, if_pos h1]
      · rw [if_neg h1, if_neg h1]
        by_cases h2 : wd s i = 0
        · rw [if_pos h2, if_pos h2]
        · rw [if_neg h2, if_neg h2, faultF_more s bad f (i + wd s i) (by omega) g]
    · rw [if_neg hi, if_neg hi]
/-- How many runes from i on. -/
def runesF (s : ByteArray) : Nat → Nat → Nat
  | 0, _ => 0
  | f + 1, i => if i < s.size then runesF s f (i + (Utf8.decode s i).2) + 1 else 0
def runes (s : ByteArray) : Nat := runesF s s.size 0
theorem runesF_le (s : ByteArray) : ∀ (f i : Nat), runesF s f i ≤ f
  | 0, _ => Nat.le_refl _
  | f + 1, i => by
    unfold runesF; split
    · have := runesF_le s f (i + (Utf8.decode s i).2); omega
    · omega
theorem wd_or (s : ByteArray) (i : Nat) : (if wd s i = 0 then 1 else wd s i) = (Utf8.decode s i).2 := by
  unfold wd
  by_cases h : (Utf8.decode s i).1 = 65533 ∧ (Utf8.decode s i).2 = 1
  · rw [if_pos h, if_pos rfl, h.2]
  · rw [if_neg h, if_neg (by have := dec_pos s i; omega)]

theorem bt_get (s : ByteArray) (i : Nat) (b : UInt8) (h : s.data.toList[i]? = some b) : bt s i = b.toNat := by
  obtain ⟨hlt, hb⟩ := List.getElem?_eq_some_iff.1 h
  have hl : i < s.size := by have : s.data.toList.length = s.size := by simp
                             omega
  rw [bt_at s i hl, ← hb]
  rfl
theorem get_bt (s : ByteArray) (i : Nat) (h : i < s.size) : s.data.toList[i]? = some (s.get! i) := by
  have := get_at s i h
  rw [Nat.add_zero] at this
  rw [this, List.getElem?_eq_getElem (by simpa using h)]
  rfl
theorem length_toList (s : ByteArray) : s.data.toList.length = s.size := by simp
theorem u8_of (b : UInt8) (n : Nat) (hn : n < 256) : b.toNat = n ↔ b = UInt8.ofNat n := by
  constructor
  · rintro rfl; simp
  · rintro rfl; simp; omega
theorem prefix_bad (s : ByteArray) (i : Nat) : Lib.hasPrefix (List.take (s.size - i) (List.drop i s.data.toList)) [239, 191, 189] = true ↔ 3 ≤ s.size - i ∧ bt s i = 239 ∧ bt s (i + 1) = 191 ∧ bt s (i + 2) = 189 := by
  have hl := length_toList s
  rw [List.take_of_length_le (by rw [List.length_drop, hl]; exact Nat.le_refl _)]
  unfold Lib.hasPrefix
  rw [List.isPrefixOf_iff_prefix]
  constructor
  · rintro ⟨t, ht⟩
    have g : ∀ j b, ([239, 191, 189] ++ t)[j]? = some b → s.data.toList[i + j]? = some b := fun j b h => by rw [ht, List.getElem?_drop] at h; exact h
    have g0 := g 0 239 rfl
    have g1 := g 1 191 rfl
    have g2 := g 2 189 rfl
    have := (List.getElem?_eq_some_iff.1 g2).1
    exact ⟨by omega, bt_get s i _ g0, bt_get s _ _ g1, bt_get s _ _ g2⟩
  · rintro ⟨h3, h0, h1, h2⟩
    have e0 := get_bt s i (by omega)
    have e1 := get_bt s (i + 1) (by omega)
    have e2 := get_bt s (i + 2) (by omega)
    rw [(u8_of _ 239 (by omega)).1 h0] at e0
    rw [(u8_of _ 191 (by omega)).1 h1] at e1
    rw [(u8_of _ 189 (by omega)).1 h2] at e2
    refine ⟨List.drop (i + 3) s.data.toList, ?_⟩
    obtain ⟨l0, k0⟩ := List.getElem?_eq_some_iff.1 e0
    obtain ⟨l1, k1⟩ := List.getElem?_eq_some_iff.1 e1
    obtain ⟨l2, k2⟩ := List.getElem?_eq_some_iff.1 e2
    rw [List.drop_eq_getElem_cons l0, List.drop_eq_getElem_cons l1, List.drop_eq_getElem_cons l2, k0, k1, k2]
    rfl

theorem bad_iff (s : ByteArray) (i : Nat) (h : (Utf8.decode s i).1 = 65533) : (Utf8.decode s i).2 = 1 ↔ ¬ (3 ≤ s.size - i ∧ bt s i = 239 ∧ bt s (i + 1) = 191 ∧ bt s (i + 2) = 189) := by
  have := decN_bad (s.size - i) (bt s i) (bt s (i + 1)) (bt s (i + 2)) (bt s (i + 3)) (bt_lt ..) (bt_lt ..) (bt_lt ..) (by rw [← dec_eq]; exact h)
  rw [← dec_eq] at this
  rcases this with h1 | h1
  · exact ⟨fun _ => h1.2, fun _ => h1.1⟩
  · constructor
    · intro h2; omega
    · intro h2; exact absurd h1.2 h2
section
variable (s : ByteArray) (bad f i : Nat) (hi : i < s.size)
include hi
theorem fault_26 (hb : bad < 128) (h : (Utf8.decode s i).1 = 0 ∨ (Utf8.decode s i).1 = bad) : faultF s bad (f + 1) i = 26 := by
  unfold faultF
  rw [if_pos hi, if_pos (by rwa [dec_is s i 0 (by omega), dec_is s i bad hb] at h)]
theorem fault_36 (hb : bad < 128) (h0 : ¬ (Utf8.decode s i).1 = 0) (h1 : ¬ (Utf8.decode s i).1 = bad) (h : (Utf8.decode s i).1 = 65533)
    (hp : Lib.hasPrefix (List.take (s.size - i) (List.drop i s.data.toList)) [239, 191, 189] = false) : faultF s bad (f + 1) i = 36 := by
  have hw : wd s i = 0 := if_pos ⟨h, (bad_iff s i h).2 (fun e => by rw [(prefix_bad s i).2 e] at hp; cases hp)⟩
  unfold faultF
  rw [if_pos hi, if_neg (by rw [← dec_is s i 0 (by omega), ← dec_is s i bad hb]; exact fun e => e.elim h0 h1), if_pos hw]
theorem fault_go (hb : bad < 128) (h0 : ¬ (Utf8.decode s i).1 = 0) (h1 : ¬ (Utf8.decode s i).1 = bad)
    (hp : (Utf8.decode s i).1 = 65533 → Lib.hasPrefix (List.take (s.size - i) (List.drop i s.data.toList)) [239, 191, 189] = true) : faultF s bad (f + 1) i = faultF s bad f (i + (Utf8.decode s i).2) := by
  have hw : wd s i = (Utf8.decode s i).2 := if_neg (fun e => (bad_iff s i e.1).1 e.2 ((prefix_bad s i).1 (hp e.1)))
  have := dec_pos s i
  conv => lhs; unfold faultF
  rw [if_pos hi, if_neg (by rw [← dec_is s i 0 (by omega), ← dec_is s i bad hb]; exact fun e => e.elim h0 h1), if_neg (by rw [hw]; omega), hw]
end
end Go.Proofs.Ytnclappdokhciaa
