/-
  Texts without a fault, as lists of runes: parts of such a text, and such texts joined, are without a fault. Plain Lean.
-/
import Derived.Test.YtnclappdokhciaaL1
namespace Go.Proofs.Ytnclappdokhciaa
open Go Go.RowKit
set_option linter.unusedVariables false

theorem decN_stable (n n' b0 b1 b2 b3 c1 c2 c3 v m : Nat) (h : Lib.decodeN n b0 b1 b2 b3 = (v, m)) (hb : ¬ (v = 65533 ∧ m = 1)) (hn : m ≤ n') (h1 : 2 ≤ m → c1 = b1) (h2 : 3 ≤ m → c2 = b2) (h3 : 4 ≤ m → c3 = b3) :
    Lib.decodeN n' b0 c1 c2 c3 = (v, m) := by
  unfold Lib.decodeN at h ⊢
  by_cases a0 : b0 < 128
  · rw [if_pos a0] at h ⊢; exact h
  rw [if_neg a0] at h ⊢
  by_cases a1 : b0 / 32 = 6 ∧ (1 < n ∧ b1 / 64 = 2)
  · rw [if_pos a1] at h
    by_cases a2 : b0 % 32 * 64 + b1 % 64 ≥ 128
    · rw [if_pos a2] at h
      injection h with e1 e2
      subst e1 e2
      rw [h1 (by omega), if_pos ⟨a1.1, by omega, a1.2.2⟩, if_pos a2]
    · rw [if_neg a2] at h
      injection h with e1 e2
      exact absurd ⟨e1.symm, e2.symm⟩ hb
  rw [if_neg a1] at h
  by_cases a3 : b0 / 16 = 14 ∧ (1 < n ∧ b1 / 64 = 2) ∧ (2 < n ∧ b2 / 64 = 2)
  · rw [if_pos a3] at h
    by_cases a4 : b0 % 16 * 4096 + b1 % 64 * 64 + b2 % 64 ≥ 2048 ∧ (b0 % 16 * 4096 + b1 % 64 * 64 + b2 % 64 < 55296 ∨ (57344 ≤ b0 % 16 * 4096 + b1 % 64 * 64 + b2 % 64 ∧ b0 % 16 * 4096 + b1 % 64 * 64 + b2 % 64 ≤ 1114111))
    · rw [if_pos a4] at h
      injection h with e1 e2
      subst e1 e2
      rw [h1 (by omega), h2 (by omega), if_neg (by omega), if_pos ⟨a3.1, ⟨by omega, a3.2.1.2⟩, by omega, a3.2.2.2⟩, if_pos a4]
    · rw [if_neg a4] at h
      injection h with e1 e2
      exact absurd ⟨e1.symm, e2.symm⟩ hb
  rw [if_neg a3] at h
  by_cases a5 : b0 / 8 = 30 ∧ (1 < n ∧ b1 / 64 = 2) ∧ (2 < n ∧ b2 / 64 = 2) ∧ (3 < n ∧ b3 / 64 = 2)
  · rw [if_pos a5] at h
    by_cases a6 : b0 % 8 * 262144 + b1 % 64 * 4096 + b2 % 64 * 64 + b3 % 64 ≥ 65536 ∧ (b0 % 8 * 262144 + b1 % 64 * 4096 + b2 % 64 * 64 + b3 % 64 < 55296 ∨ (57344 ≤ b0 % 8 * 262144 + b1 % 64 * 4096 + b2 % 64 * 64 + b3 % 64 ∧ b0 % 8 * 262144 + b1 % 64 * 4096 + b2 % 64 * 64 + b3 % 64 ≤ 1114111))
    · rw [if_pos a6] at h
      injection h with e1 e2
      subst e1 e2
      rw [h1 (by omega), h2 (by omega), h3 (by omega), if_neg (by omega), if_neg (by omega), if_pos ⟨a5.1, ⟨by omega, a5.2.1.2⟩, ⟨by omega, a5.2.2.1.2⟩, by omega, a5.2.2.2.2⟩, if_pos a6]
    · rw [if_neg a6] at h
      injection h with e1 e2
      exact absurd ⟨e1.symm, e2.symm⟩ hb
  rw [if_neg a5] at h
  injection h with e1 e2
  exact absurd ⟨e1.symm, e2.symm⟩ hb

def g8 (l : List UInt8) (k : Nat) : Nat := (l.getD k 0).toNat
/-- The rune at a list's head. -/
def dL (l : List UInt8) : Nat × Nat := Lib.decodeN l.length (g8 l 0) (g8 l 1) (g8 l 2) (g8 l 3)
theorem bt_g8 (s : ByteArray) (i k : Nat) : bt s (i + k) = g8 (s.data.toList.drop i) k := by
  unfold g8
  rw [List.getD_eq_getElem?_getD, List.getElem?_drop]
  rcases Nat.lt_or_ge (i + k) s.size with h | h
  · rw [get_bt s (i + k) h]; rfl
  · rw [List.getElem?_eq_none (by rw [length_toList]; exact h)]
    unfold bt
    have : s.get! (i + k) = 0 := by
      show s.data[i + k]! = 0
      rw [getElem!_neg _ _ (by show ¬ i + k < s.data.size; exact Nat.not_lt.2 h)]
      rfl
    rw [this]; rfl
theorem dec_dL (s : ByteArray) (i : Nat) : Utf8.decode s i = dL (s.data.toList.drop i) := by
  rw [dec_eq]
  unfold dL
  rw [List.length_drop, length_toList, bt_g8 s i 1, bt_g8 s i 2, bt_g8 s i 3]
  have := bt_g8 s i 0
  rw [Nat.add_zero] at this
  rw [this]
/-- One rune that may be, whatever stands behind it. -/
def Rune (bad : Nat) (c : List UInt8) : Prop := c ≠ [] ∧ ∃ v, (∀ t, dL (c ++ t) = (v, c.length)) ∧ ¬ (v = 65533 ∧ c.length = 1) ∧ v ≠ 0 ∧ v ≠ bad
def Val (bad : Nat) (l : List UInt8) : Prop := ∃ cs : List (List UInt8), cs.flatten = l ∧ ∀ c ∈ cs, Rune bad c
theorem Val.app {bad : Nat} {x y : List UInt8} (hx : Val bad x) (hy : Val bad y) : Val bad (x ++ y) := by
  obtain ⟨cs, rfl, h⟩ := hx
  obtain ⟨ds, rfl, h'⟩ := hy
  exact ⟨cs ++ ds, by simp, fun c hc => (List.mem_append.1 hc).elim (h c) (h' c)⟩
theorem Val.nil (bad : Nat) : Val bad [] := ⟨[], rfl, fun _ h => by cases h⟩
theorem rune47 : Rune 0 [47] := by
  refine ⟨by simp, 47, fun t => ?_, by omega, by omega, by omega⟩
  unfold dL
  rw [show g8 ([47] ++ t) 0 = 47 from rfl]
  exact (decN_lo _ 47 _ _ _).1 (by omega)
theorem Val.one47 : Val 0 [47] := ⟨[[47]], rfl, fun c hc => by rw [List.mem_singleton.1 hc]; exact rune47⟩
theorem g8_app (c t : List UInt8) (k : Nat) (h : k < c.length) : g8 (c ++ t) k = g8 c k := by
  unfold g8; rw [List.getD_eq_getElem?_getD, List.getD_eq_getElem?_getD, List.getElem?_append_left h]
/-- The bytes of a rune behind its first. -/
theorem Rune.inner {bad : Nat} {c : List UInt8} (h : Rune bad c) (j : Nat) (h1 : 1 ≤ j) (h2 : j < c.length) : 128 ≤ g8 c j := by
  obtain ⟨_, v, hv, _⟩ := h
  have := hv []
  rw [List.append_nil] at this
  unfold dL at this
  obtain ⟨a, b, d, e⟩ := decN_in c.length (g8 c 0) (g8 c 1) (g8 c 2) (g8 c 3)
  rw [this] at a b d e
  simp only at a b d e
  have hj : j = 1 ∨ j = 2 ∨ j = 3 := by omega
  rcases hj with rfl | rfl | rfl
  · have := a (by omega); omega
  · have := b (by omega); omega
  · have := d (by omega); omega
theorem Rune.lo {bad : Nat} {c : List UInt8} (h : Rune bad c) (h0 : g8 c 0 < 128) : c.length = 1 := by
  obtain ⟨_, v, hv, _⟩ := h
  have := hv []
  rw [List.append_nil] at this
  unfold dL at this
  rw [(decN_lo _ _ _ _ _).1 h0] at this
  injection this with _ e
  exact e.symm
/-- A text without a fault, cut at a slash. -/
theorem val_cut (bad : Nat) (y : List UInt8) : ∀ (cs : List (List UInt8)) (x : List UInt8), cs.flatten = x ++ 47 :: y → (∀ c ∈ cs, Rune bad c) → Val bad x ∧ Val bad y
  | [], x, h, _ => by simp at h
  | c :: cs, x, h, hc => by
    have hr := hc c (List.mem_cons_self ..)
    rw [List.flatten_cons] at h
    rcases List.append_eq_append_iff.1 h with ⟨a, ha, hb⟩ | ⟨a, ha, hb⟩
    · obtain ⟨h1, h2⟩ := val_cut bad y cs a hb (fun d hd => hc d (List.mem_cons_of_mem _ hd))
      refine ⟨?_, h2⟩
      rw [ha]
      exact Val.app ⟨[c], by simp, fun d hd => by rw [List.mem_singleton.1 hd]; exact hr⟩ h1
    · cases a with
      | nil =>
        rw [List.append_nil] at ha
        obtain ⟨h1, h2⟩ := val_cut bad y cs [] (by simpa using hb.symm) (fun d hd => hc d (List.mem_cons_of_mem _ hd))
        refine ⟨?_, h2⟩
        rw [← ha]
        exact ⟨[c], by simp, fun d hd => by rw [List.mem_singleton.1 hd]; exact hr⟩
      | cons b a =>
        rw [List.cons_append] at hb
        injection hb with e1 e2
        subst e1
        cases x with
        | nil =>
          rw [List.nil_append] at ha
          have hl := hr.lo (by rw [ha, show g8 (47 :: a) 0 = 47 from rfl]; omega)
          rw [ha] at hl
          have : a = [] := List.eq_nil_of_length_eq_zero (by simpa using hl)
          subst this
          exact ⟨Val.nil bad, ⟨cs, by simpa using e2.symm, fun d hd => hc d (List.mem_cons_of_mem _ hd)⟩⟩
        | cons z x =>
          have := hr.inner (x.length + 1) (by omega) (by rw [ha]; simp)
          rw [ha] at this
          unfold g8 at this
          simp at this
theorem Val.cut {bad : Nat} {x y : List UInt8} (h : Val bad (x ++ 47 :: y)) : Val bad x ∧ Val bad y := by
  obtain ⟨cs, e, hc⟩ := h
  exact val_cut bad y cs x e hc
theorem g8_take (l : List UInt8) (n k : Nat) (h : k < n) : g8 (l.take n) k = g8 l k := by
  unfold g8; rw [List.getD_eq_getElem?_getD, List.getD_eq_getElem?_getD, List.getElem?_take_of_lt h]
/-- The rune at a list's head is one whatever stands behind it. -/
theorem rune_of (bad : Nat) (l : List UInt8) (v n : Nat) (hl : l ≠ []) (h : dL l = (v, n)) (hb : ¬ (v = 65533 ∧ n = 1)) (h0 : v ≠ 0) (h1 : v ≠ bad) : Rune bad (l.take n) ∧ n ≤ l.length ∧ (l.take n).length = n := by
  have hpos : 0 < l.length := List.length_pos_iff.2 hl
  have hn1 : 1 ≤ n := by have := decN_pos l.length (g8 l 0) (g8 l 1) (g8 l 2) (g8 l 3); unfold dL at h; rw [h] at this; exact this
  have hnl : n ≤ l.length := by have := decN_le l.length (g8 l 0) (g8 l 1) (g8 l 2) (g8 l 3) (by omega); unfold dL at h; rw [h] at this; exact this
  have hlen : (l.take n).length = n := by rw [List.length_take]; omega
  refine ⟨⟨fun e => by rw [e] at hlen; simp at hlen; omega, v, fun t => ?_, by rw [hlen]; exact hb, h0, h1⟩, hnl, hlen⟩
  rw [hlen]
  unfold dL at h ⊢
  have e : ∀ k, k < n → g8 (l.take n ++ t) k = g8 l k := fun k hk => by rw [g8_app _ _ _ (by rw [hlen]; exact hk), g8_take _ _ _ hk]
  rw [e 0 (by omega)]
  exact decN_stable _ _ _ _ _ _ _ _ _ v n h hb (by rw [List.length_append, hlen]; omega) (fun h => e 1 (by omega)) (fun h => e 2 (by omega)) (fun h => e 3 (by omega))
/-- No fault: runes. -/
theorem val_of_fault (s : ByteArray) (bad : Nat) (hb : bad < 128) : ∀ (f i : Nat), s.size ≤ i + f → faultF s bad f i = 0 → Val bad (s.data.toList.drop i)
  | 0, i, h, _ => by
    rw [List.drop_eq_nil_of_le (by rw [length_toList]; omega)]; exact Val.nil bad
  | f + 1, i, h, hf => by
    by_cases hi : i < s.size
    · unfold faultF at hf
      rw [if_pos hi] at hf
      by_cases h1 : bt s i = 0 ∨ bt s i = bad
      · rw [if_pos h1] at hf; omega
      rw [if_neg h1] at hf
      by_cases h2 : wd s i = 0
      · rw [if_pos h2] at hf; omega
      rw [if_neg h2] at hf
      have hw : ¬ ((Utf8.decode s i).1 = 65533 ∧ (Utf8.decode s i).2 = 1) := fun e => h2 (if_pos e)
      have hwd : wd s i = (Utf8.decode s i).2 := if_neg hw
      rw [hwd] at hf
      have hd := dec_dL s i
      have hne : s.data.toList.drop i ≠ [] := fun e => by
        have := congrArg List.length e
        rw [List.length_drop, length_toList] at this
        simp at this; omega
      obtain ⟨hr, hle, hlen⟩ := rune_of bad _ _ _ hne (hd.symm.trans (by rfl : Utf8.decode s i = ((Utf8.decode s i).1, (Utf8.decode s i).2))) hw (fun e => h1 (.inl ((dec_is s i 0 (by omega)).1 e))) (fun e => h1 (.inr ((dec_is s i bad hb).1 e)))
      have ih := val_of_fault s bad hb f (i + (Utf8.decode s i).2) (by have := dec_pos s i; omega) hf
      have e : s.data.toList.drop i = (s.data.toList.drop i).take (Utf8.decode s i).2 ++ s.data.toList.drop (i + (Utf8.decode s i).2) := by
        rw [← List.drop_drop]; exact (List.take_append_drop _ _).symm
      rw [e]
      exact Val.app ⟨[(s.data.toList.drop i).take (Utf8.decode s i).2], by simp, fun d hd => by rw [List.mem_singleton.1 hd]; exact hr⟩ ih
    · rw [List.drop_eq_nil_of_le (by rw [length_toList]; omega)]; exact Val.nil bad
/-- Runes: no fault. -/
theorem fault_of_runes (s : ByteArray) (bad : Nat) (hb : bad < 128) : ∀ (cs : List (List UInt8)) (f i : Nat), s.data.toList.drop i = cs.flatten → (∀ c ∈ cs, Rune bad c) → faultF s bad f i = 0
  | _, 0, _, _, _ => rfl
  | [], f + 1, i, h, _ => by
    unfold faultF
    have := congrArg List.length h
    rw [List.length_drop, length_toList] at this
    simp at this
    rw [if_neg (by omega)]
  | c :: cs, f + 1, i, h, hc => by
    obtain ⟨hne, v, hv, hb1, h0, h1⟩ := hc c (List.mem_cons_self ..)
    rw [List.flatten_cons] at h
    have hd : Utf8.decode s i = (v, c.length) := by rw [dec_dL, h]; exact hv _
    have hi : i < s.size := by
      have := congrArg List.length h
      rw [List.length_drop, length_toList, List.length_append] at this
      have := List.length_pos_iff.2 hne
      omega
    have hw : wd s i = c.length := by unfold wd; rw [hd]; exact if_neg hb1
    have hcl := List.length_pos_iff.2 hne
    unfold faultF
    rw [if_pos hi, if_neg (by
      rintro (e | e)
      · exact h0 (by have := (dec_is s i 0 (by omega)).2 e; rw [hd] at this; exact this)
      · exact h1 (by have := (dec_is s i bad hb).2 e; rw [hd] at this; exact this)), if_neg (by omega), hw]
    refine fault_of_runes s bad hb cs f (i + c.length) ?_ (fun d hd => hc d (List.mem_cons_of_mem _ hd))
    rw [← List.drop_drop, h, List.drop_left]
theorem fault_iff (s : ByteArray) (bad : Nat) (hb : bad < 128) : fault s bad = 0 ↔ Val bad s.data.toList := by
  constructor
  · intro h
    have := val_of_fault s bad hb s.size 0 (by omega) h
    rwa [List.drop_zero] at this
  · rintro ⟨cs, e, hc⟩
    exact fault_of_runes s bad hb cs s.size 0 (by rw [List.drop_zero]; exact e.symm) hc
/-- A part without a slash. -/
theorem Val.no47 {x : List UInt8} (h : Val 0 x) (hx : (47 : UInt8) ∉ x) : Val 47 x := by
  obtain ⟨cs, e, hc⟩ := h
  refine ⟨cs, e, fun c hcm => ?_⟩
  obtain ⟨hne, v, hv, hb, h0, _⟩ := hc c hcm
  refine ⟨hne, v, hv, hb, h0, fun e47 => ?_⟩
  subst e47
  have hv0 := hv []
  rw [List.append_nil] at hv0
  unfold dL at hv0
  have hlo := decN_lo c.length (g8 c 0) (g8 c 1) (g8 c 2) (g8 c 3)
  have h47 : g8 c 0 = 47 := by
    rcases Nat.lt_or_ge (g8 c 0) 128 with h | h
    · rw [hlo.1 h] at hv0; injection hv0
    · have := hlo.2 h; rw [hv0] at this; simp at this
  cases c with
  | nil => exact hne rfl
  | cons b c =>
    have hb47 : b = 47 := (u47 b).1 h47
    exact hx (by rw [← e]; exact List.mem_flatten.2 ⟨_, hcm, by rw [hb47]; exact List.mem_cons_self ..⟩)
theorem val_parts : ∀ (P : List (List UInt8)), Val 0 (Lib.join P [47]) → ∀ x ∈ P, Val 0 x
  | [], _, x, hx => by cases hx
  | [y], h, x, hx => by rw [Lib.join_one] at h; rw [List.mem_singleton.1 hx]; exact h
  | y :: z :: r, h, x, hx => by
    rw [join_cons2] at h
    obtain ⟨h1, h2⟩ := h.cut
    rcases List.mem_cons.1 hx with rfl | hx
    · exact h1
    · exact val_parts (z :: r) h2 x hx
theorem val_join : ∀ (P : List (List UInt8)), (∀ x ∈ P, Val 0 x) → Val 0 (Lib.join P [47])
  | [], _ => Val.nil 0
  | [y], h => by rw [Lib.join_one]; exact h y (List.mem_cons_self ..)
  | y :: z :: r, h => by
    rw [join_cons2]
    have := Val.app (Val.app (h y (List.mem_cons_self ..)) Val.one47) (val_join (z :: r) (fun x hx => h x (List.mem_cons_of_mem _ hx)))
    simpa using this
end Go.Proofs.Ytnclappdokhciaa
