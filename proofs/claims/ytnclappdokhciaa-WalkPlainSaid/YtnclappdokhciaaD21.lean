/-
  Entries' bytes are taken back; bytes that are taken are the entries' own.
-/
import Derived.Test.YtnclappdokhciaaD20
namespace Go.Proofs.Ytnclappdokhciaa
open Go Go.RowKit
set_option linter.unusedVariables false
theorem ofNat8 (x : UInt8) : UInt8.ofNat x.toNat = x := UInt8.ofNat_toNat
theorem toNat8 (n : Nat) (h : n < 256) : (UInt8.ofNat n).toNat = n := by
  rw [UInt8.toNat_ofNat']; omega
theorem entF_entB (e : Ent) (r : List UInt8) (hs : e.nm.size < 256) (hn : e.num < 65536) (hk : e.kind < 256) : entF (entB e ++ r) = (some r, e) := by
  have hsz : e.nm.data.toList.length = e.nm.size := by rw [Array.length_toList]; rfl
  have h1 : entB e ++ r = UInt8.ofNat e.nm.size :: (e.nm.data.toList ++ (UInt8.ofNat (e.num % 256) :: UInt8.ofNat (e.num / 256) :: UInt8.ofNat e.kind :: r)) := by
    unfold entB le16
    simp
  unfold entF
  rw [h1]
  simp only [u8F, rawF, toNat8 _ hs]
  rw [if_pos (by rw [List.length_append, hsz]; omega)]
  rw [← hsz, List.drop_left, List.take_left]
  simp only [u16F]
  rw [toNat8 _ (by omega), toNat8 _ (by omega), toNat8 _ hk]
  have h2 : e.num % 256 + 256 * (e.num / 256) = e.num := by omega
  rw [h2]
theorem takeRaw_put : ∀ (l : List Ent) (f : Nat), (∀ e ∈ l, e.nm.size < 256 ∧ e.num < 65536 ∧ e.kind < 256) → (putB l).length ≤ f → takeRaw f (putB l) = some l
  | [], f, _, _ => by
    cases f with
    | zero => rfl
    | succ f => unfold takeRaw putB; simp
  | e :: r, f, h, hf => by
    have h1 : putB (e :: r) = entB e ++ putB r := rfl
    rw [h1] at hf ⊢
    have hl := entB_len e
    rw [List.length_append] at hf
    cases f with
    | zero => omega
    | succ f =>
      obtain ⟨h2, h3, h4⟩ := h e (List.mem_cons_self ..)
      have hE := entF_entB e (putB r) h2 h3 h4
      unfold takeRaw
      rw [if_neg (by intro h0; have := congrArg List.length h0; rw [List.length_append] at this; simp only [List.length_nil] at this; omega)]
      rw [hE]
      simp only
      rw [takeRaw_put r f (fun x hx => h x (List.mem_cons_of_mem _ hx)) (by omega)]
      rfl
theorem le16_at (x y : UInt8) : le16 (x.toNat + 256 * y.toNat) = [x, y] := by
  have hx := x.toNat_lt
  have hy := y.toNat_lt
  unfold le16
  rw [show (x.toNat + 256 * y.toNat) % 256 = x.toNat by omega, show (x.toNat + 256 * y.toNat) / 256 = y.toNat by omega, ofNat8, ofNat8]
theorem entF_back (l r : List UInt8) (h : (entF l).1 = some r) : l = entB (entF l).2 ++ r := by
  cases l with
  | nil => simp [entF, u8F, rawF, u16F] at h
  | cons nb q =>
    by_cases hq : q.length < nb.toNat + 3
    · rw [entF_none nb q hq] at h; cases h
    · have e0 := List.getElem?_eq_getElem (l := q) (i := nb.toNat) (by omega)
      have e1 := List.getElem?_eq_getElem (l := q) (i := nb.toNat + 1) (by omega)
      have e2 := List.getElem?_eq_getElem (l := q) (i := nb.toNat + 2) (by omega)
      have hs := entF_some nb q _ _ _ e0 e1 e2
      rw [hs] at h ⊢
      simp only [Option.some.injEq] at h
      subst h
      have hd := drop3 q nb.toNat (by omega)
      have hlen : (q.take nb.toNat).length = nb.toNat := by rw [List.length_take]; omega
      have hsz : ByteArray.size ⟨(q.take nb.toNat).toArray⟩ = nb.toNat := by
        show (q.take nb.toNat).toArray.size = nb.toNat
        rw [List.size_toArray, hlen]
      unfold entB
      simp only
      rw [hsz, le16_at, ofNat8, ofNat8]
      have ht := (List.take_append_drop nb.toNat q).symm
      conv => lhs; rw [ht, hd]
      simp
theorem takeRaw_back : ∀ (f : Nat) (b : List UInt8) (l : List Ent), takeRaw f b = some l → b.length ≤ f → putB l = b
  | 0, b, l, h, hf => by
    unfold takeRaw at h
    cases h
    have : b = [] := List.length_eq_zero_iff.1 (by omega)
    rw [this]; rfl
  | f + 1, b, l, h, hf => by
    unfold takeRaw at h
    split at h
    · rename_i h0
      cases h
      rw [h0]; rfl
    · split at h
      · rename_i r hr
        rw [Option.map_eq_some_iff] at h
        obtain ⟨l', hl', rfl⟩ := h
        have h1 := entF_len b r hr
        have h2 := takeRaw_back f r l' hl' (by omega)
        have h3 : putB ((entF b).2 :: l') = entB (entF b).2 ++ putB l' := rfl
        rw [h3, h2]
        exact (entF_back b r hr).symm
      · cases h
theorem take_put {l : List Ent} (h : areS l = true) : takeS (putB l) = (l, 0) := by
  unfold takeS
  rw [takeRaw_put l _ (fun e he => by
    obtain ⟨h1, h2, h3, h4, h5⟩ := may_ok (are_may h e he)
    have := check_ok h1
    omega) (Nat.le_refl _)]
  simp only [if_pos h]
theorem put_take {b : List UInt8} (h : (takeS b).2 = 0) : areS (takeS b).1 = true ∧ putB (takeS b).1 = b := by
  unfold takeS at h ⊢
  split at h
  · rename_i l hl
    split at h
    · rename_i ha
      simp only [if_pos ha]
      exact ⟨ha, takeRaw_back _ _ _ hl (Nat.le_refl _)⟩
    · cases h
  · cases h
theorem take_fail {b : List UInt8} (h : (takeS b).2 ≠ 0) : (takeS b).1 = [] := by
  unfold takeS at h ⊢
  split at h
  · rename_i l hl
    split at h
    · exact absurd rfl h
    · rename_i ha
      simp only [if_neg ha]
  · rfl
theorem findE_self {l : List Ent} (hR : Rise l) {i : Nat} {x : Ent} (hx : l[i]? = some x) : findE l x.nm = some x := by
  unfold findE
  rw [List.find?_eq_some_iff_getElem]
  obtain ⟨hi, he⟩ := List.getElem?_eq_some_iff.1 hx
  refine ⟨by simp, i, hi, he, fun j hj => ?_⟩
  have h1 := hR j i _ x hj (List.getElem?_eq_getElem (by omega)) hx
  rw [nm_eq]
  simp only [Bool.not_eq_true', decide_eq_false_iff_not]
  omega
theorem rise_geq {l : List Ent} (hR : Rise l) {i : Nat} {p x : Ent} (hi : 0 < i) (hp : l[i - 1]? = some p) (hx : l[i]? = some x) : lessB p.nm x.nm = true := by
  unfold lessB
  rw [less_cmp, ByteArray.toList_eq, ByteArray.toList_eq]
  exact decide_eq_true (hR (i - 1) i p x (by omega) hp hx)
end Go.Proofs.Ytnclappdokhciaa
