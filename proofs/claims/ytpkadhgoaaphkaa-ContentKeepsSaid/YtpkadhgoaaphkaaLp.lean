/-
  What lies while a range over the pieces is walked; plain laws on the bytes of a range.
-/
import Derived.Test.YtpkadhgoaaphkaaLf
import Derived.Test.YtpkadhgoaaphkaaHeld
import Derived.RangeFuncBox
namespace Go.Proofs.Ytpkadhgoaaphkaa
open Go Go.RowKit
set_option linter.unusedVariables false
/-- The bytes of a leaf, at a place of all. -/
def byteAt (m : Nat → List UInt8) (p : Nat) : UInt8 := (leafB m (p / 512)).getD (p % 512) 0
def readB (m : Nat → List UInt8) (fr j : Nat) : List UInt8 := (List.range j).map fun i => byteAt m (fr + i)
theorem readB_len (m : Nat → List UInt8) (fr j : Nat) : (readB m fr j).length = j := by unfold readB; rw [List.length_map, List.length_range]
/-- Leaves have 512 bytes, or are holes. -/
def Szd (m : Nat → List UInt8) : Prop := ∀ k, k < 64 → (m k).length = 0 ∨ (m k).length = 512
theorem leafB_len {m : Nat → List UInt8} (h : Szd m) {k : Nat} (hk : k < 64) : (leafB m k).length = 512 := by
  unfold leafB
  split
  · exact Z512_len
  · have := h k hk; omega
theorem list_ext_getD {a b : List UInt8} (hl : a.length = b.length) (h : ∀ i, i < a.length → a.getD i 0 = b.getD i 0) : a = b := by
  refine List.ext_getElem hl fun i h1 h2 => ?_
  have := h i h1
  rw [List.getD_eq_getElem?_getD, List.getD_eq_getElem?_getD, List.getElem?_eq_getElem h1, List.getElem?_eq_getElem h2] at this
  exact this
theorem readB_get (m : Nat → List UInt8) (fr j i : Nat) (h : i < j) : (readB m fr j).getD i 0 = byteAt m (fr + i) := by
  unfold readB
  rw [List.getD_eq_getElem?_getD, List.getElem?_map, List.getElem?_range h]
  rfl
theorem getD_app {a b : List UInt8} (i : Nat) : (a ++ b).getD i 0 = if i < a.length then a.getD i 0 else b.getD (i - a.length) 0 := by
  rw [List.getD_eq_getElem?_getD, List.getD_eq_getElem?_getD, List.getD_eq_getElem?_getD]
  split
  · rename_i h; rw [List.getElem?_append_left h]
  · rename_i h; rw [List.getElem?_append_right (by omega)]
theorem getD_drop (a : List UInt8) (n i : Nat) : (a.drop n).getD i 0 = a.getD (n + i) 0 := by
  rw [List.getD_eq_getElem?_getD, List.getD_eq_getElem?_getD, List.getElem?_drop]
theorem getD_take (a : List UInt8) (n i : Nat) (h : i < n) : (a.take n).getD i 0 = a.getD i 0 := by
  rw [List.getD_eq_getElem?_getD, List.getD_eq_getElem?_getD, List.getElem?_take, if_pos h]
/-- One piece more. -/
theorem readB_succ {m : Nat → List UInt8} (h : Szd m) {fr en i : Nat} (hen : en ≤ 32768) (hi : i < cnt fr en) :
    readB m fr (at_ fr en i - fr) ++ ((leafB m (pc fr en i).lf).drop (pc fr en i).fr).take ((pc fr en i).hi - (pc fr en i).fr) = readB m fr (at_ fr en (i + 1) - fr) := by
  have h1 := at_lf hi
  have h2 := at_fr hi
  have h3 := at_succ hi
  have h4 := pc_le hi
  have h5 := leafB_len h (k := (pc fr en i).lf) (by omega)
  have h6 : fr ≤ at_ fr en i := by unfold at_; omega
  generalize pc fr en i = p at *
  obtain ⟨pl, pf, ph⟩ := p
  simp only at *
  refine list_ext_getD ?_ fun j hj => ?_
  · rw [List.length_append, readB_len, readB_len, List.length_take, List.length_drop, h5]; omega
  · rw [List.length_append, readB_len, List.length_take, List.length_drop, h5] at hj
    rw [readB_get _ _ _ _ (by omega), getD_app, readB_len]
    split
    · rename_i hl; rw [readB_get _ _ _ _ hl]
    · rename_i hl
      rw [getD_take _ _ _ (by omega), getD_drop]
      unfold byteAt
      have e1 : (fr + j) / 512 = pl := by omega
      have e2 : (fr + j) % 512 = pf + (j - (at_ fr en i - fr)) := by omega
      rw [e1, e2]
/-- Which leaves have been asked for, behind i pieces. -/
def askd (fr i : Nat) : List Nat := (List.range i).map fun j => fr / 512 + j
theorem askd_succ (fr i : Nat) : askd fr i ++ [fr / 512 + i] = askd fr (i + 1) := by
  unfold askd; rw [List.range_succ, List.map_append]; rfl
theorem askd_len (fr i : Nat) : (askd fr i).length = i := by unfold askd; rw [List.length_map, List.length_range]
theorem cnt_le {fr en : Nat} (h : en ≤ 32768) : cnt fr en ≤ 64 := by unfold cnt; split <;> omega

/-! Blocks of the walk's own. -/
section
variable {w w' W W' : World} {S : Nat → Prop} {g : Nat} {t : TypeId} {cs : Array Value} {B : Nat}
/-- Cells alone turn: what is no cells lies as it lay. -/
theorem keepsFrom_of {N : Nat} (ho : Only S W W') (hs : ∀ k, k < W.heap.size → S k → ∃ t, tyAt W k t) : KeepsFrom N W W' :=
  ⟨ho.size, fun k o _ hk ho' => by
    have hlt := (Array.getElem?_eq_some_iff.1 hk).1
    refine (ho.block k hlt fun hS => ?_).trans hk
    obtain ⟨t, cs, fr, e⟩ := hs k hlt hS
    rw [hk] at e
    cases e
    cases ho'⟩
theorem Turn.keepsFrom {N : Nat} (h : Turn B W W') : KeepsFrom N W W' := keepsFrom_of h fun k _ ht => by
  rcases ht.2 with ht | ht
  · exact ⟨_, ht⟩
  · exact ⟨_, ht⟩
theorem tyAt.setCell (h : tyAt W g t) (p : Addr) (u : Value) : tyAt (W.setCell p u) g t := by
  obtain ⟨cs, fr, h⟩ := h
  by_cases e : p.block = g
  · subst e
    exact ⟨_, fr, by simp [World.setCell, Array.getElem?_modify, h]; rfl⟩
  · exact ⟨cs, fr, (Below.heap_setCell W p u g (fun x => e x.symm)).trans h⟩
theorem grown_only {row : Option Nat} (hg : W.grownBy W' row) : Only (fun k => row = some k) W W' := Only.of_grown_own hg (fun g e => e)
/-- A block that is no cells is none of these. -/
theorem noncells {k : Nat} {o : Obj} (hk : W.heap[k]? = some o) (ho : o.isCells = false) : ¬ tyAt W k t := fun ⟨cs, fr, e⟩ => by
  rw [hk] at e; cases e; cases ho
theorem Turn.grown {row : Option Nat} {N : Nat} (h : Turn B w W) (hg : W.grownBy W' row) (hr : ∀ r, row = some r → N ≤ r ∧ ∃ o : Obj, W.heap[r]? = some o ∧ o.isCells = false) (hN : w.heap.size ≤ N) : Turn B w W' :=
  h.new ((grown_only hg).mono fun k _ e => by have := (hr k e).1; omega)
theorem Blk.grown {row : Option Nat} {N : Nat} (h : Blk W g t cs) (hg : W.grownBy W' row) (hr : ∀ r, row = some r → N ≤ r ∧ ∃ o : Obj, W.heap[r]? = some o ∧ o.isCells = false) : Blk W' g t cs :=
  h.only (grown_only hg) fun e => by
    obtain ⟨_, o, h1, h2⟩ := hr g e
    exact noncells h1 h2 h.ty
theorem row_grown {base : Nat} {e : TypeId} {size : Nat} {v : Value} {n : Nat} {xs : List Value} {row : Option Nat} {N : Nat} (h : W.ownsRow base e size v n xs) (hg : W.grownBy W' row) (hr : ∀ r, row = some r → N ≤ r ∧ ∃ o : Obj, W.heap[r]? = some o ∧ o.isCells = false) : W'.ownsRow base e size v n xs :=
  row_keep h (grown_only hg) fun q hq e => by
    obtain ⟨_, o, h1, h2⟩ := hr q e
    exact noncells h1 h2 (row_lt' h q hq).2.2
theorem Sh.grown {v : Nat → Value} {m : Nat → List UInt8} {bad : Nat} {va : Value} {ask : List Nat} {row : Option Nat} {N : Nat} (h : Sh B g v m bad va ask W) (hg : W.grownBy W' row) (hr : ∀ r, row = some r → N ≤ r ∧ ∃ o : Obj, W.heap[r]? = some o ∧ o.isCells = false) : Sh B g v m bad va ask W' :=
  h.keep (grown_only hg) (fun e => by obtain ⟨_, o, h1, h2⟩ := hr g e; exact noncells h1 h2 h.ty) (fun k hk e => by obtain ⟨_, o, h1, h2⟩ := hr k e; exact noncells h1 h2 (row_lt' h.ak k hk).2.2)
    (fun i k hi hk e => by obtain ⟨_, o, h1, h2⟩ := hr k e; exact noncells h1 h2 (row_lt' (h.lv i hi) k hk).2.2)
    (fun X hX _ e => by obtain ⟨_, o, h1, h2⟩ := hr X e; exact noncells h1 h2 hX)
/-- A store into a block of another type. -/
theorem Sh.put {v : Nat → Value} {m : Nat → List UInt8} {bad : Nat} {va : Value} {ask : List Nat} {q i : Nat} (h : Sh B g v m bad va ask W) (hq : tyAt W q t) (ht : t ≠ 33 ∧ t ≠ 34 ∧ t ≠ 5) (u : Value) : Sh B g v m bad va ask (W.setCell ⟨q, i, none⟩ u) :=
  h.keep ((Only.refl (fun k => k = q) W).setCell (p := ⟨q, i, none⟩) (.inl rfl) u) (fun e => by subst e; exact ht.1 (hq.one h.ty)) (fun k hk e => by subst e; exact ht.2.1 (hq.one (row_lt' h.ak k hk).2.2))
    (fun i k hi hk e => by subst e; exact ht.2.2 (hq.one (row_lt' (h.lv i hi) k hk).2.2)) (fun X hX _ e => by subst e; exact ht.2.1 (hq.one hX))
theorem Blk.put {q i : Nat} {t' : TypeId} (h : Blk W g t cs) (hq : tyAt W q t') (ht : t ≠ t') (u : Value) : Blk (W.setCell ⟨q, i, none⟩ u) g t cs :=
  h.far (p := ⟨q, i, none⟩) (fun e => by obtain rfl : g = q := e; exact ht (h.ty.one hq)) u
theorem row_put {base : Nat} {e : TypeId} {size : Nat} {v : Value} {n : Nat} {xs : List Value} {q i : Nat} {t' : TypeId} (h : W.ownsRow base e size v n xs) (hq : tyAt W q t') (ht : e ≠ t') (u : Value) : (W.setCell ⟨q, i, none⟩ u).ownsRow base e size v n xs :=
  row_keep h ((Only.refl (fun k => k = q) W).setCell (p := ⟨q, i, none⟩) (.inl rfl) u) fun k hk x => by subst x; exact ht ((row_lt' h k hk).2.2.one hq)
end
end Go.Proofs.Ytpkadhgoaaphkaa
