/-
  Bytes: rows of bytes; wire.U16 (func 61, 82), the reference's Num (func 62).
-/
import Derived.Test.YtnclappdokhciaaD4
import Derived.Lib.AppendStr
import Derived.Maps.AppendAt
import Derived.Lib.UnsafeStr
import Derived.Laws.IdiomStrings
import Derived.Laws.BytesArg
namespace Go.Proofs.Ytnclappdokhciaa
open Go Go.RowKit
set_option linter.unusedVariables false

/-- The slice value .slice A l.length c reads as the bytes l. -/
def RowB (w : World) (A : Option Addr) (l : List UInt8) (c : Nat) : Prop := Reads w w.heap.size A l.length (Lib.byteCells l) ∧ l.length ≤ c ∧ (A = none → l.length = 0 ∧ c = 0)
theorem bc_at {l : List UInt8} {i : Nat} {x : UInt8} (h : l[i]? = some x) : (Lib.byteCells l)[i]? = some (.int .u8 x.toNat) := by unfold Lib.byteCells; rw [List.getElem?_map, h]; rfl
theorem bc_one (l : List UInt8) : ∀ u ∈ Lib.byteCells l, u.oneCell' = true := fun u hu => by
  obtain ⟨x, _, rfl⟩ := List.mem_map.1 hu
  rfl
theorem bc_app (a b : List UInt8) : Lib.byteCells (a ++ b) = Lib.byteCells a ++ Lib.byteCells b := List.map_append
theorem bc_str (s : ByteArray) : Lib.strCells s = Lib.byteCells s.data.toList := rfl
section
variable {w w' : World} {A : Option Addr} {l : List UInt8} {c : Nat} {S : Nat → Prop}
theorem RowB.nil (w : World) : RowB w none [] 0 := ⟨⟨rfl, fun h => by simp at h⟩, Nat.le_refl _, fun _ => ⟨rfl, rfl⟩⟩
theorem RowB.only (h : RowB w A l c) (ho : Only S w w') (hs : ∀ k, k < w.heap.size → ¬ S k) : RowB w' A l c := ⟨(h.1.only (Nat.le_refl _) ho hs).more ho.size, h.2⟩
theorem RowB.lit (h : RowB w A l c) {i : Nat} {x : UInt8} (hi : l[i]? = some x) : ∃ b o, A = some ⟨b, o, none⟩ ∧ b < w.heap.size ∧ w.cell? ⟨b, o + i, none⟩ = some (.int .u8 x.toNat) := by
  have hlt := (List.getElem?_eq_some_iff.1 hi).1
  obtain ⟨b, o, e1, hb, hc⟩ := h.1.2 (by omega)
  exact ⟨b, o, e1, hb, hc _ _ (bc_at hi)⟩
/-- string(b) -/
theorem RowB.str (h : RowB w A l c) : (convert 67 9 (.slice A l.length c)).run Try.prog w = .ok (.string ⟨l.toArray⟩) w := by
  have u67 : Try.prog.underlying 67 = some (.slice 5) := by kernel_rfl
  have u5 : Try.prog.underlying 5 = some (.int .u8) := by kernel_rfl
  have u9 : Try.prog.underlying 9 = some .string := by kernel_rfl
  by_cases hl : l = []
  · subst hl
    cases A with
    | none => exact run_convert_bytes_nil w 67 5 u67 u5 0 c 9 u9
    | some a =>
      have := run_convert_bytes_back (P := Try.prog) w 67 9 5 a c [] u67 u5 u9 (fun j hj => by simp at hj)
      simpa using this
  · obtain ⟨b, o, rfl, hb, hc⟩ := h.1.2 (List.length_pos_iff.2 hl)
    refine run_convert_bytes_back (P := Try.prog) w 67 9 5 ⟨b, o, none⟩ c l u67 u5 u9 (fun j hj => ?_)
    rw [add_lit]
    exact hc j _ (bc_at (List.getElem?_eq_getElem hj))
end
theorem info5k : (Try.prog.info? 5).map (fun i => (i.zero, i.size, i.bytes)) = some (some (.int .u8 0), 1, 1) := by kernel_rfl
theorem und67 : Try.prog.underlying 67 = some (.slice 5) := by kernel_rfl
/-- A row of bytes of the call's own. -/
def PB (w1 : World) (l : List UInt8) (v : Value) (w' : World) : Prop := PV w1 5 (Lib.byteCells l) l.length v w'
theorem PB.nil (w1 : World) : PB w1 [] (.slice none 0 0) w1 := PV.nil w1 5
theorem PB.next {w1 W W' : World} {l : List UInt8} {v : Value} (h : PB w1 l v W) (ho : Only (fun _ => False) W W') : PB w1 l v W' := PV.next h ho
theorem PB.only {w1 W : World} {l : List UInt8} {v : Value} (h : PB w1 l v W) : Only (fun _ => False) w1 W := PV.only h
theorem PB.row {w1 W : World} {l : List UInt8} {v : Value} (h : PB w1 l v W) : ∃ A c, v = .slice A l.length c ∧ RowB W A l c := by
  obtain ⟨A, c, hv, hA, hc, hown, ho⟩ := h
  subst hv
  obtain ⟨A', c', e, hr, hc', hA'⟩ := row_form hown
  cases e
  exact ⟨A, c, rfl, hr, hc', hA'⟩
/-- A row of bytes lies in no block of another kind. -/
theorem PB.apart {w1 W : World} {l : List UInt8} {v : Value} (h : PB w1 l v W) {g t : Nat} {cs : Array Value} (hb : Blk W g t cs) (ht : t ≠ 5) : v.ownBlock ≠ some g := fun e => by
  obtain ⟨A, c, _, _, _, hown, _⟩ := h
  rcases hown.2 with ⟨h1, _⟩ | ⟨g', cap, cur, h1, _, hh, _⟩
  · subst h1; cases e
  · subst h1
    cases e
    unfold Blk at hb
    rw [hb] at hh
    injection hh with hh
    injection hh with _ hh
    exact ht hh
theorem PB.cells {w1 W W2 : World} {l : List UInt8} {v : Value} (h : PB w1 l v W) (hW : Only (fun _ => False) W W2) (hn : l.length ≤ 100000) (b o : Nat) (m : List UInt8) (c2 : Nat) (hm : ∀ (j : Nat) u, (Lib.byteCells m)[j]? = some u → W2.cell? ⟨b, o + j, none⟩ = some u) (hm1 : m.length ≤ 100000) :
    ∃ A' c' w', (Builtin.append_ #[67, 67] 67 #[v, .slice (some ⟨b, o, none⟩) m.length c2]).run Try.prog W2 = .ok (.slice A' (l.length + m.length) c') w' ∧ PB w1 (l ++ m) (.slice A' (l.length + m.length) c') w' ∧
      Only (fun k => v.ownBlock = some k) W2 w' ∧ ∀ g, (Value.slice A' (l.length + m.length) c').ownBlock = some g → v.ownBlock = some g ∨ W2.heap.size ≤ g := by
  obtain ⟨i, hi, hi0, hi1, hi2⟩ := info_of info5k
  obtain ⟨A, c', hv, hA, hc, hown, ho⟩ := h
  have hown2 := ownsRow_only hown hW (fun _ _ x => x)
  obtain ⟨v', w', hr, hown', hg, _, hat⟩ := run_append_own_at (P := Try.prog) W2 w1.heap.size 67 67 5 i _ 1 1 und67 hi hi0 hi1 hi2 rfl (by omega) v _ _ hown2 ⟨b, o, none⟩ m.length c2 (Lib.byteCells m) (by rw [Lib.byteCells_length, Nat.mul_one]) (fun j u hu => by rw [add_lit]; exact hm j u hu) (bc_one m) (by unfold maxLen; omega) (by omega) (ho.trans hW).size
  rw [← bc_app] at hown'
  have hp : PB w1 (l ++ m) v' w' := by
    unfold PB
    rw [List.length_append]
    exact PV.of hown' ((ho.trans hW).trans_of (Only.of_grown_own (S := fun k => w1.heap.size ≤ k) hg (fun g e => (hown2.lt g e).1)) (fun k hk hs => by omega))
  obtain ⟨A, c, hv', _⟩ := hp.row
  rw [List.length_append] at hv'
  subst hv'
  refine ⟨A, c, w', hr, hp, Only.of_grown_own (S := fun k => v.ownBlock = some k) hg (fun g e => e), fun g e => ?_⟩
  rcases hat with h | h
  · exact .inl (h ▸ e)
  · rw [h] at e; cases e; exact .inr (Nat.le_refl _)
theorem PB.one {w1 W W2 : World} {l : List UInt8} {v : Value} (h : PB w1 l v W) (hW : Only (fun _ => False) W W2) (hn : l.length ≤ 100000) (q : Nat) (x : UInt8) (hq : Blk W2 q 5 #[.int .u8 x.toNat]) :
    ∃ A' c' w', (Builtin.append_ #[67, 67] 67 #[v, .slice (some ⟨q, 0, none⟩) 1 1]).run Try.prog W2 = .ok (.slice A' (l.length + 1) c') w' ∧ PB w1 (l ++ [x]) (.slice A' (l.length + 1) c') w' ∧
      Only (fun k => v.ownBlock = some k) W2 w' ∧ ∀ g, (Value.slice A' (l.length + 1) c').ownBlock = some g → v.ownBlock = some g ∨ W2.heap.size ≤ g :=
  h.cells hW hn q 0 [x] 1 (fun j u hu => by
    cases j with
    | zero => cases hu; exact hq.cell 0
    | succ j => cases hu) (by simp)
theorem PB.app {w1 W W2 : World} {l : List UInt8} {v : Value} (h : PB w1 l v W) (hW : Only (fun _ => False) W W2) (hn : l.length ≤ 100000) (A2 : Option Addr) (m : List UInt8) (c2 : Nat) (hm : RowB W2 A2 m c2) (hm0 : 0 < m.length) (hm1 : m.length ≤ 100000) :
    ∃ A' c' w', (Builtin.append_ #[67, 67] 67 #[v, .slice A2 m.length c2]).run Try.prog W2 = .ok (.slice A' (l.length + m.length) c') w' ∧ PB w1 (l ++ m) (.slice A' (l.length + m.length) c') w' ∧
      Only (fun k => v.ownBlock = some k) W2 w' ∧ ∀ g, (Value.slice A' (l.length + m.length) c').ownBlock = some g → v.ownBlock = some g ∨ W2.heap.size ≤ g := by
  obtain ⟨b, o, rfl, hb, hc⟩ := hm.1.2 hm0
  exact h.cells hW hn b o m c2 hc hm1
theorem PB.str {w1 W W2 : World} {l : List UInt8} {v : Value} (h : PB w1 l v W) (hW : Only (fun _ => False) W W2) (hn : l.length ≤ 100000) (s : ByteArray) (hs : s.size ≤ 100000) :
    ∃ A' c' w', (Builtin.append_ #[67, 9] 67 #[v, .string s]).run Try.prog W2 = .ok (.slice A' (l.length + s.size) c') w' ∧ PB w1 (l ++ s.data.toList) (.slice A' (l.length + s.size) c') w' ∧ Only (fun k => v.ownBlock = some k) W2 w' := by
  obtain ⟨i, hi, hi0, hi1, hi2⟩ := info_of info5k
  obtain ⟨A, c', hv, hA, hc, hown, ho⟩ := h
  have hown2 := ownsRow_only hown hW (fun _ _ x => x)
  obtain ⟨v', w', hr, hown', hg, _⟩ := Lib.run_append_own_string (P := Try.prog) W2 w1.heap.size 67 9 67 5 i und67 (by kernel_rfl) hi hi0 hi1 hi2 v _ _ hown2 s (by unfold maxLen; omega) (by omega) (ho.trans hW).size
  rw [bc_str, ← bc_app] at hown'
  have hp : PB w1 (l ++ s.data.toList) v' w' := by
    unfold PB
    rw [List.length_append, length_toList]
    exact PV.of hown' ((ho.trans hW).trans_of (Only.of_grown_own (S := fun k => w1.heap.size ≤ k) hg (fun g e => (hown2.lt g e).1)) (fun k hk hs => by omega))
  obtain ⟨A, c, hv', _⟩ := hp.row
  rw [List.length_append, length_toList] at hv'
  subst hv'
  exact ⟨A, c, w', hr, hp, Only.of_grown_own (S := fun k => v.ownBlock = some k) hg (fun g e => e)⟩
end Go.Proofs.Ytnclappdokhciaa
