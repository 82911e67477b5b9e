/-
  A slice of acts, opened.
-/
import Derived.Test.YtpkadhgoaaphkaaAc
import Derived.Test.YtpkadhgoaaphkaaLift
import Derived.Lib.SmallJoins
import Derived.Deep.Slices
import Derived.Deep.Strs
namespace Go.Proofs.Ytpkadhgoaaphkaa
open Go Go.RowKit Go.ChangeShapes Go.WideShapes Go.ChangeAt Go.Deep
set_option linter.unusedVariables false
theorem spot_none {w : World} {a : Addr} {v : Value} (h : w.cell? a = some v) : a.spot = none := by
  unfold World.cell? at h
  split at h
  · cases hs : a.spot with
    | none => rfl
    | some s => simp [hs] at h
  · cases h
theorem bd8 {n : Int} (h : (Lit.int .u8 n).wf = true) : 0 ≤ n ∧ n ≤ 255 := by simpa [Lit.wf, IntKind.min, IntKind.max, IntKind.signed, IntKind.bits] using h
theorem Try.cells5 : Try.prog.cellsOf 5 = 1 := by kernel_rfl
theorem Try.cells3 : Try.prog.cellsOf 3 = 1 := by kernel_rfl
theorem Try.cells24 : Try.prog.cellsOf 24 = 1 := by kernel_rfl
theorem Try.cells26 : Try.prog.cellsOf 26 = 4 := by kernel_rfl
theorem list_of {α : Type} [Inhabited α] {len : Nat} {R : Nat → α → Prop} (h : ∀ i, i < len → ∃ x, R i x) : ∃ l : List α, l.length = len ∧ ∀ i x, l[i]? = some x → R i x := by
  obtain ⟨q, hq⟩ := choose_lt h
  refine ⟨(List.range len).map q, by simp, fun i x hx => ?_⟩
  have hil : i < len := by have := (List.getElem?_eq_some_iff.1 hx).1; simpa using this
  rw [List.getElem?_map, List.getElem?_range hil] at hx
  simp only [Option.map_some, Option.some.injEq] at hx
  subst hx
  exact hq i hil
theorem u8n' (n : Nat) (h : n < 256) : ((UInt8.ofNat n).toNat : Int) = (n : Int) := by
  rw [UInt8.toNat_ofNat']; omega
set_option maxRecDepth 20000 in
theorem open_byts {H : Type} {enc : TypeId × Value → H} {w : World} {fuel len cap : Nat} {A : Option Addr} {x : DataW H × List MemPlace}
    (h : DataW.trod enc Try.prog w 0 (fun _ => true) true fuel 24 [.slice A len cap] = some x) : ∃ l : List UInt8, l.length = len ∧ (Reads w w.heap.size A l.length (Lib.byteCells l) ∧ l.length ≤ cap) := by
  rcases open_slice und24 h with ⟨h0, _⟩ | ⟨a, len', cap', m, n, D, Pl, h0, hb, hl, hm, hmm, _, hx⟩
  · simp at h0
    obtain ⟨rfl, rfl, rfl⟩ := h0
    exact ⟨[], rfl, ⟨Reads.nil_ _ _ _, Nat.le_refl _⟩⟩
  · simp at h0
    obtain ⟨rfl, rfl, rfl⟩ := h0
    have hlm : len ≤ m := by simp at hmm; omega
    rcases Nat.eq_zero_or_pos len with rfl | hpos
    · exact ⟨[], rfl, ⟨Reads.nil_ _ _ _, Nat.zero_le _⟩⟩
    have hsp : a.spot = none := by
      obtain ⟨cs', h1, _⟩ := hx 0 (by omega)
      rw [Try.cells5] at h1
      obtain ⟨_, hlen, hcell⟩ := World.cells?_some h1
      have c0 := hcell 0 (by omega)
      match cs', hlen with
      | [v0], _ => exact spot_none (a := a) (by simpa [Addr.add] using c0)
    obtain ⟨ab, ao, sp⟩ := a
    simp only at hsp
    subst hsp
    have each : ∀ i, i < len → ∃ e : UInt8, ab < w.heap.size ∧ w.cell? ⟨ab, ao + i, none⟩ = some (.int .u8 e.toNat) := by
      intro i hi
      obtain ⟨cs', h1, h2⟩ := hx i (by omega)
      rw [Try.cells5] at h1
      obtain ⟨_, hlen, hcell⟩ := World.cells?_some h1
      have c0 := hcell 0 (by omega)
      rw [Go.Deep.add_add, add_lit] at c0
      match cs', hlen with
      | [v0], _ =>
        obtain ⟨n0, z0, _, w0⟩ := DataW.trod_int Try.underlying5 h2
        simp at z0
        subst z0
        obtain ⟨a2, b2⟩ := bd8 w0
        obtain ⟨m2, rfl⟩ := Int.eq_ofNat_of_zero_le a2
        refine ⟨UInt8.ofNat m2, World.block_lt_of_cell? _ _ c0, ?_⟩
        rw [u8n' m2 (by omega)]
        simpa using c0
    obtain ⟨l, hl1, hl2⟩ := list_of each
    refine ⟨l, hl1, ⟨⟨by simp [Lib.byteCells], fun _ => ⟨ab, ao, rfl, ?_, fun j u hu => ?_⟩⟩, by omega⟩⟩
    · exact (hl2 0 l[0] (List.getElem?_eq_getElem (by omega))).1
    · unfold Lib.byteCells at hu
      rw [List.getElem?_map] at hu
      cases hj : l[j]? with
      | none => rw [hj] at hu; cases hu
      | some y =>
        rw [hj] at hu
        cases hu
        exact (hl2 j y hj).2
set_option maxRecDepth 20000 in
theorem open_act {H : Type} {enc : TypeId × Value → H} {w : World} {fuel : Nat} {cs : List Value} {x : DataW H × List MemPlace} (h : DataW.trod enc Try.prog w 0 (fun _ => true) true fuel 26 cs = some x) (hlen : cs.length = 4) :
    ∃ t : Ac, cs = t.cells ∧ Reads w w.heap.size t.A t.b.length (Lib.byteCells t.b) ∧ t.b.length ≤ t.c := by
  obtain ⟨y0, y1, y2, y3, k, _, _, g0, g1, g2, g3⟩ := Joins.trod_struct4 Try.underlying26 h
  match cs, hlen with
  | [v0, v1, v2, v3], _ =>
    simp [Try.cells5, Try.cells3, Try.cells24] at g0 g1 g2 g3
    obtain ⟨n0, z0, _, w0⟩ := DataW.trod_int Try.underlying5 g0
    obtain ⟨n1, z1, _, w1⟩ := DataW.trod_int Try.underlying3 g1
    obtain ⟨n2, z2, _, w2⟩ := DataW.trod_int Try.underlying3 g2
    simp at z0 z1 z2
    subst z0 z1 z2
    obtain ⟨a1, b1⟩ := bd8 w0
    obtain ⟨m0, rfl⟩ := Int.eq_ofNat_of_zero_le a1
    have hv : ∃ A n c, v3 = .slice A n c := by
      rcases open_slice und24 g3 with ⟨h0, _⟩ | ⟨a, len', cap', m, n, D, Pl, h0, _⟩
      · simp at h0; exact ⟨_, _, _, h0⟩
      · simp at h0; exact ⟨_, _, _, h0⟩
    obtain ⟨A, n, c, rfl⟩ := hv
    obtain ⟨l, rfl, hl⟩ := open_byts g3
    exact ⟨⟨m0, n1, n2, A, c, l⟩, rfl, hl⟩
theorem acs_get (l : List Ac) (j : Nat) (u : Value) (h : (acs l)[j]? = some u) : ∃ i r e, j = i * 4 + r ∧ r < 4 ∧ l[i]? = some e ∧ e.cells[r]? = some u := by
  have hj : j < l.length * 4 := by have := (List.getElem?_eq_some_iff.1 h).1; rwa [acs_len] at this
  have hi : j / 4 < l.length := by omega
  refine ⟨j / 4, j % 4, l[j / 4], by omega, by omega, List.getElem?_eq_getElem hi, ?_⟩
  obtain ⟨h0, h1, h2, h3⟩ := acs_at l (j / 4) l[j / 4] (List.getElem?_eq_getElem hi)
  rcases (show j % 4 = 0 ∨ j % 4 = 1 ∨ j % 4 = 2 ∨ j % 4 = 3 by omega) with hr | hr | hr | hr
  · rw [show j / 4 * 4 = j by omega, h] at h0; rw [hr, h0]; rfl
  · rw [show j / 4 * 4 + 1 = j by omega, h] at h1; rw [hr, h1]; rfl
  · rw [show j / 4 * 4 + 2 = j by omega, h] at h2; rw [hr, h2]; rfl
  · rw [show j / 4 * 4 + 3 = j by omega, h] at h3; rw [hr, h3]; rfl
instance : Inhabited Ac := ⟨⟨0, 0, 0, none, 0, []⟩⟩
set_option maxRecDepth 20000 in
theorem open_acts {H : Type} {enc : TypeId × Value → H} {w : World} {fuel len cap : Nat} {A : Option Addr} {x : DataW H × List MemPlace}
    (h : DataW.trod enc Try.prog w 0 (fun _ => true) true fuel 22 [.slice A len cap] = some x) : ∃ l : List Ac, l.length = len ∧ RowAc w A l cap := by
  rcases open_slice Try.underlying22 h with ⟨h0, _⟩ | ⟨a, len', cap', m, n, D, Pl, h0, hb, hl, hm, hmm, _, hx⟩
  · simp at h0
    obtain ⟨rfl, rfl, rfl⟩ := h0
    exact ⟨[], rfl, ⟨Reads.nil_ _ _ _, Nat.le_refl _, fun e he => by cases he⟩⟩
  · simp at h0
    obtain ⟨rfl, rfl, rfl⟩ := h0
    have hlm : len ≤ m := by simp at hmm; omega
    rcases Nat.eq_zero_or_pos len with rfl | hpos
    · exact ⟨[], rfl, ⟨Reads.nil_ _ _ _, Nat.zero_le _, fun e he => by cases he⟩⟩
    have hsp : a.spot = none := by
      obtain ⟨cs', h1, _⟩ := hx 0 (by omega)
      rw [Try.cells26] at h1
      obtain ⟨_, hlen, hcell⟩ := World.cells?_some h1
      have c0 := hcell 0 (by omega)
      match cs', hlen with
      | [v0, v1, v2, v3], _ => exact spot_none (a := a) (by simpa [Addr.add] using c0)
    obtain ⟨ab, ao, sp⟩ := a
    simp only at hsp
    subst hsp
    have each : ∀ i, i < len → ∃ e : Ac, ab < w.heap.size ∧ (Reads w w.heap.size e.A e.b.length (Lib.byteCells e.b) ∧ e.b.length ≤ e.c) ∧ ∀ r u, e.cells[r]? = some u → w.cell? ⟨ab, ao + (i * 4 + r), none⟩ = some u := by
      intro i hi
      obtain ⟨cs', h1, h2⟩ := hx i (by omega)
      rw [Try.cells26] at h1
      obtain ⟨_, hlen, hcell⟩ := World.cells?_some h1
      obtain ⟨e, rfl, b1⟩ := open_act h2 hlen
      have c0 := hcell 0 (by omega)
      rw [Go.Deep.add_add, add_lit] at c0
      refine ⟨e, World.block_lt_of_cell? _ _ c0, b1, fun r u hu => ?_⟩
      have hr : r < 4 := by have := (List.getElem?_eq_some_iff.1 hu).1; simpa [Ac.cells] using this
      have cr := hcell r (by omega)
      rw [Go.Deep.add_add, add_lit] at cr
      rw [cr]
      have hr2 : r < e.cells.length := by simpa [Ac.cells] using hr
      rw [List.getElem?_eq_getElem hr2] at hu
      cases hu
      simp [List.getElem?_eq_getElem hr2]
    obtain ⟨l, hl1, hl2⟩ := list_of each
    refine ⟨l, hl1, ⟨⟨by rw [acs_len], fun _ => ⟨ab, ao, rfl, ?_, fun j u hu => ?_⟩⟩, by omega, fun e he => ?_⟩⟩
    · exact (hl2 0 l[0] (List.getElem?_eq_getElem (by omega))).1
    · obtain ⟨i, r, e, rfl, hr, hi, hu⟩ := acs_get l j u hu
      exact (hl2 i e hi).2.2 r u hu
    · obtain ⟨i, hi⟩ := List.getElem?_of_mem he
      exact (hl2 i e hi).2.1
end Go.Proofs.Ytpkadhgoaaphkaa
