/-
  A slice of entries, a slice of bytes, opened.
-/
import Derived.Test.YtnclappdokhciaaOpen
import Derived.Test.YtnclappdokhciaaD5
import Derived.Deep.Slices
import Derived.Deep.Strs
namespace Go.Proofs.Ytnclappdokhciaa
open Go Go.RowKit Go.ChangeShapes Go.WideShapes Go.ChangeAt Go.Deep
set_option linter.unusedVariables false

theorem bd8 {n : Int} (h : (Lit.int .u8 n).wf = true) : 0 ≤ n ∧ n ≤ 255 := by simpa [Lit.wf, IntKind.min, IntKind.max, IntKind.signed, IntKind.bits] using h
theorem bd16 {n : Int} (h : (Lit.int .u16 n).wf = true) : 0 ≤ n ∧ n ≤ 65535 := by simpa [Lit.wf, IntKind.min, IntKind.max, IntKind.signed, IntKind.bits] using h
theorem Try.cells79 : Try.prog.cellsOf 79 = 3 := by kernel_rfl
theorem Try.cells5 : Try.prog.cellsOf 5 = 1 := by kernel_rfl
theorem Try.cells9 : Try.prog.cellsOf 9 = 1 := by kernel_rfl
theorem Try.cells46 : Try.prog.cellsOf 46 = 1 := by kernel_rfl
theorem list_of {α : Type} [Inhabited α] {len : Nat} {R : Nat → α → Prop} (h : ∀ i, i < len → ∃ x, R i x) : ∃ l : List α, l.length = len ∧ ∀ i x, l[i]? = some x → R i x := by
  obtain ⟨q, hq⟩ := choose_lt h
  refine ⟨(List.range len).map q, by simp, fun i x hx => ?_⟩
  have hil : i < len := by have := (List.getElem?_eq_some_iff.1 hx).1; simpa using this
  rw [List.getElem?_map, List.getElem?_range hil] at hx
  simp only [Option.map_some, Option.some.injEq] at hx
  subst hx
  exact hq i hil
set_option maxRecDepth 20000 in
theorem open_ent {H : Type} {enc : TypeId × Value → H} {w : World} {fuel : Nat} {cs : List Value} {x : DataW H × List MemPlace} (h : DataW.trod enc Try.prog w 0 (fun _ => true) true fuel 79 cs = some x) (hlen : cs.length = 3) :
    ∃ e : Ent, cs = e.cells ∧ e.num ≤ 65535 ∧ e.kind ≤ 255 := by
  obtain ⟨y0, y1, y2, k, _, _, g0, g1, g2⟩ := trod_struct3 Try.underlying79 h
  match cs, hlen with
  | [v0, v1, v2], _ =>
    simp [Try.cells9, Try.cells5, Try.cells46] at g0 g1 g2
    obtain ⟨s, z0, _, w0⟩ := DataW.trod_string Try.underlying9 g0
    obtain ⟨n1, z1, _, w1⟩ := DataW.trod_int Try.underlying46 g1
    obtain ⟨n2, z2, _, w2⟩ := DataW.trod_int Try.underlying5 g2
    simp at z0 z1 z2
    subst z0 z1 z2
    obtain ⟨a1, b1⟩ := bd16 w1
    obtain ⟨a2, b2⟩ := bd8 w2
    obtain ⟨m1, rfl⟩ := Int.eq_ofNat_of_zero_le a1
    obtain ⟨m2, rfl⟩ := Int.eq_ofNat_of_zero_le a2
    exact ⟨⟨s, m1, m2⟩, rfl, by simp only; omega, by simp only; omega⟩
theorem ents_get (l : List Ent) (j : Nat) (u : Value) (h : (ents l)[j]? = some u) : ∃ i r e, j = i * 3 + r ∧ r < 3 ∧ l[i]? = some e ∧ e.cells[r]? = some u := by
  have hj : j < l.length * 3 := by have := (List.getElem?_eq_some_iff.1 h).1; rwa [ents_len] at this
  have hi : j / 3 < l.length := by omega
  refine ⟨j / 3, j % 3, l[j / 3], by omega, by omega, List.getElem?_eq_getElem hi, ?_⟩
  obtain ⟨h0, h1, h2⟩ := ents_at l (j / 3) l[j / 3] (List.getElem?_eq_getElem hi)
  rcases (show j % 3 = 0 ∨ j % 3 = 1 ∨ j % 3 = 2 by omega) with hr | hr | hr
  · rw [show j / 3 * 3 = j by omega, h] at h0; rw [hr, h0]; rfl
  · rw [show j / 3 * 3 + 1 = j by omega, h] at h1; rw [hr, h1]; rfl
  · rw [show j / 3 * 3 + 2 = j by omega, h] at h2; rw [hr, h2]; rfl
instance : Inhabited Ent := ⟨⟨⟨#[]⟩, 0, 0⟩⟩
set_option maxRecDepth 20000 in
theorem open_ents {H : Type} {enc : TypeId × Value → H} {w : World} {fuel len cap : Nat} {A : Option Addr} {x : DataW H × List MemPlace}
    (h : DataW.trod enc Try.prog w 0 (fun _ => true) true fuel 66 [.slice A len cap] = some x) : ∃ l : List Ent, l.length = len ∧ RowE w A l cap ∧ ∀ e ∈ l, e.num ≤ 65535 ∧ e.kind ≤ 255 := by
  rcases open_slice Try.underlying66 h with ⟨h0, _⟩ | ⟨a, len', cap', m, n, D, Pl, h0, hb, hl, hm, hmm, _, hx⟩
  · simp at h0
    obtain ⟨rfl, rfl, rfl⟩ := h0
    exact ⟨[], rfl, RowE.nil w, by simp⟩
  · simp at h0
    obtain ⟨rfl, rfl, rfl⟩ := h0
    have hlm : len ≤ m := by simp at hmm; omega
    rcases Nat.eq_zero_or_pos len with rfl | hpos
    · exact ⟨[], rfl, ⟨Reads.nil_ _ _ _, Nat.zero_le _, fun e => by cases e⟩, by simp⟩
    have hsp : a.spot = none := by
      obtain ⟨cs', h1, _⟩ := hx 0 (by omega)
      rw [Try.cells79] at h1
      obtain ⟨_, hlen, hcell⟩ := World.cells?_some h1
      have c0 := hcell 0 (by omega)
      match cs', hlen with
      | [v0, v1, v2], _ => exact spot_none (a := a) (by simpa [Addr.add] using c0)
    obtain ⟨ab, ao, sp⟩ := a
    simp only at hsp
    subst hsp
    have each : ∀ i, i < len → ∃ e : Ent, ab < w.heap.size ∧ e.num ≤ 65535 ∧ e.kind ≤ 255 ∧ ∀ r u, e.cells[r]? = some u → w.cell? ⟨ab, ao + (i * 3 + r), none⟩ = some u := by
      intro i hi
      obtain ⟨cs', h1, h2⟩ := hx i (by omega)
      rw [Try.cells79] at h1
      obtain ⟨_, hlen, hcell⟩ := World.cells?_some h1
      obtain ⟨e, rfl, b1, b2⟩ := open_ent h2 hlen
      have c0 := hcell 0 (by omega)
      rw [Go.Deep.add_add, add_lit] at c0
      refine ⟨e, World.block_lt_of_cell? _ _ c0, b1, b2, fun r u hu => ?_⟩
      have hr : r < 3 := by have := (List.getElem?_eq_some_iff.1 hu).1; simpa [Ent.cells] using this
      have cr := hcell r (by omega)
      rw [Go.Deep.add_add, add_lit] at cr
      rw [cr]
      have hr2 : r < e.cells.length := by simpa [Ent.cells] using hr
      rw [List.getElem?_eq_getElem hr2] at hu
      cases hu
      simp [List.getElem?_eq_getElem hr2]
    obtain ⟨l, hl1, hl2⟩ := list_of each
    refine ⟨l, hl1, ⟨⟨by rw [ents_len], fun _ => ⟨ab, ao, rfl, ?_, fun j u hu => ?_⟩⟩, by omega, fun e => by cases e⟩, fun e he => ?_⟩
    · exact (hl2 0 l[0] (List.getElem?_eq_getElem (by omega))).1
    · obtain ⟨i, r, e, rfl, hr, hi, hu⟩ := ents_get l j u hu
      exact (hl2 i e hi).2.2.2 r u hu
    · obtain ⟨i, hi⟩ := List.getElem?_of_mem he
      exact ⟨(hl2 i e hi).2.1, (hl2 i e hi).2.2.1⟩
theorem u8n' (n : Nat) (h : n < 256) : ((UInt8.ofNat n).toNat : Int) = (n : Int) := by
  rw [UInt8.toNat_ofNat']; omega
set_option maxRecDepth 20000 in
theorem open_byts {H : Type} {enc : TypeId × Value → H} {w : World} {fuel len cap : Nat} {A : Option Addr} {x : DataW H × List MemPlace}
    (h : DataW.trod enc Try.prog w 0 (fun _ => true) true fuel 67 [.slice A len cap] = some x) : ∃ l : List UInt8, l.length = len ∧ RowB w A l cap := by
  rcases open_slice und67 h with ⟨h0, _⟩ | ⟨a, len', cap', m, n, D, Pl, h0, hb, hl, hm, hmm, _, hx⟩
  · simp at h0
    obtain ⟨rfl, rfl, rfl⟩ := h0
    exact ⟨[], rfl, RowB.nil w⟩
  · simp at h0
    obtain ⟨rfl, rfl, rfl⟩ := h0
    have hlm : len ≤ m := by simp at hmm; omega
    rcases Nat.eq_zero_or_pos len with rfl | hpos
    · exact ⟨[], rfl, ⟨Reads.nil_ _ _ _, Nat.zero_le _, fun e => by cases e⟩⟩
    have hsp : a.spot = none := by
      obtain ⟨cs', h1, _⟩ := hx 0 (by omega)
      rw [Try.cells5] at h1
      obtain ⟨_, hlen, hcell⟩ := World.cells?_some h1
      have c0 := hcell 0 (by omega)
      match cs', hlen with
      | [v0], _ => exact spot_none (a := a) (by simpa [Addr.add] using c0)
    obtain ⟨ab, ao, sp⟩ := a
    simp only at hsp
    subst hsp
    have each : ∀ i, i < len → ∃ e : UInt8, ab < w.heap.size ∧ w.cell? ⟨ab, ao + i, none⟩ = some (.int .u8 e.toNat) := by
      intro i hi
      obtain ⟨cs', h1, h2⟩ := hx i (by omega)
      rw [Try.cells5] at h1
      obtain ⟨_, hlen, hcell⟩ := World.cells?_some h1
      have c0 := hcell 0 (by omega)
      rw [Go.Deep.add_add, add_lit] at c0
      match cs', hlen with
      | [v0], _ =>
        obtain ⟨n0, z0, _, w0⟩ := DataW.trod_int Try.underlying5 h2
        simp at z0
        subst z0
        obtain ⟨a2, b2⟩ := bd8 w0
        obtain ⟨m2, rfl⟩ := Int.eq_ofNat_of_zero_le a2
        refine ⟨UInt8.ofNat m2, World.block_lt_of_cell? _ _ c0, ?_⟩
        rw [u8n' m2 (by omega)]
        simpa using c0
    obtain ⟨l, hl1, hl2⟩ := list_of each
    refine ⟨l, hl1, ⟨⟨by simp [Lib.byteCells], fun _ => ⟨ab, ao, rfl, ?_, fun j u hu => ?_⟩⟩, by omega, fun e => by cases e⟩⟩
    · exact (hl2 0 l[0] (List.getElem?_eq_getElem (by omega))).1
    · unfold Lib.byteCells at hu
      rw [List.getElem?_map] at hu
      cases hj : l[j]? with
      | none => rw [hj] at hu; cases hu
      | some y =>
        rw [hj] at hu
        cases hu
        exact (hl2 j y hj).2
end Go.Proofs.Ytnclappdokhciaa
