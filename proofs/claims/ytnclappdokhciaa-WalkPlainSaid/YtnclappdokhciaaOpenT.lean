/-
  A slice of things, opened.
-/
import Derived.Test.YtnclappdokhciaaOpenE
import Derived.Test.YtnclappdokhciaaK1
namespace Go.Proofs.Ytnclappdokhciaa
open Go Go.RowKit Go.ChangeShapes Go.WideShapes Go.ChangeAt Go.Deep
set_option linter.unusedVariables false
/-- Names as long as a string may be. -/
def Long (l : List Ent) : Prop := ∀ e ∈ l, e.nm.size ≤ 9223372036854775807
theorem Try.cells98 : Try.prog.cellsOf 98 = 3 := by kernel_rfl
theorem Try.cells66 : Try.prog.cellsOf 66 = 1 := by kernel_rfl
theorem Try.cells26 : Try.prog.cellsOf 26 = 1 := by kernel_rfl
set_option maxRecDepth 20000 in
theorem open_ent2 {H : Type} {enc : TypeId × Value → H} {w : World} {fuel : Nat} {cs : List Value} {x : DataW H × List MemPlace} (h : DataW.trod enc Try.prog w 0 (fun _ => true) true fuel 79 cs = some x) (hlen : cs.length = 3) :
    ∃ e : Ent, cs = e.cells ∧ e.nm.size ≤ 9223372036854775807 := by
  obtain ⟨y0, y1, y2, k, _, _, g0, g1, g2⟩ := trod_struct3 Try.underlying79 h
  match cs, hlen with
  | [v0, v1, v2], _ =>
    simp [Try.cells9, Try.cells5, Try.cells46] at g0 g1 g2
    obtain ⟨s, z0, _, w0⟩ := DataW.trod_string Try.underlying9 g0
    obtain ⟨n1, z1, _, w1⟩ := DataW.trod_int Try.underlying46 g1
    obtain ⟨n2, z2, _, w2⟩ := DataW.trod_int Try.underlying5 g2
    simp at z0 z1 z2
    subst z0 z1 z2
    obtain ⟨a1, b1⟩ := bd16 w1
    obtain ⟨a2, b2⟩ := bd8 w2
    obtain ⟨m1, rfl⟩ := Int.eq_ofNat_of_zero_le a1
    obtain ⟨m2, rfl⟩ := Int.eq_ofNat_of_zero_le a2
    exact ⟨⟨s, m1, m2⟩, rfl, w0⟩
set_option maxRecDepth 20000 in
theorem open_ents2 {H : Type} {enc : TypeId × Value → H} {w : World} {fuel len cap : Nat} {A : Option Addr} {x : DataW H × List MemPlace}
    (h : DataW.trod enc Try.prog w 0 (fun _ => true) true fuel 66 [.slice A len cap] = some x) : ∃ l : List Ent, l.length = len ∧ RowE w A l cap ∧ Long l := by
  rcases open_slice Try.underlying66 h with ⟨h0, _⟩ | ⟨a, len', cap', m, n, D, Pl, h0, hb, hl, hm, hmm, _, hx⟩
  · simp at h0
    obtain ⟨rfl, rfl, rfl⟩ := h0
    exact ⟨[], rfl, RowE.nil w, fun e he => by cases he⟩
  · simp at h0
    obtain ⟨rfl, rfl, rfl⟩ := h0
    have hlm : len ≤ m := by simp at hmm; omega
    rcases Nat.eq_zero_or_pos len with rfl | hpos
    · exact ⟨[], rfl, ⟨Reads.nil_ _ _ _, Nat.zero_le _, fun e => by cases e⟩, fun e he => by cases he⟩
    have hsp : a.spot = none := by
      obtain ⟨cs', h1, _⟩ := hx 0 (by omega)
      rw [Try.cells79] at h1
      obtain ⟨_, hlen, hcell⟩ := World.cells?_some h1
      have c0 := hcell 0 (by omega)
      match cs', hlen with
      | [v0, v1, v2], _ => exact spot_none (a := a) (by simpa [Addr.add] using c0)
    obtain ⟨ab, ao, sp⟩ := a
    simp only at hsp
    subst hsp
    have each : ∀ i, i < len → ∃ e : Ent, ab < w.heap.size ∧ e.nm.size ≤ 9223372036854775807 ∧ ∀ r u, e.cells[r]? = some u → w.cell? ⟨ab, ao + (i * 3 + r), none⟩ = some u := by
      intro i hi
      obtain ⟨cs', h1, h2⟩ := hx i (by omega)
      rw [Try.cells79] at h1
      obtain ⟨_, hlen, hcell⟩ := World.cells?_some h1
      obtain ⟨e, rfl, b1⟩ := open_ent2 h2 hlen
      have c0 := hcell 0 (by omega)
      rw [Go.Deep.add_add, add_lit] at c0
      refine ⟨e, World.block_lt_of_cell? _ _ c0, b1, fun r u hu => ?_⟩
      have hr : r < 3 := by have := (List.getElem?_eq_some_iff.1 hu).1; simpa [Ent.cells] using this
      have cr := hcell r (by omega)
      rw [Go.Deep.add_add, add_lit] at cr
      rw [cr]
      have hr2 : r < e.cells.length := by simpa [Ent.cells] using hr
      rw [List.getElem?_eq_getElem hr2] at hu
      cases hu
      simp [List.getElem?_eq_getElem hr2]
    obtain ⟨l, hl1, hl2⟩ := list_of each
    refine ⟨l, hl1, ⟨⟨by rw [ents_len], fun _ => ⟨ab, ao, rfl, ?_, fun j u hu => ?_⟩⟩, by omega, fun e => by cases e⟩, fun e he => ?_⟩
    · exact (hl2 0 l[0] (List.getElem?_eq_getElem (by omega))).1
    · obtain ⟨i, r, e, rfl, hr, hi, hu⟩ := ents_get l j u hu
      exact (hl2 i e hi).2.2 r u hu
    · obtain ⟨i, hi⟩ := List.getElem?_of_mem he
      exact (hl2 i e hi).2.1
set_option maxRecDepth 20000 in
theorem open_thing {H : Type} {enc : TypeId × Value → H} {w : World} {fuel : Nat} {cs : List Value} {x : DataW H × List MemPlace} (h : DataW.trod enc Try.prog w 0 (fun _ => true) true fuel 98 cs = some x) (hlen : cs.length = 3) :
    ∃ t : Thg, cs = t.cells ∧ RowE w t.A t.L t.c ∧ Long t.L := by
  obtain ⟨y0, y1, y2, k, _, _, g0, g1, g2⟩ := trod_struct3 Try.underlying98 h
  match cs, hlen with
  | [v0, v1, v2], _ =>
    simp [Try.cells9, Try.cells66, Try.cells26] at g0 g1 g2
    obtain ⟨s, z1, _, w0⟩ := DataW.trod_string Try.underlying9 g1
    obtain ⟨n2, z2, _, w2⟩ := DataW.trod_int Try.underlying26 g2
    simp at z1 z2
    subst z1 z2
    have hv : ∃ A n c, v0 = .slice A n c := by
      rcases open_slice Try.underlying66 g0 with ⟨h0, _⟩ | ⟨a, len', cap', m, n, D, Pl, h0, _⟩
      · simp at h0; exact ⟨_, _, _, h0⟩
      · simp at h0; exact ⟨_, _, _, h0⟩
    obtain ⟨A, n, c, rfl⟩ := hv
    obtain ⟨l, rfl, hl, hL⟩ := open_ents2 g0
    exact ⟨⟨A, c, l, s, n2⟩, rfl, hl, hL⟩
theorem ths_get (l : List Thg) (j : Nat) (u : Value) (h : (ths l)[j]? = some u) : ∃ i r e, j = i * 3 + r ∧ r < 3 ∧ l[i]? = some e ∧ e.cells[r]? = some u := by
  have hj : j < l.length * 3 := by have := (List.getElem?_eq_some_iff.1 h).1; rwa [ths_len] at this
  have hi : j / 3 < l.length := by omega
  refine ⟨j / 3, j % 3, l[j / 3], by omega, by omega, List.getElem?_eq_getElem hi, ?_⟩
  obtain ⟨h0, h1, h2⟩ := ths_at l (j / 3) l[j / 3] (List.getElem?_eq_getElem hi)
  rcases (show j % 3 = 0 ∨ j % 3 = 1 ∨ j % 3 = 2 by omega) with hr | hr | hr
  · rw [show j / 3 * 3 = j by omega, h] at h0; rw [hr, h0]; rfl
  · rw [show j / 3 * 3 + 1 = j by omega, h] at h1; rw [hr, h1]; rfl
  · rw [show j / 3 * 3 + 2 = j by omega, h] at h2; rw [hr, h2]; rfl
instance : Inhabited Thg := ⟨⟨none, 0, [], ⟨#[]⟩, 0⟩⟩
set_option maxRecDepth 20000 in
theorem open_things {H : Type} {enc : TypeId × Value → H} {w : World} {fuel len cap : Nat} {A : Option Addr} {x : DataW H × List MemPlace}
    (h : DataW.trod enc Try.prog w 0 (fun _ => true) true fuel 40 [.slice A len cap] = some x) : ∃ l : List Thg, l.length = len ∧ RowT w A l cap ∧ ∀ t ∈ l, Long t.L := by
  rcases open_slice Try.underlying40 h with ⟨h0, _⟩ | ⟨a, len', cap', m, n, D, Pl, h0, hb, hl, hm, hmm, _, hx⟩
  · simp at h0
    obtain ⟨rfl, rfl, rfl⟩ := h0
    exact ⟨[], rfl, RowT.nil w, fun e he => by cases he⟩
  · simp at h0
    obtain ⟨rfl, rfl, rfl⟩ := h0
    have hlm : len ≤ m := by simp at hmm; omega
    rcases Nat.eq_zero_or_pos len with rfl | hpos
    · exact ⟨[], rfl, ⟨Reads.nil_ _ _ _, ⟨Nat.zero_le _, fun e => by cases e⟩, fun e he => by cases he⟩, fun e he => by cases he⟩
    have hsp : a.spot = none := by
      obtain ⟨cs', h1, _⟩ := hx 0 (by omega)
      rw [Try.cells98] at h1
      obtain ⟨_, hlen, hcell⟩ := World.cells?_some h1
      have c0 := hcell 0 (by omega)
      match cs', hlen with
      | [v0, v1, v2], _ => exact spot_none (a := a) (by simpa [Addr.add] using c0)
    obtain ⟨ab, ao, sp⟩ := a
    simp only at hsp
    subst hsp
    have each : ∀ i, i < len → ∃ e : Thg, ab < w.heap.size ∧ RowE w e.A e.L e.c ∧ Long e.L ∧ ∀ r u, e.cells[r]? = some u → w.cell? ⟨ab, ao + (i * 3 + r), none⟩ = some u := by
      intro i hi
      obtain ⟨cs', h1, h2⟩ := hx i (by omega)
      rw [Try.cells98] at h1
      obtain ⟨_, hlen, hcell⟩ := World.cells?_some h1
      obtain ⟨e, rfl, b1, b2⟩ := open_thing h2 hlen
      have c0 := hcell 0 (by omega)
      rw [Go.Deep.add_add, add_lit] at c0
      refine ⟨e, World.block_lt_of_cell? _ _ c0, b1, b2, fun r u hu => ?_⟩
      have hr : r < 3 := by have := (List.getElem?_eq_some_iff.1 hu).1; simpa [Thg.cells] using this
      have cr := hcell r (by omega)
      rw [Go.Deep.add_add, add_lit] at cr
      rw [cr]
      have hr2 : r < e.cells.length := by simpa [Thg.cells] using hr
      rw [List.getElem?_eq_getElem hr2] at hu
      cases hu
      simp [List.getElem?_eq_getElem hr2]
    obtain ⟨l, hl1, hl2⟩ := list_of each
    refine ⟨l, hl1, ⟨⟨by rw [ths_len], fun _ => ⟨ab, ao, rfl, ?_, fun j u hu => ?_⟩⟩, ⟨by omega, fun e => by cases e⟩, fun e he => ?_⟩, fun e he => ?_⟩
    · exact (hl2 0 l[0] (List.getElem?_eq_getElem (by omega))).1
    · obtain ⟨i, r, e, rfl, hr, hi, hu⟩ := ths_get l j u hu
      exact (hl2 i e hi).2.2.2 r u hu
    · obtain ⟨i, hi⟩ := List.getElem?_of_mem he
      exact (hl2 i e hi).2.1
    · obtain ⟨i, hi⟩ := List.getElem?_of_mem he
      exact (hl2 i e hi).2.2.1
end Go.Proofs.Ytnclappdokhciaa
