/-
  The step from a walk to a row: an argument that only was read reads as it did; a slice of Act, opened.
-/
import Derived.Test.YtlfnneljeoamlaaRows
import Derived.Test.YtlfnneljeoamlaaApart1
import Derived.WalkKit
import Derived.ProofKit
import Derived.OpenShut
import Derived.Deep.Slices
import Derived.Deep.Strs
import Derived.Deep.MidRow
namespace Go.Proofs.Ytlfnneljeoamlaa
open Go.ChangeShapes Go.WideShapes Go.ChangeAt Go.RowKit Go.Deep
set_option linter.unusedVariables false

/-- All arguments read as they did, through the same places. -/
theorem trodAll_below {H : Type} {enc : TypeId × Value → H} {P : Program} (hl : laidOutB P = true) {W W' : World} (hb : Below W.heap.size W W') :
    ∀ {ts : List TypeId} {vs : List Value} {ds : List (DataW H)} {ps : List MemPlace}, (∀ t ∈ ts, P.readableRec t = true ∧ t < P.types.size) → DataW.TrodAll enc P W 0 (fun _ => true) true ts vs ds ps →
      (∀ x ∈ ps, x.block < W.heap.size) → ∀ sp : Nat → Bool, (∀ p ∈ ps, sp p.block = true) → DataW.TrodAll enc P W' 0 sp true ts vs ds ps
  | [], vs, ds, ps, _, h, _, sp, _ => by
    obtain ⟨rfl, rfl, rfl⟩ := trodAll_nil h
    exact trodAll_mk0
  | t :: ts, vs, ds, ps, ht, h, hlt, sp, hs => by
    obtain ⟨v, vs', d, ds', p, q, rfl, rfl, rfl, h0, r0⟩ := trodAll_cons h
    refine trodAll_cons_mk ?_ (trodAll_below hl hb (fun t' h' => ht t' (List.mem_cons_of_mem _ h')) r0 (fun x hx => hlt x (List.mem_append_right _ hx)) sp (fun x hx => hs x (List.mem_append_right _ hx)))
    have := ht t (List.mem_cons_self ..)
    exact WideElems.Trod_stays hl this.1 this.2 h0 (fun x hx => hb.same (hlt x (List.mem_append_left _ hx))) (fun x hx => hs x (List.mem_append_left _ hx))

theorem Try.cells32 : Try.prog.cellsOf 32 = 3 := by kernel_rfl
theorem bd8 {n : Int} (h : (Lit.int .u8 n).wf = true) : 0 ≤ n ∧ n ≤ 255 := by simpa [Lit.wf, IntKind.min, IntKind.max, IntKind.signed, IntKind.bits] using h
theorem bd16 {n : Int} (h : (Lit.int .u16 n).wf = true) : 0 ≤ n ∧ n ≤ 65535 := by simpa [Lit.wf, IntKind.min, IntKind.max, IntKind.signed, IntKind.bits] using h

theorem spot_none {w : World} {a : Addr} {v : Value} (h : w.cell? a = some v) : a.spot = none := by
  unfold World.cell? at h
  split at h
  · cases hs : a.spot with
    | none => rfl
    | some s => simp [hs] at h
  · cases h

/-- The acts that a slice holds. -/
theorem open_acts {H : Type} {enc : TypeId × Value → H} {w : World} {fuel len cap : Nat} {A : Option Addr} {x : DataW H × List MemPlace}
    (h : DataW.trod enc Try.prog w 0 (fun _ => true) true fuel 22 [.slice A len cap] = some x) : ∃ acts : List ActV, acts.length = len ∧ ActsAt w A acts := by
  rcases open_slice Try.underlying22 h with ⟨h0, _⟩ | ⟨a, len', cap', m, n, D, Pl, h0, hb, hl, hm, hmm, _, hx⟩
  · simp at h0
    obtain ⟨rfl, rfl, rfl⟩ := h0
    exact ⟨[], rfl, fun k x hk => by simp at hk⟩
  · simp at h0
    obtain ⟨rfl, rfl, rfl⟩ := h0
    have hlm : len ≤ m := by simp at hmm; omega
    rcases Nat.eq_zero_or_pos len with rfl | hpos
    · exact ⟨[], rfl, fun k x hk => by simp at hk⟩
    have hsp : a.spot = none := by
      obtain ⟨cs', h1, _⟩ := hx 0 (by omega)
      rw [Try.cells32] at h1
      obtain ⟨_, hlen, hcell⟩ := World.cells?_some h1
      have c0 := hcell 0 (by omega)
      match cs', hlen with
      | [v0, v1, v2], _ => exact spot_none (a := a) (by simpa [Addr.add] using c0)
    obtain ⟨ab, ao, sp⟩ := a
    simp only at hsp
    subst hsp
    have each : ∀ i, i < len → ∃ q : ActV, ab < w.heap.size ∧ w.cell? ⟨ab, ao + i * 3, none⟩ = some (.int .u8 q.do_) ∧ w.cell? ⟨ab, ao + i * 3 + 1, none⟩ = some (.int .i64 q.disk) ∧
        w.cell? ⟨ab, ao + i * 3 + 2, none⟩ = some (.int .u16 q.addr) ∧ 0 ≤ q.do_ ∧ q.do_ ≤ 255 ∧ 0 ≤ q.addr ∧ q.addr ≤ 65535 := by
      intro i hi
      obtain ⟨cs', h1, h2⟩ := hx i (by omega)
      rw [Try.cells32] at h1
      obtain ⟨_, hlen, hcell⟩ := World.cells?_some h1
      obtain ⟨y0, y1, y2, k, _, _, g0, g1, g2⟩ := trod_struct3 Try.underlying32 h2
      match cs', hlen with
      | [v0, v1, v2], _ =>
        have e5 : Try.prog.cellsOf 5 = 1 := by kernel_rfl
        have e3 : Try.prog.cellsOf 3 = 1 := by kernel_rfl
        have e30 : Try.prog.cellsOf 30 = 1 := by kernel_rfl
        simp [e5, e3, e30] at g0 g1 g2
        obtain ⟨n0, z0, _, w0⟩ := DataW.trod_int Try.underlying5 g0
        obtain ⟨n1, z1, _, w1⟩ := DataW.trod_int Try.underlying3 g1
        obtain ⟨n2, z2, _, w2⟩ := DataW.trod_int Try.underlying30 g2
        simp at z0 z1 z2
        subst z0 z1 z2
        have c0 := hcell 0 (by omega)
        have c1 := hcell 1 (by omega)
        have c2 := hcell 2 (by omega)
        rw [Go.Deep.add_add] at c0 c1 c2
        have hblk := World.block_lt_of_cell? _ _ c0
        simp only [Addr.add_mid] at c0 c1 c2 hblk
        exact ⟨⟨n0, n1, n2⟩, hblk, by simpa using c0, by simpa [Nat.add_assoc] using c1, by simpa [Nat.add_assoc] using c2, (bd8 w0).1, (bd8 w0).2, (bd16 w2).1, (bd16 w2).2⟩
    haveI : Inhabited ActV := ⟨⟨0, 0, 0⟩⟩
    obtain ⟨q, hq⟩ := choose_lt each
    refine ⟨(List.range len).map q, by simp, fun k x hk => ?_⟩
    have hkl : k < len := by have := (List.getElem?_eq_some_iff.1 hk).1; simpa using this
    rw [List.getElem?_map, List.getElem?_range hkl] at hk
    simp only [Option.map_some, Option.some.injEq] at hk
    subst hk
    exact ⟨ab, ao, rfl, hq k hkl⟩
end Go.Proofs.Ytlfnneljeoamlaa
