/-
  A slice of strings, opened.
-/
import Derived.Test.YtnclappdokhciaaS3
import Derived.SliceStrings
import Derived.WalkKit
import Derived.ProofKit
import Derived.OpenShut
namespace Go.Proofs.Ytnclappdokhciaa
open Go Go.RowKit Go.ChangeShapes Go.WideShapes Go.ChangeAt
set_option linter.unusedVariables false

theorem spot_none {w : World} {a : Addr} {v : Value} (h : w.cell? a = some v) : a.spot = none := by
  unfold World.cell? at h
  split at h
  · cases hs : a.spot with
    | none => rfl
    | some s => simp [hs] at h
  · cases h
theorem open_strs {H : Type} {enc : TypeId × Value → H} {w : World} {fuel len cap : Nat} {A : Option Addr} {x : DataW H × List MemPlace}
    (h : DataW.trod enc Try.prog w 0 (fun _ => true) true fuel 23 [.slice A len cap] = some x) : ∃ l : List ByteArray, l.length = len ∧ RowS w A l cap := by
  rcases open_strings Try.underlying23 Try.underlying9 (by kernel_rfl) h with ⟨h0, _⟩ | ⟨a, len', cap', ss, h0, hb, hl, hm, hss, _, hc, _⟩
  · simp at h0
    obtain ⟨rfl, rfl, rfl⟩ := h0
    exact ⟨[], rfl, RowS.nil w⟩
  · simp at h0
    obtain ⟨rfl, rfl, rfl⟩ := h0
    rw [if_pos rfl] at hss
    have hlen : (ss.take len).length = len := by rw [List.length_take]; omega
    refine ⟨ss.take len, hlen, ⟨by rw [strs, List.length_map, hlen], fun hp => ?_⟩, by rw [hlen]; exact hl, fun e => by cases e⟩
    rw [hlen] at hp
    have c0 := hc 0 (by omega)
    have hsp := spot_none c0
    have hsp0 : a.spot = none := by unfold Addr.add at hsp; split at hsp <;> simp_all
    obtain ⟨b, o, sp⟩ := a
    simp only at hsp0
    subst hsp0
    have hblk := World.block_lt_of_cell? _ _ c0
    rw [add_lit] at hblk
    refine ⟨b, o, rfl, hblk, fun j u hu => ?_⟩
    have hj := (List.getElem?_eq_some_iff.1 hu).1
    have hj2 : j < len := by rw [← hlen]; simpa [strs] using hj
    have := hc j (by omega)
    rw [add_lit] at this
    rw [this]
    rw [strs, List.getElem?_map, List.getElem?_take_of_lt hj2, List.getElem?_eq_getElem (by omega)] at hu
    simp only [Option.map_some, Option.some.injEq] at hu
    rw [← hu, List.getD_eq_getElem?_getD, List.getElem?_eq_getElem (by omega)]
    rfl
end Go.Proofs.Ytnclappdokhciaa
