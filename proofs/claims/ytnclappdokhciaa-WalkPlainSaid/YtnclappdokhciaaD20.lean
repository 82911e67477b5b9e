/-
  A map of names to entries: what its block is good for, in a list's words.
-/
import Derived.Test.YtnclappdokhciaaD19
import Derived.Maps.OwnSet
namespace Go.Proofs.Ytnclappdokhciaa
open Go Go.RowKit
open Go.Maps (Keyed)
set_option linter.unusedVariables false
theorem Try.underlying89 : Try.prog.underlying 89 = some (.map 9 63) := by kernel_rfl
theorem keyed9 : Keyed Try.prog 9 := Maps.string_keyed Try.underlying9
/-- What an entry reads as. -/
def dE (e : Ent) : DataW Unit := .agg [.lit (.string e.nm.data.toList), .lit (.int .u16 e.num), .lit (.int .u8 e.kind)]
def RE (v : Value) : Option (DataW Unit × List MemPlace) :=
  match v with
  | .agg ⟨[.string s, .int .u16 a, .int .u8 b]⟩ => some (.agg [.lit (.string s.data.toList), .lit (.int .u16 a), .lit (.int .u8 b)], [])
  | _ => none
theorem RE_mk (e : Ent) : RE (.agg e.cells.toArray) = some (dE e, []) := rfl
theorem RE_inv {v : Value} {e : Ent} {ps : List MemPlace} (h : RE v = some (dE e, ps)) : v = .agg e.cells.toArray := by
  unfold RE at h
  split at h
  · rename_i s a b
    simp only [dE, Option.some.injEq, Prod.mk.injEq, DataW.agg.injEq, List.cons.injEq, DataW.lit.injEq, Lit.string.injEq, Lit.int.injEq, true_and, and_true] at h
    obtain ⟨⟨h1, h2, h3⟩, _⟩ := h
    have hs : s = e.nm := by
      cases s with | mk d => cases hn : e.nm with | mk d' =>
        rw [hn] at h1
        have : d = d' := Array.toList_inj.1 h1
        rw [this]
    subst hs h2 h3
    rfl
  · cases h
/-- Block b is a map that holds these entries by their names. -/
def MapE (w : World) (b n : Nat) (hv : List Ent) : Prop := ∃ D : DataW Unit, w.ownsMap Try.prog 9 RE b n D ∧ Maps.Tidy D ∧ Maps.size D = hv.length ∧ ∀ s : ByteArray, Maps.has D (.string s.data.toList) = (findE hv s).isSome ∧ D.atKey (.string s.data.toList) (dE noEnt) = dE ((findE hv s).getD noEnt)
theorem zero63m (w : World) : (zeroValue 63).run Try.prog w = .ok (.agg noEnt.cells.toArray) w := by kernel_rfl
theorem MapE.made (w : World) : MapE (w.alloc (.map #[] 0)) w.heap.size 0 [] :=
  ⟨.map [], World.ownsMap_made w _ _ _, Maps.tidy_empty, rfl, fun s => ⟨rfl, rfl⟩⟩
theorem MapE.isMap {w : World} {b n : Nat} {hv : List Ent} (h : MapE w b n hv) : ∃ es c, w.heap[b]? = some (.map es c) := by
  obtain ⟨D, ⟨es, c, hb, _⟩, _⟩ := h
  exact ⟨es, c, hb⟩
theorem MapE.only {w w' : World} {b n : Nat} {hv : List Ent} {S : Nat → Prop} (h : MapE w b n hv) (ho : Only S w w') (hS : ¬ S b) : MapE w' b n hv := by
  obtain ⟨D, hown, hr⟩ := h
  have hlt := hown.lt
  obtain ⟨es, c, hb, F, hs, hD⟩ := hown
  exact ⟨D, ⟨es, c, (ho.block b hlt hS).trans hb, F, hs, hD⟩, hr⟩
theorem MapE.len {w : World} {b n : Nat} {hv : List Ent} (h : MapE w b n hv) (ty : TypeId) : (Builtin.len_ #[89] ty #[.map (some b)]).run Try.prog w = .ok (.int .i64 hv.length) w := by
  obtain ⟨D, hown, _, hs, _⟩ := h
  rw [← hs]
  exact hown.len Try.underlying89 ty
theorem MapE.look_ok {w : World} {b n : Nat} {hv : List Ent} (h : MapE w b n hv) {s : ByteArray} (hs : s.size ≤ 1000000) :
    (Instr.lookup 89 (.map (some b)) (.string s) true).run Try.prog w = .ok (.tuple #[.agg ((findE hv s).getD noEnt).cells.toArray, .bool (findE hv s).isSome]) w := by
  obtain ⟨D, hown, _, _, hf⟩ := h
  obtain ⟨v, ps, hr, hv2⟩ := hown.look_ok keyed9 Try.underlying89 (zero63m w) (RE_mk noEnt) (Go.WideMaps.keyOf_string_mk Try.underlying9 (Nat.le_trans hs (by decide)))
  rw [(hf s).2] at hv2
  rw [hr, (hf s).1, RE_inv hv2]
theorem MapE.look {w : World} {b n : Nat} {hv : List Ent} (h : MapE w b n hv) {s : ByteArray} (hs : s.size ≤ 1000000) :
    (Instr.lookup 89 (.map (some b)) (.string s) false).run Try.prog w = .ok (.agg ((findE hv s).getD noEnt).cells.toArray) w := by
  obtain ⟨D, hown, _, _, hf⟩ := h
  obtain ⟨v, ps, hr, hv2⟩ := hown.lookup keyed9 Try.underlying89 (zero63m w) (RE_mk noEnt) (Go.WideMaps.keyOf_string_mk Try.underlying9 (Nat.le_trans hs (by decide)))
  rw [(hf s).2] at hv2
  rw [hr, RE_inv hv2]
theorem turned_only {w w' : World} {b : Nat} (h : w.mapTurned w' b) : Only (fun k => k = b) w w' := by
  obtain ⟨es, c, es', c', hb, rfl⟩ := h
  refine ⟨rfl, rfl, rfl, by simp [Go.ChangeMaps.setBlock], fun k hk hS => ?_⟩
  unfold Go.ChangeMaps.setBlock
  exact Array.getElem?_setIfInBounds_ne (fun e => hS e.symm)
theorem nm_inj {a b : ByteArray} : a.toList = b.toList ↔ a = b := by
  refine ⟨fun h => ?_, fun h => by rw [h]⟩
  rw [ByteArray.toList_eq, ByteArray.toList_eq] at h
  cases a; cases b
  simp only at h
  rw [Array.toList_inj.1 h]
theorem findE_drop_same (l : List Ent) (s : ByteArray) : findE (dropL l s) s = none := by
  unfold findE dropL
  rw [List.find?_eq_none]
  intro x hx
  have := (List.mem_filter.1 hx).2
  simpa using this
theorem findE_drop_other (l : List Ent) (s s' : ByteArray) (hne : s' ≠ s) : findE (dropL l s) s' = findE l s' := by
  unfold findE dropL
  refine Maps.find_filter_keep (fun e he => ?_) l
  have h1 : e.nm = s' := nm_inj.1 (by simpa using he)
  rw [h1]
  simp only [Bool.not_eq_true', beq_eq_false_iff_ne, ne_eq]
  exact fun h => hne (nm_inj.1 h)
theorem drop_len {l : List Ent} {s : ByteArray} (hR : Rise l) (hf : (findE l s).isSome = true) : (dropL l s).length + 1 = l.length := by
  obtain ⟨i, b, hP⟩ := place_ex hR s
  have hb : b = true := by rw [(place_eq hR hP).2, hf]
  subst hb
  obtain ⟨x, hx, _, hd⟩ := place_true hR hP
  have hlt := (List.getElem?_eq_some_iff.1 hx).1
  rw [hd, List.length_append, List.length_take, List.length_drop]
  omega
theorem ins_eq {l : List Ent} {e : Ent} (hR : Rise l) (hf : findE l e.nm = none) : ∃ i, i ≤ l.length ∧ insE l e = l.take i ++ [e] ++ l.drop i := by
  obtain ⟨i, b, hP⟩ := place_ex hR e.nm
  have hb : b = false := by rw [(place_eq hR hP).2, hf]; rfl
  subst hb
  obtain ⟨_, f1, f2⟩ := place_false hR hP
  exact ⟨i, hP.1, ins_at l e i hP.1 f1 f2⟩
theorem ins_len {l : List Ent} {e : Ent} (hR : Rise l) (hf : findE l e.nm = none) : (insE l e).length = l.length + 1 := by
  obtain ⟨i, hi, h⟩ := ins_eq hR hf
  rw [h, List.length_append, List.length_append, List.length_take, List.length_drop, List.length_singleton]
  omega
theorem findE_ins {l : List Ent} {e : Ent} (hR : Rise l) (hf : findE l e.nm = none) (s : ByteArray) : findE (insE l e) s = if s = e.nm then some e else findE l s := by
  obtain ⟨i, hi, h⟩ := ins_eq hR hf
  rw [h]
  have hl : l = l.take i ++ l.drop i := (List.take_append_drop i l).symm
  unfold findE at hf ⊢
  by_cases hs : s = e.nm
  · rw [if_pos hs]
    subst hs
    have hn : (l.take i).find? (fun x => x.nm.toList == e.nm.toList) = none := by
      rw [List.find?_eq_none] at hf ⊢
      exact fun x hx => hf x (List.mem_of_mem_take hx)
    rw [List.append_assoc, List.find?_append, hn]
    simp
  · rw [if_neg hs]
    have he : ((e.nm.toList == s.toList) : Bool) = false := by
      rw [beq_eq_false_iff_ne]
      exact fun h => hs (nm_inj.1 h).symm
    rw [List.append_assoc, List.find?_append]
    conv => rhs; rw [hl, List.find?_append]
    simp [he]
theorem MapE.drop {w : World} {b n : Nat} {hv : List Ent} (h : MapE w b n hv) {s : ByteArray} (hs : s.size ≤ 1000000) (hR : Rise hv) (hf : (findE hv s).isSome = true) (ty : TypeId) :
    ∃ w', (Builtin.delete_ #[89, 9] ty #[.map (some b), .string s]).run Try.prog w = .ok (.tuple #[]) w' ∧ MapE w' b n (dropL hv s) ∧ Only (fun k => k = b) w w' := by
  obtain ⟨D, hown, ht, hsz, hfn⟩ := h
  obtain ⟨w', hr, hown', htu⟩ := hown.drop keyed9 Try.underlying89 (Go.WideMaps.keyOf_string_mk Try.underlying9 (Nat.le_trans hs (by decide))) ty
  refine ⟨w', hr, ⟨_, hown', ht.del _, ?_, fun s' => ?_⟩, turned_only htu⟩
  · have h1 := Maps.size_del (k := .string s.data.toList) ht
    rw [(hfn s).1, hf] at h1
    have h2 := drop_len hR hf
    simp only [if_true] at h1
    omega
  · by_cases he : s' = s
    · subst he
      rw [Maps.has_del_same, Maps.atKey_del_same, findE_drop_same]
      exact ⟨rfl, rfl⟩
    · have hne : (Lit.string s'.data.toList) ≠ .string s.data.toList := fun h => he (by
        simp only [Lit.string.injEq] at h
        exact nm_inj.1 (by rw [ByteArray.toList_eq, ByteArray.toList_eq]; exact h))
      rw [Maps.has_del_other hne, Maps.atKey_del_other hne, findE_drop_other _ _ _ he]
      exact hfn s'
theorem MapE.store {w : World} {b n : Nat} {hv : List Ent} (h : MapE w b n hv) {e : Ent} (hs : e.nm.size ≤ 1000000) (hn : n < 100000) (hR : Rise hv) (hf : findE hv e.nm = none) :
    ∃ w', (Instr.mapUpdate 89 (.map (some b)) (.string e.nm) (.agg e.cells.toArray)).run Try.prog w = .ok () w' ∧ MapE w' b (n + 1) (insE hv e) ∧ Only (fun k => k = b) w w' := by
  obtain ⟨D, hown, ht, hsz, hfn⟩ := h
  obtain ⟨w', hr, hown', htu⟩ := hown.store keyed9 Try.underlying89 (Nat.lt_of_lt_of_le hn (by decide)) (Go.WideMaps.keyOf_string_mk Try.underlying9 (Nat.le_trans hs (by decide))) (RE_mk e)
  have hk : WideAt.IsKeyLit (.string e.nm.data.toList) := trivial
  refine ⟨w', hr, ⟨_, hown', ht.put hk _, ?_, fun s' => ?_⟩, turned_only htu⟩
  · rw [Maps.size_put ht, (hfn e.nm).1, hf, ins_len hR hf, hsz]
    rfl
  · rw [findE_ins hR hf]
    by_cases he : s' = e.nm
    · subst he
      rw [if_pos rfl, Maps.has_put_same ht.isMap hk, Maps.atKey_put_same ht.isMap hk]
      exact ⟨rfl, rfl⟩
    · have hne : (Lit.string s'.data.toList) ≠ .string e.nm.data.toList := fun h => he (by
        simp only [Lit.string.injEq] at h
        exact nm_inj.1 (by rw [ByteArray.toList_eq, ByteArray.toList_eq]; exact h))
      rw [if_neg he, Maps.has_put_other hne, Maps.atKey_put_other hne]
      exact hfn s'
/-- What lies in cells is apart from a map's block. -/
theorem cell_map {w : World} {b : Nat} {es : Array MapEntry} {c : Nat} (h : w.heap[b]? = some (.map es c)) (o : Nat) : w.cell? ⟨b, o, none⟩ = none := by
  unfold World.cell?
  simp [h]
theorem Reads.map {w w' : World} {b n N : Nat} {es : Array MapEntry} {c : Nat} {A : Option Addr} {xs : List Value} (h : Reads w N A n xs) (hN : N ≤ w.heap.size) (hb : w.heap[b]? = some (.map es c)) (ho : Only (fun k => k = b) w w') : Reads w' N A n xs := by
  refine ⟨h.1, fun hn => ?_⟩
  obtain ⟨g, o, e, hg, hc⟩ := h.2 hn
  refine ⟨g, o, e, hg, fun j u hu => ?_⟩
  have h1 := hc j u hu
  have hne : ¬ g = b := fun e => by
    subst e
    rw [cell_map hb] at h1
    cases h1
  exact (Blk.cell_only ho (a := ⟨g, o + j, none⟩) (Nat.lt_of_lt_of_le hg hN) hne).trans h1
theorem RowE.map {w w' : World} {b : Nat} {es : Array MapEntry} {c : Nat} {A : Option Addr} {l : List Ent} {cp : Nat} (h : RowE w A l cp) (hb : w.heap[b]? = some (.map es c)) (ho : Only (fun k => k = b) w w') : RowE w' A l cp :=
  ⟨(Reads.map h.1 (Nat.le_refl _) hb ho).more ho.size, h.2⟩
theorem Only.map {w0 w w' : World} {b : Nat} (h : Only (fun _ => False) w0 w) (ho : Only (fun k => k = b) w w') (hb : w0.heap.size ≤ b) : Only (fun _ => False) w0 w' :=
  ⟨ho.os.trans h.os, ho.tape.trans h.tape, ho.output.trans h.output, Nat.le_trans h.size ho.size, fun k hk _ => (ho.block k (Nat.lt_of_lt_of_le hk h.size) (by omega)).trans (h.block k hk (fun x => x))⟩
end Go.Proofs.Ytnclappdokhciaa
