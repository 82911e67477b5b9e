/-
  dir.Add, the reference's Add (func 44, 45).
-/
import Derived.Test.YtnclappdokhciaaD11
namespace Go.Proofs.Ytnclappdokhciaa
open Go Go.RowKit
set_option linter.unusedVariables false
theorem RowE.dropA {w : World} {A : Option Addr} {l : List Ent} {c i : Nat} (h : RowE w A l c) (hi : i ≤ l.length) : RowE w (if c = i then A else A.map fun x => x.add (i * 3)) (l.drop i) (c - i) := by
  have hl : (l.drop i).length = l.length - i := List.length_drop
  have hc := h.2.1
  refine ⟨?_, by omega, fun e => ?_⟩
  · rw [hl, ← ents_drop, show (l.length - i) * 3 = l.length * 3 - i * 3 by omega]
    have := h.1.drop (k := i * 3) (cap := c * 3) (by omega) (by omega)
    by_cases hci : c = i
    · rw [if_pos (by omega)] at this; rw [if_pos hci]; exact this
    · rw [if_neg (by omega)] at this; rw [if_neg hci]; exact this
  · cases A with
    | none => have := h.2.2 rfl; omega
    | some a => split at e <;> cases e
def addS (l : List Ent) (e : Ent) : List Ent × Int := if mayS e = 0 then (if (findE l e.nm).isSome = true then ([], 23) else if 64 ≤ l.length then ([], 32) else (insE l e, 0)) else ([], mayS e)
set_option maxRecDepth 10000 in
set_option maxHeartbeats 4000000 in
theorem add_any (l : List Ent) (A : Option Addr) (c : Nat) (e : Ent) (w : World) (h : RowE w A l c) (hn : l.length ≤ 64) (hR : Rise l) (hs : e.nm.size ≤ 1000000) :
    Calls Try.prog 44 #[.slice A l.length c, .agg e.cells.toArray] w fun r w' => ∃ A' c', r = .returned (.tuple #[.slice A' (addS l e).1.length c', .int .i64 (addS l e).2]) ∧ RowE w' A' (addS l e).1 c' ∧ Only (fun _ => False) w w' := by
  have hd : addS l e = if mayS e = 0 then (if (findE l e.nm).isSome = true then ([], 23) else if 64 ≤ l.length then ([], 32) else (insE l e, 0)) else ([], mayS e) := rfl
  replace hd := Lib.hid hd
  have hb := Blk.new w 63 #[.string e.nm, .int .u16 e.num, .int .u8 e.kind]
  have ho := (Only.refl (fun _ => False) w).alloc (.cells #[.string e.nm, .int .u16 e.num, .int .u8 e.kind] 63)
  have hM := fun W => may_any e hs W
  simp only [Ent.cells] at hM ⊢
  replace hM := Lib.hid hM
  go_enter Try.func44, Try.ntmps44
  go_wp2_with fail
  generalize w.alloc _ = w2 at *
  generalize hg0 : w.heap.size = g at *
  have hl63 : ∀ (W : World), Blk W g 63 #[.string e.nm, .int .u16 e.num, .int .u8 e.kind] → (loadVar 63 ⟨g, 0, none⟩).run Try.prog W = .ok (.agg #[.string e.nm, .int .u16 e.num, .int .u8 e.kind]) W := fun W hb => run_loadVar_row (P := Try.prog) W g 63 63 _ (0, 0) _ hb Try.underlying63 rfl (by kernel_rfl)
  refine (hM.out w2).mono ?_
  rintro r w3 ⟨rfl, ho3⟩
  have hb3 := hb.only ho3 (fun x => x)
  have ho4 := ho.trans ho3
  have q0 := hb3.cell 0
  have q1 := hb3.cell 1
  have q2 := hb3.cell 2
  simp only [List.getElem?_toArray, List.getElem?_cons_zero, List.getElem?_cons_succ] at q0 q1 q2
  go_wp2_with fail
  refine (place_any l A c e.nm w3 (h.only ho4 (fun _ _ x => x)) (by omega) (mono_of hR e.nm)).mono ?_
  rintro r w5 ⟨i, b, rfl, hP, ho5⟩
  clear q0 q1 q2
  have hb5 := hb3.only ho5 (fun x => x)
  have ho6 := ho4.trans ho5
  have h6 := h.only ho6 (fun _ _ x => x)
  clear hb hb3 ho ho3 ho4 ho5 hM h
  have q0 := hb5.cell 0
  have q1 := hb5.cell 1
  have q2 := hb5.cell 2
  simp only [List.getElem?_toArray, List.getElem?_cons_zero, List.getElem?_cons_succ] at q0 q1 q2
  generalize mayS e = m at *
  by_cases hm : m = 0
  · subst hm
    cases b with
    | true =>
      obtain ⟨x, hx, hf, _⟩ := place_true hR hP
      have hd2 : addS l e = ([], 23) := by rw [hd.out, hf]; rfl
      replace hd2 := Lib.hid hd2
      clear hP hx hf
      go_wp2
      go_ret2
      exact ⟨none, 0, by rw [hd2.out]; rfl, by rw [hd2.out]; exact RowE.nil _, ho6⟩
    | false =>
      obtain ⟨hf, hf1, hf2⟩ := place_false hR hP
      by_cases h64 : 64 ≤ l.length
      · have hd2 : addS l e = ([], 32) := by rw [hd.out, hf]; simp [h64]
        replace hd2 := Lib.hid hd2
        have i0 : (64 : Int) ≤ (l.length : Int) := by omega
        clear hP hf hf1 hf2
        go_wp2
        go_ret2
        exact ⟨none, 0, by rw [hd2.out]; rfl, by rw [hd2.out]; exact RowE.nil _, ho6⟩
      · have hil : i ≤ l.length := hP.1
        have hd2 : addS l e = (l.take i ++ [e] ++ l.drop i, 0) := by rw [hd.out, hf, ins_at l e i hil hf1 hf2]; simp [h64]
        replace hd2 := Lib.hid hd2
        clear hP hf hf1 hf2
        have hc := h6.2.1
        have i0 : ¬ (64 : Int) ≤ (l.length : Int) := by omega
        have i1 : (0 : Int) ≤ (i : Int) := by omega
        have i2 : i ≤ c := by omega
        have i3 : (i : Int) ≤ (l.length : Int) := by omega
        have i4 : i ≤ l.length := by omega
        have i5 : (i : Int) ≤ (c : Int) := by omega
        have hlen : (l.take i ++ [e] ++ l.drop i).length = i + (l.length - i + 1) := by rw [List.length_append, List.length_append, List.length_take, List.length_drop, List.length_cons, List.length_nil]; omega
        replace hlen := Lib.hid hlen
        clear h64
        go_wp2_with fail
        have h2 := h6.take (i := i) (by omega)
        have h3 := h6.dropA (i := i) (by omega)
        have s0 : w5.drew.cell? ⟨g, 0, none⟩ = some (.string e.nm) ∧ w5.drew.cell? ⟨g, 1, none⟩ = some (.int .u16 e.num) ∧ w5.drew.cell? ⟨g, 2, none⟩ = some (.int .u8 e.kind) := ⟨q0, q1, q2⟩
        clear q0 q1 q2
        have hb5' := hb5.drew
        have h2 := h2.only (Only.refl (fun _ => False) w5).drew (fun _ _ x => x)
        have h3 := h3.only (Only.refl (fun _ => False) w5).drew (fun _ _ x => x)
        have ho6 := ho6.drew
        clear hb5 h6
        generalize hw5 : w5.drew = w5d at *
        replace hw5 := Lib.hid hw5
        refine wp_region_noPanic ?_
        refine wp_region_E 11 (fun W => W.cell? ⟨g, 0, none⟩ = some (.string e.nm) ∧ W.cell? ⟨g, 1, none⟩ = some (.int .u16 e.num) ∧ W.cell? ⟨g, 2, none⟩ = some (.int .u8 e.kind)) (by kernel_rfl) ?_
        rw [hw5.out]
        refine E_take (v := ?v0) 0 rfl (by kernel_rfl) (by kernel_rfl) (by kernel_rfl) (by kernel_rfl) (by kernel_rfl) (by kernel_rfl) (fun _ _ _ h => h) rfl s0 ?vh0 ?_
        case vh0 => intro W hW; obtain ⟨t0, t1, t2⟩ := hW; go_simp; try with_reducible rfl
        simp only [Act.put, List.setIfInBounds_toArray, List.set_cons_zero, List.set_cons_succ]
        refine E_take (v := ?v1) 1 rfl (by kernel_rfl) (by kernel_rfl) (by kernel_rfl) (by kernel_rfl) (by kernel_rfl) (by kernel_rfl) (fun _ _ _ h => h) rfl s0 ?vh1 ?_
        case vh1 => intro W hW; obtain ⟨t0, t1, t2⟩ := hW; go_simp; try with_reducible rfl
        simp only [Act.put, List.setIfInBounds_toArray, List.set_cons_zero, List.set_cons_succ]
        refine E_take (v := ?v2) 2 rfl (by kernel_rfl) (by kernel_rfl) (by kernel_rfl) (by kernel_rfl) (by kernel_rfl) (by kernel_rfl) (fun _ _ _ h => h) rfl s0 ?vh2 ?_
        case vh2 => intro W hW; obtain ⟨t0, t1, t2⟩ := hW; go_simp; try with_reducible rfl
        simp only [Act.put, List.setIfInBounds_toArray, List.set_cons_zero, List.set_cons_succ]
        refine E_take (v := ?v3) 3 rfl (by kernel_rfl) (by kernel_rfl) (by kernel_rfl) (by kernel_rfl) (by kernel_rfl) (by kernel_rfl) (fun _ _ _ h => h) rfl s0 ?vh3 ?_
        case vh3 => intro W hW; obtain ⟨t0, t1, t2⟩ := hW; go_simp; try with_reducible rfl
        simp only [Act.put, List.setIfInBounds_toArray, List.set_cons_zero, List.set_cons_succ]
        refine E_take (v := ?v5) 5 rfl (by kernel_rfl) (by kernel_rfl) (by kernel_rfl) (by kernel_rfl) (by kernel_rfl) (by kernel_rfl) (fun _ _ _ h => h) rfl s0 ?vh5 ?_
        case vh5 => intro W hW; obtain ⟨t0, t1, t2⟩ := hW; go_simp; try with_reducible rfl
        simp only [Act.put, List.setIfInBounds_toArray, List.set_cons_zero, List.set_cons_succ]
        refine E_take (v := ?v6) 6 rfl (by kernel_rfl) (by kernel_rfl) (by kernel_rfl) (by kernel_rfl) (by kernel_rfl) (by kernel_rfl) (fun _ _ _ h => h) rfl s0 ?vh6 ?_
        case vh6 => intro W hW; obtain ⟨t0, t1, t2⟩ := hW; go_simp; try with_reducible rfl
        simp only [Act.put, List.setIfInBounds_toArray, List.set_cons_zero, List.set_cons_succ]
        refine E_take (v := ?v7) 7 rfl (by kernel_rfl) (by kernel_rfl) (by kernel_rfl) (by kernel_rfl) (by kernel_rfl) (by kernel_rfl) (fun _ _ _ h => h) rfl s0 ?vh7 ?_
        case vh7 => intro W hW; obtain ⟨t0, t1, t2⟩ := hW; go_simp; try with_reducible rfl
        simp only [Act.put, List.setIfInBounds_toArray, List.set_cons_zero, List.set_cons_succ]
        generalize (if c = i then A else A.map fun x => x.add (i * 3)) = A2 at *
        have oa := (Only.refl (fun _ => False) w5d).alloc (.cells #[.string e.nm, .int .u16 e.num, .int .u8 e.kind] 63)
        have hb7 := hb5'.only oa (fun x => x)
        have hx := Blk.new w5d 63 #[.string e.nm, .int .u16 e.num, .int .u8 e.kind]
        refine E_one 4 (by kernel_rfl) rfl (fun K hK => ?_)
        go_simp
        refine hK.out _ _ (fun _ => ⟨hb7.cell 0, hb7.cell 1, hb7.cell 2⟩) ?_
        clear hK K
        try simp only [Act.put, List.setIfInBounds_toArray, List.set_cons_zero, List.set_cons_succ]
        have hxr : RowE (w5d.alloc (.cells #[.string e.nm, .int .u16 e.num, .int .u8 e.kind] 63)) (some ⟨w5d.heap.size, 0, none⟩) [e] 1 := by
          refine ⟨⟨rfl, fun _ => ⟨w5d.heap.size, 0, rfl, hx.lt, fun j u hu => ?_⟩⟩, Nat.le_refl _, fun h => by cases h⟩
          rw [Nat.zero_add, hx.cell j]
          rw [← hu]
          simp [ents, Ent.cells]
        have ob := (Only.refl (fun _ => False) (w5d.alloc (.cells #[.string e.nm, .int .u16 e.num, .int .u8 e.kind] 63))).alloc (.cells #[.slice A i c, .slice (some ⟨w5d.heap.size, 0, none⟩) 1 1, .slice A2 (l.length - i) (c - i)] 59)
        have hb8 := hb7.only ob (fun x => x)
        have hq : Blk ((w5d.alloc (.cells #[.string e.nm, .int .u16 e.num, .int .u8 e.kind] 63)).alloc (.cells #[.slice A i c, .slice (some ⟨w5d.heap.size, 0, none⟩) 1 1, .slice A2 (l.length - i) (c - i)] 59)) (w5d.alloc (.cells #[.string e.nm, .int .u16 e.num, .int .u8 e.kind] 63)).heap.size 59 (([epart A (l.take i) c, epart (some ⟨w5d.heap.size, 0, none⟩) [e] 1, epart A2 (l.drop i) (c - i)].map Part.v).toArray) := by
          have hb := Blk.new (w5d.alloc (.cells #[.string e.nm, .int .u16 e.num, .int .u8 e.kind] 63)) 59 #[.slice A i c, .slice (some ⟨w5d.heap.size, 0, none⟩) 1 1, .slice A2 (l.length - i) (c - i)]
          have e1 : (l.take i).length = i := by rw [List.length_take]; omega
          simp only [epart, Part.v, List.map_cons, List.map_nil, e1, List.length_drop, List.length_cons, List.length_nil]
          exact hb
        have hC := rows_any [epart A (l.take i) c, epart (some ⟨w5d.heap.size, 0, none⟩) [e] 1, epart A2 (l.drop i) (c - i)] _ _ hq (fun p hp => by
          simp only [List.mem_cons, List.not_mem_nil, or_false] at hp
          rcases hp with rfl | rfl | rfl
          · exact epart_ok (h2.only (oa.trans ob) (fun _ _ x => x))
          · exact epart_ok (hxr.only ob (fun _ _ x => x))
          · exact epart_ok (h3.only (oa.trans ob) (fun _ _ x => x))) (by simp only [tot, epart, List.map_cons, List.map_nil, List.sum_cons, List.sum_nil, List.length_take, List.length_drop, List.length_cons, List.length_nil]; omega) (by simp)
        have hcat : cat [epart A (l.take i) c, epart (some ⟨w5d.heap.size, 0, none⟩) [e] 1, epart A2 (l.drop i) (c - i)] = ents (l.take i ++ [e] ++ l.drop i) := by
          simp only [cat, epart, List.flatMap_cons, List.flatMap_nil, ents_app, List.append_nil, List.append_assoc]
        have e9 : (w5d.alloc (.cells #[.string e.nm, .int .u16 e.num, .int .u8 e.kind] 63)).heap.size = w5d.heap.size + 1 := by simp
        rw [hcat, e9] at hC
        clear e9
        replace hC := Lib.hid hC
        have ho7 := Lib.hid ((ho6.trans oa).trans ob)
        clear hq hcat oa ob h2 h3 hxr hx
        refine E_one 8 (by kernel_rfl) rfl (fun K hK => ?_)
        go_simp
        refine hK.out _ _ (fun _ => ⟨hb8.cell 0, hb8.cell 1, hb8.cell 2⟩) ?_
        clear hK K
        try simp only [Act.put, List.setIfInBounds_toArray, List.set_cons_zero, List.set_cons_succ]
        refine E_one 9 (by kernel_rfl) rfl (fun K hK => ?_)
        go_simp
        refine hC.out.mono ?_
        rintro r w9 ⟨v, rfl, hown, ho3⟩
        have hb9 := hb8.only ho3 (fun x => x)
        refine hK.out _ _ (fun _ => ⟨hb9.cell 0, hb9.cell 1, hb9.cell 2⟩) ?_
        clear hK K
        try simp only [Act.put, List.setIfInBounds_toArray, List.set_cons_zero, List.set_cons_succ]
        obtain ⟨hn4, A4, c4, rfl, hr4⟩ := rowE_of hown
        rw [hn4] at hown ⊢
        have ho4 := Lib.hid (ho7.out.trans ho3)
        clear hn4 hown ho3
        refine E_one 10 (by kernel_rfl) rfl (fun K hK => ?_)
        go_simp
        refine hK.out _ _ (fun _ => ⟨hb9.cell 0, hb9.cell 1, hb9.cell 2⟩) ?_
        clear hK K
        try simp only [Act.put, List.setIfInBounds_toArray, List.set_cons_zero, List.set_cons_succ]
        refine E_one 11 (by kernel_rfl) rfl (fun K hK => ?_)
        go_simp
        refine hK.out _ _ (fun h => absurd h (by decide)) ?_
        clear hK K
        try simp only [Act.put, List.setIfInBounds_toArray, List.set_cons_zero, List.set_cons_succ]
        refine E_done (by kernel_rfl) (NoPanic.normal ?_)
        go_wp2
        go_ret2
        exact ⟨A4, c4, by rw [hd2.out]; simp only []; rw [hlen.out]; rfl, by rw [hd2.out]; exact hr4, ho4.out⟩
  · have hmb : (m == 0) = false := beq_false_of_ne hm
    have hmb2 : (m != 0) = true := by rw [bne, hmb]; rfl
    have hd2 : addS l e = ([], m) := by rw [hd.out, if_neg hm]
    replace hd2 := Lib.hid hd2
    clear hP
    go_wp2
    go_ret2
    exact ⟨none, 0, by rw [hd2.out]; rfl, by rw [hd2.out]; exact RowE.nil _, ho6⟩
/-- What the reference's round has done: the entries of the first i, and whether the new one is among them. -/
def insPart (l : List Ent) (e : Ent) (i : Nat) (out : List Ent) (done : Bool) : Prop := (done = true → ∃ k, k < i ∧ k < l.length ∧ (∀ t y, t < k → l[t]? = some y → lessB e.nm y.nm = false) ∧ (∀ y, l[k]? = some y → lessB e.nm y.nm = true) ∧ out = l.take k ++ [e] ++ (l.take i).drop k) ∧ (done = false → out = l.take i ∧ ∀ t y, t < i → l[t]? = some y → lessB e.nm y.nm = false)
theorem insPart_len {l : List Ent} {e : Ent} {i : Nat} {out : List Ent} {done : Bool} (h : insPart l e i out done) : out.length ≤ 2 * l.length + 1 := by
  cases done with
  | true =>
    obtain ⟨k, _, _, _, _, rfl⟩ := h.1 rfl
    simp only [List.length_append, List.length_take, List.length_drop, List.length_cons, List.length_nil]
    omega
  | false =>
    obtain ⟨rfl, _⟩ := h.2 rfl
    rw [List.length_take]; omega
theorem insPart_same {l : List Ent} {e : Ent} {i : Nat} {out : List Ent} {x : Ent} (h : insPart l e i out true) (hx : l[i]? = some x) : insPart l e (i + 1) (out ++ [x]) true := by
  obtain ⟨k, hk, hkl, h1, h2, rfl⟩ := h.1 rfl
  refine ⟨fun _ => ⟨k, by omega, hkl, h1, h2, ?_⟩, fun h => by cases h⟩
  rw [takeE_snoc l i x hx, List.drop_append_of_le_length (by rw [List.length_take]; omega)]
  simp
theorem insPart_here {l : List Ent} {e : Ent} {i : Nat} {out : List Ent} {x : Ent} (h : insPart l e i out false) (hx : l[i]? = some x) (hlt : lessB e.nm x.nm = true) : insPart l e (i + 1) (out ++ [e] ++ [x]) true := by
  obtain ⟨rfl, h1⟩ := h.2 rfl
  refine ⟨fun _ => ⟨i, by omega, (List.getElem?_eq_some_iff.1 hx).1, h1, fun y hy => by rw [hx] at hy; cases hy; exact hlt, ?_⟩, fun h => by cases h⟩
  have hil := (List.getElem?_eq_some_iff.1 hx).1
  rw [takeE_snoc l i x hx, List.drop_append_of_le_length (by rw [List.length_take]; omega), List.drop_of_length_le (by rw [List.length_take]; omega)]
  simp
theorem insPart_not {l : List Ent} {e : Ent} {i : Nat} {out : List Ent} {x : Ent} (h : insPart l e i out false) (hx : l[i]? = some x) (hlt : lessB e.nm x.nm = false) : insPart l e (i + 1) (out ++ [x]) false := by
  obtain ⟨rfl, h1⟩ := h.2 rfl
  refine ⟨fun h => (by cases h), fun _ => ⟨(takeE_snoc l i x hx).symm, fun t y ht hy => ?_⟩⟩
  by_cases e0 : t = i
  · subst e0; rw [hx] at hy; cases hy; exact hlt
  · exact h1 t y (by omega) hy
theorem insPart_end {l : List Ent} {e : Ent} {out : List Ent} {done : Bool} (h : insPart l e l.length out done) : insE l e = if done = true then out else out ++ [e] := by
  cases done with
  | true =>
    obtain ⟨k, _, hk, h1, h2, rfl⟩ := h.1 rfl
    rw [ins_at l e k (by omega) h1 h2, List.take_length]; rfl
  | false =>
    obtain ⟨rfl, h1⟩ := h.2 rfl
    rw [ins_at l e l.length (Nat.le_refl _) h1 (fun y hy => by rw [List.getElem?_eq_none (Nat.le_refl _)] at hy; cases hy), List.take_length, List.drop_length]
    simp
set_option maxRecDepth 10000 in
set_option maxHeartbeats 8000000 in
theorem addR_any (l : List Ent) (A : Option Addr) (c : Nat) (e : Ent) (w : World) (h : RowE w A l c) (hn : l.length ≤ 64) (hs : e.nm.size ≤ 1000000) :
    Calls Try.prog 45 #[.slice A l.length c, .agg e.cells.toArray] w fun r w' => ∃ A' c', r = .returned (.tuple #[.slice A' (addS l e).1.length c', .int .i64 (addS l e).2]) ∧ RowE w' A' (addS l e).1 c' ∧ Only (fun _ => False) w w' := by
  have hd : addS l e = if mayS e = 0 then (if (findE l e.nm).isSome = true then ([], 23) else if 64 ≤ l.length then ([], 32) else (insE l e, 0)) else ([], mayS e) := rfl
  replace hd := Lib.hid hd
  have hb := Blk.new w 79 #[.string e.nm, .int .u16 e.num, .int .u8 e.kind]
  have ho := (Only.refl (fun _ => False) w).alloc (.cells #[.string e.nm, .int .u16 e.num, .int .u8 e.kind] 79)
  have hM := fun W => mayR_any e hs W
  simp only [Ent.cells] at hM ⊢
  replace hM := Lib.hid hM
  go_enter Try.func45, Try.ntmps45
  go_wp2_with fail
  generalize w.alloc _ = w2 at *
  generalize hg0 : w.heap.size = g at *
  refine (hM.out w2).mono ?_
  rintro r w3 ⟨rfl, ho3⟩
  have hb3 := hb.only ho3 (fun x => x)
  have ho4 := ho.trans ho3
  have q0 := hb3.cell 0
  simp only [List.getElem?_toArray, List.getElem?_cons_zero, List.getElem?_cons_succ] at q0
  go_wp2_with fail
  refine (findR_any l A c e.nm w3 (h.only ho4 (fun _ _ x => x)) (by omega)).mono ?_
  rintro r w5 ⟨rfl, ho5⟩
  simp only [Ent.cells]
  clear q0
  have hb5 := (hb3.only ho5 (fun x => x)).alloc (.cells #[.string ((findE l e.nm).getD noEnt).nm, .int .u16 ((findE l e.nm).getD noEnt).num, .int .u8 ((findE l e.nm).getD noEnt).kind] 79)
  have ho6 := (ho4.trans ho5).alloc (.cells #[.string ((findE l e.nm).getD noEnt).nm, .int .u16 ((findE l e.nm).getD noEnt).num, .int .u8 ((findE l e.nm).getD noEnt).kind] 79)
  have h6 := h.only ho6 (fun _ _ x => x)
  clear hb hb3 ho ho3 ho4 ho5 hM h
  generalize (findE l e.nm).getD noEnt = e0 at *
  generalize mayS e = m at *
  generalize hff : (findE l e.nm).isSome = ff at *
  by_cases hm : m = 0
  · subst hm
    cases ff with
    | true =>
      have hd2 : addS l e = ([], 23) := by rw [hd.out]; rfl
      replace hd2 := Lib.hid hd2
      clear hff hd
      go_wp2
      go_ret2
      exact ⟨none, 0, by rw [hd2.out]; rfl, by rw [hd2.out]; exact RowE.nil _, ho6⟩
    | false =>
      by_cases h64 : 64 ≤ l.length
      · have hd2 : addS l e = ([], 32) := by rw [hd.out]; simp [h64]
        replace hd2 := Lib.hid hd2
        have i0 : (64 : Int) ≤ (l.length : Int) := by omega
        clear hff hd
        go_wp2
        go_ret2
        exact ⟨none, 0, by rw [hd2.out]; rfl, by rw [hd2.out]; exact RowE.nil _, ho6⟩
      · have hd2 : addS l e = (insE l e, 0) := by rw [hd.out]; simp [h64]
        replace hd2 := Lib.hid hd2
        clear hff hd
        have i0 : ¬ (64 : Int) ≤ (l.length : Int) := by omega
        clear h64
        go_wp2
        generalize w5.alloc _ = w6 at *
        go_loopw [9, 10, 11] (fun s9 s10 s11 wr => ∃ (i : Nat) (out : List Ent) (dn : Bool), s11 = .int .i64 i ∧ s10 = .bool dn ∧ i ≤ l.length ∧ PE 79 w6 out s9 wr ∧ insPart l e i out dn) (fun _ _ s11 _ => l.length - (intOf s11).toNat)
        case atStart => exact ⟨0, [], false, rfl, rfl, by omega, PE.nil _ _, fun h => (by cases h), fun _ => ⟨rfl, fun t y ht => by omega⟩⟩
        case round =>
          obtain ⟨i, out, dn, rfl, rfl, hi, hp, hI⟩ := hrel
          obtain ⟨A9, c9, rfl, hr9⟩ := hp.row
          by_cases hlt : i < l.length
          · obtain ⟨x, hx⟩ : ∃ x, l[i]? = some x := ⟨_, List.getElem?_eq_getElem hlt⟩
            obtain ⟨b, o, rfl, hb1, d0, d1, d2⟩ := (h6.only hp.2 (fun _ _ x => x)).lit hx
            have hbr := hb5.only hp.2 (fun x => x)
            have q0 := hbr.cell 0
            simp only [List.getElem?_toArray, List.getElem?_cons_zero, List.getElem?_cons_succ] at q0
            have j0 : (0 : Int) ≤ (i : Int) := by omega
            have j1 : (i : Int) < (l.length : Int) := by omega
            have hol := insPart_len hI
            replace hx := Lib.hid hx
            replace hI := Lib.hid hI
            cases dn with
            | true =>
              go_wp2
              go_quiet (fail)
              have hpq := hp.next ((Only.refl (fun _ => False) wr).drewN nq)
              have hbq := hbr.drewN nq
              clear hp hbr q0 d0 d1 d2 hr9 hb1
              generalize wr.drewN nq = wq at *
              obtain ⟨b', o', hbo, hb1, d0, d1, d2⟩ := (h6.only hpq.2 (fun _ _ x => x)).lit hx.out
              cases hbo
              have hq21 := Blk.new wq 79 #[.string x.nm, .int .u16 x.num, .int .u8 x.kind]
              obtain ⟨B21, e21, w21, hap21, hp21⟩ := hpq.one ty66 ((Only.refl (fun _ => False) wq).alloc _) (by omega) wq.heap.size x hq21
              clear hq21 hpq
              go_wp2_with (at_builtin; (refine wpList_append_eq1 rfl (.tmp 50) (.tmp 55) 66 rfl _ _ _ w21 (by simp [Act.eval]) (by simp [Act.eval]) hap21 ?_))
              go_roundw
              case rel => exact ⟨i + 1, _, true, by go_num, rfl, by omega, hp21, insPart_same hI.out hx.out⟩
              case measure => simp [intOf]; omega
            | false =>
              by_cases hbl : Op.bytesLess e.nm.toList x.nm.toList = true
              · go_wp2
                go_quiet (fail)
                have hpq := hp.next ((Only.refl (fun _ => False) wr).drewN nq)
                have hbq := hbr.drewN nq
                clear hp hbr q0 d0 d1 d2 hr9 hb1
                generalize wr.drewN nq = wq at *
                obtain ⟨b', o', hbo, hb1, d0, d1, d2⟩ := (h6.only hpq.2 (fun _ _ x => x)).lit hx.out
                cases hbo
                have q0 := hbq.cell 0
                have q1 := hbq.cell 1
                have q2 := hbq.cell 2
                simp only [List.getElem?_toArray, List.getElem?_cons_zero, List.getElem?_cons_succ] at q0 q1 q2
                have hq21 := Blk.new wq 79 #[.string e.nm, .int .u16 e.num, .int .u8 e.kind]
                obtain ⟨B21, e21, w21, hap21, hp21⟩ := hpq.one ty66 ((Only.refl (fun _ => False) wq).alloc _) (by omega) wq.heap.size e hq21
                obtain ⟨b', o', hbo, _, c0, c1, c2⟩ := (h6.only hp21.2 (fun _ _ x => x)).lit hx.out
                cases hbo
                have hq22 := Blk.new w21 79 #[.string x.nm, .int .u16 x.num, .int .u8 x.kind]
                obtain ⟨B22, e22, w22, hap22, hp22⟩ := hp21.one ty66 ((Only.refl (fun _ => False) w21).alloc _) (by rw [List.length_append, List.length_singleton]; omega) w21.heap.size x hq22
                have hl1 : (out ++ [e]).length = out.length + 1 := by rw [List.length_append]; rfl
                rw [hl1] at hap22 hp22
                replace hbl := Lib.hid hbl
                clear hq21 hq22 hpq hp21 hl1
                go_wp2_with (at_builtin; first | (refine wpList_append_eq1 rfl (.tmp 46) (.tmp 48) 66 rfl _ _ _ w21 (by simp [Act.eval]) (by simp [Act.eval]) hap21 ?_) | (refine wpList_append_eq1 rfl (.tmp 50) (.tmp 55) 66 rfl _ _ _ w22 (by simp [Act.eval]) (by simp [Act.eval]) hap22 ?_))
                go_roundw
                case rel => exact ⟨i + 1, _, true, by go_num, rfl, by omega, hp22, insPart_here hI.out hx.out hbl.out⟩
                case measure => simp [intOf]; omega
              · replace hbl : Op.bytesLess e.nm.toList x.nm.toList = false := by simpa using hbl
                go_wp2
                go_quiet (fail)
                have hpq := hp.next ((Only.refl (fun _ => False) wr).drewN nq)
                have hbq := hbr.drewN nq
                clear hp hbr q0 d0 d1 d2 hr9 hb1
                generalize wr.drewN nq = wq at *
                obtain ⟨b', o', hbo, hb1, d0, d1, d2⟩ := (h6.only hpq.2 (fun _ _ x => x)).lit hx.out
                cases hbo
                have hq21 := Blk.new wq 79 #[.string x.nm, .int .u16 x.num, .int .u8 x.kind]
                obtain ⟨B21, e21, w21, hap21, hp21⟩ := hpq.one ty66 ((Only.refl (fun _ => False) wq).alloc _) (by omega) wq.heap.size x hq21
                replace hbl := Lib.hid hbl
                clear hq21 hpq
                go_wp2_with (at_builtin; (refine wpList_append_eq1 rfl (.tmp 50) (.tmp 55) 66 rfl _ _ _ w21 (by simp [Act.eval]) (by simp [Act.eval]) hap21 ?_))
                go_roundw
                case rel => exact ⟨i + 1, _, false, by go_num, rfl, by omega, hp21, insPart_not hI.out hx.out hbl.out⟩
                case measure => simp [intOf]; omega
          · obtain rfl : i = l.length := by omega
            have hE := insPart_end hI
            have hol := insPart_len hI
            cases dn with
            | true =>
              have hd3 : addS l e = (out, 0) := by rw [hd2.out, hE]; rfl
              replace hd3 := Lib.hid hd3
              have ho9 := ho6.trans hp.2
              clear hI hE hp hd2
              go_wp2
              go_ret2
              exact ⟨A9, c9, by rw [hd3.out]; rfl, by rw [hd3.out]; exact hr9, ho9⟩
            | false =>
              have hd3 : addS l e = (out ++ [e], 0) := by rw [hd2.out, hE]; rfl
              replace hd3 := Lib.hid hd3
              have hbr := hb5.only hp.2 (fun x => x)
              have q0 := hbr.cell 0
              have q1 := hbr.cell 1
              have q2 := hbr.cell 2
              simp only [List.getElem?_toArray, List.getElem?_cons_zero, List.getElem?_cons_succ] at q0 q1 q2
              have hq21 := Blk.new wr 79 #[.string e.nm, .int .u16 e.num, .int .u8 e.kind]
              obtain ⟨B21, e21, w21, hap21, hp21⟩ := hp.one ty66 ((Only.refl (fun _ => False) wr).alloc _) (by omega) wr.heap.size e hq21
              obtain ⟨B2, c2, hv2, hr2⟩ := hp21.row
              have hl1 : (out ++ [e]).length = out.length + 1 := by rw [List.length_append]; rfl
              have ho9 := ho6.trans hp21.2
              rw [hl1] at hv2
              cases hv2
              replace hl1 := Lib.hid hl1
              clear hI hE hp hd2 hp21 hq21 hbr
              go_wp2_with (at_builtin; (refine wpList_append_eq1 rfl (.tmp 59) (.tmp 61) 66 rfl _ _ _ w21 (by simp [Act.eval]) (by simp [Act.eval]) hap21 ?_))
              go_ret2
              exact ⟨_, _, by rw [hd3.out]; simp only []; rw [hl1.out]; rfl, by rw [hd3.out]; exact hr2, ho9⟩
  · have hmb : (m == 0) = false := beq_false_of_ne hm
    have hmb2 : (m != 0) = true := by rw [bne, hmb]; rfl
    have hd2 : addS l e = ([], m) := by rw [hd.out, if_neg hm]
    replace hd2 := Lib.hid hd2
    clear hff hd
    go_wp2
    go_ret2
    exact ⟨none, 0, by rw [hd2.out]; rfl, by rw [hd2.out]; exact RowE.nil _, ho6⟩
end Go.Proofs.Ytnclappdokhciaa
