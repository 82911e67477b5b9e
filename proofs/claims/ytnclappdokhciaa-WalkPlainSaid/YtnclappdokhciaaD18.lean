/-
  Acts on a directory: a slice of them; entries stay entries under Drop and Add.
-/
import Derived.Test.YtnclappdokhciaaD16
import Derived.Test.YtnclappdokhciaaOpenE
namespace Go.Proofs.Ytnclappdokhciaa
open Go Go.RowKit Go.ChangeShapes Go.WideShapes Go.ChangeAt Go.Deep
set_option linter.unusedVariables false
structure Act0 where
  do_ : Nat
  e : Ent
instance : Inhabited Act0 := ⟨⟨0, default⟩⟩
/-- The slice holds the acts. -/
def RowA (w : World) (A : Option Addr) (l : List Act0) : Prop := ∀ (i : Nat) (x : Act0), l[i]? = some x → ∃ b o, A = some ⟨b, o, none⟩ ∧ b < w.heap.size ∧ w.cell? ⟨b, o + i * 4, none⟩ = some (.int .u8 x.do_) ∧ w.cell? ⟨b, o + i * 4 + 1, none⟩ = some (.string x.e.nm) ∧ w.cell? ⟨b, o + i * 4 + 2, none⟩ = some (.int .u16 x.e.num) ∧ w.cell? ⟨b, o + i * 4 + 3, none⟩ = some (.int .u8 x.e.kind)
theorem RowA.only {w w' : World} {A : Option Addr} {l : List Act0} (h : RowA w A l) (ho : Only (fun _ => False) w w') : RowA w' A l := fun i x hx => by
  obtain ⟨b, o, e, hb, h0, h1, h2, h3⟩ := h i x hx
  exact ⟨b, o, e, Nat.lt_of_lt_of_le hb ho.size, (Blk.cell_only ho (a := ⟨b, _, none⟩) hb (fun x => x)).trans h0, (Blk.cell_only ho (a := ⟨b, _, none⟩) hb (fun x => x)).trans h1, (Blk.cell_only ho (a := ⟨b, _, none⟩) hb (fun x => x)).trans h2, (Blk.cell_only ho (a := ⟨b, _, none⟩) hb (fun x => x)).trans h3⟩
theorem Try.cells81 : Try.prog.cellsOf 81 = 4 := by kernel_rfl
set_option maxRecDepth 20000 in
theorem open_acts {H : Type} {enc : TypeId × Value → H} {w : World} {fuel len cap : Nat} {A : Option Addr} {x : DataW H × List MemPlace}
    (h : DataW.trod enc Try.prog w 0 (fun _ => true) true fuel 78 [.slice A len cap] = some x) : ∃ l : List Act0, l.length = len ∧ RowA w A l := by
  rcases open_slice Try.underlying78 h with ⟨h0, _⟩ | ⟨a, len', cap', m, n, D, Pl, h0, hb, hl, hm, hmm, _, hx⟩
  · simp at h0
    obtain ⟨rfl, rfl, rfl⟩ := h0
    exact ⟨[], rfl, fun i x h => by cases h⟩
  · simp at h0
    obtain ⟨rfl, rfl, rfl⟩ := h0
    have hlm : len ≤ m := by simp at hmm; omega
    rcases Nat.eq_zero_or_pos len with rfl | hpos
    · exact ⟨[], rfl, fun i x h => by cases h⟩
    have hsp : a.spot = none := by
      obtain ⟨cs', h1, _⟩ := hx 0 (by omega)
      rw [Try.cells81] at h1
      obtain ⟨_, hlen, hcell⟩ := World.cells?_some h1
      have c0 := hcell 0 (by omega)
      match cs', hlen with
      | [v0, v1, v2, v3], _ => exact spot_none (a := a) (by simpa [Addr.add] using c0)
    obtain ⟨ab, ao, sp⟩ := a
    simp only at hsp
    subst hsp
    have each : ∀ i, i < len → ∃ x : Act0, ab < w.heap.size ∧ w.cell? ⟨ab, ao + i * 4, none⟩ = some (.int .u8 x.do_) ∧ w.cell? ⟨ab, ao + i * 4 + 1, none⟩ = some (.string x.e.nm) ∧ w.cell? ⟨ab, ao + i * 4 + 2, none⟩ = some (.int .u16 x.e.num) ∧ w.cell? ⟨ab, ao + i * 4 + 3, none⟩ = some (.int .u8 x.e.kind) := by
      intro i hi
      obtain ⟨cs', h1, h2⟩ := hx i (by omega)
      rw [Try.cells81] at h1
      obtain ⟨_, hlen, hcell⟩ := World.cells?_some h1
      obtain ⟨y0, y1, k, _, _, g0, g1⟩ := trod_struct2 Try.underlying81 h2
      match cs', hlen with
      | [v0, v1, v2, v3], _ =>
        simp [Try.cells5, Try.cells79] at g0 g1
        obtain ⟨n0, z0, _, w0⟩ := DataW.trod_int Try.underlying5 g0
        obtain ⟨e, he, _, _⟩ := open_ent g1 rfl
        simp only [Ent.cells, List.cons.injEq, and_true] at he
        obtain ⟨rfl, rfl, rfl⟩ := he
        simp at z0
        subst z0
        obtain ⟨a0, b0⟩ := bd8 w0
        obtain ⟨m0, rfl⟩ := Int.eq_ofNat_of_zero_le a0
        have c0 := hcell 0 (by omega)
        have c1 := hcell 1 (by omega)
        have c2 := hcell 2 (by omega)
        have c3 := hcell 3 (by omega)
        rw [Go.Deep.add_add, add_lit] at c0 c1 c2 c3
        exact ⟨⟨m0, e⟩, World.block_lt_of_cell? _ _ c0, by simpa using c0, by simpa [Nat.add_assoc] using c1, by simpa [Nat.add_assoc] using c2, by simpa [Nat.add_assoc] using c3⟩
    obtain ⟨l, hl1, hl2⟩ := list_of each
    exact ⟨l, hl1, fun i x hx => ⟨ab, ao, rfl, hl2 i x hx⟩⟩

/-- A copy of entries. -/
theorem copyE {w : World} {A : Option Addr} {l : List Ent} {c : Nat} (h : RowE w A l c) (hl : l.length ≤ 100000) :
    ∃ A2 c2 w', (Builtin.append_ #[59, 59] 59 #[.slice none 0 0, .slice A l.length c]).run Try.prog w = .ok (.slice A2 l.length c2) w' ∧ RowE w' A2 l c2 ∧ Only (fun _ => False) w w' := by
  obtain ⟨i, hi, hi0, hi1, hi2⟩ := info_of info63k
  obtain ⟨v', w', hr, hown, ho⟩ := app_part (P := Try.prog) (t := 59) (e := 63) (size := 3) (bytes := 24) (World.ownsRow_nil w w.heap.size 63 3) (Only.refl _ _) und59 hi hi0 hi1 hi2 rfl (by omega) (by omega) (epart A l c) (epart_ok h) (by simp only [epart]; omega)
  rw [List.nil_append, Nat.zero_add] at hown
  obtain ⟨_, A2, c2, hv, hr2⟩ := rowE_of hown
  simp only [epart] at hv hr
  subst hv
  exact ⟨A2, c2, w', hr, hr2, ho⟩

theorem are_iff {l : List Ent} : areS l = true ↔ (∀ e ∈ l, mayS e = 0) ∧ Rise l ∧ l.length ≤ 64 := by
  refine ⟨fun h => ⟨are_may h, rise_of h, (are_ok h).1⟩, fun ⟨h1, h2, h3⟩ => ?_⟩
  have hall : ∀ f i, areFrom l f i = true := by
    intro f
    induction f with
    | zero => intro i; rfl
    | succ f ih =>
      intro i
      unfold areFrom
      rw [ih, Bool.and_true]
      cases hi : l[i]? with
      | none => rfl
      | some e =>
        simp only [Option.map_some, Option.getD_some]
        unfold okAt
        rw [decide_eq_true (h1 e (List.mem_of_getElem? hi)), Bool.true_and]
        by_cases h0 : i = 0
        · simp [h0]
        · rw [decide_eq_false h0, Bool.false_or]
          obtain ⟨p, hp⟩ : ∃ z, l[i - 1]? = some z := ⟨_, List.getElem?_eq_getElem (by have := (List.getElem?_eq_some_iff.1 hi).1; omega)⟩
          rw [hp]
          simp only [Option.map_some, Option.getD_some]
          unfold lessB
          rw [less_cmp, ByteArray.toList_eq, ByteArray.toList_eq]
          exact decide_eq_true (h2 (i - 1) i p e (by omega) hp hi)
  unfold areS
  rw [hall, decide_eq_true h3]; rfl
theorem rise_pair {l : List Ent} : Rise l ↔ l.Pairwise fun x y => Lib.compareBytes x.nm.data.toList y.nm.data.toList < 0 := by
  rw [List.pairwise_iff_getElem]
  refine ⟨fun h i j hi hj hij => h i j l[i] l[j] hij (List.getElem?_eq_getElem hi) (List.getElem?_eq_getElem hj), fun h a b x y hab hx hy => ?_⟩
  obtain ⟨ha, rfl⟩ := List.getElem?_eq_some_iff.1 hx
  obtain ⟨hb, rfl⟩ := List.getElem?_eq_some_iff.1 hy
  exact h a b ha hb hab
theorem are_drop {l : List Ent} (h : areS l = true) (s : ByteArray) : areS (dropL l s) = true := by
  obtain ⟨h1, h2, h3⟩ := are_iff.1 h
  refine are_iff.2 ⟨fun e he => h1 e (List.mem_filter.1 he).1, rise_pair.2 ((rise_pair.1 h2).filter _), Nat.le_trans (List.length_filter_le _ _) h3⟩
/-- A place for every name. -/
theorem place_ex {l : List Ent} (hR : Rise l) (s : ByteArray) : ∃ i b, PlaceAt l s i b := by
  have hm := mono_of hR s
  have hex : ∃ i, i ≤ l.length ∧ (∀ t, t < i → cmpN l t s < 0) ∧ ∀ t, i ≤ t → t < l.length → 0 ≤ cmpN l t s := by
    have : ∀ k, k ≤ l.length → ∃ i, i ≤ k ∧ (∀ t, t < i → cmpN l t s < 0) ∧ ∀ t, i ≤ t → t < k → 0 ≤ cmpN l t s := by
      intro k
      induction k with
      | zero => intro _; exact ⟨0, Nat.le_refl _, fun t h => by omega, fun t _ h => by omega⟩
      | succ k ih =>
        intro hk
        obtain ⟨i, h1, h2, h3⟩ := ih (by omega)
        by_cases hc : cmpN l k s < 0
        · exact ⟨k + 1, Nat.le_refl _, fun t ht => hm t k (by omega) (by omega) hc, fun t h h' => by omega⟩
        · refine ⟨i, by omega, h2, fun t ht1 ht2 => ?_⟩
          by_cases htk : t = k
          · subst htk; omega
          · exact h3 t ht1 (by omega)
    exact this l.length (Nat.le_refl _)
  obtain ⟨i, h1, h2, h3⟩ := hex
  exact ⟨i, _, h1, h2, h3, rfl⟩
theorem ins_mem : ∀ (l : List Ent) (e x : Ent), x ∈ insE l e → x = e ∨ x ∈ l
  | [], e, x, h => .inl (List.mem_singleton.1 h)
  | y :: r, e, x, h => by
    unfold insE at h
    split at h
    · rcases List.mem_cons.1 h with h | h
      · exact .inl h
      · exact .inr h
    · rcases List.mem_cons.1 h with h | h
      · exact .inr (h ▸ List.mem_cons_self ..)
      · rcases ins_mem r e x h with h | h
        · exact .inl h
        · exact .inr (List.mem_cons_of_mem _ h)
theorem are_ins {l : List Ent} {e : Ent} (h : areS l = true) (hm : mayS e = 0) (hf : findE l e.nm = none) (hl : l.length < 64) : areS (insE l e) = true := by
  obtain ⟨h1, h2, h3⟩ := are_iff.1 h
  obtain ⟨i, b, hP⟩ := place_ex h2 e.nm
  have hb : b = false := by
    have := (place_eq h2 hP).2
    rw [hf] at this; exact this
  subst hb
  obtain ⟨_, f1, f2⟩ := place_false h2 hP
  have hi := ins_at l e i hP.1 f1 f2
  refine are_iff.2 ⟨fun x hx => ?_, ?_, ?_⟩
  · rcases ins_mem l e x hx with rfl | hx
    · exact hm
    · exact h1 x hx
  · rw [hi]
    have hp := rise_pair.1 h2
    have hsp : l = l.take i ++ l.drop i := (List.take_append_drop i l).symm
    rw [hsp] at hp
    obtain ⟨p1, p2, p3⟩ := List.pairwise_append.1 hp
    have hlow : ∀ y ∈ l.take i, Lib.compareBytes y.nm.data.toList e.nm.data.toList < 0 := fun y hy => by
      obtain ⟨t, ht⟩ := List.getElem?_of_mem hy
      rw [List.getElem?_take] at ht
      split at ht
      · rename_i hti
        have := hP.2.1 t hti
        rwa [cmpN_at ht] at this
      · cases ht
    have hhigh : ∀ y ∈ l.drop i, Lib.compareBytes e.nm.data.toList y.nm.data.toList < 0 := fun y hy => by
      obtain ⟨t, ht⟩ := List.getElem?_of_mem hy
      rw [List.getElem?_drop] at ht
      have hlt := (List.getElem?_eq_some_iff.1 ht).1
      have h5 := hP.2.2.1 (i + t) (by omega) hlt
      rw [cmpN_at ht] at h5
      have hne : ¬ Lib.compareBytes y.nm.data.toList e.nm.data.toList = 0 := fun h0 => by
        have hfn : findE l e.nm = none := hf
        unfold findE at hfn
        rw [List.find?_eq_none] at hfn
        have := hfn y (List.mem_of_mem_drop hy)
        rw [nm_eq] at this
        simp [h0] at this
      rw [cmp_swap]
      omega
    refine rise_pair.2 (List.pairwise_append.2 ⟨List.pairwise_append.2 ⟨p1, List.pairwise_singleton _ _, fun a ha b hb => ?_⟩, p2, fun a ha b hb => ?_⟩)
    · cases List.mem_singleton.1 hb
      exact hlow a ha
    · rcases List.mem_append.1 ha with ha | ha
      · exact p3 a ha b hb
      · cases List.mem_singleton.1 ha
        exact hhigh b hb
  · rw [hi]
    simp only [List.length_append, List.length_take, List.length_drop, List.length_cons, List.length_nil]
    omega
/-- What an act leaves: nothing, and an error; or entries of a directory. -/
def Step (p : List Ent × Int) : Prop := (p.2 = 0 ∧ areS p.1 = true) ∨ (p.2 ≠ 0 ∧ p.1 = [])
theorem step_drop {l : List Ent} (h : areS l = true) (s : ByteArray) : Step (dropS l s) := by
  unfold dropS
  split
  · exact .inl ⟨rfl, are_drop h s⟩
  · exact .inr ⟨by decide, rfl⟩
theorem step_add {l : List Ent} (h : areS l = true) (e : Ent) : Step (addS l e) := by
  unfold addS
  by_cases hm : mayS e = 0
  · rw [if_pos hm]
    by_cases hf : (findE l e.nm).isSome = true
    · rw [if_pos hf]; exact .inr ⟨by decide, rfl⟩
    · rw [if_neg hf]
      by_cases hl : 64 ≤ l.length
      · rw [if_pos hl]; exact .inr ⟨by decide, rfl⟩
      · rw [if_neg hl]
        exact .inl ⟨rfl, are_ins h hm (by simpa using hf) (by omega)⟩
  · rw [if_neg hm]; exact .inr ⟨hm, rfl⟩
end Go.Proofs.Ytnclappdokhciaa
