/-
  Entries of a directory: rows of structs of three cells, which read as lists; append of one.
-/
import Derived.Test.YtnclappdokhciaaS3
import Derived.Deep.MidRow
import Derived.Maps.AppendAt
namespace Go.Proofs.Ytnclappdokhciaa
open Go Go.RowKit
set_option linter.unusedVariables false

structure Ent where
  nm : ByteArray
  num : Nat
  kind : Nat
def Ent.cells (e : Ent) : List Value := [.string e.nm, .int .u16 e.num, .int .u8 e.kind]
def ents (l : List Ent) : List Value := l.flatMap Ent.cells
theorem ents_cons (x : Ent) (r : List Ent) : ents (x :: r) = .string x.nm :: .int .u16 x.num :: .int .u8 x.kind :: ents r := rfl
theorem ents_app (x y : List Ent) : ents (x ++ y) = ents x ++ ents y := List.flatMap_append
theorem ents_len : ∀ l : List Ent, (ents l).length = l.length * 3
  | [] => rfl
  | x :: r => by rw [ents_cons]; simp only [List.length_cons, ents_len r]; omega
theorem ents_at : ∀ (l : List Ent) (i : Nat) (e : Ent), l[i]? = some e → (ents l)[i * 3]? = some (.string e.nm) ∧ (ents l)[i * 3 + 1]? = some (.int .u16 e.num) ∧ (ents l)[i * 3 + 2]? = some (.int .u8 e.kind)
  | [], i, e, h => by cases h
  | x :: r, 0, e, h => by cases h; exact ⟨rfl, rfl, rfl⟩
  | x :: r, i + 1, e, h => by
    have ih := ents_at r i e h
    rw [show (i + 1) * 3 = i * 3 + 1 + 1 + 1 by omega, ents_cons]
    simp only [show i * 3 + 1 + 1 + 1 + 1 = (i * 3 + 1) + 1 + 1 + 1 by omega, show i * 3 + 1 + 1 + 1 + 2 = (i * 3 + 2) + 1 + 1 + 1 by omega, List.getElem?_cons_succ]
    exact ih
theorem ents_one (l : List Ent) : ∀ u ∈ ents l, u.oneCell' = true := fun u hu => by
  obtain ⟨x, _, hx⟩ := List.mem_flatMap.1 hu
  simp only [Ent.cells, List.mem_cons, List.not_mem_nil, or_false] at hx
  rcases hx with rfl | rfl | rfl <;> rfl
theorem ents_drop : ∀ (l : List Ent) (k : Nat), (ents l).drop (k * 3) = ents (l.drop k)
  | [], k => by simp [ents]
  | x :: r, 0 => by simp
  | x :: r, k + 1 => by
    rw [show (k + 1) * 3 = k * 3 + 1 + 1 + 1 by omega, ents_cons]
    simp only [List.drop_succ_cons]
    exact ents_drop r k
theorem ents_take : ∀ (l : List Ent) (k : Nat), (ents l).take (k * 3) = ents (l.take k)
  | [], k => by simp [ents]
  | x :: r, 0 => by simp [ents]
  | x :: r, k + 1 => by
    rw [show (k + 1) * 3 = k * 3 + 1 + 1 + 1 by omega, ents_cons]
    simp only [List.take_succ_cons, ents_cons]
    rw [ents_take r k]

/-- The slice value .slice A l.length c reads as the entries l. -/
def RowE (w : World) (A : Option Addr) (l : List Ent) (c : Nat) : Prop := Reads w w.heap.size A (l.length * 3) (ents l) ∧ l.length ≤ c ∧ (A = none → l.length = 0 ∧ c = 0)
section
variable {w w' : World} {A : Option Addr} {l : List Ent} {c : Nat} {S : Nat → Prop}
theorem RowE.nil (w : World) : RowE w none [] 0 := ⟨⟨rfl, fun h => by simp at h⟩, Nat.le_refl _, fun _ => ⟨rfl, rfl⟩⟩
theorem RowE.only (h : RowE w A l c) (ho : Only S w w') (hs : ∀ k, k < w.heap.size → ¬ S k) : RowE w' A l c := ⟨(h.1.only (Nat.le_refl _) ho hs).more ho.size, h.2⟩
theorem RowE.lit (h : RowE w A l c) {i : Nat} {e : Ent} (hi : l[i]? = some e) : ∃ b o, A = some ⟨b, o, none⟩ ∧ b < w.heap.size ∧ w.cell? ⟨b, o + i * 3, none⟩ = some (.string e.nm) ∧ w.cell? ⟨b, o + i * 3 + 1, none⟩ = some (.int .u16 e.num) ∧ w.cell? ⟨b, o + i * 3 + 2, none⟩ = some (.int .u8 e.kind) := by
  have hlt := (List.getElem?_eq_some_iff.1 hi).1
  obtain ⟨b, o, e1, hb, hc⟩ := h.1.2 (by omega)
  have h3 := ents_at l i e hi
  refine ⟨b, o, e1, hb, hc _ _ h3.1, ?_, ?_⟩
  · rw [Nat.add_assoc]; exact hc _ _ h3.2.1
  · rw [Nat.add_assoc]; exact hc _ _ h3.2.2
end
theorem info63k : (Try.prog.info? 63).map (fun i => (i.zero, i.size, i.bytes)) = some (some (.agg #[.string ⟨#[]⟩, .int .u16 0, .int .u8 0]), 3, 24) := by kernel_rfl
theorem info79k : (Try.prog.info? 79).map (fun i => (i.zero, i.size, i.bytes)) = some (some (.agg #[.string ⟨#[]⟩, .int .u16 0, .int .u8 0]), 3, 24) := by kernel_rfl
theorem und59 : Try.prog.underlying 59 = some (.slice 63) := by kernel_rfl
theorem und66 : Try.prog.underlying 66 = some (.slice 79) := by kernel_rfl
theorem info_of {t : TypeId} {a : Option Value} {b c : Nat} (h : (Try.prog.info? t).map (fun i => (i.zero, i.size, i.bytes)) = some (a, b, c)) : ∃ i : TypeInfo, Try.prog.info? t = some i ∧ i.zero = a ∧ i.size = b ∧ i.bytes = c := by
  cases hi : Try.prog.info? t with
  | none => rw [hi] at h; cases h
  | some i =>
    rw [hi] at h
    simp only [Option.map_some, Option.some.injEq, Prod.mk.injEq] at h
    exact ⟨i, rfl, h.1, h.2.1, h.2.2⟩
/-- dir's kind of rows, and the reference's. -/
def EntTy (t e : TypeId) : Prop := Try.prog.underlying t = some (.slice e) ∧ (Try.prog.info? e).map (fun i => (i.zero, i.size, i.bytes)) = some (some (.agg #[.string ⟨#[]⟩, .int .u16 0, .int .u8 0]), 3, 24)
theorem ty59 : EntTy 59 63 := ⟨und59, info63k⟩
theorem ty66 : EntTy 66 79 := ⟨und66, info79k⟩
theorem rowE_of {w : World} {B : Nat} {e : TypeId} {n : Nat} {v : Value} {l : List Ent} (h : w.ownsRow B e 3 v n (ents l)) : n = l.length ∧ ∃ A c, v = .slice A n c ∧ RowE w A l c := by
  have hn : n = l.length := by have := h.1; rw [ents_len] at this; omega
  refine ⟨hn, ?_⟩
  rcases h.2 with ⟨h1, h2⟩ | ⟨g, cap, cur, h1, hb, hh, hc, hc2, hs, ht⟩
  · have hl : l = [] := List.eq_nil_of_length_eq_zero (by omega)
    subst hl
    exact ⟨none, 0, by rw [h1, h2], RowE.nil w⟩
  · refine ⟨_, cap, h1, ⟨ents_len l, fun hp => ⟨g, 0, rfl, ?_, fun j u hu => ?_⟩⟩, by omega, fun h => by cases h⟩
    · exact (row_lt h g (by rw [h1]; rfl)).2
    · have := h.cells (g := g) (by rw [h1]; rfl) j u hu
      rw [add_lit] at this; exact this
/-- One entry more at the end of a row of the call's own. -/
theorem app_ent {t e : TypeId} (hty : EntTy t e) {w w2 : World} {B n q : Nat} {v : Value} {l : List Ent} (h : w.ownsRow B e 3 v n (ents l)) (ho : Only (fun _ => False) w w2) (hB : B ≤ w.heap.size) (hn : n ≤ 100000) (x : Ent) (hq : Blk w2 q e #[.string x.nm, .int .u16 x.num, .int .u8 x.kind]) :
    ∃ A9 c9 w', (Builtin.append_ #[t, t] t #[v, .slice (some ⟨q, 0, none⟩) 1 1]).run Try.prog w2 = .ok (.slice A9 (n + 1) c9) w' ∧ w'.ownsRow B e 3 (.slice A9 (n + 1) c9) (n + 1) (ents (l ++ [x])) ∧ Only (fun k => v.ownBlock = some k) w w' := by
  obtain ⟨hu, hk⟩ := hty
  obtain ⟨i9, hi, hi0, hi1, hi2⟩ := info_of hk
  have h2 := row_only h ho (fun _ _ x => x)
  have hx := run_append_own_at (P := Try.prog) w2 B t t e i9 _ 3 24 hu hi hi0 hi1 hi2 rfl (by omega) v n _ h2 ⟨q, 0, none⟩ 1 1 (ents [x]) rfl (fun j u hj => by
    rw [add_lit, Nat.zero_add, hq.cell j]
    rw [← hj]
    simp [ents, Ent.cells]) (ents_one [x]) (by unfold maxLen; omega) (by omega) (Nat.le_trans hB ho.size)
  obtain ⟨v', w', hr, hown, hg, _, hat⟩ := hx
  rw [← ents_app] at hown
  obtain ⟨_, A9, c9, hv9, _⟩ := rowE_of hown
  subst hv9
  exact ⟨A9, c9, w', hr, hown, (ho.mono (S' := fun k => v.ownBlock = some k) (fun _ _ h => h.elim)).trans (Only.of_grown_own (S := fun k => v.ownBlock = some k) hg (fun g e => e))⟩
end Go.Proofs.Ytnclappdokhciaa
