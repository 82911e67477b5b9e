/-
  Rows of strings of the call's own, which grow by append.
-/
import Derived.Test.YtnclappdokhciaaG
namespace Go.Proofs.Ytnclappdokhciaa
open Go Go.RowKit
set_option linter.unusedVariables false

theorem row_lt {w : World} {B : Nat} {e : TypeId} {sz n : Nat} {v : Value} {xs : List Value} (h : w.ownsRow B e sz v n xs) : ∀ g, v.ownBlock = some g → B ≤ g ∧ g < w.heap.size := fun g hg => by
  rcases h.2 with ⟨h1, _⟩ | ⟨g', cap, cur, h1, hb, hh, _⟩
  · subst h1; cases hg
  · subst h1
    cases hg
    refine ⟨hb, ?_⟩
    rcases Nat.lt_or_ge g' w.heap.size with h | h
    · exact h
    · rw [Array.getElem?_eq_none h] at hh; cases hh
theorem row_only {w w' : World} {S : Nat → Prop} {B : Nat} {e : TypeId} {sz n : Nat} {v : Value} {xs : List Value} (h : w.ownsRow B e sz v n xs) (ho : Only S w w') (hs : ∀ g, v.ownBlock = some g → ¬ S g) : w'.ownsRow B e sz v n xs := by
  refine ⟨h.1, ?_⟩
  have hl := row_lt h
  rcases h.2 with hn | ⟨g, cap, cur, hv, hg, hh, rest⟩
  · exact .inl hn
  · subst hv
    exact .inr ⟨g, cap, cur, rfl, hg, (ho.block g (hl g rfl).2 (hs g rfl)).trans hh, rest⟩
theorem row_form {w : World} {B : Nat} {e : TypeId} {n : Nat} {v : Value} {xs : List Value} (h : w.ownsRow B e 1 v n xs) : ∃ A c, v = .slice A n c ∧ Reads w w.heap.size A n xs ∧ n ≤ c ∧ (A = none → n = 0 ∧ c = 0) := by
  have h' := h
  rcases h.2 with ⟨h1, h2⟩ | ⟨g, cap, cur, h1, hb, hh, hc, _⟩
  · subst h1; subst h2; exact ⟨none, 0, rfl, Reads.of_own h', Nat.le_refl _, fun _ => ⟨rfl, rfl⟩⟩
  · subst h1; exact ⟨_, cap, rfl, Reads.of_own h', hc, fun h => by cases h⟩
theorem row_set {w : World} {B q i : Nat} {e : TypeId} {sz n : Nat} {v u : Value} {xs : List Value} (h : w.ownsRow B e sz v n xs) (hq : v.ownBlock ≠ some q) : (w.setCell ⟨q, i, none⟩ u).ownsRow B e sz v n xs :=
  row_only h ((Only.refl (· = q) w).setCell (p := ⟨q, i, none⟩) (.inl rfl) u) (fun g hg e => by subst e; exact hq hg)

theorem und23 : Try.prog.underlying 23 = some (.slice 9) := by kernel_rfl
theorem info9k : (Try.prog.info? 9).map (fun i => (i.zero, i.size, i.bytes)) = some (some (.string ⟨#[]⟩), 1, 16) := by kernel_rfl
theorem info9 : ∃ i : TypeInfo, Try.prog.info? 9 = some i ∧ i.zero = some (.string ⟨#[]⟩) ∧ i.size = 1 ∧ i.bytes = 16 := by
  have h := info9k
  cases hi : Try.prog.info? 9 with
  | none => rw [hi] at h; cases h
  | some i =>
    rw [hi] at h
    simp only [Option.map_some, Option.some.injEq, Prod.mk.injEq] at h
    exact ⟨i, rfl, h.1, h.2.1, h.2.2⟩
def strs (l : List ByteArray) : List Value := l.map .string
theorem strs_one (l : List ByteArray) : ∀ u ∈ strs l, u.oneCell' = true := fun u hu => by
  obtain ⟨x, _, rfl⟩ := List.mem_map.1 hu
  rfl
/-- One string more at the end of a row of the call's own. -/
theorem app_str {w : World} {B n : Nat} {v : Value} {l : List ByteArray} (h : w.ownsRow B 9 1 v n (strs l)) (hB : B ≤ w.heap.size) (hn : n ≤ 100000) (x : ByteArray) :
    ∃ A9 c9 w', (Builtin.append_ #[23, 23] 23 #[v, .slice (some ⟨w.heap.size, 0, none⟩) 1 1]).run Try.prog (w.alloc (.cells #[.string x] 9)) = .ok (.slice A9 (n + 1) c9) w' ∧ w'.ownsRow B 9 1 (.slice A9 (n + 1) c9) (n + 1) (strs (l ++ [x])) ∧ Only (fun k => v.ownBlock = some k) w w' ∧ ∀ g, (Value.slice A9 (n + 1) c9).ownBlock = some g → v.ownBlock = some g ∨ w.heap.size ≤ g := by
  obtain ⟨i9, hi, hi0, hi1, hi2⟩ := info9
  have ho : Only (fun _ => False) w (w.alloc (.cells #[.string x] 9)) := (Only.refl _ w).alloc _
  have h2 := row_only h ho (fun _ _ x => x)
  obtain ⟨v', w', hr, hown, hg, _, hat⟩ := run_append_own_at (P := Try.prog) (w.alloc (.cells #[.string x] 9)) B 23 23 9 i9 (.string ⟨#[]⟩) 1 16 und23 hi hi0 hi1 hi2 rfl (by omega) v n _ h2 ⟨w.heap.size, 0, none⟩ 1 1 (strs [x]) rfl (fun j u hu => by
    cases j with
    | zero => cases hu; exact (Blk.new w 9 #[.string x]).cell 0
    | succ j => cases hu) (strs_one [x]) (by unfold maxLen; omega) (by omega) (Nat.le_trans hB ho.size)
  obtain ⟨A9, c9, hv9, _⟩ := row_form hown
  subst hv9
  refine ⟨A9, c9, w', hr, by rw [strs, List.map_append]; exact hown, ?_, fun g hg' => ?_⟩
  · exact (ho.mono (S' := fun k => v.ownBlock = some k) (fun _ _ h => h.elim)).trans (Only.of_grown_own (S := fun k => v.ownBlock = some k) hg (fun g e => e))
  · rcases hat with e | e
    · exact .inl (e ▸ hg')
    · rw [e] at hg'; cases hg'; exact .inr ho.size

/-- What the closure of Split has: the path, where a part begins, whether one was too long, and what will be told. -/
structure PSt (w : World) (B pb ab lb qb : Nat) (s : ByteArray) (at_ : Nat) (lg ab_ : Bool) (v : Value) (parts : List ByteArray) (sl : Bool) : Prop where
  hp : Blk w pb 9 #[.string s]
  ha : Blk w ab 3 #[.int .i64 at_]
  hl : Blk w lb 4 #[.bool lg]
  hq : Blk w qb 25 #[.bool ab_, v, .bool sl]
  row : w.ownsRow B 9 1 v parts.length (strs parts)
  lt : pb < B ∧ ab < B ∧ lb < B ∧ qb < B
  ne : pb ≠ ab ∧ pb ≠ lb ∧ pb ≠ qb ∧ ab ≠ lb ∧ ab ≠ qb ∧ lb ≠ qb
  hB : B ≤ w.heap.size
/-- What a call of it may turn. -/
def PS (B ab lb qb k : Nat) : Prop := k = ab ∨ k = lb ∨ k = qb ∨ B ≤ k
theorem PSt.next {w w' : World} {B pb ab lb qb : Nat} {s : ByteArray} {at_ : Nat} {lg ab_ : Bool} {v : Value} {parts : List ByteArray} {sl : Bool} {S : Nat → Prop} (h : PSt w B pb ab lb qb s at_ lg ab_ v parts sl) (ho : Only S w w') (hs : ∀ k, S k → k < B ∧ k ≠ pb ∧ k ≠ ab ∧ k ≠ lb ∧ k ≠ qb) : PSt w' B pb ab lb qb s at_ lg ab_ v parts sl :=
  ⟨h.hp.only ho (fun x => (hs _ x).2.1 rfl), h.ha.only ho (fun x => (hs _ x).2.2.1 rfl), h.hl.only ho (fun x => (hs _ x).2.2.2.1 rfl), h.hq.only ho (fun x => (hs _ x).2.2.2.2 rfl), row_only h.row ho (fun g hg x => by have := (row_lt h.row g hg).1; have := (hs g x).1; omega), h.lt, h.ne, Nat.le_trans h.hB ho.size⟩
end Go.Proofs.Ytnclappdokhciaa
