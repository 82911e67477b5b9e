/-
  Rows of one's own that grow by append (PV), over any program.
-/
import Derived.Test.YtpmikgbdicokhaaDoorR1
import Derived.Deep.RegionLaw
namespace Go.Proofs.YtpmikgbdicokhaaDoor
open Go.RowKit
set_option linter.unusedVariables false

/-- v is a row of the call's own (made since w1) of the values l. -/
def PV (w1 : World) (e : TypeId) (l : List Value) (n : Nat) (v : Value) (w' : World) : Prop := ∃ A c, v = .slice A n c ∧ (A = none → n = 0) ∧ n ≤ c ∧ w'.ownsRow w1.heap.size e 1 v n l ∧ Only (fun _ => False) w1 w'
theorem PV.of {w1 W : World} {e : TypeId} {l : List Value} {n : Nat} {v : Value} (h : W.ownsRow w1.heap.size e 1 v n l) (ho : Only (fun _ => False) w1 W) : PV w1 e l n v W := by
  rcases h.2 with ⟨e1, e2⟩ | ⟨g, cap, cur, e1, _, _, hc, _⟩
  · exact ⟨none, 0, by rw [e1, e2], fun _ => e2, by omega, h, ho⟩
  · exact ⟨_, cap, e1, fun h => (by cases h), hc, h, ho⟩
theorem PV.nil (w1 : World) (e : TypeId) : PV w1 e [] 0 (.slice none 0 0) w1 := PV.of (World.ownsRow_nil _ _ _ _) (Only.refl _ _)
theorem PV.next {w1 W W' : World} {e : TypeId} {l : List Value} {n : Nat} {v : Value} (h : PV w1 e l n v W) (ho : Only (fun _ => False) W W') : PV w1 e l n v W' := by
  obtain ⟨A, c, hv, h1, h2, h3, h4⟩ := h
  exact ⟨A, c, hv, h1, h2, ownsRow_only h3 ho (fun _ _ x => x), h4.trans ho⟩
theorem PV.len {w1 W : World} {e : TypeId} {l : List Value} {n : Nat} {v : Value} (h : PV w1 e l n v W) : l.length = n := by
  obtain ⟨_, _, _, _, _, h, _⟩ := h
  simpa using h.1
theorem PV.only {w1 W : World} {e : TypeId} {l : List Value} {n : Nat} {v : Value} (h : PV w1 e l n v W) : Only (fun _ => False) w1 W := by
  obtain ⟨_, _, _, _, _, _, h⟩ := h
  exact h
/-- A row is appended. -/
theorem PV.app {P : Program} {w1 W W2 : World} {e : TypeId} {l : List Value} {n : Nat} {v : Value} (h : PV w1 e l n v W) (hW : Only (fun _ => False) W W2) (i : TypeInfo) (z : Value) (b : Nat) (t : TypeId) (ht : P.underlying t = some (.slice e)) (hi : P.info? e = some i) (hz : i.zero = some z)
    (hsize : i.size = 1) (hby : i.bytes = b) (hzs : z.cells.size = 1) (hb : b ≤ 16) (A' : Option Addr) (m c B' : Nat) (ys : List Value) (hm : 0 < m) (hy : Reads W2 B' A' m ys) (h1 : ∀ u ∈ ys, u.oneCell' = true) (hn : n + m ≤ 1000000000) :
    ∃ v' w', (Builtin.append_ #[t, t] t #[v, .slice A' m c]).run P W2 = .ok v' w' ∧ PV w1 e (l ++ ys) (n + m) v' w' := by
  obtain ⟨A, c', hv, _, _, hown, ho⟩ := h
  have hown2 := ownsRow_only hown hW (fun _ _ x => x)
  obtain ⟨b', o', rfl, _, hyc⟩ := hy.2 hm
  have hbs : (n + m) * b ≤ 140737488355328 := Nat.le_trans (Nat.mul_le_mul hn hb) (by omega)
  obtain ⟨v', w', hr, hown', hg, _⟩ := run_append_own (P := P) W2 w1.heap.size t t e i z 1 b ht hi hz hsize hby hzs (by omega) v n _ hown2 ⟨b', o', none⟩ m c ys (by simpa using hy.1)
    (fun j u hu => by rw [add_lit]; exact hyc j u hu) h1 (by unfold maxLen; omega) hbs (ho.trans hW).size
  exact ⟨v', w', hr, PV.of hown' ((ho.trans hW).trans_of (Only.of_grown_own (S := fun k => w1.heap.size ≤ k) hg (fun g e => (hown2.lt g e).1)) (fun k hk hs => by omega))⟩
/-- One value is appended, which lies in a row of its own. -/
theorem PV.one {P : Program} {w1 W : World} {e : TypeId} {l : List Value} {n : Nat} {v : Value} (h : PV w1 e l n v W) (i : TypeInfo) (z : Value) (b : Nat) (t : TypeId) (ht : P.underlying t = some (.slice e)) (hi : P.info? e = some i) (hz : i.zero = some z)
    (hsize : i.size = 1) (hby : i.bytes = b) (hzs : z.cells.size = 1) (hb : b ≤ 16) (x : Value) (hx : x.oneCell' = true) (hn : n + 1 ≤ 1000000000) :
    ∃ v' w', (Builtin.append_ #[t, t] t #[v, .slice (some ⟨W.heap.size, 0, none⟩) 1 1]).run P (W.alloc (.cells #[x] e)) = .ok v' w' ∧ PV w1 e (l ++ [x]) (n + 1) v' w' :=
  h.app ((Only.refl _ _).alloc _) i z b t ht hi hz hsize hby hzs hb (some ⟨W.heap.size, 0, none⟩) 1 1 (W.alloc (.cells #[x] e)).heap.size [x] (by omega) ⟨rfl, fun _ => ⟨W.heap.size, 0, rfl, by simp, fun j u hu => by
    cases j with
    | zero => cases hu; exact (Blk.new W e #[x]).cell 0
    | succ j => cases hu⟩⟩ (by intro u hu; cases List.mem_singleton.1 hu; exact hx) hn
theorem PV.oneD {P : Program} {w1 W : World} {e : TypeId} {l : List Value} {n : Nat} {v : Value} (h : PV w1 e l n v W) (i : TypeInfo) (z : Value) (b : Nat) (t : TypeId) (ht : P.underlying t = some (.slice e)) (hi : P.info? e = some i) (hz : i.zero = some z)
    (hsize : i.size = 1) (hby : i.bytes = b) (hzs : z.cells.size = 1) (hb : b ≤ 16) (x : Value) (hx : x.oneCell' = true) (hn : n + 1 ≤ 1000000000) :
    ∃ v' w', (Builtin.append_ #[t, t] t #[v, .slice (some ⟨W.heap.size, 0, none⟩) 1 1]).run P (W.alloc (.cells #[x] e)).drew = .ok v' w' ∧ PV w1 e (l ++ [x]) (n + 1) v' w' :=
  h.app ((Only.refl _ _).alloc _).drew i z b t ht hi hz hsize hby hzs hb (some ⟨W.heap.size, 0, none⟩) 1 1 (W.alloc (.cells #[x] e)).heap.size [x] (by omega) ⟨rfl, fun _ => ⟨W.heap.size, 0, rfl, by simp, fun j u hu => by
    cases j with
    | zero => cases hu; exact (Blk.new W e #[x]).drew.cell 0
    | succ j => cases hu⟩⟩ (by intro u hu; cases List.mem_singleton.1 hu; exact hx) hn
/-- What it reads as. -/
theorem PV.at_ {w1 W : World} {e : TypeId} {l : List Value} {n : Nat} {v : Value} (h : PV w1 e l n v W) (hn : 0 < n) : ∃ g c, v = .slice (some ⟨g, 0, none⟩) n c ∧ n ≤ c ∧ w1.heap.size ≤ g ∧ g < W.heap.size ∧ ∀ i u, l[i]? = some u → W.cell? ⟨g, i, none⟩ = some u := by
  obtain ⟨A, c, hv, _, hc, hown, _⟩ := h
  subst hv
  obtain ⟨b, o, e1, hb, hcell⟩ := (Reads.of_own hown).2 hn
  obtain ⟨g, c', hv', hg, _⟩ := hown.form hn
  cases hv'
  cases e1
  exact ⟨_, c, rfl, hc, hg, hb, fun i u hu => by have := hcell i u hu; rwa [Nat.zero_add] at this⟩

theorem und37 : Tryd.prog.underlying 37 = some (.slice 36) := by kernel_rfl
theorem info36 : ∃ i, Tryd.prog.info? 36 = some i ∧ i.zero = some (.int .u32 0) ∧ i.size = 1 ∧ i.bytes = 4 := by
  have h : (Tryd.prog.info? 36).map (fun i => (i.zero, i.size, i.bytes)) = some (some (.int .u32 0), 1, 4) := by kernel_rfl
  cases e : Tryd.prog.info? 36 with
  | none => rw [e] at h; cases h
  | some i =>
    rw [e] at h
    simp only [Option.map_some, Option.some.injEq, Prod.mk.injEq] at h
    exact ⟨i, rfl, h.1, h.2.1, h.2.2⟩

/-- One value is appended: what the row's places held before they hold behind it, in the old block. -/
theorem PV.kept {P : Program} {w1 W W2 : World} {e : TypeId} {l : List Value} {n g c : Nat} (h : PV w1 e l n (.slice (some ⟨g, 0, none⟩) n c) W) (hW : Only (fun _ => False) W W2) (i : TypeInfo) (z : Value) (b : Nat) (t : TypeId) (ht : P.underlying t = some (.slice e)) (hi : P.info? e = some i) (hz : i.zero = some z)
    (hsize : i.size = 1) (hby : i.bytes = b) (hzs : z.cells.size = 1) (hb : b ≤ 16) (q : Nat) (x : Value) (hq : W2.cell? ⟨q, 0, none⟩ = some x) (hx : x.oneCell' = true) (hn : n + 1 ≤ 1000000000) (v' : Value) (w' : World)
    (hr : (Builtin.append_ #[t, t] t #[.slice (some ⟨g, 0, none⟩) n c, .slice (some ⟨q, 0, none⟩) 1 1]).run P W2 = .ok v' w') : ∀ j, j < n → w'.cell? ⟨g, j, none⟩ = W2.cell? ⟨g, j, none⟩ := by
  obtain ⟨A, c', hv, _, hc, hown, ho⟩ := h
  cases hv
  have hown2 := ownsRow_only hown hW (fun _ _ x => x)
  have hcell : ∀ j u, [x][j]? = some u → W2.cell? ((⟨q, 0, none⟩ : Addr).add j) = some u := fun j u hu => by
    cases j with
    | zero => cases hu; rw [add_lit]; exact hq
    | succ j => cases hu
  have hone : ∀ u ∈ [x], u.oneCell' = true := fun u hu => by cases List.mem_singleton.1 hu; exact hx
  intro j hj
  rcases hown2.2 with ⟨h1, _⟩ | ⟨g', cap, cur, hv, _, hh, _, _, hs, _⟩
  · cases h1
  · cases hv
    by_cases hlt : n < c
    · have hcn := cell_of_row W2 g n cur e (0, 0) hh
      have hroom := run_append_room_cells (P := P) W2 t t e i ht hi g 0 n c ⟨q, 0, none⟩ 1 1 [x] (by simp [hsize]) hcell hone (by omega)
        (fun k hk => by
          have hk0 : k = 0 := by simpa using hk
          subst hk0
          rw [hsize, Nat.mul_one, Nat.zero_add, Nat.add_zero, hcn, Array.getElem?_eq_getElem (by omega)]
          rfl)
        (fun k hk => by simp [World.frozen?, hh])
      rw [hr] at hroom
      injection hroom with _ e2
      rw [e2]
      exact World.cell?_setCells_out g [x] _ W2 ⟨g, j, none⟩ (fun _ _ => Or.inl (by rw [hsize]; show j < 0 + n * 1; omega))
    · obtain rfl : c = n := by omega
      have hbs : (c + 1) * b ≤ 140737488355328 := Nat.le_trans (Nat.mul_le_mul hn hb) (by omega)
      obtain ⟨v2, w2, hr2, _, hg2⟩ := run_append_full (P := P) W2 t t e i z b ht hi hz hsize hby hzs (some ⟨g, 0, none⟩) (some ⟨q, 0, none⟩) c 1 1 _ (q + 1) l [x] (fun h => by cases h) (Reads.of_own hown2) ⟨rfl, fun _ => ⟨q, 0, rfl, by omega, fun k u hu => by have := hcell k u hu; rwa [add_lit] at this⟩⟩ hone (by omega) (by unfold maxLen; omega) hbs
      rw [hr] at hr2
      injection hr2 with _ e2
      rw [e2]
      have hglt : g < W2.heap.size := by
        rcases Nat.lt_or_ge g W2.heap.size with h | h
        · exact h
        · rw [Array.getElem?_eq_none h] at hh; cases hh
      exact hg2.cell_far ⟨g, j, none⟩ hglt (by simp)
end Go.Proofs.YtpmikgbdicokhaaDoor
