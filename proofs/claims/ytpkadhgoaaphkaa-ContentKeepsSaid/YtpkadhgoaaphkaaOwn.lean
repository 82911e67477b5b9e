/-
  Slices of one-cell elements that read as lists; append; rows of one's own that grow by append; regions walked in a class of worlds. Over any program.
-/
import Derived.Test.YtpkadhgoaaphkaaBase
import Derived.Deep.AppendLies
import Derived.ArgAppend
import Derived.OwnWalk
import Derived.BigQuiet
import Derived.Laws.Rows
import Derived.Deep.QuietTactic
namespace Go.Proofs.Ytpkadhgoaaphkaa
open Go Go.RowKit
set_option linter.unusedVariables false

/-- The slice value .slice A n c reads as the list xs, from below block B. -/
def Reads (w : World) (B : Nat) (A : Option Addr) (n : Nat) (xs : List Value) : Prop :=
  xs.length = n ∧ (0 < n → ∃ b o, A = some ⟨b, o, none⟩ ∧ b < B ∧ ∀ (j : Nat) u, xs[j]? = some u → w.cell? ⟨b, o + j, none⟩ = some u)

section
variable {w w' : World} {B B' n : Nat} {A : Option Addr} {xs : List Value} {S : Nat → Prop}
theorem Reads.nil_ (w : World) (B : Nat) (A : Option Addr) : Reads w B A 0 [] := ⟨rfl, fun h => absurd h (by omega)⟩
theorem Reads.more (h : Reads w B A n xs) (hB : B ≤ B') : Reads w B' A n xs :=
  ⟨h.1, fun hn => by obtain ⟨b, o, e, hb, hc⟩ := h.2 hn; exact ⟨b, o, e, by omega, hc⟩⟩
theorem Reads.only (h : Reads w B A n xs) (hB : B ≤ w.heap.size) (ho : Only S w w') (hs : ∀ k, k < B → ¬ S k) : Reads w' B A n xs :=
  ⟨h.1, fun hn => by
    obtain ⟨b, o, e, hb, hc⟩ := h.2 hn
    exact ⟨b, o, e, hb, fun j u hu => (Blk.cell_only ho (a := ⟨b, o + j, none⟩) (by show b < _; omega) (hs b hb)).trans (hc j u hu)⟩⟩
theorem Reads.below (h : Reads w B A n xs) (ho : Below B w w') : Reads w' B A n xs :=
  ⟨h.1, fun hn => by
    obtain ⟨b, o, e, hb, hc⟩ := h.2 hn
    exact ⟨b, o, e, hb, fun j u hu => (ho.cell (p := ⟨b, o + j, none⟩) hb).trans (hc j u hu)⟩⟩
/-- xs[k:] -/
theorem Reads.drop (h : Reads w B A n xs) {k cap : Nat} (hk : k ≤ n) (hc : n ≤ cap) :
    Reads w B (if cap = k then A else A.map (·.add k)) (n - k) (xs.drop k) := by
  refine ⟨by rw [List.length_drop, h.1], fun hn => ?_⟩
  obtain ⟨b, o, rfl, hb, hcell⟩ := h.2 (by omega)
  rw [if_neg (by omega)]
  refine ⟨b, o + k, ?_, hb, fun j u hu => ?_⟩
  · simp only [Option.map_some]; unfold Addr.add; split <;> simp_all
  · rw [Nat.add_assoc]
    exact hcell _ u (by rw [← hu, List.getElem?_drop])
theorem Reads.take (h : Reads w B A n xs) {k : Nat} (hk : k ≤ n) : Reads w B A k (xs.take k) := by
  refine ⟨by rw [List.length_take, h.1]; omega, fun hn => ?_⟩
  obtain ⟨b, o, e, hb, hcell⟩ := h.2 (by omega)
  refine ⟨b, o, e, hb, fun j u hu => hcell j u ?_⟩
  rw [List.getElem?_take] at hu
  split at hu
  · exact hu
  · cases hu
theorem Reads.of_own {base : Nat} {e : TypeId} {c : Nat} (h : w.ownsRow base e 1 (.slice A n c) n xs) : Reads w w.heap.size A n xs := by
  refine ⟨by simpa using h.1, fun hn => ?_⟩
  obtain ⟨g, cap, hv, _, hlt⟩ := h.form hn
  have hA : A = some ⟨g, 0, none⟩ := by injection hv
  subst hA
  refine ⟨g, 0, rfl, hlt, fun j u hu => ?_⟩
  have := h.cells (g := g) rfl j u hu
  have hadd : (⟨g, 0, none⟩ : Addr).add j = ⟨g, 0 + j, none⟩ := by unfold Addr.add; split <;> simp_all
  rwa [hadd] at this
end

section
variable {P : Program} (w : World)

theorem add_lit (b o j : Nat) : (⟨b, o, none⟩ : Addr).add j = ⟨b, o + j, none⟩ := by unfold Addr.add; split <;> simp_all

/-- append where nothing is appended: the value itself. -/
theorem run_append_zero (t ty e : TypeId) (i : TypeInfo) (ht : P.underlying t = some (.slice e)) (hi : P.info? e = some i)
    (A A' : Option Addr) (n cap c : Nat) (hn : n ≤ cap) (hA : A = none → n = 0 ∧ cap = 0) : (Builtin.append_ #[t, t] ty #[.slice A n cap, .slice A' 0 c]).run P w = .ok (.slice A n cap) w := by
  cases A with
  | none =>
    obtain ⟨rfl, rfl⟩ := hA rfl
    cases A' <;> simp [Builtin.append_, run_underlying ht, sizeOf, typeInfo, hi, Builtin.lenOf, Builtin.firstCells, loadCells, loadCellsFrom]
  | some a =>
    cases A' <;> simp [Builtin.append_, run_underlying ht, sizeOf, typeInfo, hi, Builtin.lenOf, Builtin.firstCells, loadCells, loadCellsFrom, storeCells, hn]

/-- append onto a slice without room (its capacity is its length): a new row, or, where nothing is appended, the value itself. -/
theorem run_append_full (t ty e : TypeId) (i : TypeInfo) (z : Value) (bytes : Nat) (ht : P.underlying t = some (.slice e)) (hi : P.info? e = some i) (hz : i.zero = some z)
    (hsize : i.size = 1) (hby : i.bytes = bytes) (hzs : z.cells.size = 1)
    (A A' : Option Addr) (n m c B B' : Nat) (xs ys : List Value) (hA : A = none → n = 0) (hx : Reads w B A n xs) (hy : Reads w B' A' m ys) (h1 : ∀ u ∈ ys, u.oneCell' = true) (hm : 0 < m)
    (h63 : n + m ≤ maxLen) (hbytes : (n + m) * bytes ≤ 140737488355328) :
    ∃ v' w', (Builtin.append_ #[t, t] ty #[.slice A n n, .slice A' m c]).run P w = .ok v' w' ∧ w'.ownsRow w.heap.size e 1 v' (n + m) (xs ++ ys) ∧ w.grownBy w' none := by
  obtain ⟨b', o', rfl, _, hyc⟩ := hy.2 hm
  cases A with
  | none =>
    obtain rfl := hA rfl
    obtain rfl : xs = [] := List.eq_nil_of_length_eq_zero hx.1
    obtain ⟨v', w', hrun, r1, r2, _⟩ := run_append_own (P := P) w w.heap.size t ty e i z 1 bytes ht hi hz hsize hby hzs (by omega) (.slice none 0 0) 0 [] (World.ownsRow_nil w _ e 1) ⟨b', o', none⟩ m c ys (by simpa using hy.1) (fun j u hu => by rw [add_lit]; exact hyc j u hu) h1 h63 hbytes (Nat.le_refl _)
    exact ⟨v', w', hrun, r1, r2⟩
  | some a =>
    refine run_append_arg_grows (P := P) w t ty e i z 1 bytes ht hi hz hsize hby hzs (by omega) a n n xs (by simpa using hx.1) (fun j u hu => ?_) ⟨b', o', none⟩ m c ys (by simpa using hy.1) (fun j u hu => by rw [add_lit]; exact hyc j u hu) (by omega) h63 hbytes
    have hn : 0 < n := by
      have := (List.getElem?_eq_some_iff.1 hu).1
      rw [hx.1] at this; omega
    obtain ⟨b, o, e', _, hxc⟩ := hx.2 hn
    cases e'
    rw [add_lit]
    exact hxc j u hu

variable {w}
variable {ops : Array Oper} {rest : List Oper} {o : Oper} {a : Act} {K : Act → World → Prop} {Q : Exit → Act → World → Prop}
/-- append, by an equation on its run. -/
theorem wp_append_eq (s x : Operand) (t : TypeId) (ho : o.op = .call { callee := .builtin .append, args := #[s, x], argTypes := #[t, t] }) (vs vx v' : Value) (w' : World)
    (hs : a.eval s = vs) (hx : a.eval x = vx) (hr : ∀ ty, (Builtin.append_ #[t, t] ty #[vs, vx]).run P w = .ok v' w') (h : K (a.put o.dst v') w') : o.wp P a w K Q := by
  have hr' := hr o.type
  unfold Oper.wp execOp
  simp only [ho, resolve, invoke, builtin, Sem.run_bind, Sem.run_pure, Result.andThen_ok, List.map_toArray, List.map_cons, List.map_nil, hs, hx, hr']
  exact h
theorem wpList_append_eq (hgd : o.guard = none) (s x : Operand) (t : TypeId) (ho : o.op = .call { callee := .builtin .append, args := #[s, x], argTypes := #[t, t] }) (vs vx v' : Value) (w' : World)
    (hs : a.eval s = vs) (hx : a.eval x = vx) (hr : ∀ ty, (Builtin.append_ #[t, t] ty #[vs, vx]).run P w = .ok v' w') (h : wpList P ops Q rest (a.put o.dst v') w') : wpList P ops Q (o :: rest) a w :=
  wpList_plain hgd fun _ hK => wp_append_eq s x t ho vs vx v' w' hs hx hr (hK _ _ h)
theorem step_append_eq {E : Prop} (hgd : o.guard = none) (s x : Operand) (t : TypeId) (ho : o.op = .call { callee := .builtin .append, args := #[s, x], argTypes := #[t, t] }) (vs vx v' : Value) (w' : World)
    (hs : a.eval s = vs) (hx : a.eval x = vx) (hr : ∀ ty, (Builtin.append_ #[t, t] ty #[vs, vx]).run P w = .ok v' w') (h : K (a.put o.dst v') w') :
    if Region.wanted o (yielded ops a.tmps) = true then Oper.wp P o a w K Q else E := by
  have hw : Region.wanted o (yielded ops a.tmps) = true := by simp [Region.wanted, hgd]
  rw [if_pos hw]
  exact wp_append_eq s x t ho vs vx v' w' hs hx hr h
end
theorem Only.of_grown {w w' : World} {S : Nat → Prop} (h : w.grownBy w' none) : Only S w w' := ⟨h.os, h.tape, h.output, h.size, fun k hk _ => h.block k hk (by simp)⟩
theorem Only.of_grown_own {w w' : World} {S : Nat → Prop} {row : Option Nat} (h : w.grownBy w' row) (hr : ∀ g, row = some g → S g) : Only S w w' :=
  ⟨h.os, h.tape, h.output, h.size, fun k hk hn => h.block k hk (fun e => hn (hr k e.symm))⟩
theorem ownsRow_mono {w : World} {B B' : Nat} {e : TypeId} {size : Nat} {v : Value} {n : Nat} {xs : List Value} (h : w.ownsRow B e size v n xs) (hb : B' ≤ B) : w.ownsRow B' e size v n xs := by
  refine ⟨h.1, ?_⟩
  rcases h.2 with hn | ⟨g, cap, cur, hv, hg, rest⟩
  · exact .inl hn
  · exact .inr ⟨g, cap, cur, hv, Nat.le_trans hb hg, rest⟩
theorem ownsRow_only {w w' : World} {S : Nat → Prop} {B : Nat} {e : TypeId} {size : Nat} {v : Value} {n : Nat} {xs : List Value} (h : w.ownsRow B e size v n xs) (ho : Only S w w') (hs : ∀ k, B ≤ k → ¬ S k) : w'.ownsRow B e size v n xs := by
  refine ⟨h.1, ?_⟩
  rcases h.2 with hn | ⟨g, cap, cur, hv, hg, hh, rest⟩
  · exact .inl hn
  · refine .inr ⟨g, cap, cur, hv, hg, ?_, rest⟩
    have hlt : g < w.heap.size := by
      rcases Nat.lt_or_ge g w.heap.size with h | h
      · exact h
      · rw [Array.getElem?_eq_none h] at hh; cases hh
    exact (ho.block g hlt (hs g hg)).trans hh
theorem wpList_append_eq1 {P : Program} {w : World} {ops : Array Oper} {rest : List Oper} {o : Oper} {a : Act} {Q : Exit → Act → World → Prop}
    (hgd : o.guard = none) (s x : Operand) (t : TypeId) (ho : o.op = .call { callee := .builtin .append, args := #[s, x], argTypes := #[t, t] }) (vs vx v' : Value) (w' : World)
    (hs : a.eval s = vs) (hx : a.eval x = vx) (hr : (Builtin.append_ #[t, t] o.type #[vs, vx]).run P w = .ok v' w') (h : wpList P ops Q rest (a.put o.dst v') w') : wpList P ops Q (o :: rest) a w :=
  wpList_plain hgd fun _ hK => by
    unfold Oper.wp execOp
    simp only [ho, resolve, invoke, builtin, Sem.run_bind, Sem.run_pure, Result.andThen_ok, List.map_toArray, List.map_cons, List.map_nil, hs, hx, hr]
    exact hK _ _ h

theorem step_append_eq1 {P : Program} {w : World} {ops : Array Oper} {o : Oper} {a : Act} {K : Act → World → Prop} {Q : Exit → Act → World → Prop} {E : Prop}
    (hgd : o.guard = none) (s x : Operand) (t : TypeId) (ho : o.op = .call { callee := .builtin .append, args := #[s, x], argTypes := #[t, t] }) (vs vx v' : Value) (w' : World)
    (hs : a.eval s = vs) (hx : a.eval x = vx) (hr : (Builtin.append_ #[t, t] o.type #[vs, vx]).run P w = .ok v' w') (h : K (a.put o.dst v') w') :
    if Region.wanted o (yielded ops a.tmps) = true then Oper.wp P o a w K Q else E := by
  have hw : Region.wanted o (yielded ops a.tmps) = true := by simp [Region.wanted, hgd]
  rw [if_pos hw]
  unfold Oper.wp execOp
  simp only [ho, resolve, invoke, builtin, Sem.run_bind, Sem.run_pure, Result.andThen_ok, List.map_toArray, List.map_cons, List.map_nil, hs, hx, hr]
  exact h

/-- v is a row of the call's own (made since w1) of the values l. -/
def PV (w1 : World) (e : TypeId) (l : List Value) (n : Nat) (v : Value) (w' : World) : Prop := ∃ A c, v = .slice A n c ∧ (A = none → n = 0) ∧ n ≤ c ∧ w'.ownsRow w1.heap.size e 1 v n l ∧ Only (fun _ => False) w1 w'
theorem PV.of {w1 W : World} {e : TypeId} {l : List Value} {n : Nat} {v : Value} (h : W.ownsRow w1.heap.size e 1 v n l) (ho : Only (fun _ => False) w1 W) : PV w1 e l n v W := by
  rcases h.2 with ⟨e1, e2⟩ | ⟨g, cap, cur, e1, _, _, hc, _⟩
  · exact ⟨none, 0, by rw [e1, e2], fun _ => e2, by omega, h, ho⟩
  · exact ⟨_, cap, e1, fun h => (by cases h), hc, h, ho⟩
theorem PV.nil (w1 : World) (e : TypeId) : PV w1 e [] 0 (.slice none 0 0) w1 := PV.of (World.ownsRow_nil _ _ _ _) (Only.refl _ _)
theorem PV.next {w1 W W' : World} {e : TypeId} {l : List Value} {n : Nat} {v : Value} (h : PV w1 e l n v W) (ho : Only (fun _ => False) W W') : PV w1 e l n v W' := by
  obtain ⟨A, c, hv, h1, h2, h3, h4⟩ := h
  exact ⟨A, c, hv, h1, h2, ownsRow_only h3 ho (fun _ _ x => x), h4.trans ho⟩
theorem PV.len {w1 W : World} {e : TypeId} {l : List Value} {n : Nat} {v : Value} (h : PV w1 e l n v W) : l.length = n := by
  obtain ⟨_, _, _, _, _, h, _⟩ := h
  simpa using h.1
theorem PV.only {w1 W : World} {e : TypeId} {l : List Value} {n : Nat} {v : Value} (h : PV w1 e l n v W) : Only (fun _ => False) w1 W := by
  obtain ⟨_, _, _, _, _, _, h⟩ := h
  exact h
/-- A row is appended. -/
theorem PV.app {P : Program} {w1 W W2 : World} {e : TypeId} {l : List Value} {n : Nat} {v : Value} (h : PV w1 e l n v W) (hW : Only (fun _ => False) W W2) (i : TypeInfo) (z : Value) (b : Nat) (t : TypeId) (ht : P.underlying t = some (.slice e)) (hi : P.info? e = some i) (hz : i.zero = some z)
    (hsize : i.size = 1) (hby : i.bytes = b) (hzs : z.cells.size = 1) (hb : b ≤ 16) (A' : Option Addr) (m c B' : Nat) (ys : List Value) (hm : 0 < m) (hy : Reads W2 B' A' m ys) (h1 : ∀ u ∈ ys, u.oneCell' = true) (hn : n + m ≤ 1000000000) :
    ∃ v' w', (Builtin.append_ #[t, t] t #[v, .slice A' m c]).run P W2 = .ok v' w' ∧ PV w1 e (l ++ ys) (n + m) v' w' := by
  obtain ⟨A, c', hv, _, _, hown, ho⟩ := h
  have hown2 := ownsRow_only hown hW (fun _ _ x => x)
  obtain ⟨b', o', rfl, _, hyc⟩ := hy.2 hm
  have hbs : (n + m) * b ≤ 140737488355328 := Nat.le_trans (Nat.mul_le_mul hn hb) (by omega)
  obtain ⟨v', w', hr, hown', hg, _⟩ := run_append_own (P := P) W2 w1.heap.size t t e i z 1 b ht hi hz hsize hby hzs (by omega) v n _ hown2 ⟨b', o', none⟩ m c ys (by simpa using hy.1)
    (fun j u hu => by rw [add_lit]; exact hyc j u hu) h1 (by unfold maxLen; omega) hbs (ho.trans hW).size
  exact ⟨v', w', hr, PV.of hown' ((ho.trans hW).trans_of (Only.of_grown_own (S := fun k => w1.heap.size ≤ k) hg (fun g e => (hown2.lt g e).1)) (fun k hk hs => by omega))⟩
/-- One value is appended, which lies in a row of its own. -/
theorem PV.one {P : Program} {w1 W : World} {e : TypeId} {l : List Value} {n : Nat} {v : Value} (h : PV w1 e l n v W) (i : TypeInfo) (z : Value) (b : Nat) (t : TypeId) (ht : P.underlying t = some (.slice e)) (hi : P.info? e = some i) (hz : i.zero = some z)
    (hsize : i.size = 1) (hby : i.bytes = b) (hzs : z.cells.size = 1) (hb : b ≤ 16) (x : Value) (hx : x.oneCell' = true) (hn : n + 1 ≤ 1000000000) :
    ∃ v' w', (Builtin.append_ #[t, t] t #[v, .slice (some ⟨W.heap.size, 0, none⟩) 1 1]).run P (W.alloc (.cells #[x] e)) = .ok v' w' ∧ PV w1 e (l ++ [x]) (n + 1) v' w' :=
  h.app ((Only.refl _ _).alloc _) i z b t ht hi hz hsize hby hzs hb (some ⟨W.heap.size, 0, none⟩) 1 1 (W.alloc (.cells #[x] e)).heap.size [x] (by omega) ⟨rfl, fun _ => ⟨W.heap.size, 0, rfl, by simp, fun j u hu => by
    cases j with
    | zero => cases hu; exact (Blk.new W e #[x]).cell 0
    | succ j => cases hu⟩⟩ (by intro u hu; cases List.mem_singleton.1 hu; exact hx) hn
theorem PV.oneD {P : Program} {w1 W : World} {e : TypeId} {l : List Value} {n : Nat} {v : Value} (h : PV w1 e l n v W) (i : TypeInfo) (z : Value) (b : Nat) (t : TypeId) (ht : P.underlying t = some (.slice e)) (hi : P.info? e = some i) (hz : i.zero = some z)
    (hsize : i.size = 1) (hby : i.bytes = b) (hzs : z.cells.size = 1) (hb : b ≤ 16) (x : Value) (hx : x.oneCell' = true) (hn : n + 1 ≤ 1000000000) :
    ∃ v' w', (Builtin.append_ #[t, t] t #[v, .slice (some ⟨W.heap.size, 0, none⟩) 1 1]).run P (W.alloc (.cells #[x] e)).drew = .ok v' w' ∧ PV w1 e (l ++ [x]) (n + 1) v' w' :=
  h.app ((Only.refl _ _).alloc _).drew i z b t ht hi hz hsize hby hzs hb (some ⟨W.heap.size, 0, none⟩) 1 1 (W.alloc (.cells #[x] e)).heap.size [x] (by omega) ⟨rfl, fun _ => ⟨W.heap.size, 0, rfl, by simp, fun j u hu => by
    cases j with
    | zero => cases hu; exact (Blk.new W e #[x]).drew.cell 0
    | succ j => cases hu⟩⟩ (by intro u hu; cases List.mem_singleton.1 hu; exact hx) hn
/-- What it reads as. -/
theorem PV.at_ {w1 W : World} {e : TypeId} {l : List Value} {n : Nat} {v : Value} (h : PV w1 e l n v W) (hn : 0 < n) : ∃ g c, v = .slice (some ⟨g, 0, none⟩) n c ∧ n ≤ c ∧ w1.heap.size ≤ g ∧ g < W.heap.size ∧ ∀ i u, l[i]? = some u → W.cell? ⟨g, i, none⟩ = some u := by
  obtain ⟨A, c, hv, _, hc, hown, _⟩ := h
  subst hv
  obtain ⟨b, o, e1, hb, hcell⟩ := (Reads.of_own hown).2 hn
  obtain ⟨g, c', hv', hg, _⟩ := hown.form hn
  cases hv'
  cases e1
  exact ⟨_, c, rfl, hc, hg, hb, fun i u hu => by have := hcell i u hu; rwa [Nat.zero_add] at this⟩

/-- One value is appended: what the row's places held before they hold behind it, in the old block. -/
theorem PV.kept {P : Program} {w1 W W2 : World} {e : TypeId} {l : List Value} {n g c : Nat} (h : PV w1 e l n (.slice (some ⟨g, 0, none⟩) n c) W) (hW : Only (fun _ => False) W W2) (i : TypeInfo) (z : Value) (b : Nat) (t : TypeId) (ht : P.underlying t = some (.slice e)) (hi : P.info? e = some i) (hz : i.zero = some z)
    (hsize : i.size = 1) (hby : i.bytes = b) (hzs : z.cells.size = 1) (hb : b ≤ 16) (q : Nat) (x : Value) (hq : W2.cell? ⟨q, 0, none⟩ = some x) (hx : x.oneCell' = true) (hn : n + 1 ≤ 1000000000) (v' : Value) (w' : World)
    (hr : (Builtin.append_ #[t, t] t #[.slice (some ⟨g, 0, none⟩) n c, .slice (some ⟨q, 0, none⟩) 1 1]).run P W2 = .ok v' w') : ∀ j, j < n → w'.cell? ⟨g, j, none⟩ = W2.cell? ⟨g, j, none⟩ := by
  obtain ⟨A, c', hv, _, hc, hown, ho⟩ := h
  cases hv
  have hown2 := ownsRow_only hown hW (fun _ _ x => x)
  have hcell : ∀ j u, [x][j]? = some u → W2.cell? ((⟨q, 0, none⟩ : Addr).add j) = some u := fun j u hu => by
    cases j with
    | zero => cases hu; rw [add_lit]; exact hq
    | succ j => cases hu
  have hone : ∀ u ∈ [x], u.oneCell' = true := fun u hu => by cases List.mem_singleton.1 hu; exact hx
  intro j hj
  rcases hown2.2 with ⟨h1, _⟩ | ⟨g', cap, cur, hv, _, hh, _, _, hs, _⟩
  · cases h1
  · cases hv
    by_cases hlt : n < c
    · have hcn := cell_of_row W2 g n cur e (0, 0) hh
      have hroom := run_append_room_cells (P := P) W2 t t e i ht hi g 0 n c ⟨q, 0, none⟩ 1 1 [x] (by simp [hsize]) hcell hone (by omega)
        (fun k hk => by
          have hk0 : k = 0 := by simpa using hk
          subst hk0
          rw [hsize, Nat.mul_one, Nat.zero_add, Nat.add_zero, hcn, Array.getElem?_eq_getElem (by omega)]
          rfl)
        (fun k hk => by simp [World.frozen?, hh])
      rw [hr] at hroom
      injection hroom with _ e2
      rw [e2]
      exact World.cell?_setCells_out g [x] _ W2 ⟨g, j, none⟩ (fun _ _ => Or.inl (by rw [hsize]; show j < 0 + n * 1; omega))
    · obtain rfl : c = n := by omega
      have hbs : (c + 1) * b ≤ 140737488355328 := Nat.le_trans (Nat.mul_le_mul hn hb) (by omega)
      obtain ⟨v2, w2, hr2, _, hg2⟩ := run_append_full (P := P) W2 t t e i z b ht hi hz hsize hby hzs (some ⟨g, 0, none⟩) (some ⟨q, 0, none⟩) c 1 1 _ (q + 1) l [x] (fun h => by cases h) (Reads.of_own hown2) ⟨rfl, fun _ => ⟨q, 0, rfl, by omega, fun k u hu => by have := hcell k u hu; rwa [add_lit] at this⟩⟩ hone (by omega) (by unfold maxLen; omega) hbs
      rw [hr] at hr2
      injection hr2 with _ e2
      rw [e2]
      have hglt : g < W2.heap.size := by
        rcases Nat.lt_or_ge g W2.heap.size with h | h
        · exact h
        · rw [Array.getElem?_eq_none h] at hh; cases hh
      exact hg2.cell_far ⟨g, j, none⟩ hglt (by simp)
section
variable {P : Program} {C : World → Prop}
theorem wp_region_class {id : Nat} {Q : Exit → Act → World → Prop} {a : Act} {w : World} {l : List Oper} (C : World → Prop) (hm : P.follows .mixedOrders = true) (hB : Region.lexB .any l.toArray = true) (hC : C w.drew)
    (h : wpQuiet P l.toArray C (fun a' => ∀ w', C w' → Q .normal a' w') l a) : (Code.region id l.toArray true).wp P Q a w :=
  wp_region_quiet (C := C) hm hB hC (by simpa using h)
theorem quiet_load_row {o : Oper} {a : Act} {K : Act → Prop} (ty : TypeId) (x : Operand) (ho : o.op = .load ty x) (g : Nat) (hx : a.eval x = .pointer (some ⟨g, 0, none⟩)) (t : TypeId) (cs : Array Value) (fr : Nat × Nat) (d : TypeDesc)
    (hg : ∀ w, C w → w.heap[g]? = some (.cells cs t fr)) (hu : P.underlying ty = some d) (hd : (match d with | .struct _ | .array _ _ => true | _ => false) = true) (hi : (P.info? ty).map (·.size) = some cs.size)
    (hk : K (a.put o.dst (.agg cs))) : o.quiet P a C K :=
  ⟨_, fun w hw => by
    unfold Oper.quietAt execOp
    simp only [ho, hx, Instr.loadAt, Instr.sureAddr, Sem.run_bind, Sem.run_pure, Result.andThen_ok, run_loadVar_row w g t ty cs fr d (hg w hw) hu hd hi]
    exact ⟨rfl, rfl⟩, hk⟩
theorem quiet_load_cell {o : Oper} {a : Act} {K : Act → Prop} (ty : TypeId) (x : Operand) (ho : o.op = .load ty x) (p : Addr) (hx : a.eval x = .pointer (some p)) (v : Value) (d : TypeDesc)
    (hg : ∀ w, C w → w.cell? p = some v) (hd : (match d with | .struct _ | .array _ _ => true | _ => false) = false) (hu : P.underlying ty = some d)
    (hk : K (a.put o.dst v)) : o.quiet P a C K :=
  ⟨v, fun w hw => by
    unfold Oper.quietAt execOp
    have hagg : (isAgg ty).run P w = .ok false w := by
      unfold isAgg
      rw [Sem.run_bind, run_underlying hu w]
      cases d <;> simp_all
    have hl := hg w hw
    simp only [ho, hx, Instr.loadAt, Instr.sureAddr, Sem.run_bind, Sem.run_pure, Result.andThen_ok, loadVar, hagg, run_load, hl, Bool.false_eq_true, if_false]
    exact ⟨rfl, rfl⟩, hk⟩
end
end Go.Proofs.Ytpkadhgoaaphkaa
