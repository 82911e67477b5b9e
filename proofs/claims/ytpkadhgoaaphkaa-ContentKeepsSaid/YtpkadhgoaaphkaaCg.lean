/-
  Rows of changes; clear; builtins by an equation on their run, in a round as anywhere.
-/
import Derived.Test.YtpkadhgoaaphkaaRd
namespace Go.Proofs.Ytpkadhgoaaphkaa
open Go Go.RowKit
set_option linter.unusedVariables false
/-- A change: its leaf, the block that it lies in (none: a hole), its bytes. -/
structure Cg where
  lf : Nat
  q : Option Nat
  bs : List UInt8
def Cg.val (c : Cg) : Value := match c.q with
  | none => .slice none 0 0
  | some q => .slice (some ⟨q, 0, none⟩) 512 512
def Cg.cells (c : Cg) : List Value := [.int .u32 c.lf, c.val]
def cgs (l : List Cg) : List Value := l.flatMap Cg.cells
theorem cgs_app (a b : List Cg) : cgs (a ++ b) = cgs a ++ cgs b := List.flatMap_append
theorem cgs_len : ∀ l : List Cg, (cgs l).length = l.length * 2
  | [] => rfl
  | c :: r => by
    have := cgs_len r
    unfold cgs at this ⊢
    rw [List.flatMap_cons, List.length_append, this]
    simp only [Cg.cells, List.length_cons, List.length_nil]
    omega
theorem Cg.val_one (c : Cg) : c.val.oneCell' = true := by
  unfold Cg.val
  cases c.q <;> rfl
theorem cgs_one (l : List Cg) : ∀ u ∈ cgs l, u.oneCell' = true := fun u hu => by
  obtain ⟨c, _, h⟩ := List.mem_flatMap.1 hu
  simp only [Cg.cells, List.mem_cons, List.not_mem_nil, or_false] at h
  rcases h with rfl | rfl
  · rfl
  · exact c.val_one
/-- A change's bytes lie in a block from N on. -/
def Cg.ok (N : Nat) (w : World) (c : Cg) : Prop := match c.q with
  | none => c.bs = []
  | some q => c.bs.length = 512 ∧ N ≤ q ∧ BB w q c.bs
section
variable {N : Nat} {w w' : World} {c : Cg} {S : Nat → Prop} {B : Nat}
theorem Cg.ok.keep (h : c.ok N w) (ho : Only S w w') (hs : ∀ q, c.q = some q → ¬ S q) : c.ok N w' := by
  unfold Cg.ok at h ⊢
  split at h
  · exact h
  · rename_i q e
    exact ⟨h.1, h.2.1, Blk.only h.2.2 ho (hs q e)⟩
theorem Cg.ok.lt (h : c.ok N w) {q : Nat} (e : c.q = some q) : N ≤ q ∧ q < w.heap.size ∧ tyAt w q 5 := by
  unfold Cg.ok at h
  rw [e] at h
  exact ⟨h.2.1, Blk.lt h.2.2, Blk.ty h.2.2⟩
theorem Cg.ok.turn (h : c.ok N w) (ho : Turn B w w') : c.ok N w' := h.keep ho fun q e x => by
  have := (h.lt e).2.2
  rcases x.2 with y | y
  · cases this.one y
  · cases this.one y
theorem Cg.ok.put {q i : Nat} {t : TypeId} (h : c.ok N w) (hq : tyAt w q t) (ht : t ≠ 5) (u : Value) : c.ok N (w.setCell ⟨q, i, none⟩ u) :=
  h.keep ((Only.refl (fun k => k = q) w).setCell (p := ⟨q, i, none⟩) (.inl rfl) u) fun q' e x => by subst x; exact ht (hq.one (h.lt e).2.2)
theorem Cg.ok.grown {row : Option Nat} {M : Nat} (h : c.ok N w) (hg : w.grownBy w' row) (hr : ∀ r, row = some r → M ≤ r ∧ ∃ o : Obj, w.heap[r]? = some o ∧ o.isCells = false) : c.ok N w' :=
  h.keep (grown_only hg) fun q e x => by
    obtain ⟨_, o, a, b⟩ := hr q x
    exact noncells a b (h.lt e).2.2
end
theorem und35 : Try.prog.underlying 35 = some (.slice 47) := by kernel_rfl
theorem info47k : (Try.prog.info? 47).map (fun i => (i.zero, i.size, i.bytes)) = some (some (.agg #[.int .u32 0, .slice none 0 0]), 2, 32) := by kernel_rfl
/-- One change is appended. -/
theorem app_cg {W : World} {base : Nat} {vo : Value} {L : List Cg} {c : Cg} {qn : Nat} (h : W.ownsRow base 47 2 vo L.length (cgs L)) (hb : base ≤ W.heap.size) (hq : Blk W qn 47 #[.int .u32 c.lf, c.val]) (hl : L.length ≤ 1000000) :
    ∃ g cap w', (Builtin.append_ #[35, 35] 35 #[vo, .slice (some ⟨qn, 0, none⟩) 1 1]).run Try.prog W = .ok (.slice (some ⟨g, 0, none⟩) (L.length + 1) cap) w' ∧ w'.ownsRow base 47 2 (.slice (some ⟨g, 0, none⟩) (L.length + 1) cap) (L ++ [c]).length (cgs (L ++ [c])) ∧ W.grownBy w' vo.ownBlock := by
  obtain ⟨i, hi, hi0, hi1, hi2⟩ := info_of info47k
  obtain ⟨v', w', hrun, hown, hg, _⟩ := run_append_own (P := Try.prog) W base 35 35 47 i (.agg #[.int .u32 0, .slice none 0 0]) 2 32 und35 hi hi0 hi1 hi2 rfl (by omega) vo L.length (cgs L) h ⟨qn, 0, none⟩ 1 1 (cgs [c]) (by rw [cgs_len]; rfl)
    (fun j u hu => by
      rw [add_lit, Nat.zero_add, hq.cell j]
      simpa [cgs, Cg.cells] using hu) (cgs_one _) (by unfold maxLen; omega) (by omega) hb
  have hown' := hown
  obtain ⟨q, cap, rfl⟩ := ownsRow_succ hown'
  refine ⟨q, cap, w', hrun, ?_, hg⟩
  rw [List.length_append, List.length_singleton, cgs_app]
  exact hown
/-- clear(row[fr:]) -/
theorem run_clear_b {w : World} {q fr c : Nat} {cur : List UInt8} (ty : TypeId) (h : BB w q cur) (hl : cur.length = 512) (hf : fr < 512) :
    ∃ w', (Builtin.clear_ #[24] ty #[.slice (some ⟨q, fr, none⟩) (512 - fr) c]).run Try.prog w = .ok (.tuple #[]) w' ∧ BB w' q (cur.take fr ++ List.replicate (512 - fr) 0) ∧ Only (fun k => k = q) w w' := by
  have hzv : ∀ w, (zeroValue 5).run Try.prog w = .ok (.int .u8 0) w := fun w => by kernel_rfl
  have hzc : (Builtin.zeroCells (Value.int .u8 0).cells (512 - fr)).toList = Lib.byteCells (List.replicate (512 - fr) 0) := by
    rw [show (Value.int IntKind.u8 0).cells = #[Value.int .u8 0] from rfl]
    unfold Lib.byteCells
    rw [List.map_replicate]
    have e := made_rep (Value.int .u8 0) (512 - fr)
    unfold madeCells at e
    unfold Builtin.zeroCells
    simp only [List.size_toArray, List.length_singleton, Nat.mul_one] at e ⊢
    rw [e]
    rfl
  have hst := run_storeCells_at Try.prog q fr 5 (Lib.byteCells (List.replicate (512 - fr) 0)) 0 (Lib.byteCells cur).toArray w h (by rw [Lib.byteCells_length, List.length_replicate]; simp only [List.size_toArray, Lib.byteCells_length]; omega) (bytes_one _)
  obtain ⟨m, hm⟩ : ∃ m, 512 - fr = m + 1 := ⟨512 - fr - 1, by omega⟩
  refine ⟨w.setRow q ((Lib.byteCells cur).take fr ++ Lib.byteCells (List.replicate (512 - fr) 0) ++ (Lib.byteCells cur).drop (fr + (512 - fr))).toArray, ?_, ?_, ?_⟩
  · rw [Lib.byteCells_length, List.length_replicate] at hst
    simp only [Nat.add_zero] at hst
    rw [hm] at hst hzc ⊢
    simp [Builtin.clear_, run_underlying und24, hzv, hzc, hst]
  · have hset := setRow_heap w q (Lib.byteCells cur).toArray ((Lib.byteCells cur).take fr ++ Lib.byteCells (List.replicate (512 - fr) 0) ++ (Lib.byteCells cur).drop (fr + (512 - fr))).toArray 5 (0, 0) h
    have e : Lib.byteCells (cur.take fr ++ List.replicate (512 - fr) 0) = (Lib.byteCells cur).take fr ++ Lib.byteCells (List.replicate (512 - fr) 0) ++ (Lib.byteCells cur).drop (fr + (512 - fr)) := by
      rw [List.drop_eq_nil_of_le (by rw [Lib.byteCells_length]; omega), List.append_nil]
      unfold Lib.byteCells
      rw [List.map_append, List.map_take]
    unfold BB Blk
    rw [e]
    exact hset
  · exact ⟨rfl, rfl, rfl, by simp [World.setRow], fun k hk hne => setRow_other w q k _ hne⟩
section
variable {F : Fence} {n : Nat} {P : Program} {w : World} {ops : Array Oper} {rest : List Oper} {o : Oper} {a : Act} {Q : Exit → Act → World → Prop}
theorem wpListIn_append_eq1 (hgd : o.guard = none) (s x : Operand) (t : TypeId) (ho : o.op = .call { callee := .builtin .append, args := #[s, x], argTypes := #[t, t] }) (vs vx v' : Value) (w' : World)
    (hs : a.eval s = vs) (hx : a.eval x = vx) (hr : (Builtin.append_ #[t, t] o.type #[vs, vx]).run P w = .ok v' w') (h : wpListIn F n P ops Q rest (a.put o.dst v') w') : wpListIn F n P ops Q (o :: rest) a w := by
  refine wpListIn_plain hgd fun K hK => ?_
  unfold Oper.wpIn
  refine ⟨?_, ?_⟩
  · simp [Oper.about, ho, resolve, Target.leads, Sem.run_pure]
  · rw [Oper.semAt_plain F _ _ (by rw [ho]; intro c hc; cases hc)]
    simp [execOp, ho, resolve, invoke, builtin, hs, hx, hr, Result.andThen]
    exact hK _ _ h
theorem wpListIn_copy_eq1 (hgd : o.guard = none) (s x : Operand) (t : TypeId) (ho : o.op = .call { callee := .builtin .copy, args := #[s, x], argTypes := #[t, t] }) (vs vx v' : Value) (w' : World)
    (hs : a.eval s = vs) (hx : a.eval x = vx) (hr : (Builtin.copy_ #[t, t] o.type #[vs, vx]).run P w = .ok v' w') (h : wpListIn F n P ops Q rest (a.put o.dst v') w') : wpListIn F n P ops Q (o :: rest) a w := by
  refine wpListIn_plain hgd fun K hK => ?_
  unfold Oper.wpIn
  refine ⟨?_, ?_⟩
  · simp [Oper.about, ho, resolve, Target.leads, Sem.run_pure]
  · rw [Oper.semAt_plain F _ _ (by rw [ho]; intro c hc; cases hc)]
    simp [execOp, ho, resolve, invoke, builtin, hs, hx, hr, Result.andThen]
    exact hK _ _ h
theorem wpListIn_clear_eq1 (hgd : o.guard = none) (s : Operand) (t : TypeId) (ho : o.op = .call { callee := .builtin .clear, args := #[s], argTypes := #[t] }) (vs v' : Value) (w' : World)
    (hs : a.eval s = vs) (hr : (Builtin.clear_ #[t] o.type #[vs]).run P w = .ok v' w') (h : wpListIn F n P ops Q rest (a.put o.dst v') w') : wpListIn F n P ops Q (o :: rest) a w := by
  refine wpListIn_plain hgd fun K hK => ?_
  unfold Oper.wpIn
  refine ⟨?_, ?_⟩
  · simp [Oper.about, ho, resolve, Target.leads, Sem.run_pure]
  · rw [Oper.semAt_plain F _ _ (by rw [ho]; intro c hc; cases hc)]
    simp [execOp, ho, resolve, invoke, builtin, hs, hr, Result.andThen]
    exact hK _ _ h
end
theorem step_copy_eq1 {P : Program} {w : World} {ops : Array Oper} {o : Oper} {a : Act} {K : Act → World → Prop} {Q : Exit → Act → World → Prop} {E : Prop}
    (hgd : o.guard = none) (s x : Operand) (t : TypeId) (ho : o.op = .call { callee := .builtin .copy, args := #[s, x], argTypes := #[t, t] }) (vs vx v' : Value) (w' : World)
    (hs : a.eval s = vs) (hx : a.eval x = vx) (hr : (Builtin.copy_ #[t, t] o.type #[vs, vx]).run P w = .ok v' w') (h : K (a.put o.dst v') w') :
    if Region.wanted o (yielded ops a.tmps) = true then Oper.wp P o a w K Q else E := by
  have hw : Region.wanted o (yielded ops a.tmps) = true := by simp [Region.wanted, hgd]
  rw [if_pos hw]
  unfold Oper.wp execOp
  simp only [ho, resolve, invoke, builtin, Sem.run_bind, Sem.run_pure, Result.andThen_ok, List.map_toArray, List.map_cons, List.map_nil, hs, hx, hr]
  exact h
end Go.Proofs.Ytpkadhgoaaphkaa
