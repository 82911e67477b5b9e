/-
  What lies while changes are gathered over the pieces of a range.
-/
import Derived.Test.YtpkadhgoaaphkaaCg
namespace Go.Proofs.Ytpkadhgoaaphkaa
open Go Go.RowKit
set_option linter.unusedVariables false
def Cg.pair (c : Cg) : Nat × List UInt8 := (c.lf, c.bs)
/-- What changes are known by: those behind i pieces, what has been asked, that nothing of it was bad, that the last one was. -/
structure Law where
  L : Nat → List (Nat × List UInt8)
  A : Nat → List Nat
  N : Nat → Prop
  D : Nat → Prop
section
variable (B g : Nat) (v : Nat → Value) (m : Nat → List UInt8) (bad : Nat) (w : World) (q0 q1 q2 q3 q4 qf : Nat)
/-- What lies under way: the changes LL so far, the questions AA so far. -/
structure CM (LL : List (Nat × List UInt8)) (AA : List Nat) (W : World) : Prop where
  b0 : Blk W q0 49 #[.iface 29 (.pointer (some ⟨g, 0, none⟩))]
  b1 : Blk W q1 35 #[.slice none 0 0]
  b2 : Blk W q2 34 #[.int .u32 0]
  b3 : Blk W q3 36 #[.int .i64 0]
  b4 : ∃ vo L, Blk W q4 35 #[vo] ∧ W.ownsRow w.heap.size 47 2 vo L.length (cgs L) ∧ (∀ c ∈ L, c.ok w.heap.size W) ∧ L.map Cg.pair = LL
  sh : ∃ va', Sh B g v m bad va' AA W ∧ va'.ownBlock ≠ some q2
  tn : Turn B w W
  tf : tyAt W qf 3
  tg : tyAt W (qf + 1) 3
  nq : w.heap.size ≤ qf ∧ w.heap.size ≤ q4 ∧ q1 ≠ q4
  vl : ∀ i k, i < 64 → (v i).ownBlock = some k → k < w.heap.size
  xq : ∀ X, v 64 = .pointer (some ⟨X, 0, none⟩) → X ≠ q2
end
section
variable (B g : Nat) (v : Nat → Value) (m : Nat → List UInt8) (bad : Nat) (ask : List Nat) (w : World) (K : Law) (q1 q2 q3 : Nat)
structure CX (i : Nat) (W : World) : Prop where
  b1 : Blk W q1 35 #[.slice none 0 0]
  b2 : Blk W q2 34 #[.int .u32 0]
  b3 : Blk W q3 36 #[.int .i64 21]
  sh : ∃ va', Sh B g v m bad va' (ask ++ K.A i) W
  bd : K.D i
  tn : Turn B w W
/-- The changes are told. -/
structure ChOk (i : Nat) (A : Option Addr) (c : Nat) (L : List Cg) (w' : World) : Prop where
  rd : Reads w' w'.heap.size A (L.length * 2) (cgs L)
  cap : L.length ≤ c
  ok : ∀ x ∈ L, x.ok w.heap.size w'
  eq : L.map Cg.pair = K.L i
  sh : ∃ va', Sh B g v m bad va' (ask ++ K.A i) w'
  nb : K.N i
  tn : Turn B w w'
def ChPost (N ns : Nat) (r : Ending) (w' : World) : Prop :=
  (∃ A c L, r = .returned (.tuple #[.slice A L.length c, .int .u32 ns, .int .i64 0]) ∧ ChOk B g v m bad ask w K N A c L w') ∨
  (∃ i, i ≤ N ∧ r = .returned (.tuple #[.slice none 0 0, .int .u32 0, .int .i64 21]) ∧ (∃ va', Sh B g v m bad va' (ask ++ K.A i) w') ∧ K.D i ∧ Turn B w w')
end
section
variable {B g : Nat} {v : Nat → Value} {m : Nat → List UInt8} {bad : Nat} {ask : List Nat} {w : World} {K : Law} {q0 q1 q2 q3 q4 qf : Nat} {i N : Nat} {W W' : World} {row : Option Nat} {LL : List (Nat × List UInt8)} {AA : List Nat}
theorem ty_grown {q : Nat} {t : TypeId} (h : tyAt W q t) (hg : W.grownBy W' row) (hr : ∀ r, row = some r → N ≤ r ∧ ∃ o : Obj, W.heap[r]? = some o ∧ o.isCells = false) : tyAt W' q t := by
  obtain ⟨cs, fr, e⟩ := h
  exact ⟨cs, fr, ((grown_only hg).block q (Array.getElem?_eq_some_iff.1 e).1 (fun x => by obtain ⟨_, o, a1, a2⟩ := hr q x; exact noncells a1 a2 ⟨cs, fr, e⟩)).trans e⟩
theorem CM.grown (h : CM B g v m bad w q0 q1 q2 q3 q4 qf LL AA W) (hg : W.grownBy W' row) (hr : ∀ r, row = some r → N ≤ r ∧ ∃ o : Obj, W.heap[r]? = some o ∧ o.isCells = false) (hN : w.heap.size ≤ N) : CM B g v m bad w q0 q1 q2 q3 q4 qf LL AA W' := by
  obtain ⟨vo, L, h3, h4, h5, h6⟩ := h.b4
  obtain ⟨va', hs, hn⟩ := h.sh
  exact ⟨h.b0.grown hg hr, h.b1.grown hg hr, h.b2.grown hg hr, h.b3.grown hg hr, ⟨vo, L, h3.grown hg hr, row_grown h4 hg hr, fun c hc => (h5 c hc).grown hg hr, h6⟩, ⟨va', hs.grown hg hr, hn⟩, h.tn.grown hg hr hN, ty_grown h.tf hg hr, ty_grown h.tg hg hr, h.nq, h.vl, h.xq⟩
theorem CM.put (h : CM B g v m bad w q0 q1 q2 q3 q4 qf LL AA W) (u : Value) : CM B g v m bad w q0 q1 q2 q3 q4 qf LL AA (W.setCell ⟨qf, 0, none⟩ u) := by
  obtain ⟨vo, L, h3, h4, h5, h6⟩ := h.b4
  obtain ⟨va', hs, hn⟩ := h.sh
  exact ⟨h.b0.put h.tf (by decide) u, h.b1.put h.tf (by decide) u, h.b2.put h.tf (by decide) u, h.b3.put h.tf (by decide) u, ⟨vo, L, h3.put h.tf (by decide) u, row_put h4 h.tf (by decide) u, fun c hc => (h5 c hc).put h.tf (by decide) u, h6⟩, ⟨va', hs.put h.tf (by decide) u, hn⟩, h.tn.setCell (.inr h.nq.1) u, h.tf.setCell _ _, h.tg.setCell _ _, h.nq, h.vl, h.xq⟩
/-- New blocks turn. -/
theorem CM.fresh {M : Nat} (h : CM B g v m bad w q0 q1 q2 q3 q4 qf LL AA W) (hM : W.heap.size ≤ M) (ho : Only (fun k => M ≤ k) W W') : CM B g v m bad w q0 q1 q2 q3 q4 qf LL AA W' := by
  obtain ⟨vo, L, h3, h4, h5, h6⟩ := h.b4
  obtain ⟨va', hs, hn⟩ := h.sh
  have hb : ∀ {q t cs}, Blk W q t cs → Blk W' q t cs := fun hb => hb.only ho (by have := hb.lt; omega)
  have ht : ∀ {q t}, tyAt W q t → tyAt W' q t := fun ⟨cs, fr, e⟩ => ⟨cs, fr, (ho.block _ (Array.getElem?_eq_some_iff.1 e).1 (by have := (Array.getElem?_eq_some_iff.1 e).1; omega)).trans e⟩
  exact ⟨hb h.b0, hb h.b1, hb h.b2, hb h.b3, ⟨vo, L, hb h3, row_keep h4 ho (fun q hq x => by have := (row_lt' h4 q hq).2.1; omega), fun c hc => (h5 c hc).keep ho (fun q e x => by have := ((h5 c hc).lt e).2.1; omega), h6⟩, ⟨va', hs.fresh hM ho, hn⟩, h.tn.new (ho.mono fun k _ x => by have := h.tn.size; omega), ht h.tf, ht h.tg, h.nq, h.vl, h.xq⟩
theorem CM.only (h : CM B g v m bad w q0 q1 q2 q3 q4 qf LL AA W) (ho : Only (fun _ => False) W W') : CM B g v m bad w q0 q1 q2 q3 q4 qf LL AA W' := h.fresh (Nat.le_refl _) (ho.mono fun _ _ x => x.elim)
theorem CX.grown (h : CX B g v m bad ask w K q1 q2 q3 i W) (hg : W.grownBy W' row) (hr : ∀ r, row = some r → N ≤ r ∧ ∃ o : Obj, W.heap[r]? = some o ∧ o.isCells = false) (hN : w.heap.size ≤ N) : CX B g v m bad ask w K q1 q2 q3 i W' := by
  obtain ⟨va', hs⟩ := h.sh
  exact ⟨h.b1.grown hg hr, h.b2.grown hg hr, h.b3.grown hg hr, ⟨va', hs.grown hg hr⟩, h.bd, h.tn.grown hg hr hN⟩
/-- Behind a question. -/
theorem CM.asked {va va1 : Value} {off : Nat} (h : CM B g v m bad w q0 q1 q2 q3 q4 qf LL AA W) (hSh : Sh B g v m bad va AA W) (hne : va.ownBlock ≠ some q2) (hS1 : Sh B g v m bad va1 (AA ++ [off]) W') (hlk : Lk va g W va1 W') (hT : Turn B W W') : CM B g v m bad w q0 q1 q2 q3 q4 qf LL (AA ++ [off]) W' := by
  obtain ⟨vo, L, h3, h4, h5, h6⟩ := h.b4
  have h2 := hlk q2 h.b2.lt (fun e => by subst e; have := h.b2.ty.one hSh.ty; cases this) hne
  exact ⟨h.b0.turn hT (by decide), h.b1.turn hT (by decide), h2.1.trans h.b2, h.b3.turn hT (by decide), ⟨vo, L, h3.turn hT (by decide), row_turn h4 hT (by decide), fun c hc => (h5 c hc).turn hT, h6⟩, ⟨va1, hS1, h2.2⟩, h.tn.trans hT, (Ct.turn hT).ty h.tf, (Ct.turn hT).ty h.tg, h.nq, h.vl, h.xq⟩
/-- A change is appended, and stored. -/
theorem CM.append {c : Cg} {qn : Nat} (h : CM B g v m bad w q0 q1 q2 q3 q4 qf LL AA W) (hq : Blk W qn 47 #[.int .u32 c.lf, c.val]) (hc : c.ok w.heap.size W) (hl : LL.length ≤ 1000000) :
    ∃ vo n gn cap w', W.cell? ⟨q4, 0, none⟩ = some vo ∧ (Builtin.append_ #[35, 35] 35 #[vo, .slice (some ⟨qn, 0, none⟩) 1 1]).run Try.prog W = .ok (.slice (some ⟨gn, 0, none⟩) n cap) w' ∧ w'.cell? ⟨q4, 0, none⟩ = some vo ∧ w'.frozen? ⟨q4, 0, none⟩ = false ∧
      CM B g v m bad w q0 q1 q2 q3 q4 qf (LL ++ [c.pair]) AA (w'.setCell ⟨q4, 0, none⟩ (.slice (some ⟨gn, 0, none⟩) n cap)) ∧ Ct W (w'.setCell ⟨q4, 0, none⟩ (.slice (some ⟨gn, 0, none⟩) n cap)) := by
  obtain ⟨vo, L, h3, h4, h5, h6⟩ := h.b4
  obtain ⟨va', hs, hn⟩ := h.sh
  have hLl : L.length = LL.length := by rw [← h6, List.length_map]
  obtain ⟨gn, cap, w', hrun, hown, hg⟩ := app_cg h4 h.tn.size hq (by omega)
  have ho : Only (fun k => vo.ownBlock = some k) W w' := grown_only hg
  have hne : ∀ {q t cs}, Blk W q t cs → t ≠ 47 → ¬ vo.ownBlock = some q := fun hb ht e => ht (hb.ty.one (row_lt' h4 _ e).2.2)
  have h3' := h3.only ho (hne h3 (by decide))
  have hty := h3'.ty
  have hCt : Ct W w' := Ct.row hg h4 (by decide)
  refine ⟨vo, L.length + 1, gn, cap, w', h3.cell0, hrun, h3'.cell0, h3'.frozen 0, ?_, hCt.trans (Ct.put hty (by decide) _)⟩
  have s3 := h3'.set_ 0 (.slice (some ⟨gn, 0, none⟩) (L.length + 1) cap)
  simp only [List.setIfInBounds_toArray, List.set_cons_zero] at s3
  have hs' : Sh B g v m bad va' AA w' := hs.keep ho (fun e => by have := (row_lt' h4 _ e).2.2.one hs.ty; cases this) (fun k hk e => by have := (row_lt' h4 _ e).2.2.one (row_lt' hs.ak k hk).2.2; cases this) (fun i k hik hk e => by have := (row_lt' h4 _ e).2.2.one (row_lt' (hs.lv i hik) k hk).2.2; cases this) (fun X hX _ e => by have := (row_lt' h4 _ e).2.2.one hX; cases this)
  have r2 := h.b2.only ho (hne h.b2 (by decide))
  have hq24 : q2 ≠ q4 := fun e => by subst e; have := r2.ty.one hty; cases this
  refine ⟨(h.b0.only ho (hne h.b0 (by decide))).put hty (by decide) _, (h.b1.only ho (hne h.b1 (by decide))).far (p := ⟨q4, 0, none⟩) h.nq.2.2 _, r2.put hty (by decide) _, (h.b3.only ho (hne h.b3 (by decide))).put hty (by decide) _, ⟨_, L ++ [c], s3, ?_, ?_, ?_⟩, ⟨va', hs'.put hty (by decide) _, hn⟩, ?_, (hCt.ty h.tf).setCell _ _, (hCt.ty h.tg).setCell _ _, h.nq, h.vl, h.xq⟩
  · exact row_put hown hty (by decide) _
  · intro x hx
    have hx5 : x.ok w.heap.size W := by
      rcases List.mem_append.1 hx with hx | hx
      · exact h5 x hx
      · rw [List.mem_singleton.1 hx]; exact hc
    exact (hx5.keep ho (fun q e y => by have := (row_lt' h4 _ y).2.2.one (hx5.lt e).2.2; cases this)).put hty (by decide) _
  · rw [List.map_append, h6]; rfl
  · exact (h.tn.new (ho.mono fun k hk e => (row_lt' h4 k e).1)).setCell (.inr h.nq.2.1) _
end
section
variable {B g : Nat} {v : Nat → Value} {m : Nat → List UInt8} {bad : Nat} {ask : List Nat} {w : World} {K : Law} {q1 q2 q3 : Nat} {i : Nat} {W : World} {va : Value}
/-- The three results' cells are stored. -/
theorem put3 {u1 u2 u3 : Value} (b1 : Blk W q1 35 #[u1]) (b2 : Blk W q2 34 #[u2]) (b3 : Blk W q3 36 #[u3]) (v1 v2 v3 : Value) :
    Blk (((W.setCell ⟨q1, 0, none⟩ v1).setCell ⟨q2, 0, none⟩ v2).setCell ⟨q3, 0, none⟩ v3) q1 35 #[v1] ∧ Blk (((W.setCell ⟨q1, 0, none⟩ v1).setCell ⟨q2, 0, none⟩ v2).setCell ⟨q3, 0, none⟩ v3) q2 34 #[v2] ∧ Blk (((W.setCell ⟨q1, 0, none⟩ v1).setCell ⟨q2, 0, none⟩ v2).setCell ⟨q3, 0, none⟩ v3) q3 36 #[v3] := by
  have s1 := b1.set_ 0 v1
  have s2 := b2.put (i := 0) b1.ty (by decide) v1
  have s3 := b3.put (i := 0) b1.ty (by decide) v1
  have t2 := s2.set_ 0 v2
  have t1 := s1.put (i := 0) s2.ty (by decide) v2
  have t3 := s3.put (i := 0) s2.ty (by decide) v2
  have r3 := t3.set_ 0 v3
  have r1 := t1.put (i := 0) t3.ty (by decide) v3
  have r2 := t2.put (i := 0) t3.ty (by decide) v3
  simp only [List.setIfInBounds_toArray, List.set_cons_zero] at r1 r2 r3
  exact ⟨r1, r2, r3⟩
theorem ct3 {u1 u2 u3 : Value} (b1 : Blk W q1 35 #[u1]) (b2 : Blk W q2 34 #[u2]) (b3 : Blk W q3 36 #[u3]) (v1 v2 v3 : Value) : Ct W (((W.setCell ⟨q1, 0, none⟩ v1).setCell ⟨q2, 0, none⟩ v2).setCell ⟨q3, 0, none⟩ v3) :=
  ((Ct.put b1.ty (by decide) _).trans (Ct.put (b2.ty.setCell _ _) (by decide) _)).trans (Ct.put ((b3.ty.setCell _ _).setCell _ _) (by decide) _)
theorem only3 (w : World) (v1 v2 v3 : Value) : Only (fun k => k = q1 ∨ k = q2 ∨ k = q3) w (((w.setCell ⟨q1, 0, none⟩ v1).setCell ⟨q2, 0, none⟩ v2).setCell ⟨q3, 0, none⟩ v3) :=
  (((Only.refl _ w).setCell (p := ⟨q1, 0, none⟩) (.inl (.inl rfl)) _).setCell (p := ⟨q2, 0, none⟩) (.inl (.inr (.inl rfl))) _).setCell (p := ⟨q3, 0, none⟩) (.inl (.inr (.inr rfl))) _
theorem sh3 {AA : List Nat} {u1 u2 u3 : Value} (h : Sh B g v m bad va AA W) (hne : va.ownBlock ≠ some q2) (hxq : ∀ X, v 64 = .pointer (some ⟨X, 0, none⟩) → X ≠ q2) (b1 : Blk W q1 35 #[u1]) (b2 : Blk W q2 34 #[u2]) (b3 : Blk W q3 36 #[u3]) (v1 v2 v3 : Value) : Sh B g v m bad va AA (((W.setCell ⟨q1, 0, none⟩ v1).setCell ⟨q2, 0, none⟩ v2).setCell ⟨q3, 0, none⟩ v3) := by
  have hno : ∀ {k t}, tyAt W k t → t ≠ 35 → t ≠ 34 → t ≠ 36 → ¬ (k = q1 ∨ k = q2 ∨ k = q3) := fun ht h1 h2 h3 e => by
    rcases e with e | e | e
    · subst e; exact h1 (ht.one b1.ty)
    · subst e; exact h2 (ht.one b2.ty)
    · subst e; exact h3 (ht.one b3.ty)
  refine h.keep (only3 W v1 v2 v3) (hno h.ty (by decide) (by decide) (by decide)) (fun k hk e => ?_) (fun i k hi hk => hno (row_lt' (h.lv i hi) k hk).2.2 (by decide) (by decide) (by decide)) (fun X hX hx e => by
    rcases e with e | e | e
    · subst e; have := hX.one b1.ty; cases this
    · exact hxq X hx e
    · subst e; have := hX.one b3.ty; cases this)
  have ht := (row_lt' h.ak k hk).2.2
  rcases e with e | e | e
  · subst e; have := ht.one b1.ty; cases this
  · subst e; exact hne hk
  · subst e; have := ht.one b3.ty; cases this
theorem CX.mk3 {u1 u2 u3 : Value} {AA : List Nat} (b1 : Blk W q1 35 #[u1]) (b2 : Blk W q2 34 #[u2]) (b3 : Blk W q3 36 #[u3]) (h : Sh B g v m bad va AA W) (hne : va.ownBlock ≠ some q2) (hxq : ∀ X, v 64 = .pointer (some ⟨X, 0, none⟩) → X ≠ q2) (hD : K.D i) (hT : Turn B w W) (hq : w.heap.size ≤ q1 ∧ w.heap.size ≤ q2 ∧ w.heap.size ≤ q3) (hA : AA = ask ++ K.A i) :
    CX B g v m bad ask w K q1 q2 q3 i (((W.setCell ⟨q1, 0, none⟩ (.slice none 0 0)).setCell ⟨q2, 0, none⟩ (.int .u32 0)).setCell ⟨q3, 0, none⟩ (.int .i64 21)) := by
  obtain ⟨r1, r2, r3⟩ := put3 b1 b2 b3 (.slice none 0 0) (.int .u32 0) (.int .i64 21)
  subst hA
  exact ⟨r1, r2, r3, ⟨va, sh3 h hne hxq b1 b2 b3 _ _ _⟩, hD, ((hT.setCell (p := ⟨q1, 0, none⟩) (.inr hq.1) _).setCell (p := ⟨q2, 0, none⟩) (.inr hq.2.1) _).setCell (p := ⟨q3, 0, none⟩) (.inr hq.2.2) _⟩
end
section
variable {B g : Nat} {v : Nat → Value} {m : Nat → List UInt8} {bad : Nat} {ask : List Nat} {w : World} {K : Law} {q0 q1 q2 q3 q4 qf : Nat} {i N : Nat} {W W' W2 : World} {LL : List (Nat × List UInt8)} {AA : List Nat}
/-- Behind a question, and what has turned in the new row that it told. -/
theorem CM.asked_own {va va1 : Value} {off : Nat} (h : CM B g v m bad w q0 q1 q2 q3 q4 qf LL AA W) (hSh : Sh B g v m bad va AA W) (hne : va.ownBlock ≠ some q2) (hS1 : Sh B g v m bad va1 (AA ++ [off]) W') (hlk : Lk va g W va1 W') (hT : Turn B W W')
    (ho : Only (fun k => W.heap.size ≤ k ∧ tyAt W' k 5) W' W2) : CM B g v m bad w q0 q1 q2 q3 q4 qf LL (AA ++ [off]) W2 := by
  have h1 := h.asked hSh hne hS1 hlk hT
  obtain ⟨vo, L, h3, h4, h5, h6⟩ := h.b4
  have hb : ∀ {q t cs}, Blk W' q t cs → t ≠ 5 → Blk W2 q t cs := fun hb ht => hb.only ho (fun x => ht (hb.ty.one x.2))
  have ht : ∀ {q t}, tyAt W' q t → t ≠ 5 → tyAt W2 q t := fun ⟨cs, fr, e⟩ h5 => ⟨cs, fr, (ho.block _ (Array.getElem?_eq_some_iff.1 e).1 (fun x => h5 (tyAt.one ⟨cs, fr, e⟩ x.2))).trans e⟩
  obtain ⟨va2, hs, hn⟩ := h1.sh
  refine ⟨hb h1.b0 (by decide), hb h1.b1 (by decide), hb h1.b2 (by decide), hb h1.b3 (by decide), ⟨vo, L, hb (h3.turn hT (by decide)) (by decide), row_keep (row_turn h4 hT (by decide)) ho (fun q hq x => ?_), fun c hc => ((h5 c hc).turn hT).keep ho (fun q e x => ?_), h6⟩, ⟨va2, hs.keep ho (fun x => ?_) (fun k hk x => ?_) (fun i k hi hk x => ?_) (fun X hX _ x => by have := hX.one x.2; cases this), hn⟩, h1.tn.new (ho.mono fun k _ x => by have := h.tn.size; omega), ht h1.tf (by decide), ht h1.tg (by decide), h1.nq, h1.vl, h1.xq⟩
  · have := (row_lt' (row_turn h4 hT (by decide)) q hq).2.2.one x.2; cases this
  · have := ((h5 c hc).lt e).2.1; omega
  · have := hs.ty.one x.2; cases this
  · have := (row_lt' hs.ak k hk).2.2.one x.2; cases this
  · have := h1.vl i k hi hk; have := h.tn.size; omega
theorem row_form2 {vo : Value} {base n : Nat} {xs : List Value} (h : W.ownsRow base 47 2 vo n xs) : ∃ A c, vo = .slice A n c ∧ Reads W W.heap.size A (n * 2) xs ∧ n ≤ c := by
  rcases h.2 with ⟨e1, e2⟩ | ⟨q, cap, cur, e1, hb, hh, hc, _⟩
  · subst e2
    exact ⟨none, 0, e1, ⟨by simpa using h.1, fun x => by omega⟩, Nat.le_refl _⟩
  · refine ⟨_, cap, e1, ⟨h.1, fun hn => ⟨q, 0, rfl, (Array.getElem?_eq_some_iff.1 hh).1, fun j u hu => ?_⟩⟩, hc⟩
    have := h.cells (g := q) (by rw [e1]; rfl) j u hu
    rwa [add_lit] at this
/-- All pieces have come: the changes are told. -/
theorem CM.done {D M : Nat} (h : CM B g v m bad w q0 q1 q2 q3 q4 qf LL AA W) (hLL : LL = K.L M) (hAA : AA = ask ++ K.A M) (hN : K.N M) (hK : W.heap[D]? = some (.deferred (some []))) (hD : w.heap.size ≤ D) (hq : w.heap.size ≤ q1 ∧ w.heap.size ≤ q2 ∧ w.heap.size ≤ q3) (ns : Nat) :
    ∃ A c L, L.length = LL.length ∧ W.cell? ⟨q4, 0, none⟩ = some (.slice A L.length c) ∧ (((W.setCell ⟨q1, 0, none⟩ (.slice A L.length c)).setCell ⟨q2, 0, none⟩ (.int .u32 ns)).setCell ⟨q3, 0, none⟩ (.int .i64 0)).heap[D]? = some (.deferred (some [])) ∧
      ((((W.setCell ⟨q1, 0, none⟩ (.slice A L.length c)).setCell ⟨q2, 0, none⟩ (.int .u32 ns)).setCell ⟨q3, 0, none⟩ (.int .i64 0)).putObj D (.deferred none)).cell? ⟨q1, 0, none⟩ = some (.slice A L.length c) ∧
      ((((W.setCell ⟨q1, 0, none⟩ (.slice A L.length c)).setCell ⟨q2, 0, none⟩ (.int .u32 ns)).setCell ⟨q3, 0, none⟩ (.int .i64 0)).putObj D (.deferred none)).cell? ⟨q2, 0, none⟩ = some (.int .u32 ns) ∧
      ((((W.setCell ⟨q1, 0, none⟩ (.slice A L.length c)).setCell ⟨q2, 0, none⟩ (.int .u32 ns)).setCell ⟨q3, 0, none⟩ (.int .i64 0)).putObj D (.deferred none)).cell? ⟨q3, 0, none⟩ = some (.int .i64 0) ∧
      ChOk B g v m bad ask w K M A c L ((((W.setCell ⟨q1, 0, none⟩ (.slice A L.length c)).setCell ⟨q2, 0, none⟩ (.int .u32 ns)).setCell ⟨q3, 0, none⟩ (.int .i64 0)).putObj D (.deferred none)) := by
  obtain ⟨vo, L, h3, h4, h5, h6⟩ := h.b4
  obtain ⟨va, hs, hn⟩ := h.sh
  obtain ⟨A, c, rfl, hrd, hnc⟩ := row_form2 h4
  have o3 := only3 (q1 := q1) (q2 := q2) (q3 := q3) W (.slice A L.length c) (.int .u32 ns) (.int .i64 0)
  obtain ⟨r1, r2, r3⟩ := put3 h.b1 h.b2 h.b3 (.slice A L.length c) (.int .u32 ns) (.int .i64 0)
  have hs9 := sh3 hs hn h.xq h.b1 h.b2 h.b3 (.slice A L.length c) (.int .u32 ns) (.int .i64 0)
  have hno : ∀ {k t}, tyAt W k t → t ≠ 35 → t ≠ 34 → t ≠ 36 → ¬ (k = q1 ∨ k = q2 ∨ k = q3) := fun ht h1 h2 h3' e => by
    rcases e with e | e | e
    · subst e; exact h1 (ht.one h.b1.ty)
    · subst e; exact h2 (ht.one h.b2.ty)
    · subst e; exact h3' (ht.one h.b3.ty)
  have hDn : ¬ (D = q1 ∨ D = q2 ∨ D = q3) := fun e => by
    rcases e with e | e | e
    · subst e; exact noncells hK rfl h.b1.ty
    · subst e; exact noncells hK rfl h.b2.ty
    · subst e; exact noncells hK rfl h.b3.ty
  have hK9 := (o3.block D (Array.getElem?_eq_some_iff.1 hK).1 hDn).trans hK
  have h4' := row_keep h4 o3 (fun k hk => hno (row_lt' h4 k hk).2.2 (by decide) (by decide) (by decide))
  have h5' : ∀ c ∈ L, c.ok w.heap.size _ := fun c hc => (h5 c hc).keep o3 (fun q e => hno ((h5 c hc).lt e).2.2 (by decide) (by decide) (by decide))
  have hT9 := ((h.tn.setCell (p := ⟨q1, 0, none⟩) (.inr hq.1) (.slice A L.length c)).setCell (p := ⟨q2, 0, none⟩) (.inr hq.2.1) (.int .u32 ns)).setCell (p := ⟨q3, 0, none⟩) (.inr hq.2.2) (.int .i64 0)
  refine ⟨A, c, L, by rw [← h6, List.length_map], h3.cell0, ?_⟩
  generalize ((W.setCell ⟨q1, 0, none⟩ (.slice A L.length c)).setCell ⟨q2, 0, none⟩ (.int .u32 ns)).setCell ⟨q3, 0, none⟩ (.int .i64 0) = W9 at *
  have hg := grownBy_putObj' W9 D (.deferred none)
  have hr9 : ∀ r, (some D : Option Nat) = some r → w.heap.size ≤ r ∧ ∃ o : Obj, W9.heap[r]? = some o ∧ o.isCells = false := fun r e => by cases e; exact ⟨hD, _, hK9, rfl⟩
  obtain ⟨A', c', e', hrd', hnc'⟩ := row_form2 (row_grown h4' hg hr9)
  cases e'
  subst hAA
  exact ⟨hK9, (r1.grown hg hr9).cell0, (r2.grown hg hr9).cell0, (r3.grown hg hr9).cell0, hrd', hnc', fun x hx => (h5' x hx).grown hg hr9, h6.trans hLL, ⟨va, hs9.grown hg hr9⟩, hN, hT9.grown hg hr9 (Nat.le_refl _)⟩
end
section
variable {B g : Nat} {v : Nat → Value} {m : Nat → List UInt8} {bad : Nat} {w : World} {q0 q1 q2 q3 q4 qf : Nat} {M : Nat} {W W' W2 : World} {LL : List (Nat × List UInt8)} {AA : List Nat}
/-- The changes' blocks lie below M. -/
def CMb (B g : Nat) (v : Nat → Value) (m : Nat → List UInt8) (bad : Nat) (w : World) (q0 q1 q2 q3 q4 qf M : Nat) (LL : List (Nat × List UInt8)) (AA : List Nat) (W : World) : Prop :=
  CM B g v m bad w q0 q1 q2 q3 q4 qf LL AA W ∧ ∃ vo L, Blk W q4 35 #[vo] ∧ W.ownsRow w.heap.size 47 2 vo L.length (cgs L) ∧ (∀ c ∈ L, c.ok w.heap.size W) ∧ L.map Cg.pair = LL ∧ ∀ c ∈ L, ∀ q, c.q = some q → q < M
theorem CM.bd (h : CM B g v m bad w q0 q1 q2 q3 q4 qf LL AA W) : CMb B g v m bad w q0 q1 q2 q3 q4 qf W.heap.size LL AA W := by
  obtain ⟨vo, L, h3, h4, h5, h6⟩ := h.b4
  exact ⟨h, vo, L, h3, h4, h5, h6, fun c hc q e => ((h5 c hc).lt e).2.1⟩
theorem CMb.only (h : CMb B g v m bad w q0 q1 q2 q3 q4 qf M LL AA W) (ho : Only (fun _ => False) W W') : CMb B g v m bad w q0 q1 q2 q3 q4 qf M LL AA W' := by
  obtain ⟨h, vo, L, h3, h4, h5, h6, h7⟩ := h
  exact ⟨h.only ho, vo, L, h3.only ho (fun x => x), row_keep h4 ho (fun _ _ x => x), fun c hc => (h5 c hc).keep ho (fun _ _ x => x), h6, h7⟩
theorem CMb.asked {va va1 : Value} {off : Nat} (h : CMb B g v m bad w q0 q1 q2 q3 q4 qf M LL AA W) (hSh : Sh B g v m bad va AA W) (hne : va.ownBlock ≠ some q2) (hS1 : Sh B g v m bad va1 (AA ++ [off]) W') (hlk : Lk va g W va1 W') (hT : Turn B W W') : CMb B g v m bad w q0 q1 q2 q3 q4 qf M LL (AA ++ [off]) W' := by
  obtain ⟨h, vo, L, h3, h4, h5, h6, h7⟩ := h
  exact ⟨h.asked hSh hne hS1 hlk hT, vo, L, h3.turn hT (by decide), row_turn h4 hT (by decide), fun c hc => (h5 c hc).turn hT, h6, h7⟩
/-- Rows of one's own turn, and cells of type 24. -/
theorem CMb.turned (h : CMb B g v m bad w q0 q1 q2 q3 q4 qf M LL AA W) (hM : w.heap.size ≤ M) (ho : Only (fun k => (M ≤ k ∧ tyAt W k 5) ∨ (w.heap.size ≤ k ∧ tyAt W k 24)) W W') : CM B g v m bad w q0 q1 q2 q3 q4 qf LL AA W' := by
  obtain ⟨h, vo, L, h3, h4, h5, h6, h7⟩ := h
  have hty : ∀ {k t}, tyAt W k t → t ≠ 5 → t ≠ 24 → ¬ ((M ≤ k ∧ tyAt W k 5) ∨ (w.heap.size ≤ k ∧ tyAt W k 24)) := fun ht a b x => by
    rcases x with x | x
    · exact a (ht.one x.2)
    · exact b (ht.one x.2)
  have hb : ∀ {q t cs}, Blk W q t cs → t ≠ 5 → t ≠ 24 → Blk W' q t cs := fun hb a b => hb.only ho (hty hb.ty a b)
  have ht : ∀ {q t}, tyAt W q t → t ≠ 5 → t ≠ 24 → tyAt W' q t := fun ⟨cs, fr, e⟩ a b => ⟨cs, fr, (ho.block _ (Array.getElem?_eq_some_iff.1 e).1 (hty ⟨cs, fr, e⟩ a b)).trans e⟩
  obtain ⟨va2, hs, hn⟩ := h.sh
  refine ⟨hb h.b0 (by decide) (by decide), hb h.b1 (by decide) (by decide), hb h.b2 (by decide) (by decide), hb h.b3 (by decide) (by decide), ⟨vo, L, hb h3 (by decide) (by decide), row_keep h4 ho (fun q hq => hty (row_lt' h4 q hq).2.2 (by decide) (by decide)), fun c hc => (h5 c hc).keep ho (fun q e x => ?_), h6⟩, ⟨va2, hs.keep ho (hty hs.ty (by decide) (by decide)) (fun k hk => hty (row_lt' hs.ak k hk).2.2 (by decide) (by decide)) (fun i k hi hk x => ?_) (fun X hX _ => hty hX (by decide) (by decide)), hn⟩, h.tn.new (ho.mono fun k _ x => ?_), ht h.tf (by decide) (by decide), ht h.tg (by decide) (by decide), h.nq, h.vl, h.xq⟩
  · rcases x with x | x
    · have := h7 c hc q e; omega
    · have := ((h5 c hc).lt e).2.2.one x.2; cases this
  · rcases x with x | x
    · have := h.vl i k hi hk; omega
    · have := (row_lt' (hs.lv i hi) k hk).2.2.one x.2; cases this
  · rcases x with x | x
    · omega
    · exact x.1
theorem Lk.pre {va va1 : Value} (h : Lk va g W' va1 W2) (ho : Only (fun _ => False) W W') : Lk va g W va1 W2 := fun q h1 h2 h3 => by
  have := h q (Nat.lt_of_lt_of_le h1 ho.size) h2 h3
  exact ⟨this.1.trans (ho.block q h1 (fun x => x)), this.2⟩
end
theorem res3 {f : Func} {i j k : Nat} {ti tj tk : TypeId} (hres : f.results = #[.cell i ti, .cell j tj, .cell k tk]) (hi : (Try.prog.underlying ti).isSome = true) (hai : ∀ w, (isAgg ti).run Try.prog w = .ok false w) (haj : ∀ w, (isAgg tj).run Try.prog w = .ok false w) (hak : ∀ w, (isAgg tk).run Try.prog w = .ok false w)
    (tm : Array Value) (W : World) (q1 q2 q3 : Nat) (v1 v2 v3 : Value) (h8 : tm.getD i undef = .pointer (some ⟨q1, 0, none⟩)) (h9 : tm.getD j undef = .pointer (some ⟨q2, 0, none⟩)) (h10 : tm.getD k undef = .pointer (some ⟨q3, 0, none⟩)) (c1 : W.cell? ⟨q1, 0, none⟩ = some v1) (c2 : W.cell? ⟨q2, 0, none⟩ = some v2) (c3 : W.cell? ⟨q3, 0, none⟩ = some v3) :
    (results f tm).run Try.prog W = .ok (.tuple #[v1, v2, v3]) W := by
  unfold results
  rw [hres]
  simp only [List.mapM_toArray, List.mapM_cons, List.mapM_nil, h8, h9, h10]
  simp [asAddr, loadVar, hai, haj, hak, c1, c2, c3]
end Go.Proofs.Ytpkadhgoaaphkaa
