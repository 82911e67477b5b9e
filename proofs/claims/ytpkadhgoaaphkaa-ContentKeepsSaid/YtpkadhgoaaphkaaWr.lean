/-
  content.Write (func 8).
-/
import Derived.Test.YtpkadhgoaaphkaaTe
namespace Go.Proofs.Ytpkadhgoaaphkaa
open Go Go.RowKit Go.Shelf
set_option linter.unusedVariables false
/-- What a written leaf is over. -/
def wrBase (m : Nat → List UInt8) (p : Pc) : List UInt8 := if p.hi - p.fr < 512 then leafB m p.lf else Z512
def wrOne (m : Nat → List UInt8) (bs : List UInt8) (fr en i : Nat) : List UInt8 :=
  (wrBase m (pc fr en i)).take (pc fr en i).fr ++ (bs.drop (at_ fr en i - fr)).take ((pc fr en i).hi - (pc fr en i).fr) ++ (wrBase m (pc fr en i)).drop (pc fr en i).hi
def wrAsk (fr en i : Nat) : List Nat := if (pc fr en i).hi - (pc fr en i).fr < 512 then [(pc fr en i).lf] else []
def wrL (m : Nat → List UInt8) (bs : List UInt8) (fr en : Nat) : Nat → List (Nat × List UInt8)
  | 0 => []
  | i + 1 => wrL m bs fr en i ++ [((pc fr en i).lf, wrOne m bs fr en i)]
def wrA (fr en : Nat) : Nat → List Nat
  | 0 => []
  | i + 1 => wrA fr en i ++ wrAsk fr en i
def wrK (m : Nat → List UInt8) (bad : Nat) (bs : List UInt8) (fr en : Nat) : Law where
  L := wrL m bs fr en
  A := wrA fr en
  N := fun i => ∀ j, j < i → (pc fr en j).hi - (pc fr en j).fr < 512 → isBad bad (pc fr en j).lf = false
  D := fun i => 0 < i ∧ (pc fr en (i - 1)).hi - (pc fr en (i - 1)).fr < 512 ∧ isBad bad (pc fr en (i - 1)).lf = true ∧ ∀ j, j + 1 < i → (pc fr en j).hi - (pc fr en j).fr < 512 → isBad bad (pc fr en j).lf = false
theorem wrA_len (fr en : Nat) : ∀ i, (wrA fr en i).length ≤ i
  | 0 => Nat.le_refl _
  | i + 1 => by
    have := wrA_len fr en i
    unfold wrA wrAsk
    rw [List.length_append]
    split <;> simp <;> omega
theorem wrL_len (m : Nat → List UInt8) (bs : List UInt8) (fr en : Nat) : ∀ i, (wrL m bs fr en i).length = i
  | 0 => rfl
  | i + 1 => by unfold wrL; rw [List.length_append, wrL_len m bs fr en i]; rfl
/-- What is left of the bytes to be written lies somewhere that is not turned. -/
structure XW (B : Nat) (w : World) (q7 : Nat) (bs : List UInt8) (k : Nat) (W : World) : Prop where
  ex : ∃ A c, Blk W q7 24 #[.slice A (bs.length - k) c] ∧ Reads w w.heap.size A (bs.length - k) (Lib.byteCells (bs.drop k)) ∧ bs.length - k ≤ c ∧ (0 < bs.length → ∀ a, A = some a → a.block < B ∨ tyAt w a.block 5)
theorem Reads.keepA {W W' : World} {S : Nat → Prop} {A : Option Addr} {n : Nat} {xs : List Value} (h : Reads W W.heap.size A n xs) (ho : Only S W W') (hA : ∀ a, A = some a → ¬ S a.block) : Reads W' W'.heap.size A n xs :=
  ⟨h.1, fun hn => by
    obtain ⟨b, o, e, hb, hc⟩ := h.2 hn
    exact ⟨b, o, e, Nat.lt_of_lt_of_le hb ho.size, fun j u hu => (Blk.cell_only ho (a := ⟨b, o + j, none⟩) hb (hA ⟨b, o, none⟩ e)).trans (hc j u hu)⟩⟩
theorem XW.keep {B : Nat} {w : World} {q7 : Nat} {bs : List UInt8} {k : Nat} {W W' : World} {S : Nat → Prop} (h : XW B w q7 bs k W) (ho : Only S W W') (h7 : ∀ t cs, Blk W q7 t cs → ¬ S q7) : XW B w q7 bs k W' := by
  obtain ⟨A, c, h1, h2, h3, h4⟩ := h.ex
  exact ⟨A, c, h1.only ho (h7 _ _ h1), h2, h3, h4⟩
theorem notTn {B : Nat} {w : World} {A : Option Addr} (h : ∀ a, A = some a → a.block < B ∨ tyAt w a.block 5) : ∀ a, A = some a → ¬ Tn B w a.block := fun a e y => by
  rcases h a e with z | z
  · have := y.1; omega
  · rcases y.2 with y | y
    · have := z.one y; cases this
    · have := z.one y; cases this
theorem CM.append_grown {B g : Nat} {v : Nat → Value} {m : Nat → List UInt8} {bad : Nat} {w : World} {q0 q1 q2 q3 q4 qf : Nat} {W : World} {LL : List (Nat × List UInt8)} {AA : List Nat} {c : Cg} {qn : Nat} {vo r : Value} {w9 : World} (h : CM B g v m bad w q0 q1 q2 q3 q4 qf LL AA W) (hq : Blk W qn 47 #[.int .u32 c.lf, c.val]) (hl : LL.length ≤ 1000000)
    (d0 : W.cell? ⟨q4, 0, none⟩ = some vo) (hrun : (Builtin.append_ #[35, 35] 35 #[vo, .slice (some ⟨qn, 0, none⟩) 1 1]).run Try.prog W = .ok r w9) : W.grownBy w9 vo.ownBlock ∧ ∀ k, vo.ownBlock = some k → tyAt W k 47 := by
  obtain ⟨vo', L, h3, h4, h5, h6⟩ := h.b4
  have e := h3.cell0.symm.trans d0
  simp only [Option.some.injEq] at e
  subst e
  have hLl : L.length = LL.length := by rw [← h6, List.length_map]
  obtain ⟨gn, cap, w', hrun', hown, hg⟩ := app_cg h4 h.tn.size hq (by omega)
  rw [hrun'] at hrun
  cases hrun
  exact ⟨hg, fun k hk => (row_lt' h4 k hk).2.2⟩
/-- No piece has come: no change is told. -/
theorem CM.done0 {B g : Nat} {v : Nat → Value} {m : Nat → List UInt8} {bad : Nat} {ask : List Nat} {w : World} {K : Law} {q0 q1 q2 q3 q4 qf : Nat} {W : World} {LL : List (Nat × List UInt8)} {AA : List Nat} {D M : Nat} (h : CM B g v m bad w q0 q1 q2 q3 q4 qf LL AA W) (hL0 : K.L M = []) (hAA : AA = ask ++ K.A M) (hN : K.N M) (hK : W.heap[D]? = some (.deferred (some []))) (hD : w.heap.size ≤ D) (hq : w.heap.size ≤ q1 ∧ w.heap.size ≤ q2 ∧ w.heap.size ≤ q3) (ns : Nat) :
    (((W.setCell ⟨q1, 0, none⟩ (.slice none 0 0)).setCell ⟨q2, 0, none⟩ (.int .u32 ns)).setCell ⟨q3, 0, none⟩ (.int .i64 0)).heap[D]? = some (.deferred (some [])) ∧
      ((((W.setCell ⟨q1, 0, none⟩ (.slice none 0 0)).setCell ⟨q2, 0, none⟩ (.int .u32 ns)).setCell ⟨q3, 0, none⟩ (.int .i64 0)).putObj D (.deferred none)).cell? ⟨q1, 0, none⟩ = some (.slice none 0 0) ∧
      ((((W.setCell ⟨q1, 0, none⟩ (.slice none 0 0)).setCell ⟨q2, 0, none⟩ (.int .u32 ns)).setCell ⟨q3, 0, none⟩ (.int .i64 0)).putObj D (.deferred none)).cell? ⟨q2, 0, none⟩ = some (.int .u32 ns) ∧
      ((((W.setCell ⟨q1, 0, none⟩ (.slice none 0 0)).setCell ⟨q2, 0, none⟩ (.int .u32 ns)).setCell ⟨q3, 0, none⟩ (.int .i64 0)).putObj D (.deferred none)).cell? ⟨q3, 0, none⟩ = some (.int .i64 0) ∧
      ChOk B g v m bad ask w K M none 0 [] ((((W.setCell ⟨q1, 0, none⟩ (.slice none 0 0)).setCell ⟨q2, 0, none⟩ (.int .u32 ns)).setCell ⟨q3, 0, none⟩ (.int .i64 0)).putObj D (.deferred none)) := by
  obtain ⟨va, hs, hn⟩ := h.sh
  have o3 := only3 (q1 := q1) (q2 := q2) (q3 := q3) W (.slice none 0 0) (.int .u32 ns) (.int .i64 0)
  obtain ⟨r1, r2, r3⟩ := put3 h.b1 h.b2 h.b3 (.slice none 0 0) (.int .u32 ns) (.int .i64 0)
  have hs9 := sh3 hs hn h.xq h.b1 h.b2 h.b3 (.slice none 0 0) (.int .u32 ns) (.int .i64 0)
  have hDn : ¬ (D = q1 ∨ D = q2 ∨ D = q3) := fun e => by
    rcases e with e | e | e
    · subst e; exact noncells hK rfl h.b1.ty
    · subst e; exact noncells hK rfl h.b2.ty
    · subst e; exact noncells hK rfl h.b3.ty
  have hK9 := (o3.block D (Array.getElem?_eq_some_iff.1 hK).1 hDn).trans hK
  have hT9 := ((h.tn.setCell (p := ⟨q1, 0, none⟩) (.inr hq.1) (.slice none 0 0)).setCell (p := ⟨q2, 0, none⟩) (.inr hq.2.1) (.int .u32 ns)).setCell (p := ⟨q3, 0, none⟩) (.inr hq.2.2) (.int .i64 0)
  generalize ((W.setCell ⟨q1, 0, none⟩ (.slice none 0 0)).setCell ⟨q2, 0, none⟩ (.int .u32 ns)).setCell ⟨q3, 0, none⟩ (.int .i64 0) = W9 at *
  have hg := grownBy_putObj' W9 D (.deferred none)
  have hr9 : ∀ r, (some D : Option Nat) = some r → w.heap.size ≤ r ∧ ∃ o : Obj, W9.heap[r]? = some o ∧ o.isCells = false := fun r e => by cases e; exact ⟨hD, _, hK9, rfl⟩
  subst hAA
  exact ⟨hK9, (r1.grown hg hr9).cell0, (r2.grown hg hr9).cell0, (r3.grown hg hr9).cell0, Reads.nil_ _ _ _, Nat.le_refl _, fun x hx => (by cases hx), hL0.symm, ⟨va, hs9.grown hg hr9⟩, hN, hT9.grown hg hr9 (Nat.le_refl _)⟩
attribute [local go_sem] Oper.semAt_some
set_option maxRecDepth 20000 in
set_option maxHeartbeats 8000000 in
theorem write_main (B g : Nat) (v : Nat → Value) (m : Nat → List UInt8) (bad : Nat) (va : Value) (ask : List Nat) (size fr : Nat) (bs : List UInt8) (Ab : Option Addr) (cb : Nat) (w : World) (h : Sh B g v m bad va ask w) (hB : B ≤ w.heap.size) (hs : size ≤ 32768) (h2 : bs.length ≤ 2048) (h1 : fr + bs.length ≤ 32768) (hl : ask.length ≤ 100000)
    (hbr : Reads w w.heap.size Ab bs.length (Lib.byteCells bs)) (hbc : bs.length ≤ cb) (hbA : 0 < bs.length → ∀ a, Ab = some a → a.block < B ∨ tyAt w a.block 5) :
    Calls Try.prog 8 #[.iface 29 (.pointer (some ⟨g, 0, none⟩)), .int .u32 size, .int .i64 fr, .slice Ab bs.length cb] w fun r w' => ChPost B g v m bad ask w (wrK m bad bs fr (fr + bs.length)) (cnt fr (fr + bs.length)) (if bs.length = 0 then size else max size (fr + bs.length)) r w' := by
  have hM := may_any g fr bs.length
  have e : mayF fr bs.length = 0 := by unfold mayF; rw [if_neg (by omega), if_neg (by omega), if_neg (by omega)]
  simp only [e] at hM
  clear e
  replace hM := Lib.hid hM
  generalize hns : (if bs.length = 0 then size else max size (fr + bs.length)) = ns
  replace hns := Lib.hid hns
  refine (callsIn_wide (n := 9)).1 ?_
  refine callsIn_of_wp_marks Try.func8 rfl trivial ?_ rfl
  simp only [Try.ntmps8, List.size_toArray, List.length_cons, List.length_nil, Nat.reduceAdd, Nat.reduceSub, Array.replicate_succ, Array.replicate_zero, List.push_toArray, List.append_toArray, List.nil_append, List.cons_append]
  refine wpIn_wide.2 ?_
  have i0 : (bs.length : Int) ≤ 2048 := by omega
  have i1 : ¬ (32768 : Int) - (bs.length : Int) < (fr : Int) := by omega
  have i2 : decide ((32768 : Int) - (bs.length : Int) < (fr : Int)) = false := decide_eq_false i1
  have i3 : (fr : Int) ≤ 32768 := by omega
  go_wp2_with fail
  refine (hM.out _).mono ?_
  rintro r w1 ⟨rfl, rfl⟩
  go_wp2_with fail
  obtain ⟨a0, z0, o0, -⟩ := alloc_one rfl (Only.refl (fun _ => False) w) (.iface 29 (.pointer (some ⟨g, 0, none⟩))) 49
  generalize w.alloc (.cells #[.iface 29 (.pointer (some ⟨g, 0, none⟩))] 49) = w1 at *
  obtain ⟨a1, z1, o1, p1⟩ := alloc_one z0 o0 (.slice Ab bs.length cb) 24
  generalize w1.alloc (.cells #[.slice Ab bs.length cb] 24) = w2 at *
  obtain ⟨a2, z2, o2, p2⟩ := alloc_one z1 o1 (.slice none 0 0) 35
  generalize w2.alloc (.cells #[.slice none 0 0] 35) = w3 at *
  obtain ⟨a3, z3, o3, p3⟩ := alloc_one z2 o2 (.int .u32 0) 34
  generalize w3.alloc (.cells #[.int .u32 0] 34) = w4 at *
  obtain ⟨a4, z4, o4, p4⟩ := alloc_one z3 o3 (.int .i64 0) 36
  generalize w4.alloc (.cells #[.int .i64 0] 36) = w5 at *
  obtain ⟨a5, z5, o5, p5⟩ := alloc_one z4 o4 (.slice none 0 0) 35
  generalize w5.alloc (.cells #[.slice none 0 0] 35) = w6 at *
  refine (pieces_any _ _ _).mono ?_
  rintro r w7 ⟨rfl, rfl⟩
  obtain ⟨a6, z6, o6, p6⟩ := alloc_one z5 o5 (.int .i64 fr) 3
  generalize w6.alloc (.cells #[.int .i64 fr] 3) = w7 at *
  obtain ⟨a7, z7, o7, p7⟩ := alloc_one z6 o6 (.int .i64 ((fr + bs.length : Nat) : Int)) 3
  rw [show ((fr + bs.length : Nat) : Int) = (fr : Int) + (bs.length : Int) from rfl] at a7 z7 o7 p7
  generalize w7.alloc (.cells #[.int .i64 ((fr : Int) + (bs.length : Int))] 3) = W0 at *
  have hsz : Szd m := h.sz
  have hvlt : ∀ i k, i < 64 → (v i).ownBlock = some k → k < w.heap.size := fun i k hi hk => (row_lt' (h.lv i hi) k hk).2.1
  have p67 := p6.trans p7
  have p57 := p5.trans p67
  have p47 := p4.trans p57
  have p37 := p3.trans p47
  have p27 := p2.trans p37
  have p17 := p1.trans p27
  have hCM : CM B g v m bad w w.heap.size (w.heap.size + 1 + 1) (w.heap.size + 1 + 1 + 1) (w.heap.size + 1 + 1 + 1 + 1) (w.heap.size + 1 + 1 + 1 + 1 + 1) w6.heap.size [] ask W0 := by
    refine ⟨a0.only p17 (fun x => x), a2.only p37 (fun x => x), a3.only p47 (fun x => x), a4.only p57 (fun x => x), ⟨.slice none 0 0, [], a5.only p67 (fun x => x), World.ownsRow_nil _ _ _ _, fun c hc => (by cases hc), rfl⟩, ⟨va, h.only o7, ?_⟩, .of o7, ?_, ?_, ?_, hvlt, fun X hX => by have := (h.xb X hX).1.lt; omega⟩
    · exact fun e => by have := (row_lt' h.ak _ e).2.1; omega
    · rw [z5]; exact (a6.only p7 (fun x => x)).ty
    · rw [z5]; exact a7.ty
    · omega
  have hXW : XW B w (w.heap.size + 1) bs (at_ fr (fr + bs.length) 0 - fr) W0 := by
    rw [at_zero, Nat.sub_self]
    exact ⟨Ab, cb, a1.only p27 (fun x => x), hbr, hbc, hbA⟩
  rw [z5] at hCM ⊢
  have bf := a6.only p7 (fun x => x)
  have bt := a7
  have hN : w.heap.size ≤ W0.heap.size := by omega
  have hqW : w.heap.size + 1 + 1 + 1 + 1 + 1 + 1 + 1 < W0.heap.size := by omega
  have hB' := hB
  clear a0 a1 a2 a3 a4 a5 a6 a7 o0 o1 o2 o3 o4 o5 o6 o7 p1 p2 p3 p4 p5 p6 p7 p17 p27 p37 p47 p57 p67 z0 z1 z2 z3 z4 z5 z6 z7 hM h hbr hbA hbc
  generalize hqf : w.heap.size + 1 + 1 + 1 + 1 + 1 + 1 = qf at *
  generalize hq0 : w.heap.size = q0 at *
  replace hqf := Lib.hid hqf
  replace hq0 := Lib.hid hq0
  go_wp2
  refine (wpIn_wide (n := 9)).1 ?_
  refine wpIn_range_cell rfl (by omega) (gf := 16) (lb := #[.pointer (some ⟨qf, 0, none⟩), .pointer (some ⟨qf + 1, 0, none⟩)]) rfl trivial (enters_of Try.func16 (by kernel_rfl) rfl)
    (pieces_seq 8 (by omega) qf (qf + 1) (by omega) fr (fr + bs.length) (by omega) (by omega) W0 bf bt) bf.lt
    (fun h k => ⟨k.1.trans h.1, k.2.trans h.2⟩)
    (fun W l o o' hl hW ho _ => ⟨World.putObj_heap_other (by omega), World.putObj_heap_other (by omega)⟩)
    (fun _ => rfl)
    (fun pre W => CM B g v m bad w q0 (q0 + 1 + 1) (q0 + 1 + 1 + 1) (q0 + 1 + 1 + 1 + 1) (q0 + 1 + 1 + 1 + 1 + 1) qf (wrL m bs fr (fr + bs.length) pre.length) (ask ++ wrA fr (fr + bs.length) pre.length) W ∧ (wrK m bad bs fr (fr + bs.length)).N pre.length ∧ XW B w (q0 + 1) bs (at_ fr (fr + bs.length) pre.length - fr) W) (fun c pre W => c = .ret ∧ pre.length ≤ cnt fr (fr + bs.length) ∧ CX B g v m bad ask w (wrK m bad bs fr (fr + bs.length)) (q0 + 1 + 1) (q0 + 1 + 1 + 1) (q0 + 1 + 1 + 1 + 1) pre.length W)
    (fun pre A A' row hs hg hr => ⟨hs.1.grown hg hr (by have := hq0.out; omega), hs.2.1, hs.2.2.keep (grown_only hg) fun t cs hb e => by obtain ⟨_, o, e1, e2⟩ := hr _ e; exact noncells e1 e2 hb.ty⟩)
    (fun c pre A A' row hs hg hr => ⟨hs.1, hs.2.1, hs.2.2.grown hg hr (by have := hq0.out; omega)⟩)
    (fun pre A u hs => ⟨hs.1.put u, hs.2.1, hs.2.2.keep ((Only.refl (fun k => k = qf) A).setCell (p := ⟨qf, 0, none⟩) (.inl rfl) u) fun t cs hb e => by have := hqf.out; omega⟩)
    (fun pre A hs => ⟨hs.1.only (Only.refl _ _).drew, hs.2.1, hs.2.2.keep ((Only.refl (fun _ => False) _).drew) fun _ _ _ x => x⟩)
    ⟨by rw [show ask ++ wrA fr (fr + bs.length) ([] : List Nat).length = ask from List.append_nil _]; exact hCM, fun j hj => absurd hj (Nat.not_lt_zero j), hXW⟩
    (fun x a' W => ∃ qp, Blk W qp 55 #[.int .i64 (pc fr (fr + bs.length) x).fr, .int .i64 (pc fr (fr + bs.length) x).hi] ∧ a' = ⟨#[.iface 29 (.pointer (some ⟨g, 0, none⟩)), .int .u32 size, .int .i64 fr, .slice Ab bs.length cb, .pointer (some ⟨q0, 0, none⟩), undef, undef, .pointer (some ⟨q0 + 1, 0, none⟩), .pointer (some ⟨q0 + 1 + 1, 0, none⟩), .pointer (some ⟨q0 + 1 + 1 + 1, 0, none⟩), .pointer (some ⟨q0 + 1 + 1 + 1 + 1, 0, none⟩), .int .i64 0, .pointer (some ⟨q0 + 1 + 1 + 1 + 1 + 1, 0, none⟩), .int .i64 ((fr : Int) + (bs.length : Int)), .int .u32 (pc fr (fr + bs.length) x).lf, .pointer (some ⟨qp, 0, none⟩), undef, undef, undef, undef, .iface 29 (.pointer (some ⟨g, 0, none⟩)), .int .i64 fr, .slice Ab bs.length cb, .int .i64 (bs.length : Int), .int .i64 0, .int .i64 0, .bool false, undef, .int .i64 fr, .slice Ab bs.length cb, .int .i64 (bs.length : Int), .int .i64 (32768 - (bs.length : Int)), .bool false, .int .i64 fr, .slice Ab bs.length cb, .int .i64 (bs.length : Int), .int .i64 ((fr : Int) + (bs.length : Int)), .int .i64 fr, .int .i64 ((fr : Int) + (bs.length : Int)), .func (.func 16) #[] #[.pointer (some ⟨qf, 0, none⟩), .pointer (some ⟨qf + 1, 0, none⟩)], .int .u32 (pc fr (fr + bs.length) x).lf, .agg #[.int .i64 (pc fr (fr + bs.length) x).fr, .int .i64 (pc fr (fr + bs.length) x).hi], undef, undef, undef, undef, undef, undef, undef, undef, undef, undef, undef, undef, undef, undef, undef, undef, undef, undef, undef, undef, undef, undef, undef, undef, undef, undef, undef, undef, undef, undef, undef, undef, undef, undef, undef, undef, undef, undef, undef, undef, undef, undef, undef, undef, undef], []⟩)
    (fun x a' s A A' row ⟨qp, hs, e⟩ hg hr => ⟨qp, hs.grown hg hr, e⟩) ?assign ?body ?done ?stop
  case assign =>
    intro l pre x W K hi hK
    have oa := (Only.refl (fun _ => False) W).alloc (.cells #[.int .i64 (pc fr (fr + bs.length) x).fr, .int .i64 (pc fr (fr + bs.length) x).hi] 55)
    have hx := hK _ _ (Ct.of oa).keepsFrom ⟨(Ct.of oa).keep hi.1.tf, (Ct.of oa).keep hi.1.tg⟩ ⟨hi.1.only oa, hi.2.1, hi.2.2.keep oa fun _ _ _ x => x⟩ ⟨W.heap.size, Blk.new _ _ _, rfl⟩
    clear hK
    simp only [encP]
    gi_wp2
    exact hx
  case body =>
    rintro l pre x a' W hl ⟨rec, hrec⟩ ⟨hi, hnb, hxw⟩ ⟨qp, hqp, rfl⟩ ⟨rfl, hx⟩
    clear bf bt hCM hqW hl hrec hXW
    have hbl : 0 < bs.length := by
      have hx' := hx
      unfold cnt at hx'
      split at hx' <;> omega
    have hwW : w.heap.size ≤ W.heap.size := hi.tn.size
    have hBW : B ≤ W.heap.size := Nat.le_trans (by have := hq0.out; omega) hwW
    have hpc := pc_le hx
    have hct := cnt_le (fr := fr) h1
    have hAl := wrA_len fr (fr + bs.length) pre.length
    have hatS := at_succ hx
    have hatL : at_ fr (fr + bs.length) (pre.length + 1) ≤ (fr + bs.length) ∧ fr ≤ at_ fr (fr + bs.length) pre.length := by unfold at_; omega
    have hLs : wrL m bs fr (fr + bs.length) (pre ++ [pre.length]).length = (wrL m bs fr (fr + bs.length) pre.length) ++ [((pc fr (fr + bs.length) pre.length).lf, wrOne m bs fr (fr + bs.length) pre.length)] := by rw [List.length_append]; rfl
    have hAs : ask ++ wrA fr (fr + bs.length) (pre ++ [pre.length]).length = ask ++ wrA fr (fr + bs.length) pre.length ++ wrAsk fr (fr + bs.length) pre.length := by rw [List.length_append, List.append_assoc]; rfl
    have hLl : (wrL m bs fr (fr + bs.length) pre.length).length ≤ 64 := by rw [wrL_len]; omega
    have hNs : ((pc fr (fr + bs.length) pre.length).hi - (pc fr (fr + bs.length) pre.length).fr < 512 → isBad bad (pc fr (fr + bs.length) pre.length).lf = false) → (wrK m bad bs fr (fr + bs.length)).N (pre ++ [pre.length]).length := fun hn j hj => by
      rw [List.length_append, List.length_singleton] at hj
      by_cases e : j < pre.length
      · exact hnb j e
      · obtain rfl : j = pre.length := by omega
        exact hn
    have hDs : (pc fr (fr + bs.length) pre.length).hi - (pc fr (fr + bs.length) pre.length).fr < 512 → isBad bad (pc fr (fr + bs.length) pre.length).lf = true → (wrK m bad bs fr (fr + bs.length)).D (pre ++ [pre.length]).length := fun h1 h2 => by
      rw [List.length_append, List.length_singleton]
      exact ⟨by omega, h1, h2, fun j hj => hnb j (by omega)⟩
    have hk2 : at_ fr (fr + bs.length) (pre ++ [pre.length]).length - fr = at_ fr (fr + bs.length) pre.length - fr + ((pc fr (fr + bs.length) pre.length).hi - (pc fr (fr + bs.length) pre.length).fr) := by rw [List.length_append, List.length_singleton, ← hatS]; omega
    have hk3 : at_ fr (fr + bs.length) pre.length - fr + ((pc fr (fr + bs.length) pre.length).hi - (pc fr (fr + bs.length) pre.length).fr) ≤ bs.length := by omega
    unfold wrOne wrBase at hLs
    unfold wrAsk at hAs
    generalize hkk : at_ fr (fr + bs.length) pre.length - fr = k at *
    generalize hpg : (pc fr (fr + bs.length) pre.length) = pp at *
    obtain ⟨pl, pf, ph⟩ := pp
    simp only at *
    clear hatS hatL hkk
    replace hpg := Lib.hid hpg
    replace hNs := Lib.hid hNs
    replace hDs := Lib.hid hDs
    obtain ⟨A, cA, hbb, hrA, hcA, hbA3⟩ := hxw.ex
    have hbA2 := hbA3 hbl
    clear hbA3 hbl
    have j1 : (0 : Int) ≤ (pf : Int) := by omega
    have j2 : (pf : Int) ≤ (ph : Int) := by omega
    have j3 : (ph : Int) ≤ 512 := by omega
    have j4 : ¬ (512 : Int) = (pf : Int) := by omega
    have j5 : ¬ 512 = pf := by omega
    have om := (Only.refl (fun _ => False) W).alloc (.cells (Lib.byteCells Z512).toArray 5)
    have hZ := BB.new W Z512
    have hmk := make512 W
    have hmq : W.heap.size < (W.alloc (.cells (Lib.byteCells Z512).toArray 5)).heap.size := Blk.lt hZ
    generalize W.alloc (.cells (Lib.byteCells Z512).toArray 5) = Wm at *
    have htf := hi.tf
    have htg := hi.tg
    have hib := hi.bd.only om
    have hiM := hib.1
    have hq1m : q0 + 1 < W.heap.size := hbb.lt
    have hqpm := hqp.only om (fun x => x)
    have hbm := hbb.only om (fun x => x)
    have e1 := hqpm.cell 0
    have e2 := hqpm.cell 1
    have c0 := hiM.b0.cell0
    simp only [List.getElem?_toArray, List.getElem?_cons_zero, List.getElem?_cons_succ] at e1 e2
    generalize hqm : W.heap.size = qm at *
    replace hqm := Lib.hid hqm
    have hTm := hi.tn.only om
    have hBm : B ≤ Wm.heap.size := by omega
    by_cases hpt : ph - pf < 512
    · have k0 : decide ((ph : Int) - (pf : Int) < 512) = true := decide_eq_true (by omega)
      rw [if_pos hpt] at hLs hAs
      obtain ⟨va', hSh, hne⟩ := hiM.sh
      have hL := leaf_any B g v m bad va' (ask ++ wrA fr (fr + bs.length) pre.length) pl Wm hSh hBm (by omega) (by rw [List.length_append]; omega)
      have hlb := leafB_len hsz (k := pl) (by omega)
      cases hb : isBad bad pl with
      | true =>
        unfold leafPost at hL
        rw [hb] at hL
        simp only [if_true] at hL
        replace hL := Lib.hid hL
        have hD := hDs.out hpt hb
        replace hb := Lib.hid hb
        replace hAs := Lib.hid hAs
        replace hLs := Lib.hid hLs
        gi_wp2_with fail
        refine ⟨trivial, CallsIn.inRound l (callsIn_wide.2 (hL.out.mono ?_))⟩
        rintro r W1 ⟨ql, rfl, hq, hql, ⟨va2, hS1, hlk⟩, hT1⟩
        have hC1 := hiM.asked hSh hne hS1 hlk hT1
        rw [← hAs.out] at hC1
        obtain ⟨va3, hS3, hne3⟩ := hC1.sh
        have b1 := hC1.b1
        have b2 := hC1.b2
        have b3 := hC1.b3
        have c1 := b1.cell0
        have f1 := b1.frozen 0
        have c2 := b2.cell0
        have f2 := b2.frozen 0
        have c3 := b3.cell0
        have f3 := b3.frozen 0
        have hqn : w.heap.size ≤ q0 + 1 + 1 ∧ w.heap.size ≤ q0 + 1 + 1 + 1 ∧ w.heap.size ≤ q0 + 1 + 1 + 1 + 1 := by have := hq0.out; omega
        have hX := CX.mk3 (K := (wrK m bad bs fr (fr + bs.length))) (ask := ask) (i := (pre ++ [pre.length]).length) b1 b2 b3 hS3 hne3 hi.xq hD (hC1.tn) hqn rfl
        have hCt : Ct W _ := ((Ct.of om).trans (Ct.turn hT1)).trans (ct3 b1 b2 b3 (.slice none 0 0) (.int .u32 0) (.int .i64 21))
        have hlen : (pre ++ [pre.length]).length ≤ cnt fr (fr + bs.length) := by rw [List.length_append, List.length_singleton]; omega
        replace hX := Lib.hid hX
        replace hCt := Lib.hid hCt
        clear hC1 hS3 b1 b2 b3 hS1 hlk hT1 hq hL hi hSh hqp hD hib hiM hbm hbb hqpm hrA hbA2 om hZ hTm e1 e2 c0
        gi_wp2
        exact ⟨hCt.out.keepsFrom, rfl, hlen, hX.out⟩
      | false =>
        unfold leafPost at hL
        rw [hb] at hL
        simp only [Bool.false_eq_true, if_false] at hL
        have hN1 := hNs.out (fun _ => hb)
        replace hL := Lib.hid hL
        replace hb := Lib.hid hb
        replace hAs := Lib.hid hAs
        replace hLs := Lib.hid hLs
        gi_wp2_with fail
        refine ⟨trivial, CallsIn.inRound l (callsIn_wide.2 (hL.out.mono ?_))⟩
        rintro r W1 ⟨ql, rfl, hq, hql, ⟨va2, hS1, hlk⟩, hT1⟩
        have hZ1 : BB W1 qm Z512 := Blk.turn hZ hT1 (by decide)
        have hrl : Reads W1 W1.heap.size (some ⟨ql, 0, none⟩) 512 (Lib.byteCells (leafB m pl)) := by have := hq.reads; rwa [hlb] at this
        obtain ⟨W2, hcp, hq2, ho2⟩ := run_copy_b (o := 0) (dLen := 512) (dCap := 512) (sLen := 512) (sCap := 512) (n := 512) (src := leafB m pl) (A := some ⟨ql, 0, none⟩) 3 hZ1 hrl rfl (by rw [Z512_len]; omega)
        rw [show Z512.take 0 ++ (leafB m pl).take 512 ++ Z512.drop (0 + 512) = leafB m pl by rw [List.take_zero, List.nil_append, List.take_of_length_le (by omega), List.drop_eq_nil_of_le (by rw [Z512_len]; omega), List.append_nil]] at hq2
        have hbs := hib.asked hSh hne hS1 hlk hT1
        have hqs5 : tyAt W1 qm 5 := hZ1.ty
        have hb1 := hbm.turn hT1 (by decide)
        have hq1 := hqpm.turn hT1 (by decide)
        have hqs24 := hb1.ty
        have n1 : q0 + 1 ≠ qm := by omega
        have hb2 := hb1.only ho2 n1
        have hqp2 := hq1.only ho2 (fun e => by subst e; have := hq1.ty.one hqs5; cases this)
        have hT2 : Turn B w W2 := (hTm.trans hT1).new (ho2.mono fun k _ e => by subst e; exact hwW)
        have hCt2 : Ct W W2 := ((Ct.of om).trans (Ct.turn hT1)).trans (ho2.mono fun k _ e => by subst e; exact ⟨5, by decide, hqs5⟩)
        generalize hbl0 : leafB m pl = base at *
        replace hbl0 := Lib.hid hbl0
        replace hcp := Lib.hid hcp
        clear hS1 hlk hT1 hq hL hSh hne hi hiM hib hZ hrl om hTm hZ1 hq1 hb1 hbm hbb hqp hqpm
        gi_wp2_with (refine wpListIn_copy_eq1 rfl (.tmp 59) (.tmp 60) 24 rfl _ _ _ _ (by rfl) (by rfl) hcp.out ?_)
        have hqw : w.heap.size ≤ qm := hwW
        have hr2 : Reads W2.drew W2.drew.heap.size A (bs.length - k) (Lib.byteCells (bs.drop k)) := hrA.keepA hT2.drew (notTn hbA2)
        have hb2d := hb2.drew
        have hq2d : BB W2.drew qm base := Blk.drew hq2
        obtain ⟨W3, hcp3, hq3, ho3⟩ := run_copy_b (o := pf) (dLen := ph - pf) (dCap := 512 - pf) (sLen := bs.length - k) (sCap := cA) (n := ph - pf) (src := bs.drop k) (A := A) 3 hq2d hr2 (by omega) (by omega)
        rw [show pf + (ph - pf) = ph by omega] at hq3
        have hb3 := hb2d.only ho3 n1
        have hd1 := hb2d.cell0
        have hqpd := hqp2.drew
        have hd2 := hqpd.cell 0
        have hd3 := hqpd.cell 1
        have hqp3 := hqpd.only ho3 (fun e => by subst e; have := hqpd.ty.one (Blk.ty hq2d); cases this)
        have hg1 := hb3.cell0
        have hg1f := hb3.frozen 0
        have hg2 := hqp3.cell 0
        have hg3 := hqp3.cell 1
        simp only [List.getElem?_toArray, List.getElem?_cons_zero, List.getElem?_cons_succ] at hd2 hd3 hg2 hg3
        have s4 := hb3.set_ 0 (.slice (if cA = ph - pf then A else A.map (·.add (ph - pf))) (bs.length - k - (ph - pf)) (cA - (ph - pf)))
        simp only [List.setIfInBounds_toArray, List.set_cons_zero] at s4
        have hrd4 := hrA.drop (k := ph - pf) (cap := cA) (by omega) hcA
        have oo := (((ho2.mono (S' := fun k => k = qm ∨ k = q0 + 1) fun _ _ e => .inl e).trans ((Only.refl _ W2).drew)).trans (ho3.mono fun _ _ e => .inl e)).setCell (p := ⟨q0 + 1, 0, none⟩) (.inl (.inr rfl)) (.slice (if cA = ph - pf then A else A.map (·.add (ph - pf))) (bs.length - k - (ph - pf)) (cA - (ph - pf)))
        have hC4 := hbs.turned hqw (oo.mono fun j _ e => by
          rcases e with e | e
          · subst e; exact .inl ⟨Nat.le_refl _, hqs5⟩
          · subst e; exact .inr ⟨by have := hq0.out; omega, hqs24⟩)
        have hq4 : BB _ qm _ := Blk.far hq3 (p := ⟨q0 + 1, 0, none⟩) (Ne.symm n1) (.slice (if cA = ph - pf then A else A.map (·.add (ph - pf))) (bs.length - k - (ph - pf)) (cA - (ph - pf)))
        have hCt4 := ((hCt2.trans (Ct.of ((Only.refl (fun _ => False) W2).drew))).trans (ho3.mono fun j _ e => by subst e; exact ⟨5, by decide, Blk.ty hq2d⟩)).trans (Ct.put hb3.ty (by decide) (i := 0) (.slice (if cA = ph - pf then A else A.map (·.add (ph - pf))) (bs.length - k - (ph - pf)) (cA - (ph - pf))))
        have hfl : (base.take pf ++ (bs.drop k).take (ph - pf) ++ base.drop ph).length = 512 := by rw [List.length_append, List.length_append, List.length_take, List.length_take, List.length_drop, List.length_drop, hlb]; omega
        generalize hW4 : W3.setCell ⟨q0 + 1, 0, none⟩ (.slice (if cA = ph - pf then A else A.map (·.add (ph - pf))) (bs.length - k - (ph - pf)) (cA - (ph - pf))) = W4 at *
        have oa := (Only.refl (fun _ => False) W4).alloc (.cells #[.int .u32 pl, .slice (some ⟨qm, 0, none⟩) 512 512] 47)
        obtain ⟨vo, n9, gn, cap, w9, d0, hrun, d1, d2, hC9, hCt9⟩ := (hC4.only oa).append (c := ⟨pl, some qm, base.take pf ++ (bs.drop k).take (ph - pf) ++ base.drop ph⟩) (Blk.new W4 47 #[.int .u32 pl, .slice (some ⟨qm, 0, none⟩) 512 512]) ⟨hfl, hqw, Blk.only hq4 oa (fun x => x)⟩ (by omega)
        obtain ⟨hgr9, hty9⟩ := (hC4.only oa).append_grown (c := ⟨pl, some qm, base.take pf ++ (bs.drop k).take (ph - pf) ++ base.drop ph⟩) (Blk.new W4 47 #[.int .u32 pl, .slice (some ⟨qm, 0, none⟩) 512 512]) (by omega) d0 hrun
        have d3 : W4.cell? ⟨q0 + 1 + 1 + 1 + 1 + 1, 0, none⟩ = some vo := (Blk.cell_only oa (a := ⟨q0 + 1 + 1 + 1 + 1 + 1, 0, none⟩) (by obtain ⟨_, _, hb, _⟩ := hC4.b4; exact hb.lt) (fun x => x)).symm.trans d0
        have hCt' := (hCt4.trans (Ct.of oa)).trans hCt9
        have s5 := s4.only oa (fun x => x)
        have s6 := (s5.only (grown_only hgr9) (fun e => by have := (hty9 _ e).one s5.ty; cases this)).far (p := ⟨q0 + 1 + 1 + 1 + 1 + 1, 0, none⟩) (by show q0 + 1 ≠ q0 + 1 + 1 + 1 + 1 + 1; omega) (.slice (some ⟨gn, 0, none⟩) n9 cap)
        have hfin : CM B g v m bad w q0 (q0 + 1 + 1) (q0 + 1 + 1 + 1) (q0 + 1 + 1 + 1 + 1) (q0 + 1 + 1 + 1 + 1 + 1) qf (wrL m bs fr (fr + bs.length) (pre ++ [pre.length]).length) (ask ++ wrA fr (fr + bs.length) (pre ++ [pre.length]).length) (w9.setCell ⟨q0 + 1 + 1 + 1 + 1 + 1, 0, none⟩ (.slice (some ⟨gn, 0, none⟩) n9 cap)) := by
          rw [hLs.out, hAs.out]; exact hC9
        have hxf : XW B w (q0 + 1) bs (at_ fr (fr + bs.length) (pre ++ [pre.length]).length - fr) (w9.setCell ⟨q0 + 1 + 1 + 1 + 1 + 1, 0, none⟩ (.slice (some ⟨gn, 0, none⟩) n9 cap)) := by
          rw [hk2]
          refine ⟨if cA = ph - pf then A else A.map (·.add (ph - pf)), cA - (ph - pf), ?_, ?_, by omega, ?_⟩
          · rw [show bs.length - (k + (ph - pf)) = bs.length - k - (ph - pf) by omega]; exact s6
          · rw [show bs.length - (k + (ph - pf)) = bs.length - k - (ph - pf) by omega, ← List.drop_drop]
            unfold Lib.byteCells at hrd4 ⊢
            rw [List.map_drop]
            exact hrd4
          · intro _ a e
            split at e
            · exact hbA2 a e
            · cases A with
              | none => cases e
              | some b =>
                simp only [Option.map_some, Option.some.injEq] at e
                subst e
                have := hbA2 b rfl
                rwa [show (b.add (ph - pf)).block = b.block by unfold Addr.add; split <;> rfl]
        have hkp : KpP qf (qf + 1) W (w9.setCell ⟨q0 + 1 + 1 + 1 + 1 + 1, 0, none⟩ (.slice (some ⟨gn, 0, none⟩) n9 cap)) := ⟨hCt'.keep htf, hCt'.keep htg⟩
        have i5 : ((ph : Int) - (pf : Int)) = ((ph - pf : Nat) : Int) := by omega
        have i6 : (0 : Int) ≤ ((ph - pf : Nat) : Int) := by omega
        have i7 : ((ph - pf : Nat) : Int) ≤ ((bs.length - k : Nat) : Int) := by omega
        replace hfin := Lib.hid hfin
        replace hkp := Lib.hid hkp
        replace hxf := Lib.hid hxf
        replace hCt' := Lib.hid hCt'
        replace hrun := Lib.hid hrun
        replace hcp3 := Lib.hid hcp3
        have hS0 : W2.drew.cell? ⟨q0 + 1, 0, none⟩ = some (.slice A (bs.length - k) cA) ∧ W2.drew.cell? ⟨qp, 0, none⟩ = some (.int .i64 pf) ∧ W2.drew.cell? ⟨qp, 1, none⟩ = some (.int .i64 ph) := ⟨hd1, hd2, hd3⟩
        have hS9 : W3.cell? ⟨q0 + 1, 0, none⟩ = some (.slice A (bs.length - k) cA) ∧ W3.cell? ⟨qp, 0, none⟩ = some (.int .i64 pf) ∧ W3.cell? ⟨qp, 1, none⟩ = some (.int .i64 ph) := ⟨hg1, hg2, hg3⟩
        clear hq2 hq2d hr2 hb2 hb2d hqp2 hqpd hqp3 hb3 hq3 ho3 s4 s5 s6 oo hC4 hq4 hCt4 hC9 hCt9 hgr9 hty9 oa hT2 hCt2 hbs hrd4 hd1 hd2 hd3 hg2 hg3 ho2 hqs5 hqs24 d0 hrA hbA2 hxw
        refine wpIn_region_norm (by kernel_rfl) (by kernel_rfl) (E_any (S := fun W => W.cell? ⟨q0 + 1, 0, none⟩ = some (.slice A (bs.length - k) cA) ∧ W.cell? ⟨qp, 0, none⟩ = some (.int .i64 pf) ∧ W.cell? ⟨qp, 1, none⟩ = some (.int .i64 ph)) (z := 10) _ _ _ _ ?_)
        generalize W2.drew = W1d at *
        refine E_take (v := ?p0) 0 rfl (by kernel_rfl) (by kernel_rfl) (by kernel_rfl) (by kernel_rfl) (by kernel_rfl) (by kernel_rfl) (fun _ _ _ h => h) rfl hS0 ?ph0 ?_
        case ph0 => intro W hW; obtain ⟨g0, g1, g2⟩ := hW; go_simp; try with_reducible rfl
        simp only [Act.put, List.setIfInBounds_toArray, List.set_cons_zero, List.set_cons_succ]
        refine E_take (v := ?p1) 1 rfl (by kernel_rfl) (by kernel_rfl) (by kernel_rfl) (by kernel_rfl) (by kernel_rfl) (by kernel_rfl) (fun _ _ _ h => h) rfl hS0 ?ph1 ?_
        case ph1 => intro W hW; obtain ⟨g0, g1, g2⟩ := hW; go_simp; try with_reducible rfl
        simp only [Act.put, List.setIfInBounds_toArray, List.set_cons_zero, List.set_cons_succ]
        refine E_take (v := ?p2) 2 rfl (by kernel_rfl) (by kernel_rfl) (by kernel_rfl) (by kernel_rfl) (by kernel_rfl) (by kernel_rfl) (fun _ _ _ h => h) rfl hS0 ?ph2 ?_
        case ph2 => intro W hW; obtain ⟨g0, g1, g2⟩ := hW; go_simp; try with_reducible rfl
        simp only [Act.put, List.setIfInBounds_toArray, List.set_cons_zero, List.set_cons_succ]
        refine E_take (v := ?p3) 3 rfl (by kernel_rfl) (by kernel_rfl) (by kernel_rfl) (by kernel_rfl) (by kernel_rfl) (by kernel_rfl) (fun _ _ _ h => h) rfl hS0 ?ph3 ?_
        case ph3 => intro W hW; obtain ⟨g0, g1, g2⟩ := hW; go_simp; try with_reducible rfl
        simp only [Act.put, List.setIfInBounds_toArray, List.set_cons_zero, List.set_cons_succ]
        refine E_take (v := ?p4) 4 rfl (by kernel_rfl) (by kernel_rfl) (by kernel_rfl) (by kernel_rfl) (by kernel_rfl) (by kernel_rfl) (fun _ _ _ h => h) rfl hS0 ?ph4 ?_
        case ph4 => intro W hW; obtain ⟨g0, g1, g2⟩ := hW; go_simp; try with_reducible rfl
        simp only [Act.put, List.setIfInBounds_toArray, List.set_cons_zero, List.set_cons_succ]
        refine E_take (v := ?p5) 5 rfl (by kernel_rfl) (by kernel_rfl) (by kernel_rfl) (by kernel_rfl) (by kernel_rfl) (by kernel_rfl) (fun _ _ _ h => h) rfl hS0 ?ph5 ?_
        case ph5 => intro W hW; obtain ⟨g0, g1, g2⟩ := hW; go_simp; try with_reducible rfl
        simp only [Act.put, List.setIfInBounds_toArray, List.set_cons_zero, List.set_cons_succ]
        refine E_take (v := ?p6) 6 rfl (by kernel_rfl) (by kernel_rfl) (by kernel_rfl) (by kernel_rfl) (by kernel_rfl) (by kernel_rfl) (fun _ _ _ h => h) rfl hS0 ?ph6 ?_
        case ph6 => intro W hW; obtain ⟨g0, g1, g2⟩ := hW; go_simp; try with_reducible rfl
        simp only [Act.put, List.setIfInBounds_toArray, List.set_cons_zero, List.set_cons_succ]
        refine E_take (v := ?p7) 7 rfl (by kernel_rfl) (by kernel_rfl) (by kernel_rfl) (by kernel_rfl) (by kernel_rfl) (by kernel_rfl) (fun _ _ _ h => h) rfl hS0 ?ph7 ?_
        case ph7 => intro W hW; obtain ⟨g0, g1, g2⟩ := hW; go_simp; try with_reducible rfl
        simp only [Act.put, List.setIfInBounds_toArray, List.set_cons_zero, List.set_cons_succ]
        refine E_one 8 (by kernel_rfl) rfl (fun K hK => ?_)
        refine step_copy_eq1 rfl (.tmp 68) (.tmp 69) 24 rfl _ _ _ _ (by rfl) (by rfl) hcp3.out ?_
        refine hK.out _ _ (fun _ => hS9) ?_
        clear hK K
        try simp only [Act.put, List.setIfInBounds_toArray, List.set_cons_zero, List.set_cons_succ]
        refine E_one 9 (by kernel_rfl) rfl (fun K hK => ?_)
        go_simp
        refine hK.out _ _ (fun _ => hS9) ?_
        clear hK K
        try simp only [Act.put, List.setIfInBounds_toArray, List.set_cons_zero, List.set_cons_succ]
        refine E_one 10 (by kernel_rfl) rfl (fun K hK => ?_)
        go_simp
        refine hK.out _ _ (fun h => absurd h (by decide)) ?_
        clear hK K
        try simp only [Act.put, List.setIfInBounds_toArray, List.set_cons_zero, List.set_cons_succ]
        refine E_done (by kernel_rfl) (norm_in ?_)
        try simp only [hW4]
        gi_wp2_with (gi_at_builtin; refine wpListIn_append_eq1 rfl (.tmp 72) (.tmp 76) 35 rfl _ _ _ _ (by rfl) (by rfl) hrun.out ?_)
        all_goals exact ⟨hCt'.out.keepsFrom, hkp.out, hfin.out, hN1, hxf.out⟩
    · have k0 : decide ((ph : Int) - (pf : Int) < 512) = false := decide_eq_false (by omega)
      rw [if_neg hpt] at hLs hAs
      rw [List.append_nil] at hAs
      have hN1 := hNs.out (fun e => absurd e hpt)
      have hlb := Z512_len
      replace hAs := Lib.hid hAs
      replace hLs := Lib.hid hLs
      have hbs := hib
      have hqs5 : tyAt Wm qm 5 := hZ.ty
      have hqs24 := hbm.ty
      have n1 : q0 + 1 ≠ qm := by omega
      have hb2 := hbm
      have hqp2 := hqpm
      have hT2 : Turn B w Wm := hTm
      have hCt2 : Ct W Wm := Ct.of om
      have hq2 : BB Wm qm Z512 := hZ
      have ho2 : Only (fun k => k = qm) Wm Wm := Only.refl _ _
      generalize hbl0 : Z512 = base at *
      replace hbl0 := Lib.hid hbl0
      clear hi hiM hib hZ om hTm hbm hbb hqp hqpm
      gi_wp2_with fail
      have hqw : w.heap.size ≤ qm := hwW
      have hr2 : Reads Wm.drew Wm.drew.heap.size A (bs.length - k) (Lib.byteCells (bs.drop k)) := hrA.keepA hT2.drew (notTn hbA2)
      have hb2d := hb2.drew
      have hq2d : BB Wm.drew qm base := Blk.drew hq2
      obtain ⟨W3, hcp3, hq3, ho3⟩ := run_copy_b (o := pf) (dLen := ph - pf) (dCap := 512 - pf) (sLen := bs.length - k) (sCap := cA) (n := ph - pf) (src := bs.drop k) (A := A) 3 hq2d hr2 (by omega) (by omega)
      rw [show pf + (ph - pf) = ph by omega] at hq3
      have hb3 := hb2d.only ho3 n1
      have hd1 := hb2d.cell0
      have hqpd := hqp2.drew
      have hd2 := hqpd.cell 0
      have hd3 := hqpd.cell 1
      have hqp3 := hqpd.only ho3 (fun e => by subst e; have := hqpd.ty.one (Blk.ty hq2d); cases this)
      have hg1 := hb3.cell0
      have hg1f := hb3.frozen 0
      have hg2 := hqp3.cell 0
      have hg3 := hqp3.cell 1
      simp only [List.getElem?_toArray, List.getElem?_cons_zero, List.getElem?_cons_succ] at hd2 hd3 hg2 hg3
      have s4 := hb3.set_ 0 (.slice (if cA = ph - pf then A else A.map (·.add (ph - pf))) (bs.length - k - (ph - pf)) (cA - (ph - pf)))
      simp only [List.setIfInBounds_toArray, List.set_cons_zero] at s4
      have hrd4 := hrA.drop (k := ph - pf) (cap := cA) (by omega) hcA
      have oo := (((ho2.mono (S' := fun k => k = qm ∨ k = q0 + 1) fun _ _ e => .inl e).trans ((Only.refl _ Wm).drew)).trans (ho3.mono fun _ _ e => .inl e)).setCell (p := ⟨q0 + 1, 0, none⟩) (.inl (.inr rfl)) (.slice (if cA = ph - pf then A else A.map (·.add (ph - pf))) (bs.length - k - (ph - pf)) (cA - (ph - pf)))
      have hC4 := hbs.turned hqw (oo.mono fun j _ e => by
        rcases e with e | e
        · subst e; exact .inl ⟨Nat.le_refl _, hqs5⟩
        · subst e; exact .inr ⟨by have := hq0.out; omega, hqs24⟩)
      have hq4 : BB _ qm _ := Blk.far hq3 (p := ⟨q0 + 1, 0, none⟩) (Ne.symm n1) (.slice (if cA = ph - pf then A else A.map (·.add (ph - pf))) (bs.length - k - (ph - pf)) (cA - (ph - pf)))
      have hCt4 := ((hCt2.trans (Ct.of ((Only.refl (fun _ => False) Wm).drew))).trans (ho3.mono fun j _ e => by subst e; exact ⟨5, by decide, Blk.ty hq2d⟩)).trans (Ct.put hb3.ty (by decide) (i := 0) (.slice (if cA = ph - pf then A else A.map (·.add (ph - pf))) (bs.length - k - (ph - pf)) (cA - (ph - pf))))
      have hfl : (base.take pf ++ (bs.drop k).take (ph - pf) ++ base.drop ph).length = 512 := by rw [List.length_append, List.length_append, List.length_take, List.length_take, List.length_drop, List.length_drop, hlb]; omega
      generalize hW4 : W3.setCell ⟨q0 + 1, 0, none⟩ (.slice (if cA = ph - pf then A else A.map (·.add (ph - pf))) (bs.length - k - (ph - pf)) (cA - (ph - pf))) = W4 at *
      have oa := (Only.refl (fun _ => False) W4).alloc (.cells #[.int .u32 pl, .slice (some ⟨qm, 0, none⟩) 512 512] 47)
      obtain ⟨vo, n9, gn, cap, w9, d0, hrun, d1, d2, hC9, hCt9⟩ := (hC4.only oa).append (c := ⟨pl, some qm, base.take pf ++ (bs.drop k).take (ph - pf) ++ base.drop ph⟩) (Blk.new W4 47 #[.int .u32 pl, .slice (some ⟨qm, 0, none⟩) 512 512]) ⟨hfl, hqw, Blk.only hq4 oa (fun x => x)⟩ (by omega)
      obtain ⟨hgr9, hty9⟩ := (hC4.only oa).append_grown (c := ⟨pl, some qm, base.take pf ++ (bs.drop k).take (ph - pf) ++ base.drop ph⟩) (Blk.new W4 47 #[.int .u32 pl, .slice (some ⟨qm, 0, none⟩) 512 512]) (by omega) d0 hrun
      have d3 : W4.cell? ⟨q0 + 1 + 1 + 1 + 1 + 1, 0, none⟩ = some vo := (Blk.cell_only oa (a := ⟨q0 + 1 + 1 + 1 + 1 + 1, 0, none⟩) (by obtain ⟨_, _, hb, _⟩ := hC4.b4; exact hb.lt) (fun x => x)).symm.trans d0
      have hCt' := (hCt4.trans (Ct.of oa)).trans hCt9
      have s5 := s4.only oa (fun x => x)
      have s6 := (s5.only (grown_only hgr9) (fun e => by have := (hty9 _ e).one s5.ty; cases this)).far (p := ⟨q0 + 1 + 1 + 1 + 1 + 1, 0, none⟩) (by show q0 + 1 ≠ q0 + 1 + 1 + 1 + 1 + 1; omega) (.slice (some ⟨gn, 0, none⟩) n9 cap)
      have hfin : CM B g v m bad w q0 (q0 + 1 + 1) (q0 + 1 + 1 + 1) (q0 + 1 + 1 + 1 + 1) (q0 + 1 + 1 + 1 + 1 + 1) qf (wrL m bs fr (fr + bs.length) (pre ++ [pre.length]).length) (ask ++ wrA fr (fr + bs.length) (pre ++ [pre.length]).length) (w9.setCell ⟨q0 + 1 + 1 + 1 + 1 + 1, 0, none⟩ (.slice (some ⟨gn, 0, none⟩) n9 cap)) := by
        rw [hLs.out, hAs.out]; exact hC9
      have hxf : XW B w (q0 + 1) bs (at_ fr (fr + bs.length) (pre ++ [pre.length]).length - fr) (w9.setCell ⟨q0 + 1 + 1 + 1 + 1 + 1, 0, none⟩ (.slice (some ⟨gn, 0, none⟩) n9 cap)) := by
        rw [hk2]
        refine ⟨if cA = ph - pf then A else A.map (·.add (ph - pf)), cA - (ph - pf), ?_, ?_, by omega, ?_⟩
        · rw [show bs.length - (k + (ph - pf)) = bs.length - k - (ph - pf) by omega]; exact s6
        · rw [show bs.length - (k + (ph - pf)) = bs.length - k - (ph - pf) by omega, ← List.drop_drop]
          unfold Lib.byteCells at hrd4 ⊢
          rw [List.map_drop]
          exact hrd4
        · intro _ a e
          split at e
          · exact hbA2 a e
          · cases A with
            | none => cases e
            | some b =>
              simp only [Option.map_some, Option.some.injEq] at e
              subst e
              have := hbA2 b rfl
              rwa [show (b.add (ph - pf)).block = b.block by unfold Addr.add; split <;> rfl]
      have hkp : KpP qf (qf + 1) W (w9.setCell ⟨q0 + 1 + 1 + 1 + 1 + 1, 0, none⟩ (.slice (some ⟨gn, 0, none⟩) n9 cap)) := ⟨hCt'.keep htf, hCt'.keep htg⟩
      have i5 : ((ph : Int) - (pf : Int)) = ((ph - pf : Nat) : Int) := by omega
      have i6 : (0 : Int) ≤ ((ph - pf : Nat) : Int) := by omega
      have i7 : ((ph - pf : Nat) : Int) ≤ ((bs.length - k : Nat) : Int) := by omega
      replace hfin := Lib.hid hfin
      replace hkp := Lib.hid hkp
      replace hxf := Lib.hid hxf
      replace hCt' := Lib.hid hCt'
      replace hrun := Lib.hid hrun
      replace hcp3 := Lib.hid hcp3
      have hS0 : Wm.drew.cell? ⟨q0 + 1, 0, none⟩ = some (.slice A (bs.length - k) cA) ∧ Wm.drew.cell? ⟨qp, 0, none⟩ = some (.int .i64 pf) ∧ Wm.drew.cell? ⟨qp, 1, none⟩ = some (.int .i64 ph) := ⟨hd1, hd2, hd3⟩
      have hS9 : W3.cell? ⟨q0 + 1, 0, none⟩ = some (.slice A (bs.length - k) cA) ∧ W3.cell? ⟨qp, 0, none⟩ = some (.int .i64 pf) ∧ W3.cell? ⟨qp, 1, none⟩ = some (.int .i64 ph) := ⟨hg1, hg2, hg3⟩
      clear hq2 hq2d hr2 hb2 hb2d hqp2 hqpd hqp3 hb3 hq3 ho3 s4 s5 s6 oo hC4 hq4 hCt4 hC9 hCt9 hgr9 hty9 oa hT2 hCt2 hbs hrd4 hd1 hd2 hd3 hg2 hg3 ho2 hqs5 hqs24 d0 hrA hbA2 hxw
      refine wpIn_region_norm (by kernel_rfl) (by kernel_rfl) (E_any (S := fun W => W.cell? ⟨q0 + 1, 0, none⟩ = some (.slice A (bs.length - k) cA) ∧ W.cell? ⟨qp, 0, none⟩ = some (.int .i64 pf) ∧ W.cell? ⟨qp, 1, none⟩ = some (.int .i64 ph)) (z := 10) _ _ _ _ ?_)
      generalize Wm.drew = W1d at *
      refine E_take (v := ?f0) 0 rfl (by kernel_rfl) (by kernel_rfl) (by kernel_rfl) (by kernel_rfl) (by kernel_rfl) (by kernel_rfl) (fun _ _ _ h => h) rfl hS0 ?fh0 ?_
      case fh0 => intro W hW; obtain ⟨g0, g1, g2⟩ := hW; go_simp; try with_reducible rfl
      simp only [Act.put, List.setIfInBounds_toArray, List.set_cons_zero, List.set_cons_succ]
      refine E_take (v := ?f1) 1 rfl (by kernel_rfl) (by kernel_rfl) (by kernel_rfl) (by kernel_rfl) (by kernel_rfl) (by kernel_rfl) (fun _ _ _ h => h) rfl hS0 ?fh1 ?_
      case fh1 => intro W hW; obtain ⟨g0, g1, g2⟩ := hW; go_simp; try with_reducible rfl
      simp only [Act.put, List.setIfInBounds_toArray, List.set_cons_zero, List.set_cons_succ]
      refine E_take (v := ?f2) 2 rfl (by kernel_rfl) (by kernel_rfl) (by kernel_rfl) (by kernel_rfl) (by kernel_rfl) (by kernel_rfl) (fun _ _ _ h => h) rfl hS0 ?fh2 ?_
      case fh2 => intro W hW; obtain ⟨g0, g1, g2⟩ := hW; go_simp; try with_reducible rfl
      simp only [Act.put, List.setIfInBounds_toArray, List.set_cons_zero, List.set_cons_succ]
      refine E_take (v := ?f3) 3 rfl (by kernel_rfl) (by kernel_rfl) (by kernel_rfl) (by kernel_rfl) (by kernel_rfl) (by kernel_rfl) (fun _ _ _ h => h) rfl hS0 ?fh3 ?_
      case fh3 => intro W hW; obtain ⟨g0, g1, g2⟩ := hW; go_simp; try with_reducible rfl
      simp only [Act.put, List.setIfInBounds_toArray, List.set_cons_zero, List.set_cons_succ]
      refine E_take (v := ?f4) 4 rfl (by kernel_rfl) (by kernel_rfl) (by kernel_rfl) (by kernel_rfl) (by kernel_rfl) (by kernel_rfl) (fun _ _ _ h => h) rfl hS0 ?fh4 ?_
      case fh4 => intro W hW; obtain ⟨g0, g1, g2⟩ := hW; go_simp; try with_reducible rfl
      simp only [Act.put, List.setIfInBounds_toArray, List.set_cons_zero, List.set_cons_succ]
      refine E_take (v := ?f5) 5 rfl (by kernel_rfl) (by kernel_rfl) (by kernel_rfl) (by kernel_rfl) (by kernel_rfl) (by kernel_rfl) (fun _ _ _ h => h) rfl hS0 ?fh5 ?_
      case fh5 => intro W hW; obtain ⟨g0, g1, g2⟩ := hW; go_simp; try with_reducible rfl
      simp only [Act.put, List.setIfInBounds_toArray, List.set_cons_zero, List.set_cons_succ]
      refine E_take (v := ?f6) 6 rfl (by kernel_rfl) (by kernel_rfl) (by kernel_rfl) (by kernel_rfl) (by kernel_rfl) (by kernel_rfl) (fun _ _ _ h => h) rfl hS0 ?fh6 ?_
      case fh6 => intro W hW; obtain ⟨g0, g1, g2⟩ := hW; go_simp; try with_reducible rfl
      simp only [Act.put, List.setIfInBounds_toArray, List.set_cons_zero, List.set_cons_succ]
      refine E_take (v := ?f7) 7 rfl (by kernel_rfl) (by kernel_rfl) (by kernel_rfl) (by kernel_rfl) (by kernel_rfl) (by kernel_rfl) (fun _ _ _ h => h) rfl hS0 ?fh7 ?_
      case fh7 => intro W hW; obtain ⟨g0, g1, g2⟩ := hW; go_simp; try with_reducible rfl
      simp only [Act.put, List.setIfInBounds_toArray, List.set_cons_zero, List.set_cons_succ]
      refine E_one 8 (by kernel_rfl) rfl (fun K hK => ?_)
      refine step_copy_eq1 rfl (.tmp 68) (.tmp 69) 24 rfl _ _ _ _ (by rfl) (by rfl) hcp3.out ?_
      refine hK.out _ _ (fun _ => hS9) ?_
      clear hK K
      try simp only [Act.put, List.setIfInBounds_toArray, List.set_cons_zero, List.set_cons_succ]
      refine E_one 9 (by kernel_rfl) rfl (fun K hK => ?_)
      go_simp
      refine hK.out _ _ (fun _ => hS9) ?_
      clear hK K
      try simp only [Act.put, List.setIfInBounds_toArray, List.set_cons_zero, List.set_cons_succ]
      refine E_one 10 (by kernel_rfl) rfl (fun K hK => ?_)
      go_simp
      refine hK.out _ _ (fun h => absurd h (by decide)) ?_
      clear hK K
      try simp only [Act.put, List.setIfInBounds_toArray, List.set_cons_zero, List.set_cons_succ]
      refine E_done (by kernel_rfl) (norm_in ?_)
      try simp only [hW4]
      gi_wp2_with (gi_at_builtin; refine wpListIn_append_eq1 rfl (.tmp 72) (.tmp 76) 35 rfl _ _ _ _ (by rfl) (by rfl) hrun.out ?_)
      all_goals exact ⟨hCt'.out.keepsFrom, hkp.out, hfin.out, hN1, hxf.out⟩
  case done =>
    rintro D xs W hD hcn ⟨hi, hnb, hxw⟩ hK
    clear hxw
    rw [hcn] at hi hnb
    have hnsv := hns.out
    have hqn : w.heap.size ≤ q0 + 1 + 1 ∧ w.heap.size ≤ q0 + 1 + 1 + 1 ∧ w.heap.size ≤ q0 + 1 + 1 + 1 + 1 := by have := hq0.out; omega
    have hDw : w.heap.size ≤ D := Nat.le_trans (by have := hq0.out; omega) hD
    have c1 := hi.b1.cell0
    have f1 := hi.b1.frozen 0
    have c2 := hi.b2.cell0
    have f2 := hi.b2.frozen 0
    have c3 := hi.b3.cell0
    have f3 := hi.b3.frozen 0
    have hcn0 : cnt fr (fr + bs.length) = 0 ↔ bs.length = 0 := by unfold cnt; split <;> omega
    have j0 : (0 : Int) ≤ (fr : Int) + (bs.length : Int) := by omega
    have j1 : (fr : Int) + (bs.length : Int) ≤ 32768 := by omega
    obtain ⟨A, c, L, hLn, d0, -⟩ := hi.done (ask := ask) (K := (wrK m bad bs fr (fr + bs.length))) (M := cnt fr (fr + bs.length)) rfl rfl hnb hK hDw hqn 0
    rw [wrL_len] at hLn
    by_cases hb0 : bs.length = 0
    · have l0 : ((L.length : Int) == 0) = true := by rw [hLn, hcn0.2 hb0]; rfl
      rw [if_pos hb0] at hnsv
      obtain ⟨hK9, d1, d2, d3, hok⟩ := hi.done0 (ask := ask) (K := (wrK m bad bs fr (fr + bs.length))) (M := cnt fr (fr + bs.length)) (List.length_eq_zero_iff.1 ((wrL_len m bs fr (fr + bs.length) _).trans (hcn0.2 hb0))) rfl hnb hK hDw hqn size
      subst hnsv
      replace hok := Lib.hid hok
      replace hK9 := Lib.hid hK9
      replace d1 := Lib.hid d1
      replace d2 := Lib.hid d2
      replace d3 := Lib.hid d3
      clear bf bt hCM hqW hi hnb hK hcn hXW hLn hb0 hcn0
      gi_wp2
      go_wp2
      refine ⟨by simp, .inl ⟨_, _, rfl, run_takeDeferred hK9.out, ?_⟩⟩
      exact ⟨_, res8 _ _ _ _ _ _ _ _ rfl rfl rfl d1.out d2.out d3.out, .inl ⟨none, 0, [], rfl, hok.out⟩⟩
    · rw [if_neg hb0] at hnsv
      obtain ⟨A', c', L', -, d0', hK9, d1, d2, d3, hok⟩ := hi.done (ask := ask) (K := (wrK m bad bs fr (fr + bs.length))) (M := cnt fr (fr + bs.length)) rfl rfl hnb hK hDw hqn ns
      obtain ⟨rfl, e2, rfl⟩ : A' = A ∧ L'.length = L.length ∧ c' = c := by
        have := d0'.symm.trans d0
        simp only [Option.some.injEq, Value.slice.injEq] at this
        exact this
      have l0 : ((L'.length : Int) == 0) = false := by have := mt hcn0.1 hb0; exact beq_false_of_ne (by omega)
      clear d0
      have hns2 : (ns : Int) = if size < (fr + bs.length) then (fr : Int) + (bs.length : Int) else (size : Int) := by split <;> omega
      by_cases hmx : size < (fr + bs.length)
      · rw [if_pos hmx] at hns2
        rw [hns2] at hK9 d1 d2 d3 hok
        have m1 : (size : Int) < (fr : Int) + (bs.length : Int) := by omega
        replace hok := Lib.hid hok
        replace hK9 := Lib.hid hK9
        replace d1 := Lib.hid d1
        replace d2 := Lib.hid d2
        replace d3 := Lib.hid d3
        replace hns2 := Lib.hid hns2
        replace e2 := Lib.hid e2
        clear bf bt hCM hqW hi hnb hK hcn hXW hLn hb0 hcn0 hnsv
        gi_wp2
        go_wp2
        refine ⟨by simp, .inl ⟨_, _, rfl, run_takeDeferred hK9.out, ?_⟩⟩
        exact ⟨_, res8 _ _ _ _ _ _ _ _ rfl rfl rfl d1.out d2.out d3.out, .inl ⟨A', c', L', by rw [hns2.out], hok.out⟩⟩
      · rw [if_neg hmx] at hns2
        rw [hns2] at hK9 d1 d2 d3 hok
        have m1 : (fr : Int) + (bs.length : Int) ≤ (size : Int) := by omega
        replace hok := Lib.hid hok
        replace hK9 := Lib.hid hK9
        replace d1 := Lib.hid d1
        replace d2 := Lib.hid d2
        replace d3 := Lib.hid d3
        replace hns2 := Lib.hid hns2
        replace e2 := Lib.hid e2
        clear bf bt hCM hqW hi hnb hK hcn hXW hLn hb0 hcn0 hnsv
        gi_wp2
        go_wp2
        refine ⟨by simp, .inl ⟨_, _, rfl, run_takeDeferred hK9.out, ?_⟩⟩
        exact ⟨_, res8 _ _ _ _ _ _ _ _ rfl rfl rfl d1.out d2.out d3.out, .inl ⟨A', c', L', by rw [hns2.out], hok.out⟩⟩
  case stop =>
    rintro D c pre W hD _ ⟨rfl, hpl, hx⟩ hK
    have hg := grownBy_putObj' W D (.deferred none)
    have hr9 : ∀ r, (some D : Option Nat) = some r → w.heap.size ≤ r ∧ ∃ o : Obj, W.heap[r]? = some o ∧ o.isCells = false := fun r e => by cases e; exact ⟨Nat.le_trans (by have := hq0.out; omega) hD, _, hK, rfl⟩
    have hx9 := hx.grown hg hr9 (Nat.le_refl _)
    replace hK := Lib.hid hK
    clear bf bt hCM hqW hx hg hr9 hXW
    gi_wp2
    refine ⟨by simp, .inl ⟨_, _, rfl, run_takeDeferred hK.out, ?_⟩⟩
    exact ⟨_, res8 _ _ _ _ _ _ _ _ rfl rfl rfl hx9.b1.cell0 hx9.b2.cell0 hx9.b3.cell0, .inr ⟨pre.length, hpl, rfl, hx9.sh, hx9.bd, hx9.tn⟩⟩
end Go.Proofs.Ytpkadhgoaaphkaa
