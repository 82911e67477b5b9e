/-
  content.Truncate (func 9).
-/
import Derived.Test.YtpkadhgoaaphkaaCi
import Derived.Deep.CutBlock
import Derived.Deep.DeepCutAuto
namespace Go.Proofs.Ytpkadhgoaaphkaa
open Go Go.RowKit Go.Shelf
set_option linter.unusedVariables false
/-- What becomes of the leaf of piece i. -/
def trOne (m : Nat → List UInt8) (fr en i : Nat) : List (Nat × List UInt8) :=
  if (pc fr en i).fr = 0 then [((pc fr en i).lf, [])]
  else if 0 < (m (pc fr en i).lf).length then [((pc fr en i).lf, (leafB m (pc fr en i).lf).take (pc fr en i).fr ++ List.replicate (512 - (pc fr en i).fr) 0)] else []
def trAsk (fr en i : Nat) : List Nat := if (pc fr en i).fr = 0 then [] else [(pc fr en i).lf]
def trL (m : Nat → List UInt8) (fr en : Nat) : Nat → List (Nat × List UInt8)
  | 0 => []
  | i + 1 => trL m fr en i ++ trOne m fr en i
def trA (fr en : Nat) : Nat → List Nat
  | 0 => []
  | i + 1 => trA fr en i ++ trAsk fr en i
def trK (m : Nat → List UInt8) (bad fr en : Nat) : Law where
  L := trL m fr en
  A := trA fr en
  N := fun i => ∀ j, j < i → (pc fr en j).fr ≠ 0 → isBad bad (pc fr en j).lf = false
  D := fun i => 0 < i ∧ (pc fr en (i - 1)).fr ≠ 0 ∧ isBad bad (pc fr en (i - 1)).lf = true ∧ ∀ j, j + 1 < i → (pc fr en j).fr ≠ 0 → isBad bad (pc fr en j).lf = false
theorem trA_len (fr en : Nat) : ∀ i, (trA fr en i).length ≤ i
  | 0 => Nat.le_refl _
  | i + 1 => by
    have := trA_len fr en i
    unfold trA trAsk
    rw [List.length_append]
    split <;> simp <;> omega
theorem trL_len (m : Nat → List UInt8) (fr en : Nat) : ∀ i, (trL m fr en i).length ≤ i
  | 0 => Nat.le_refl _
  | i + 1 => by
    have := trL_len m fr en i
    unfold trL trOne
    rw [List.length_append]
    split
    · simp; omega
    · split <;> simp <;> omega
theorem isAgg_of {t : TypeId} {d : TypeDesc} (hu : Try.prog.underlying t = some d) (hd : (match d with | .struct _ | .array _ _ => true | _ => false) = false) (w : World) : (isAgg t).run Try.prog w = .ok false w := by
  unfold isAgg
  rw [Sem.run_bind, run_underlying hu w]
  cases d <;> simp_all
theorem agg35 (w : World) : (isAgg 35).run Try.prog w = .ok false w := isAgg_of und35 rfl w
theorem agg34 (w : World) : (isAgg 34).run Try.prog w = .ok false w := isAgg_of (d := .int .u32) (by kernel_rfl) rfl w
theorem agg36 (w : World) : (isAgg 36).run Try.prog w = .ok false w := isAgg_of (d := .int .i64) (by kernel_rfl) rfl w
theorem res9 (tm : Array Value) (W : World) (q1 q2 q3 : Nat) (v1 v2 v3 : Value) (h8 : tm.getD 6 undef = .pointer (some ⟨q1, 0, none⟩)) (h9 : tm.getD 7 undef = .pointer (some ⟨q2, 0, none⟩)) (h10 : tm.getD 8 undef = .pointer (some ⟨q3, 0, none⟩)) (c1 : W.cell? ⟨q1, 0, none⟩ = some v1) (c2 : W.cell? ⟨q2, 0, none⟩ = some v2) (c3 : W.cell? ⟨q3, 0, none⟩ = some v3) :
    (results Try.f9 tm).run Try.prog W = .ok (.tuple #[v1, v2, v3]) W :=
  res3 Try.results9 (by kernel_rfl) agg35 agg34 agg36 tm W q1 q2 q3 v1 v2 v3 h8 h9 h10 c1 c2 c3
/-- Blocks one after another. -/
theorem alloc_one {w0 w : World} {N : Nat} (hz : w.heap.size = N) (ho : Only (fun _ => False) w0 w) (v : Value) (t : TypeId) : Blk (w.alloc (.cells #[v] t)) N t #[v] ∧ (w.alloc (.cells #[v] t)).heap.size = N + 1 ∧ Only (fun _ => False) w0 (w.alloc (.cells #[v] t)) ∧ Only (fun _ => False) w (w.alloc (.cells #[v] t)) := by
  have := Blk.new w t #[v]
  rw [hz] at this
  exact ⟨this, by simp [hz], ho.alloc _, (Only.refl _ _).alloc _⟩
attribute [local go_sem] Oper.semAt_some
set_option maxRecDepth 20000 in
set_option maxHeartbeats 8000000 in
theorem trunc_main (B g : Nat) (v : Nat → Value) (m : Nat → List UInt8) (bad : Nat) (va : Value) (ask : List Nat) (size fr : Nat) (w : World) (h : Sh B g v m bad va ask w) (hB : B ≤ w.heap.size) (hs : size ≤ 32768) (h1 : fr ≤ 32768) (hl : ask.length ≤ 100000) :
    Calls Try.prog 9 #[.iface 29 (.pointer (some ⟨g, 0, none⟩)), .int .u32 size, .int .i64 fr] w fun r w' => ChPost B g v m bad ask w (trK m bad fr size) (cnt fr size) fr r w' := by
  have hM := may_any g fr 0
  have e : mayF fr 0 = 0 := by unfold mayF; rw [if_neg (by omega), if_neg (by omega), if_neg (by omega)]
  simp only [e] at hM
  clear e
  replace hM := Lib.hid hM
  refine (callsIn_wide (n := 9)).1 ?_
  refine callsIn_of_wp_marks Try.func9 rfl trivial ?_ rfl
  simp only [Try.ntmps9, List.size_toArray, List.length_cons, List.length_nil, Nat.reduceAdd, Nat.reduceSub, Array.replicate_succ, Array.replicate_zero, List.push_toArray, List.append_toArray, List.nil_append, List.cons_append]
  refine wpIn_wide.2 ?_
  go_wp2_with fail
  refine (hM.out _).mono ?_
  rintro r w1 ⟨rfl, rfl⟩
  have i0 : (size : Int) ≤ 32768 := by omega
  have i1 : ¬ (32768 : Int) < (fr : Int) := by omega
  have i2 : decide ((32768 : Int) < (fr : Int)) = false := decide_eq_false (by omega)
  go_wp2_with fail
  obtain ⟨a0, z0, o0, -⟩ := alloc_one rfl (Only.refl (fun _ => False) w) (.iface 29 (.pointer (some ⟨g, 0, none⟩))) 49
  generalize w.alloc (.cells #[.iface 29 (.pointer (some ⟨g, 0, none⟩))] 49) = w1 at *
  obtain ⟨a1, z1, o1, p1⟩ := alloc_one z0 o0 (.slice none 0 0) 35
  generalize w1.alloc (.cells #[.slice none 0 0] 35) = w2 at *
  obtain ⟨a2, z2, o2, p2⟩ := alloc_one z1 o1 (.int .u32 0) 34
  generalize w2.alloc (.cells #[.int .u32 0] 34) = w3 at *
  obtain ⟨a3, z3, o3, p3⟩ := alloc_one z2 o2 (.int .i64 0) 36
  generalize w3.alloc (.cells #[.int .i64 0] 36) = w4 at *
  obtain ⟨a4, z4, o4, p4⟩ := alloc_one z3 o3 (.slice none 0 0) 35
  generalize w4.alloc (.cells #[.slice none 0 0] 35) = w5 at *
  refine (pieces_any _ _ _).mono ?_
  rintro r w6 ⟨rfl, rfl⟩
  obtain ⟨a5, z5, o5, p5⟩ := alloc_one z4 o4 (.int .i64 fr) 3
  generalize w5.alloc (.cells #[.int .i64 fr] 3) = w6 at *
  obtain ⟨a6, z6, o6, p6⟩ := alloc_one z5 o5 (.int .i64 size) 3
  generalize w6.alloc (.cells #[.int .i64 size] 3) = W0 at *
  have hsz : Szd m := h.sz
  have hvlt : ∀ i k, i < 64 → (v i).ownBlock = some k → k < w.heap.size := fun i k hi hk => (row_lt' (h.lv i hi) k hk).2.1
  have hCM : CM B g v m bad w w.heap.size (w.heap.size + 1) (w.heap.size + 1 + 1) (w.heap.size + 1 + 1 + 1) (w.heap.size + 1 + 1 + 1 + 1) w5.heap.size [] ask W0 := by
    have p12 := p1.trans p2
    have p36 := ((p3.trans p4).trans p5).trans p6
    have p46 := (p4.trans p5).trans p6
    have p56 := p5.trans p6
    refine ⟨(a0.only p12 (fun x => x)).only p36 (fun x => x), (a1.only p2 (fun x => x)).only p36 (fun x => x), a2.only p36 (fun x => x), a3.only p46 (fun x => x), ⟨.slice none 0 0, [], a4.only p56 (fun x => x), World.ownsRow_nil _ _ _ _, fun c hc => (by cases hc), rfl⟩, ⟨va, h.only o6, ?_⟩, .of o6, ?_, ?_, ?_, hvlt, fun X hX => by have := (h.xb X hX).1.lt; omega⟩
    · exact fun e => by have := (row_lt' h.ak _ e).2.1; omega
    · rw [z4]; exact (a5.only p6 (fun x => x)).ty
    · rw [z4]; exact a6.ty
    · omega
  rw [z4] at hCM ⊢
  have bf := a5.only p6 (fun x => x)
  have bt := a6
  have hN : w.heap.size ≤ W0.heap.size := by omega
  have hqW : w.heap.size + 1 + 1 + 1 + 1 + 1 + 1 < W0.heap.size := by omega
  have hB' := hB
  clear a0 a1 a2 a3 a4 a5 a6 o0 o1 o2 o3 o4 o5 o6 p1 p2 p3 p4 p5 p6 z0 z1 z2 z3 z4 z5 z6 hM h
  generalize hqf : w.heap.size + 1 + 1 + 1 + 1 + 1 = qf at *
  generalize hq0 : w.heap.size = q0 at *
  replace hqf := Lib.hid hqf
  replace hq0 := Lib.hid hq0
  go_wp2
  refine (wpIn_wide (n := 9)).1 ?_
  refine wpIn_range_cell rfl (by omega) (gf := 16) (lb := #[.pointer (some ⟨qf, 0, none⟩), .pointer (some ⟨qf + 1, 0, none⟩)]) rfl trivial (enters_of Try.func16 (by kernel_rfl) rfl)
    (pieces_seq 8 (by omega) qf (qf + 1) (by omega) fr size (by omega) (by omega) W0 bf bt) bf.lt
    (fun h k => ⟨k.1.trans h.1, k.2.trans h.2⟩)
    (fun W l o o' hl hW ho _ => ⟨World.putObj_heap_other (by omega), World.putObj_heap_other (by omega)⟩)
    (fun _ => rfl)
    (fun pre W => CM B g v m bad w q0 (q0 + 1) (q0 + 1 + 1) (q0 + 1 + 1 + 1) (q0 + 1 + 1 + 1 + 1) qf (trL m fr size pre.length) (ask ++ trA fr size pre.length) W ∧ (trK m bad fr size).N pre.length) (fun c pre W => c = .ret ∧ pre.length ≤ cnt fr size ∧ CX B g v m bad ask w (trK m bad fr size) (q0 + 1) (q0 + 1 + 1) (q0 + 1 + 1 + 1) pre.length W)
    (fun pre A A' row hs hg hr => ⟨hs.1.grown hg hr (by have := hq0.out; omega), hs.2⟩)
    (fun c pre A A' row hs hg hr => ⟨hs.1, hs.2.1, hs.2.2.grown hg hr (by have := hq0.out; omega)⟩)
    (fun pre A u hs => ⟨hs.1.put u, hs.2⟩)
    (fun pre A hs => ⟨hs.1.only (Only.refl _ _).drew, hs.2⟩)
    ⟨by rw [show ask ++ trA fr size ([] : List Nat).length = ask from List.append_nil _]; exact hCM, fun j hj => absurd hj (Nat.not_lt_zero j)⟩
    (fun x a' W => ∃ qp, Blk W qp 55 #[.int .i64 (pc fr size x).fr, .int .i64 (pc fr size x).hi] ∧ a' = ⟨#[.iface 29 (.pointer (some ⟨g, 0, none⟩)), .int .u32 size, .int .i64 fr, .pointer (some ⟨q0, 0, none⟩), undef, undef, .pointer (some ⟨q0 + 1, 0, none⟩), .pointer (some ⟨q0 + 1 + 1, 0, none⟩), .pointer (some ⟨q0 + 1 + 1 + 1, 0, none⟩), .int .i64 0, .pointer (some ⟨q0 + 1 + 1 + 1 + 1, 0, none⟩), .int .u32 (pc fr size x).lf, .pointer (some ⟨qp, 0, none⟩), undef, undef, undef, .iface 29 (.pointer (some ⟨g, 0, none⟩)), .int .i64 fr, .int .i64 0, .int .i64 0, .bool false, undef, .int .i64 fr, .bool false, .int .i64 fr, .int .u32 size, .int .u32 size, .int .i64 size, .func (.func 16) #[] #[.pointer (some ⟨qf, 0, none⟩), .pointer (some ⟨qf + 1, 0, none⟩)], .int .u32 (pc fr size x).lf, .agg #[.int .i64 (pc fr size x).fr, .int .i64 (pc fr size x).hi], undef, undef, undef, undef, undef, undef, undef, undef, undef, undef, undef, undef, undef, undef, undef, undef, undef, undef, undef, undef, undef, undef, undef, undef, undef, undef, undef, undef, undef, undef, undef, undef], []⟩)
    (fun x a' s A A' row ⟨qp, hs, e⟩ hg hr => ⟨qp, hs.grown hg hr, e⟩) ?assign ?body ?done ?stop
  case assign =>
    intro l pre x W K hi hK
    have oa := (Only.refl (fun _ => False) W).alloc (.cells #[.int .i64 (pc fr size x).fr, .int .i64 (pc fr size x).hi] 55)
    have hx := hK _ _ (Ct.of oa).keepsFrom ⟨(Ct.of oa).keep hi.1.tf, (Ct.of oa).keep hi.1.tg⟩ ⟨hi.1.only oa, hi.2⟩ ⟨W.heap.size, Blk.new _ _ _, rfl⟩
    clear hK
    simp only [encP]
    gi_wp2
    exact hx
  case body =>
    rintro l pre x a' W hl ⟨rec, hrec⟩ ⟨hi, hnb⟩ ⟨qp, hqp, rfl⟩ ⟨rfl, hx⟩
    clear bf bt hCM hqW hl hrec
    have hBW : B ≤ W.heap.size := Nat.le_trans (by have := hq0.out; omega) hi.tn.size
    have hpc := pc_le hx
    have hct := cnt_le (fr := fr) hs
    have hAl := trA_len fr size pre.length
    have hLs : trL m fr size (pre ++ [pre.length]).length = trL m fr size pre.length ++ trOne m fr size pre.length := by rw [List.length_append]; rfl
    have hAs : ask ++ trA fr size (pre ++ [pre.length]).length = ask ++ trA fr size pre.length ++ trAsk fr size pre.length := by rw [List.length_append, List.append_assoc]; rfl
    have hLl : (trL m fr size pre.length).length ≤ 64 := Nat.le_trans (trL_len m fr size pre.length) (by omega)
    have hNs : ((pc fr size pre.length).fr ≠ 0 → isBad bad (pc fr size pre.length).lf = false) → (trK m bad fr size).N (pre ++ [pre.length]).length := fun hn j hj => by
      rw [List.length_append, List.length_singleton] at hj
      by_cases e : j < pre.length
      · exact hnb j e
      · obtain rfl : j = pre.length := by omega
        exact hn
    have hDs : (pc fr size pre.length).fr ≠ 0 → isBad bad (pc fr size pre.length).lf = true → (trK m bad fr size).D (pre ++ [pre.length]).length := fun h1 h2 => by
      rw [List.length_append, List.length_singleton]
      exact ⟨by omega, h1, h2, fun j hj => hnb j (by omega)⟩
    have hc1 := hqp.cell 0
    have hc0 := hi.b0.cell0
    simp only [List.getElem?_toArray, List.getElem?_cons_zero] at hc1
    unfold trOne at hLs
    unfold trAsk at hAs
    generalize hpg : pc fr size pre.length = pp at *
    obtain ⟨pl, pf, ph⟩ := pp
    simp only at *
    replace hpg := Lib.hid hpg
    replace hNs := Lib.hid hNs
    replace hDs := Lib.hid hDs
    by_cases hpf : pf = 0
    · have k0 : ((pf : Int) == 0) = true := by rw [hpf]; rfl
      rw [if_pos hpf] at hLs hAs
      rw [List.append_nil] at hAs
      replace hLs := Lib.hid hLs
      replace hAs := Lib.hid hAs
      have oa := (Only.refl (fun _ => False) W).alloc (.cells #[.int .u32 pl, .slice none 0 0] 47)
      obtain ⟨vo, n9, gn, cap, w9, d0, hrun, d1, d2, hC9, hCt⟩ := (hi.only oa).append (c := ⟨pl, none, []⟩) (Blk.new W 47 #[.int .u32 pl, .slice none 0 0]) rfl (by omega)
      have d3 : W.cell? ⟨q0 + 1 + 1 + 1 + 1, 0, none⟩ = some vo := (Blk.cell_only oa (a := ⟨q0 + 1 + 1 + 1 + 1, 0, none⟩) (by obtain ⟨_, _, hb, _⟩ := hi.b4; exact hb.lt) (fun x => x)).symm.trans d0
      have hCt' := (Ct.of oa).trans hCt
      have hfin : CM B g v m bad w q0 (q0 + 1) (q0 + 1 + 1) (q0 + 1 + 1 + 1) (q0 + 1 + 1 + 1 + 1) qf (trL m fr size (pre ++ [pre.length]).length) (ask ++ trA fr size (pre ++ [pre.length]).length) (w9.setCell ⟨q0 + 1 + 1 + 1 + 1, 0, none⟩ (.slice (some ⟨gn, 0, none⟩) n9 cap)) := by
        rw [hLs.out, hAs.out]; exact hC9
      have hkp : KpP qf (qf + 1) W (w9.setCell ⟨q0 + 1 + 1 + 1 + 1, 0, none⟩ (.slice (some ⟨gn, 0, none⟩) n9 cap)) := ⟨hCt'.keep hi.tf, hCt'.keep hi.tg⟩
      replace hfin := Lib.hid hfin
      replace hkp := Lib.hid hkp
      replace hCt' := Lib.hid hCt'
      replace hrun := Lib.hid hrun
      clear hi hqp hC9 hCt d0 oa
      gi_wp2_with (gi_at_builtin; refine wpListIn_append_eq1 rfl (.tmp 34) (.tmp 37) 35 rfl _ _ _ _ (by rfl) (by rfl) hrun.out ?_)
      exact ⟨hCt'.out.keepsFrom, hkp.out, hfin.out, hNs.out (fun h => absurd hpf h)⟩
    · have k0 : ((pf : Int) == 0) = false := by simp; omega
      rw [if_neg hpf] at hLs hAs
      obtain ⟨va', hSh, hne⟩ := hi.sh
      have hL := leaf_any B g v m bad va' (ask ++ trA fr size pre.length) pl W hSh hBW (by omega) (by rw [List.length_append]; omega)
      have hlb := leafB_len hsz (k := pl) (by omega)
      cases hb : isBad bad pl with
      | true =>
        unfold leafPost at hL
        rw [hb] at hL
        simp only [if_true] at hL
        replace hL := Lib.hid hL
        have hD := hDs.out hpf hb
        replace hb := Lib.hid hb
        replace hAs := Lib.hid hAs
        replace hLs := Lib.hid hLs
        gi_wp2_with fail
        refine ⟨trivial, CallsIn.inRound l (callsIn_wide.2 (hL.out.mono ?_))⟩
        rintro r W1 ⟨ql, rfl, hq, hql, ⟨va2, hS1, hlk⟩, hT1⟩
        have hC1 := hi.asked hSh hne hS1 hlk hT1
        rw [← hAs.out] at hC1
        obtain ⟨va3, hS3, hne3⟩ := hC1.sh
        have b1 := hC1.b1
        have b2 := hC1.b2
        have b3 := hC1.b3
        have c1 := b1.cell0
        have f1 := b1.frozen 0
        have c2 := b2.cell0
        have f2 := b2.frozen 0
        have c3 := b3.cell0
        have f3 := b3.frozen 0
        have e12 : q0 + 1 ≠ q0 + 1 + 1 := by omega
        have hqn : w.heap.size ≤ q0 + 1 ∧ w.heap.size ≤ q0 + 1 + 1 ∧ w.heap.size ≤ q0 + 1 + 1 + 1 := by have := hq0.out; omega
        have hX := CX.mk3 (K := trK m bad fr size) (ask := ask) (i := (pre ++ [pre.length]).length) b1 b2 b3 hS3 hne3 hi.xq hD (hC1.tn) hqn rfl
        have hCt : Ct W _ := (Ct.turn hT1).trans (ct3 b1 b2 b3 (.slice none 0 0) (.int .u32 0) (.int .i64 21))
        have hlen : (pre ++ [pre.length]).length ≤ cnt fr size := by rw [List.length_append, List.length_singleton]; omega
        replace hX := Lib.hid hX
        replace hCt := Lib.hid hCt
        clear hC1 hS3 b1 b2 b3 hS1 hlk hT1 hq hL hi hSh hqp hD
        gi_wp2
        exact ⟨hCt.out.keepsFrom, rfl, hlen, hX.out⟩
      | false =>
        unfold leafPost at hL
        rw [hb] at hL
        simp only [Bool.false_eq_true, if_false] at hL
        have hN1 := hNs.out (fun _ => hb)
        replace hL := Lib.hid hL
        replace hb := Lib.hid hb
        replace hAs := Lib.hid hAs
        by_cases hz : 0 < (m pl).length
        · have k1 : decide (0 < (m pl).length) = true := decide_eq_true hz
          rw [if_pos hz] at hLs
          replace hLs := Lib.hid hLs
          gi_wp2_with fail
          refine ⟨trivial, CallsIn.inRound l (callsIn_wide.2 (hL.out.mono ?_))⟩
          rintro r W1 ⟨ql, rfl, hq, hql, ⟨va2, hS1, hlk⟩, hT1⟩
          obtain ⟨W2, hclr, hq2, ho2⟩ := run_clear_b (fr := pf) (c := 512 - pf) 0 hq hlb (by omega)
          have h5 := hq.ty
          have hC2 := hi.asked_own hSh hne hS1 hlk hT1 (ho2.mono fun k _ e => by subst e; exact ⟨hql, h5⟩)
          have hCt2 : Ct W W2 := (Ct.turn hT1).trans (ho2.mono fun k _ e => by subst e; exact ⟨5, by decide, h5⟩)
          have oa := (Only.refl (fun _ => False) W2).alloc (.cells #[.int .u32 pl, .slice (some ⟨ql, 0, none⟩) 512 512] 47)
          have hbl : ((leafB m pl).take pf ++ List.replicate (512 - pf) 0).length = 512 := by rw [List.length_append, List.length_take, List.length_replicate, hlb]; omega
          have hqw : w.heap.size ≤ ql := Nat.le_trans hi.tn.size hql
          obtain ⟨vo, n9, gn, cap, w9, d0, hrun, d1, d2, hC9, hCt⟩ := (hC2.only oa).append (c := ⟨pl, some ql, (leafB m pl).take pf ++ List.replicate (512 - pf) 0⟩) (Blk.new W2 47 #[.int .u32 pl, .slice (some ⟨ql, 0, none⟩) 512 512]) ⟨hbl, hqw, Blk.only hq2 oa (fun x => x)⟩ (by omega)
          have d3 : W2.cell? ⟨q0 + 1 + 1 + 1 + 1, 0, none⟩ = some vo := (Blk.cell_only oa (a := ⟨q0 + 1 + 1 + 1 + 1, 0, none⟩) (by obtain ⟨_, _, hb, _⟩ := hC2.b4; exact hb.lt) (fun x => x)).symm.trans d0
          have hCt' := (hCt2.trans (Ct.of oa)).trans hCt
          have hqp1 := hqp.turn hT1 (by decide)
          have hc2 := hqp1.cell 0
          simp only [List.getElem?_toArray, List.getElem?_cons_zero] at hc2
          have hfin : CM B g v m bad w q0 (q0 + 1) (q0 + 1 + 1) (q0 + 1 + 1 + 1) (q0 + 1 + 1 + 1 + 1) qf (trL m fr size (pre ++ [pre.length]).length) (ask ++ trA fr size (pre ++ [pre.length]).length) (w9.setCell ⟨q0 + 1 + 1 + 1 + 1, 0, none⟩ (.slice (some ⟨gn, 0, none⟩) n9 cap)) := by
            rw [hLs.out, hAs.out]; exact hC9
          have hkp : KpP qf (qf + 1) W (w9.setCell ⟨q0 + 1 + 1 + 1 + 1, 0, none⟩ (.slice (some ⟨gn, 0, none⟩) n9 cap)) := ⟨hCt'.keep hi.tf, hCt'.keep hi.tg⟩
          have j1 : (0 : Int) ≤ (pf : Int) := by omega
          have j2 : (pf : Int) ≤ 512 := by omega
          have j4 : ¬ (512 : Int) = (pf : Int) := by omega
          have j5 : ¬ 512 = pf := by omega
          replace hfin := Lib.hid hfin
          replace hkp := Lib.hid hkp
          replace hCt' := Lib.hid hCt'
          replace hrun := Lib.hid hrun
          replace hclr := Lib.hid hclr
          clear hi hqp hC9 hCt d0 oa hS1 hlk hT1 hq hL hSh hqp1 hq2 ho2 h5 hC2 hCt2 hbl hqw
          gi_wp2_with (first | (gi_at_builtin; refine wpListIn_append_eq1 rfl (.tmp 54) (.tmp 58) 35 rfl _ _ _ _ (by rfl) (by rfl) hrun.out ?_) | (refine wpListIn_clear_eq1 rfl (.tmp 53) 24 rfl _ _ _ (by rfl) hclr.out ?_))
          exact ⟨hCt'.out.keepsFrom, hkp.out, hfin.out, hN1⟩
        · have k1 : decide (0 < (m pl).length) = false := decide_eq_false hz
          rw [if_neg hz, List.append_nil] at hLs
          replace hLs := Lib.hid hLs
          gi_wp2_with fail
          refine ⟨trivial, CallsIn.inRound l (callsIn_wide.2 (hL.out.mono ?_))⟩
          rintro r W1 ⟨ql, rfl, hq, hql, ⟨va2, hS1, hlk⟩, hT1⟩
          have hC1 := hi.asked hSh hne hS1 hlk hT1
          rw [← hAs.out, ← hLs.out] at hC1
          have hCt := Ct.turn hT1
          have hkp : KpP qf (qf + 1) W W1 := ⟨hCt.keep hi.tf, hCt.keep hi.tg⟩
          replace hC1 := Lib.hid hC1
          replace hCt := Lib.hid hCt
          replace hkp := Lib.hid hkp
          clear hS1 hlk hT1 hq hL hi hSh hqp
          gi_wp2
          exact ⟨hCt.out.keepsFrom, hkp.out, hC1.out, hN1⟩
  case done =>
    rintro D xs W hD hcn ⟨hi, hnb⟩ hK
    rw [hcn] at hi hnb
    obtain ⟨A, c, L, -, d0, hK9, d1, d2, d3, hok⟩ := hi.done (ask := ask) (K := trK m bad fr size) (M := cnt fr size) rfl rfl hnb hK (Nat.le_trans (by have := hq0.out; omega) hD) (by have := hq0.out; omega) fr
    have c1 := hi.b1.cell0
    have f1 := hi.b1.frozen 0
    have c2 := hi.b2.cell0
    have f2 := hi.b2.frozen 0
    have c3 := hi.b3.cell0
    have f3 := hi.b3.frozen 0
    have e1 := (put3 hi.b1 hi.b2 hi.b3 (.slice A L.length c) (.int .u32 fr) (.int .i64 0))
    have j0 : (0 : Int) ≤ (fr : Int) := by omega
    have j1 : (fr : Int) ≤ 32768 := by omega
    replace hok := Lib.hid hok
    replace hK9 := Lib.hid hK9
    replace d1 := Lib.hid d1
    replace d2 := Lib.hid d2
    replace d3 := Lib.hid d3
    clear bf bt hCM hqW hi hnb hK e1 hcn
    gi_wp2
    go_wp2
    refine ⟨by simp, .inl ⟨_, _, rfl, run_takeDeferred hK9.out, ?_⟩⟩
    exact ⟨_, res9 _ _ _ _ _ _ _ _ rfl rfl rfl d1.out d2.out d3.out, .inl ⟨A, c, L, rfl, hok.out⟩⟩
  case stop =>
    rintro D c pre W hD _ ⟨rfl, hpl, hx⟩ hK
    have hg := grownBy_putObj' W D (.deferred none)
    have hr9 : ∀ r, (some D : Option Nat) = some r → w.heap.size ≤ r ∧ ∃ o : Obj, W.heap[r]? = some o ∧ o.isCells = false := fun r e => by cases e; exact ⟨Nat.le_trans (by have := hq0.out; omega) hD, _, hK, rfl⟩
    have hx9 := hx.grown hg hr9 (Nat.le_refl _)
    replace hK := Lib.hid hK
    clear bf bt hCM hqW hx hg hr9
    gi_wp2
    refine ⟨by simp, .inl ⟨_, _, rfl, run_takeDeferred hK.out, ?_⟩⟩
    exact ⟨_, res9 _ _ _ _ _ _ _ _ rfl rfl rfl hx9.b1.cell0 hx9.b2.cell0 hx9.b3.cell0, .inr ⟨pre.length, hpl, rfl, hx9.sh, hx9.bd, hx9.tn⟩⟩
end Go.Proofs.Ytpkadhgoaaphkaa
