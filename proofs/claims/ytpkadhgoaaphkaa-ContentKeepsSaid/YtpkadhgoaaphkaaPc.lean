/-
  The pieces of a range (content.pieces, func 14, 16).
-/
import Derived.Test.YtpkadhgoaaphkaaRf
import Derived.Test.YtpkadhgoaaphkaaOwn
import Derived.Test.YtpkadhgoaaphkaaProg
import Derived.RangeFuncCalls
import Derived.Shelf.Abstract
import Derived.Shelf.RegionOpen
import Derived.WalkKit
import Derived.OwnWalkIn
import Derived.TacticsInMore
import Derived.LoopNIn
import Derived.LoopIn
import Derived.BigQuiet
import Derived.Outline
import Derived.IntWalk
import Derived.Lib.Hide
namespace Go.Proofs.Ytpkadhgoaaphkaa
open Go Go.RowKit Go.Shelf
set_option linter.unusedVariables false

/-- A piece: places of one leaf, from one up en another one. -/
structure Pc where
  lf : Nat
  fr : Nat
  hi : Nat
/-- The piece i of a range. -/
def pc (fr en i : Nat) : Pc := ⟨fr / 512 + i, max fr (512 * (fr / 512 + i)) - 512 * (fr / 512 + i), min en (512 * (fr / 512 + i) + 512) - 512 * (fr / 512 + i)⟩
/-- How many there are. -/
def cnt (fr en : Nat) : Nat := if fr < en then (en - 1) / 512 - fr / 512 + 1 else 0
/-- Where the range stands behind i of them. -/
def at_ (fr en i : Nat) : Nat := max fr (min en (512 * (fr / 512 + i)))
theorem at_zero (fr en : Nat) : at_ fr en 0 = fr := by unfold at_; omega
theorem at_lt (fr en i : Nat) : at_ fr en i < en ↔ i < cnt fr en := by
  unfold at_ cnt
  split <;> omega
theorem at_lf {fr en i : Nat} (h : i < cnt fr en) : at_ fr en i / 512 = (pc fr en i).lf := by
  unfold cnt at h; unfold at_ pc
  split at h <;> simp only <;> omega
theorem at_fr {fr en i : Nat} (h : i < cnt fr en) : at_ fr en i % 512 = (pc fr en i).fr := by
  unfold cnt at h; unfold at_ pc
  split at h <;> simp only <;> omega
theorem at_to {fr en i : Nat} (h : i < cnt fr en) : min 512 (at_ fr en i % 512 + en - at_ fr en i) = (pc fr en i).hi := by
  unfold cnt at h; unfold at_ pc
  split at h <;> simp only <;> omega
theorem at_succ {fr en i : Nat} (h : i < cnt fr en) : at_ fr en i + ((pc fr en i).hi - (pc fr en i).fr) = at_ fr en (i + 1) := by
  unfold cnt at h; unfold at_ pc
  split at h <;> simp only <;> omega
theorem pc_le {fr en i : Nat} (h : i < cnt fr en) : (pc fr en i).fr < (pc fr en i).hi ∧ (pc fr en i).hi ≤ 512 ∧ 512 * (pc fr en i).lf + (pc fr en i).hi ≤ en := by
  unfold cnt at h; unfold pc
  split at h <;> simp only <;> omega
/-- What yield is handed. -/
def encP (fr en : Nat) (i : Nat) : Array Value := #[.int .u32 (pc fr en i).lf, .agg #[.int .i64 (pc fr en i).fr, .int .i64 (pc fr en i).hi]]
/-- What a round keeps: the two cells of the range. -/
def KpP (Bf Bt : Nat) (W W' : World) : Prop := W'.heap[Bf]? = W.heap[Bf]? ∧ W'.heap[Bt]? = W.heap[Bt]?

theorem drewN_keep {I : List Nat → World → Prop} (h : ∀ pre A, I pre A → I pre A.drew) {pre : List Nat} {W : World} (hi : I pre W) : ∀ n, I pre (W.drewN n)
  | 0 => hi
  | n + 1 => h pre (W.drewN n) (drewN_keep h hi n)
attribute [local go_sem] Oper.semAt_some
set_option maxRecDepth 100000 in
set_option maxHeartbeats 1000000 in
theorem pieces1_in (n : Nat) (hn : 1 ≤ n) (l Bf Bt : Nat) (hft : Bf ≠ Bt) (fr en : Nat) (ht : en ≤ 100000) (hfr : fr ≤ 9000000000000000000) (J Jx : List Nat → World → Prop)
    (hJs : ∀ pre A v, J pre A → J pre (A.setCell ⟨Bf, 0, none⟩ v)) (hJd : ∀ pre A, J pre A → J pre A.drew)
    (hY : ∀ pre x W1, J pre W1 → (x = pre.length ∧ x < cnt fr en) → YieldAt Fence.wide (n - 1) Try.prog l (encP fr en x) W1 fun e W' =>
      (e = .returned (.bool true) ∧ J (pre ++ [x]) W' ∧ KpP Bf Bt W1 W') ∨ (e = .returned (.bool false) ∧ Jx (pre ++ [x]) W'))
    (W : World) (hf : Blk W Bf 3 #[.int .i64 fr]) (hb : Blk W Bt 3 #[.int .i64 en]) (h0 : J [] W) :
    CallsIn Fence.wide n Try.prog 16 #[.func (.yield l) #[] #[], .pointer (some ⟨Bf, 0, none⟩), .pointer (some ⟨Bt, 0, none⟩)] W fun e W' => (∃ v, e = .returned v) ∧
      ((∃ ys : List Nat, ys.length = cnt fr en ∧ J ys W') ∨ (∃ pre, True ∧ Jx pre W')) := by
  refine callsIn_of_wp Try.func16 rfl trivial ?_ rfl
  simp only [Try.ntmps16, List.size_toArray, List.length_cons, List.length_nil, Nat.reduceAdd, Nat.reduceSub, Array.replicate_succ, Array.replicate_zero, List.push_toArray, List.append_toArray, List.nil_append, List.cons_append]
  gi_wp2
  gi_loopw [4] (fun _ wr => ∃ pre : List Nat, pre.length ≤ cnt fr en ∧ Blk wr Bf 3 #[.int .i64 (at_ fr en pre.length)] ∧ Blk wr Bt 3 #[.int .i64 en] ∧ J pre wr)
    (fun _ wr => en - (intOf ((wr.cell? ⟨Bf, 0, none⟩).getD undef)).toNat)
  case atStart =>
    exact ⟨[], Nat.zero_le _, by rw [show ([] : List Nat).length = 0 from rfl, at_zero]; exact hf, hb, h0⟩
  case round =>
    obtain ⟨pre, hlen, hc, hd, hj⟩ := hrel
    have c0 := hc.cell 0
    have d0 := hd.cell 0
    have cf := hc.frozen 0
    simp only [List.getElem?_toArray, List.getElem?_cons_zero] at c0 d0
    by_cases hlt : pre.length < cnt fr en
    · have k0 := (at_lt fr en pre.length).2 hlt
      have k1 := at_lf hlt
      have k2 := at_fr hlt
      have k3 := at_to hlt
      have k4 := at_succ hlt
      have k5 := pc_le hlt
      have hY' := fun nq => hY pre pre.length (wr.drewN nq) (drewN_keep hJd hj nq) ⟨rfl, hlt⟩
      simp only [encP] at hY'
      generalize at_ fr en pre.length = a at *
      generalize hpl : pre.length = q at *
      generalize hpl2 : at_ fr en (q + 1) = a' at *
      generalize pc fr en q = p at *
      obtain ⟨pl, pf, pt⟩ := p
      simp only at *
      have j0 : ((a : Int) < (en : Int)) := by omega
      gi_wp2
      refine wpIn_wide.2 ?_
      go_quiet (fail)
      have e1 : ((a : Int) / 512) = (pl : Int) := by omega
      have e2 : ((a : Int) % 512) = (pf : Int) := by omega
      have e4 : (pf : Int) < (pt : Int) := by omega
      have e5 : (pt : Int) ≤ 512 := by omega
      have e6 : (pl : Int) ≤ 512 := by omega
      rw [e1, e2]
      clear e1 e2
      have k7 : 512 ≤ (pf : Int) + (en : Int) - (a : Int) ∧ pt = 512 ∨ ¬ 512 ≤ (pf : Int) + (en : Int) - (a : Int) ∧ (pf : Int) + (en : Int) - (a : Int) = (pt : Int) := by omega
      clear k1 k2 k3 k5
      obtain ⟨fn, tmps, assign, body, hy, hR⟩ := hY' nq
      clear hY'
      have c0' : (wr.drewN nq).cell? ⟨Bf, 0, none⟩ = some (.int .i64 a) := by simpa using c0
      rcases k7 with ⟨k7, rfl⟩ | ⟨k7, e3⟩
      · rw [show ((512 : Nat) : Int) = 512 from rfl] at *
        gi_wp2
        refine hR.mono ?_
        rintro e W3 (⟨rfl, hJ3, hk3, hk4⟩ | ⟨rfl, hJx3⟩)
        · have hc3 : Blk W3 Bf 3 #[.int .i64 a] := hk3.trans hc
          have hd3 : Blk W3 Bt 3 #[.int .i64 en] := hk4.trans hd
          have c3 := hc3.cell 0
          have f3 := hc3.frozen 0
          simp only [List.getElem?_toArray, List.getElem?_cons_zero] at c3
          have hs3 := hc3.set_ 0 (.int .i64 a')
          simp only [List.setIfInBounds_toArray, List.set_cons_zero] at hs3
          have ht3 := hd3.far (p := ⟨Bf, 0, none⟩) (Ne.symm hft) (.int .i64 a')
          have hj3 := hJs _ _ (.int .i64 a') hJ3
          have k8 : (a : Int) + (512 - (pf : Int)) = (a' : Int) := by omega
          have k9 : (W3.setCell ⟨Bf, 0, none⟩ (.int .i64 a')).cell? ⟨Bf, 0, none⟩ = some (.int .i64 a') := by rw [hs3.cell]; rfl
          have k10 : a < a' := by omega
          clear k4 hc3 hd3 hJ3 hJs hk3 hk4 hc hd hf hb h0
          gi_wp2
          go_roundw
          case rel => exact ⟨pre ++ [q], by rw [List.length_append, List.length_singleton, hpl]; omega, by rw [List.length_append, List.length_singleton, hpl, hpl2]; exact hs3, ht3, hj3⟩
          case measure => rw [k9, c0]; simp only [intOf, Option.getD_some, Int.toNat_natCast]; omega
        · gi_wp2
          refine bodyPost_ret (results_none rfl _ _ _) rfl ?_
          exact ⟨⟨_, rfl⟩, .inr ⟨_, trivial, hJx3⟩⟩
      · gi_wp2
        refine hR.mono ?_
        rintro e W3 (⟨rfl, hJ3, hk3, hk4⟩ | ⟨rfl, hJx3⟩)
        · have hc3 : Blk W3 Bf 3 #[.int .i64 a] := hk3.trans hc
          have hd3 : Blk W3 Bt 3 #[.int .i64 en] := hk4.trans hd
          have c3 := hc3.cell 0
          have f3 := hc3.frozen 0
          simp only [List.getElem?_toArray, List.getElem?_cons_zero] at c3
          have hs3 := hc3.set_ 0 (.int .i64 a')
          simp only [List.setIfInBounds_toArray, List.set_cons_zero] at hs3
          have ht3 := hd3.far (p := ⟨Bf, 0, none⟩) (Ne.symm hft) (.int .i64 a')
          have hj3 := hJs _ _ (.int .i64 a') hJ3
          have k8 : (a : Int) + ((pt : Int) - (pf : Int)) = (a' : Int) := by omega
          have k9 : (W3.setCell ⟨Bf, 0, none⟩ (.int .i64 a')).cell? ⟨Bf, 0, none⟩ = some (.int .i64 a') := by rw [hs3.cell]; rfl
          have k10 : a < a' := by omega
          clear k4 hc3 hd3 hJ3 hJs hk3 hk4 hc hd hf hb h0
          gi_wp2
          go_roundw
          case rel => exact ⟨pre ++ [q], by rw [List.length_append, List.length_singleton, hpl]; omega, by rw [List.length_append, List.length_singleton, hpl, hpl2]; exact hs3, ht3, hj3⟩
          case measure => rw [k9, c0]; simp only [intOf, Option.getD_some, Int.toNat_natCast]; omega
        · gi_wp2
          refine bodyPost_ret (results_none rfl _ _ _) rfl ?_
          exact ⟨⟨_, rfl⟩, .inr ⟨_, trivial, hJx3⟩⟩
    · have k0 : ¬ (at_ fr en pre.length) < en := fun h => hlt ((at_lt fr en pre.length).1 h)
      have j0 : ¬ ((at_ fr en pre.length : Nat) : Int) < (en : Int) := by omega
      gi_wp2
      go_end0
      exact ⟨⟨_, rfl⟩, .inl ⟨pre, by omega, hj⟩⟩

set_option maxHeartbeats 1000000 in
/-- content.pieces hands back the iterator, with two cells of its own. -/
theorem pieces_any (fr en : Int) (w : World) :
    Calls Try.prog 14 #[.int .i64 fr, .int .i64 en] w fun e w' => e = .returned (.func (.func 16) #[] #[.pointer (some ⟨w.heap.size, 0, none⟩), .pointer (some ⟨w.heap.size + 1, 0, none⟩)]) ∧ w' = (w.alloc (.cells #[.int .i64 fr] 3)).alloc (.cells #[.int .i64 en] 3) := by
  go_enter Try.func14, Try.ntmps14
  go_wp2
  go_ret
  exact ⟨rfl, rfl⟩
/-- What the iterator's call does, whatever the rounds do. -/
theorem pieces_seq (n : Nat) (hn : 1 ≤ n) (Bf Bt : Nat) (hft : Bf ≠ Bt) (fr en : Nat) (ht : en ≤ 100000) (hfr : fr ≤ 9000000000000000000) (w : World) (hf : Blk w Bf 3 #[.int .i64 fr]) (hb : Blk w Bt 3 #[.int .i64 en]) :
    SeqCell Fence.wide n Try.prog 16 #[.pointer (some ⟨Bf, 0, none⟩), .pointer (some ⟨Bt, 0, none⟩)] (encP fr en) (KpP Bf Bt) (fun xs => xs.length = cnt fr en) (fun _ => True) (fun pre x => x = pre.length ∧ x < cnt fr en) Bf w :=
  fun l J Jx W hW hJs hJd hY h0 =>
    pieces1_in n hn l Bf Bt hft fr en ht hfr J Jx hJs hJd hY W ((hW.block Bf hf.lt).trans hf) ((hW.block Bt hb.lt).trans hb) h0
end Go.Proofs.Ytpkadhgoaaphkaa
