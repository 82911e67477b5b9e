/-
  content.may (func 13), content.Read (func 11).
-/
import Derived.Test.YtpkadhgoaaphkaaLp
import Derived.Deep.CutBlock
import Derived.Deep.DeepCutAuto
import Derived.RangeFuncBox
namespace Go.Proofs.Ytpkadhgoaaphkaa
open Go Go.RowKit Go.Shelf
set_option linter.unusedVariables false
def mayF (at_ n : Int) : Int := if at_ < 0 then 26 else if n < 0 then 26 else if 2048 < n then 26 else 0
set_option maxRecDepth 20000 in
set_option maxHeartbeats 8000000 in
theorem may_any (g : Nat) (at_ n : Int) (w : World) : Calls Try.prog 13 #[.iface 29 (.pointer (some ⟨g, 0, none⟩)), .int .i64 at_, .int .i64 n] w fun r w' => r = .returned (.int .i64 (mayF at_ n)) ∧ w = w' := by
  have hni : ∀ w, (binOp .eql 49 (.iface 29 (.pointer (some ⟨g, 0, none⟩))) .nilIface).run Try.prog w = .ok (.bool false) w := fun w => rfl
  by_cases h1 : at_ < 0
  · have e : mayF at_ n = 26 := by unfold mayF; rw [if_pos h1]
    rw [e]
    clear e
    go_enter Try.func13, Try.ntmps13
    go_wp2
    go_ret
    exact ⟨rfl, rfl⟩
  by_cases h2 : n < 0
  · have e : mayF at_ n = 26 := by unfold mayF; rw [if_neg h1, if_pos h2]
    rw [e]
    clear e
    go_enter Try.func13, Try.ntmps13
    go_wp2
    go_ret
    exact ⟨rfl, rfl⟩
  by_cases h3 : 2048 < n
  · have e : mayF at_ n = 26 := by unfold mayF; rw [if_neg h1, if_neg h2, if_pos h3]
    rw [e]
    clear e
    go_enter Try.func13, Try.ntmps13
    go_wp2
    go_ret
    exact ⟨rfl, rfl⟩
  · have e : mayF at_ n = 0 := by unfold mayF; rw [if_neg h1, if_neg h2, if_neg h3]
    rw [e]
    clear e
    go_enter Try.func13, Try.ntmps13
    go_wp2
    go_ret
    exact ⟨rfl, rfl⟩
set_option maxRecDepth 20000 in
set_option maxHeartbeats 8000000 in
theorem may_nil (at_ n : Int) (w : World) : Calls Try.prog 13 #[.nilIface, .int .i64 at_, .int .i64 n] w fun r w' => r = .returned (.int .i64 2) ∧ w = w' := by
  have hni : ∀ w, (binOp .eql 49 .nilIface .nilIface).run Try.prog w = .ok (.bool true) w := fun w => rfl
  go_enter Try.func13, Try.ntmps13
  go_wp2
  go_ret
  exact ⟨rfl, rfl⟩
/-! What a round of a range turns: blocks of other types than the range's own two cells. -/
def Ct (W W' : World) : Prop := Only (fun k => ∃ t, t ≠ 3 ∧ tyAt W k t) W W'
section
variable {W W' W'' : World} {B : Nat}
theorem Ct.refl (W : World) : Ct W W := Only.refl _ _
theorem Ct.trans (h : Ct W W') (k : Ct W' W'') : Ct W W'' := Only.trans_of h k fun i hi ht => by
  apply Classical.byContradiction
  intro hn
  obtain ⟨t, h3, cs, fr, e⟩ := ht
  exact hn ⟨t, h3, cs, fr, (Only.block h i hi hn).symm.trans e⟩
theorem Ct.of (h : Only (fun _ => False) W W') : Ct W W' := Only.mono h fun _ _ x => x.elim
theorem Ct.turn (h : Turn B W W') : Ct W W' := Only.mono h fun k _ ht => by
  rcases ht.2 with ht | ht
  · exact ⟨_, by decide, ht⟩
  · exact ⟨_, by decide, ht⟩
theorem Ct.put {q i : Nat} {t : TypeId} (hq : tyAt W q t) (ht : t ≠ 3) (u : Value) : Ct W (W.setCell ⟨q, i, none⟩ u) :=
  (Only.refl _ W).setCell (p := ⟨q, i, none⟩) (.inl ⟨t, ht, hq⟩) u
theorem Ct.row {e : TypeId} {base size n : Nat} {v : Value} {xs : List Value} (hg : W.grownBy W' v.ownBlock) (h : W.ownsRow base e size v n xs) (he : e ≠ 3) : Ct W W' :=
  (grown_only hg).mono fun k _ hk => ⟨e, he, (row_lt' h k hk).2.2⟩
theorem Ct.keep {q : Nat} (h : Ct W W') (hq : tyAt W q 3) : W'.heap[q]? = W.heap[q]? := by
  have hq' := hq
  obtain ⟨cs, fr, e⟩ := hq'
  exact Only.block h q (Array.getElem?_eq_some_iff.1 e).1 fun ⟨t, h3, ht⟩ => h3 (ht.one hq)
theorem Ct.keepsFrom {N : Nat} (h : Ct W W') : KeepsFrom N W W' := keepsFrom_of h fun k _ ⟨t, _, ht⟩ => ⟨t, ht⟩
theorem Ct.ty {q : Nat} (h : Ct W W') (hq : tyAt W q 3) : tyAt W' q 3 := by
  obtain ⟨cs, fr, e⟩ := hq
  exact ⟨cs, fr, (h.keep ⟨cs, fr, e⟩).trans e⟩
end
/-- Bytes are appended to a row of one's own. -/
theorem app_bytes {W : World} {base : Nat} {vo : Value} {L l : List UInt8} {A : Option Addr} {n c : Nat} (h : W.ownsRow base 5 1 vo L.length (Lib.byteCells L)) (hb : base ≤ W.heap.size) (hr : Reads W W.heap.size A n (Lib.byteCells l)) (hn : 0 < n) (hl : L.length + n ≤ 1000000000) :
    ∃ g cap w', (Builtin.append_ #[24, 24] 24 #[vo, .slice A n c]).run Try.prog W = .ok (.slice (some ⟨g, 0, none⟩) (L.length + n) cap) w' ∧ w'.ownsRow base 5 1 (.slice (some ⟨g, 0, none⟩) (L.length + n) cap) (L.length + n) (Lib.byteCells (L ++ l)) ∧ W.grownBy w' vo.ownBlock := by
  obtain ⟨i, hi, hi0, hi1, hi2⟩ := info_of info5k
  obtain ⟨b, o, rfl, _, hc⟩ := hr.2 hn
  obtain ⟨v', w', hrun, hown, hg, _⟩ := run_append_own (P := Try.prog) W base 24 24 5 i (.int .u8 0) 1 1 und24 hi hi0 hi1 hi2 rfl (by omega) vo L.length (Lib.byteCells L) h ⟨b, o, none⟩ n c (Lib.byteCells l) (by have := hr.1; omega)
    (fun j u hu => by rw [add_lit]; exact hc j u hu) (bytes_one _) (by unfold maxLen; omega) (by omega) hb
  obtain ⟨k, hk⟩ : ∃ k, L.length + n = k + 1 := ⟨L.length + n - 1, by omega⟩
  have hown' := hown
  rw [hk] at hown'
  obtain ⟨q, cap, rfl⟩ := ownsRow_succ hown'
  rw [← hk] at hrun hown
  refine ⟨q, cap, w', hrun, ?_, hg⟩
  unfold Lib.byteCells at hown ⊢
  rw [List.map_append]
  exact hown

/-- What lies behind i pieces of a read. -/
structure RI (B g : Nat) (v : Nat → Value) (m : Nat → List UInt8) (bad : Nat) (ask : List Nat) (fr en : Nat) (w : World) (q0 q1 q2 q3 qf : Nat) (i : Nat) (W : World) : Prop where
  b0 : Blk W q0 49 #[.iface 29 (.pointer (some ⟨g, 0, none⟩))]
  b1 : Blk W q1 24 #[.slice none 0 0]
  b2 : Blk W q2 36 #[.int .i64 0]
  b3 : ∃ vo, Blk W q3 24 #[vo] ∧ W.ownsRow w.heap.size 5 1 vo (at_ fr en i - fr) (Lib.byteCells (readB m fr (at_ fr en i - fr)))
  sh : ∃ va', Sh B g v m bad va' (ask ++ askd fr i) W
  nb : ∀ j, j < i → isBad bad (fr / 512 + j) = false
  tn : Turn B w W
  tf : tyAt W qf 3
  tg : tyAt W (qf + 1) 3
  nq : w.heap.size ≤ qf
/-- A read that has met a leaf that can't be read. -/
structure RX (B g : Nat) (v : Nat → Value) (m : Nat → List UInt8) (bad : Nat) (ask : List Nat) (fr : Nat) (w : World) (q1 q2 : Nat) (i : Nat) (W : World) : Prop where
  b1 : Blk W q1 24 #[.slice none 0 0]
  b2 : Blk W q2 36 #[.int .i64 21]
  sh : ∃ va', Sh B g v m bad va' (ask ++ askd fr i) W
  nb : ∀ j, j + 1 < i → isBad bad (fr / 512 + j) = false
  bd : 0 < i ∧ isBad bad (fr / 512 + (i - 1)) = true
  tn : Turn B w W
section
variable {B g : Nat} {v : Nat → Value} {m : Nat → List UInt8} {bad : Nat} {ask : List Nat} {fr en : Nat} {w : World} {q0 q1 q2 q3 qf i N : Nat} {W W' : World} {row : Option Nat}
theorem RI.grown (h : RI B g v m bad ask fr en w q0 q1 q2 q3 qf i W) (hg : W.grownBy W' row) (hr : ∀ r, row = some r → N ≤ r ∧ ∃ o : Obj, W.heap[r]? = some o ∧ o.isCells = false) (hN : w.heap.size ≤ N) : RI B g v m bad ask fr en w q0 q1 q2 q3 qf i W' := by
  obtain ⟨vo, h3, h4⟩ := h.b3
  obtain ⟨va', hs⟩ := h.sh
  obtain ⟨c1, f1, e1⟩ := h.tf
  obtain ⟨c2, f2, e2⟩ := h.tg
  have hk : ∀ q t, tyAt W q t → tyAt W' q t := fun q t ⟨cs, fr', e⟩ => ⟨cs, fr', ((grown_only hg).block q (Array.getElem?_eq_some_iff.1 e).1 (fun x => by obtain ⟨_, o, a1, a2⟩ := hr q x; exact noncells a1 a2 ⟨cs, fr', e⟩)).trans e⟩
  exact ⟨h.b0.grown hg hr, h.b1.grown hg hr, h.b2.grown hg hr, ⟨vo, h3.grown hg hr, row_grown h4 hg hr⟩, ⟨va', hs.grown hg hr⟩, h.nb, h.tn.grown hg hr hN, hk _ _ h.tf, hk _ _ h.tg, h.nq⟩
theorem RI.put (h : RI B g v m bad ask fr en w q0 q1 q2 q3 qf i W) (u : Value) : RI B g v m bad ask fr en w q0 q1 q2 q3 qf i (W.setCell ⟨qf, 0, none⟩ u) := by
  obtain ⟨vo, h3, h4⟩ := h.b3
  obtain ⟨va', hs⟩ := h.sh
  exact ⟨h.b0.put h.tf (by decide) u, h.b1.put h.tf (by decide) u, h.b2.put h.tf (by decide) u, ⟨vo, h3.put h.tf (by decide) u, row_put h4 h.tf (by decide) u⟩, ⟨va', hs.put h.tf (by decide) u⟩, h.nb, h.tn.setCell (.inr h.nq) u, h.tf.setCell _ _, h.tg.setCell _ _, h.nq⟩
theorem RI.only (h : RI B g v m bad ask fr en w q0 q1 q2 q3 qf i W) (ho : Only (fun _ => False) W W') : RI B g v m bad ask fr en w q0 q1 q2 q3 qf i W' := by
  obtain ⟨vo, h3, h4⟩ := h.b3
  obtain ⟨va', hs⟩ := h.sh
  exact ⟨h.b0.only ho (fun x => x), h.b1.only ho (fun x => x), h.b2.only ho (fun x => x), ⟨vo, h3.only ho (fun x => x), row_keep h4 ho (fun _ _ x => x)⟩, ⟨va', hs.only ho⟩, h.nb, h.tn.only ho, (Ct.of ho).ty h.tf, (Ct.of ho).ty h.tg, h.nq⟩
theorem RX.grown (h : RX B g v m bad ask fr w q1 q2 i W) (hg : W.grownBy W' row) (hr : ∀ r, row = some r → N ≤ r ∧ ∃ o : Obj, W.heap[r]? = some o ∧ o.isCells = false) (hN : w.heap.size ≤ N) : RX B g v m bad ask fr w q1 q2 i W' := by
  obtain ⟨va', hs⟩ := h.sh
  exact ⟨h.b1.grown hg hr, h.b2.grown hg hr, ⟨va', hs.grown hg hr⟩, h.nb, h.bd, h.tn.grown hg hr hN⟩
end
attribute [local go_sem] Oper.semAt_some
theorem at_end {fr en : Nat} (h : fr ≤ en) : at_ fr en (cnt fr en) = en := by
  unfold at_ cnt
  split <;> omega
theorem row_form1 {W : World} {base : Nat} {e : TypeId} {vo : Value} {n : Nat} {xs : List Value} (h : W.ownsRow base e 1 vo n xs) : ∃ A c, vo = .slice A n c ∧ Reads W W.heap.size A n xs ∧ n ≤ c := by
  have h1 := h
  rcases h1.2 with ⟨e1, e2⟩ | ⟨q, cap, cur, e1, hb, hh, hc, rest⟩
  · subst e2
    refine ⟨none, 0, e1, ⟨by simpa using h.1, fun x => by omega⟩, Nat.le_refl _⟩
  · rw [e1] at h
    exact ⟨_, cap, e1, Reads.of_own h, hc⟩
theorem Blk.cell0 {W : World} {q : Nat} {t : TypeId} {u : Value} (h : Blk W q t #[u]) : W.cell? ⟨q, 0, none⟩ = some u := by
  have := h.cell 0
  simpa using this
theorem res11 (tm : Array Value) (W : World) (q1 q2 : Nat) (v1 v2 : Value) (h8 : tm.getD 8 undef = .pointer (some ⟨q1, 0, none⟩)) (h9 : tm.getD 9 undef = .pointer (some ⟨q2, 0, none⟩)) (c1 : W.cell? ⟨q1, 0, none⟩ = some v1) (c2 : W.cell? ⟨q2, 0, none⟩ = some v2) :
    (results Try.f11 tm).run Try.prog W = .ok (.tuple #[v1, v2]) W := by
  unfold results
  rw [Try.results11]
  simp only [List.mapM_toArray, List.mapM_cons, List.mapM_nil, h8, h9]
  simp [asAddr, go_sem, c1, c2]
/-- A read has told the bytes from fr up to en. -/
structure ReadOk (B g : Nat) (v : Nat → Value) (m : Nat → List UInt8) (bad : Nat) (ask : List Nat) (fr en : Nat) (w : World) (A : Option Addr) (c : Nat) (w' : World) : Prop where
  rd : Reads w' w'.heap.size A (en - fr) (Lib.byteCells (readB m fr (en - fr)))
  cap : en - fr ≤ c
  sh : ∃ va', Sh B g v m bad va' (ask ++ askd fr (cnt fr en)) w'
  nb : ∀ j, j < cnt fr en → isBad bad (fr / 512 + j) = false
  tn : Turn B w w'
  own : w'.ownsRow w.heap.size 5 1 (.slice A (en - fr) c) (en - fr) (Lib.byteCells (readB m fr (en - fr)))
def ReadPost (B g : Nat) (v : Nat → Value) (m : Nat → List UInt8) (bad : Nat) (ask : List Nat) (fr en : Nat) (w : World) (r : Ending) (w' : World) : Prop :=
  (∃ A c, r = .returned (.tuple #[.slice A (en - fr) c, .int .i64 0]) ∧ ReadOk B g v m bad ask fr en w A c w') ∨
  (∃ i, i ≤ cnt fr en ∧ r = .returned (.tuple #[.slice none 0 0, .int .i64 21]) ∧ (∃ va', Sh B g v m bad va' (ask ++ askd fr i) w') ∧ (∀ j, j + 1 < i → isBad bad (fr / 512 + j) = false) ∧ (0 < i ∧ isBad bad (fr / 512 + (i - 1)) = true) ∧ Turn B w w')
set_option maxRecDepth 20000 in
set_option maxHeartbeats 8000000 in
theorem read_main (B g : Nat) (v : Nat → Value) (m : Nat → List UInt8) (bad : Nat) (va : Value) (ask : List Nat) (size fr n : Nat) (w : World) (h : Sh B g v m bad va ask w) (hB : B ≤ w.heap.size) (hs : size ≤ 32768) (h1 : fr < size) (h2 : n ≤ 2048) (hl : ask.length ≤ 100000) :
    Calls Try.prog 11 #[.iface 29 (.pointer (some ⟨g, 0, none⟩)), .int .u32 size, .int .i64 fr, .int .i64 n] w fun r w' => ReadPost B g v m bad ask fr (min size (fr + n)) w r w' := by
  have hM := may_any g fr n
  have e : mayF fr n = 0 := by unfold mayF; rw [if_neg (by omega), if_neg (by omega), if_neg (by omega)]
  simp only [e] at hM
  clear e
  replace hM := Lib.hid hM
  refine (callsIn_wide (n := 9)).1 ?_
  refine callsIn_of_wp_marks Try.func11 rfl trivial ?_ rfl
  simp only [Try.ntmps11, List.size_toArray, List.length_cons, List.length_nil, Nat.reduceAdd, Nat.reduceSub, Array.replicate_succ, Array.replicate_zero, List.push_toArray, List.append_toArray, List.nil_append, List.cons_append]
  refine wpIn_wide.2 ?_
  go_wp2_with fail
  refine (hM.out _).mono ?_
  rintro r w1 ⟨rfl, rfl⟩
  have i0 : (size : Int) ≤ 32768 := by omega
  have i1 : ¬ (size : Int) ≤ (fr : Int) := by omega
  go_upto_region 8 with fail
  have a0 := Blk.new w 49 #[.iface 29 (.pointer (some ⟨g, 0, none⟩))]
  have z1 : (w.alloc (.cells #[.iface 29 (.pointer (some ⟨g, 0, none⟩))] 49)).heap.size = w.heap.size + 1 := by simp
  have o1 := (Only.refl (fun _ => False) w).alloc (.cells #[.iface 29 (.pointer (some ⟨g, 0, none⟩))] 49)
  generalize w.alloc (.cells #[.iface 29 (.pointer (some ⟨g, 0, none⟩))] 49) = w1 at *
  have a1 := Blk.new w1 24 #[.slice none 0 0]
  have o2 := (Only.refl (fun _ => False) w1).alloc (.cells #[.slice none 0 0] 24)
  have z2 : (w1.alloc (.cells #[.slice none 0 0] 24)).heap.size = w.heap.size + 1 + 1 := by simp [z1]
  rw [z1] at a1
  generalize w1.alloc (.cells #[.slice none 0 0] 24) = w2 at *
  have a2 := Blk.new w2 36 #[.int .i64 0]
  have o3 := (Only.refl (fun _ => False) w2).alloc (.cells #[.int .i64 0] 36)
  have z3 : (w2.alloc (.cells #[.int .i64 0] 36)).heap.size = w.heap.size + 1 + 1 + 1 := by simp [z2]
  rw [z2] at a2
  generalize w2.alloc (.cells #[.int .i64 0] 36) = w3 at *
  have a3 := Blk.new w3 24 #[.slice none 0 0]
  have o4 := (Only.refl (fun _ => False) w3).alloc (.cells #[.slice none 0 0] 24)
  have z4 : (w3.alloc (.cells #[.slice none 0 0] 24)).heap.size = w.heap.size + 1 + 1 + 1 + 1 := by simp [z3]
  rw [z3] at a3
  generalize w3.alloc (.cells #[.slice none 0 0] 24) = w4 at *
  have a2' := a2.only o4 (fun x => x)
  have a1' := (a1.only o3 (fun x => x)).only o4 (fun x => x)
  have a0' := ((a0.only o2 (fun x => x)).only o3 (fun x => x)).only o4 (fun x => x)
  have o5 := ((o1.trans o2).trans o3).trans o4
  clear a0 a1 a2 o1 o2 o3 o4 z1 z2 z3
  generalize hto : min size (fr + n) = en at *
  go_cut [37] from 28 to 37 (fun s37 W => s37 = .func (.func 16) #[] #[.pointer (some ⟨w4.heap.size, 0, none⟩), .pointer (some ⟨w4.heap.size + 1, 0, none⟩)] ∧ W = (w4.alloc (.cells #[.int .i64 fr] 3)).alloc (.cells #[.int .i64 en] 3))
  case first =>
    replace z4 := Lib.hid z4
    by_cases hc : size ≤ fr + n
    · obtain rfl : en = size := by omega
      have j0 : (en : Int) ≤ (fr : Int) + (n : Int) := by omega
      replace hto := Lib.hid hto
      go_wp2_with fail
      refine (pieces_any _ _ _).mono ?_
      rintro r w5 ⟨rfl, rfl⟩
      go_wp2_with fail
      go_meet
      exact ⟨rfl, rfl⟩
    · obtain rfl : en = fr + n := by omega
      have j0 : (fr : Int) + (n : Int) < (size : Int) := by omega
      replace hto := Lib.hid hto
      go_wp2_with fail
      refine (pieces_any _ _ _).mono ?_
      rintro r w5 ⟨rfl, rfl⟩
      go_wp2_with fail
      go_meet
      exact ⟨rfl, rfl⟩
  case rest =>
    obtain ⟨rfl, rfl⟩ := hcut
    have bf := (Blk.new w4 3 #[.int .i64 fr]).alloc (.cells #[.int .i64 en] 3)
    have bt := Blk.new (w4.alloc (.cells #[.int .i64 fr] 3)) 3 #[.int .i64 en]
    have z5 : (w4.alloc (.cells #[.int .i64 fr] 3)).heap.size = w4.heap.size + 1 := by simp
    rw [z5] at bt
    have z6 : ((w4.alloc (.cells #[.int .i64 fr] 3)).alloc (.cells #[.int .i64 en] 3)).heap.size = w4.heap.size + 1 + 1 := by simp
    have o6 := ((Only.refl (fun _ => False) w4).alloc (.cells #[.int .i64 fr] 3)).alloc (.cells #[.int .i64 en] 3)
    generalize (w4.alloc (.cells #[.int .i64 fr] 3)).alloc (.cells #[.int .i64 en] 3) = W0 at *
    have o7 := o5.trans o6
    have hRI : RI B g v m bad ask fr en w w.heap.size (w.heap.size + 1) (w.heap.size + 1 + 1) (w.heap.size + 1 + 1 + 1) w4.heap.size 0 W0 :=
      ⟨a0'.only o6 (fun x => x), a1'.only o6 (fun x => x), a2'.only o6 (fun x => x), ⟨.slice none 0 0, a3.only o6 (fun x => x), by rw [at_zero, Nat.sub_self]; exact World.ownsRow_nil _ _ _ _⟩, ⟨va, by have := h.only o7; rwa [show ask ++ askd fr 0 = ask from List.append_nil _]⟩, fun j hj => absurd hj (by omega), .of o7, bf.ty, bt.ty, by omega⟩
    clear a0' a1' a2' a3 o5 o6 o7 z5
    generalize hqf : w4.heap.size = qf at *
    replace z6 := Lib.hid z6
    replace z4 := Lib.hid z4
    replace hto := Lib.hid hto
    generalize hq0 : w.heap.size = q0 at *
    replace hq0 := Lib.hid hq0
    go_wp2
    refine (wpIn_wide (n := 9)).1 ?_
    have hsz : Szd m := h.sz
    have hvlt : ∀ i k, i < 64 → (v i).ownBlock = some k → k < w.heap.size := fun i k hi hk => (row_lt' (h.lv i hi) k hk).2.1
    have hen : en ≤ 32768 := by have := hto.out; omega
    have hB' : B ≤ w.heap.size := by have := hq0.out; omega
    have hN : w.heap.size ≤ W0.heap.size := by have := z6.out; have := z4.out; have := hq0.out; omega
    have hqW : qf + 1 < W0.heap.size := by have := z6.out; omega
    refine wpIn_range_cell rfl (by omega) (gf := 16) (lb := #[.pointer (some ⟨qf, 0, none⟩), .pointer (some ⟨qf + 1, 0, none⟩)]) rfl trivial (enters_of Try.func16 (by kernel_rfl) rfl)
      (pieces_seq 8 (by omega) qf (qf + 1) (by omega) fr en (by omega) (by omega) W0 bf bt) bf.lt
      (fun h k => ⟨k.1.trans h.1, k.2.trans h.2⟩)
      (fun W l o o' hl hW ho _ => ⟨World.putObj_heap_other (by omega), World.putObj_heap_other (by omega)⟩)
      (fun _ => rfl)
      (fun pre W => RI B g v m bad ask fr en w q0 (q0 + 1) (q0 + 1 + 1) (q0 + 1 + 1 + 1) qf pre.length W) (fun c pre W => c = .ret ∧ pre.length ≤ cnt fr en ∧ RX B g v m bad ask fr w (q0 + 1) (q0 + 1 + 1) pre.length W)
      (fun pre A A' row hs hg hr => hs.grown hg hr (by omega))
      (fun c pre A A' row hs hg hr => ⟨hs.1, hs.2.1, hs.2.2.grown hg hr (by omega)⟩)
      (fun pre A u hs => hs.put u)
      (fun pre A hs => hs.only (Only.refl _ _).drew)
      hRI
      (fun x a' W => ∃ qp, Blk W qp 55 #[.int .i64 (pc fr en x).fr, .int .i64 (pc fr en x).hi] ∧ a' = ⟨#[.iface 29 (.pointer (some ⟨g, 0, none⟩)), .int .u32 size, .int .i64 fr, .int .i64 n, .pointer (some ⟨q0, 0, none⟩), undef, undef, undef, .pointer (some ⟨q0 + 1, 0, none⟩), .pointer (some ⟨q0 + 1 + 1, 0, none⟩), .int .i64 0, .pointer (some ⟨q0 + 1 + 1 + 1, 0, none⟩), .int .i64 size, .int .u32 (pc fr en x).lf, .pointer (some ⟨qp, 0, none⟩), undef, undef, undef, .iface 29 (.pointer (some ⟨g, 0, none⟩)), .int .i64 fr, .int .i64 n, .int .i64 0, .int .i64 0, .bool false, undef, .int .u32 size, .int .u32 size, .int .i64 size, u28, u29, u30, u31, u32, u33, u34, u35, u36, .func (.func 16) #[] #[.pointer (some ⟨qf, 0, none⟩), .pointer (some ⟨qf + 1, 0, none⟩)], .int .u32 (pc fr en x).lf, .agg #[.int .i64 (pc fr en x).fr, .int .i64 (pc fr en x).hi], undef, undef, undef, undef, undef, undef, undef, undef, undef, undef, undef, undef, undef, undef, undef, undef, undef, undef, undef], []⟩)
      (fun x a' s A A' row ⟨qp, hs, e⟩ hg hr => ⟨qp, hs.grown hg hr, e⟩) ?assign ?body ?done ?stop
    case assign =>
      intro l pre x W K hi hK
      have oa := (Only.refl (fun _ => False) W).alloc (.cells #[.int .i64 (pc fr en x).fr, .int .i64 (pc fr en x).hi] 55)
      have hx := hK _ _ (Ct.of oa).keepsFrom ⟨(Ct.of oa).keep hi.tf, (Ct.of oa).keep hi.tg⟩ (hi.only oa) ⟨W.heap.size, Blk.new _ _ _, rfl⟩
      clear hK
      simp only [encP]
      gi_wp2
      exact hx
    case body =>
      rintro l pre x a' W hl ⟨rec, hrec⟩ hi ⟨qp, hqp, rfl⟩ ⟨rfl, hx⟩
      clear bf bt hRI hqW z6 hl hrec
      obtain ⟨vo, hb3, hrow⟩ := hi.b3
      obtain ⟨va', hSh⟩ := hi.sh
      have hBW : B ≤ W.heap.size := Nat.le_trans hB' hi.tn.size
      have hpc := pc_le hx
      have hlf : (pc fr en pre.length).lf = fr / 512 + pre.length := rfl
      have hct := cnt_le (fr := fr) hen
      have hrs := readB_succ hsz hen hx
      have hL := leaf_any B g v m bad va' (ask ++ askd fr pre.length) (pc fr en pre.length).lf W hSh hBW (by omega) (by rw [List.length_append, askd_len]; omega)
      have hc0 := hi.b0.cell 0
      simp only [List.getElem?_toArray, List.getElem?_cons_zero] at hc0
      have hask : ask ++ askd fr pre.length ++ [(pc fr en pre.length).lf] = ask ++ askd fr (pre.length + 1) := by rw [List.append_assoc, hlf, askd_succ]
      have hlb := leafB_len hsz (k := (pc fr en pre.length).lf) (by omega)
      generalize pc fr en pre.length = pp at *
      obtain ⟨pl, pf, ph⟩ := pp
      simp only at *
      replace hask := Lib.hid hask
      replace hrs := Lib.hid hrs
      cases hb : isBad bad pl with
      | true =>
        unfold leafPost at hL
        rw [hb] at hL
        simp only [if_true] at hL
        replace hL := Lib.hid hL
        rw [hlf] at hb
        replace hlf := Lib.hid hlf
        replace hb := Lib.hid hb
        gi_wp2_with fail
        refine ⟨trivial, CallsIn.inRound l (callsIn_wide.2 (hL.out.mono ?_))⟩
        rintro r W1 ⟨ql, rfl, hq, hql, ⟨va2, hS1, _⟩, hT1⟩
        rw [hask.out] at hS1
        have b1 := hi.b1.turn hT1 (by decide)
        have b2 := hi.b2.turn hT1 (by decide)
        have c1 := b1.cell 0
        have f1 := b1.frozen 0
        have c2 := b2.cell 0
        have f2 := b2.frozen 0
        simp only [List.getElem?_toArray, List.getElem?_cons_zero] at c1 c2
        have hC : Ct W ((W1.setCell ⟨q0 + 1, 0, none⟩ (.slice none 0 0)).setCell ⟨q0 + 1 + 1, 0, none⟩ (.int .i64 21)) := ((Ct.turn hT1).trans (Ct.put b1.ty (by decide) _)).trans (Ct.put (b2.ty.setCell _ _) (by decide) _)
        have s1 := b1.set_ 0 (.slice none 0 0)
        have s2 := b2.put (i := 0) b1.ty (by decide) (.slice none 0 0)
        have s3 := s2.set_ 0 (.int .i64 21)
        have s4 := s1.put (i := 0) s2.ty (by decide) (.int .i64 21)
        simp only [List.setIfInBounds_toArray, List.set_cons_zero] at s3 s4
        have hS2 := (hS1.put (i := 0) b1.ty (by decide) (.slice none 0 0)).put (i := 0) s2.ty (by decide) (.int .i64 21)
        have hT2 := ((hi.tn.trans hT1).setCell (p := ⟨q0 + 1, 0, none⟩) (.inr (by show w.heap.size ≤ q0 + 1; have := hq0.out; omega)) (.slice none 0 0)).setCell (p := ⟨q0 + 1 + 1, 0, none⟩) (.inr (by show w.heap.size ≤ q0 + 1 + 1; have := hq0.out; omega)) (.int .i64 21)
        have hfin : RX B g v m bad ask fr w (q0 + 1) (q0 + 1 + 1) (pre ++ [pre.length]).length ((W1.setCell ⟨q0 + 1, 0, none⟩ (.slice none 0 0)).setCell ⟨q0 + 1 + 1, 0, none⟩ (.int .i64 21)) := by
          rw [List.length_append, List.length_singleton]
          exact ⟨s4, s3, ⟨va2, hS2⟩, fun j hj => hi.nb j (by omega), ⟨by omega, hb.out⟩, hT2⟩
        have hlen : (pre ++ [pre.length]).length ≤ cnt fr en := by rw [List.length_append, List.length_singleton]; omega
        replace hfin := Lib.hid hfin
        replace hC := Lib.hid hC
        clear s1 s2 s3 s4 hS2 hT2 hS1 hT1 b1 b2 hq hL hi hSh hrow hb3 hqp
        gi_wp2
        exact ⟨hC.out.keepsFrom, rfl, hlen, hfin.out⟩
      | false =>
        unfold leafPost at hL
        rw [hb] at hL
        simp only [Bool.false_eq_true, if_false] at hL
        replace hL := Lib.hid hL
        rw [hlf] at hb
        replace hlf := Lib.hid hlf
        replace hb := Lib.hid hb
        gi_wp2_with fail
        refine ⟨trivial, CallsIn.inRound l (callsIn_wide.2 (hL.out.mono ?_))⟩
        rintro r W1 ⟨ql, rfl, hq, hql, ⟨va2, hS1, _⟩, hT1⟩
        rw [hask.out] at hS1
        have k1 := hb3.turn hT1 (by decide)
        have k2 := hqp.turn hT1 (by decide)
        have k3 := row_turn hrow hT1 (by decide)
        gi_wp2
        have e0 := k1.cell 0
        have e1 := k2.cell 0
        have e2 := k2.cell 1
        simp only [List.getElem?_toArray, List.getElem?_cons_zero, List.getElem?_cons_succ] at e0 e1 e2
        have hq3 : q0 + 1 + 1 + 1 ≠ qf ∧ w.heap.size ≤ q0 + 1 + 1 + 1 := by have := hq0.out; have := z4.out; omega
        have hbase : w.heap.size ≤ W1.drew.heap.size := Nat.le_trans hi.tn.size hT1.size
        have hrd : Reads W1.drew W1.drew.heap.size (some ⟨ql, pf, none⟩) (ph - pf) (Lib.byteCells (((leafB m pl).drop pf).take (ph - pf))) := by
          refine ⟨by rw [Lib.byteCells_length, List.length_take, List.length_drop, hlb]; omega, fun _ => ⟨ql, pf, rfl, Blk.lt hq, fun j u hu => ?_⟩⟩
          rw [show W1.drew.cell? ⟨ql, pf + j, none⟩ = W1.cell? ⟨ql, pf + j, none⟩ from rfl, Blk.cell hq, List.getElem?_toArray]
          unfold Lib.byteCells at hu ⊢
          rw [List.map_take, List.map_drop, List.getElem?_take] at hu
          split at hu
          · rw [List.getElem?_drop] at hu; exact hu
          · cases hu
        have hlen1 := readB_len m fr (at_ fr en pre.length - fr)
        have k3' : W1.drew.ownsRow w.heap.size 5 1 vo (readB m fr (at_ fr en pre.length - fr)).length (Lib.byteCells (readB m fr (at_ fr en pre.length - fr))) := by rw [hlen1]; exact k3
        have hatl : at_ fr en pre.length ≤ en := by have := (at_lt fr en pre.length).2 hx; omega
        obtain ⟨gn, cp, W2, hrun, hown, hgr⟩ := app_bytes (c := 512 - pf) k3' hbase hrd (by omega) (by rw [hlen1]; omega)
        rw [hrs.out] at hown
        have hl2 : (readB m fr (at_ fr en pre.length - fr)).length + (ph - pf) = at_ fr en (pre.length + 1) - fr := by
          have := congrArg List.length hrs.out
          rw [List.length_append, readB_len, readB_len, List.length_take, List.length_drop, hlb] at this
          rw [hlen1]; omega
        rw [hl2] at hrun hown
        have hCa : Ct W1 W2 := (Ct.of (Only.refl (fun _ => False) W1).drew).trans (Ct.row hgr k3' (by decide))
        have hro : Only (fun k => vo.ownBlock = some k) W1 W2 := ((Only.refl _ W1).drew).trans (grown_only hgr)
        have hne : ∀ {q t cs}, Blk W1 q t cs → t ≠ 5 → ¬ vo.ownBlock = some q := fun hb ht e => ht (hb.ty.one (row_lt' k3 _ e).2.2)
        have m1 := k1.only hro (hne k1 (by decide))
        have m2 := k2.only hro (hne k2 (by decide))
        have n0 := m1.cell 0
        have nf := m1.frozen 0
        have n1 := m2.cell 0
        have n2 := m2.cell 1
        simp only [List.getElem?_toArray, List.getElem?_cons_zero, List.getElem?_cons_succ] at n0 n1 n2
        have hfin : RI B g v m bad ask fr en w q0 (q0 + 1) (q0 + 1 + 1) (q0 + 1 + 1 + 1) qf (pre ++ [pre.length]).length (W2.setCell ⟨q0 + 1 + 1 + 1, 0, none⟩ (.slice (some ⟨gn, 0, none⟩) (at_ fr en (pre.length + 1) - fr) cp)) := by
          rw [List.length_append, List.length_singleton]
          have hS2 := hS1.keep hro (fun e => by have := (row_lt' k3 _ e).2.2.one hS1.ty; cases this) (fun k hk e => by have := (row_lt' k3 _ e).2.2.one (row_lt' hS1.ak k hk).2.2; cases this) (fun i k hik hk e => ?_) (fun X hX _ e => by have := (row_lt' k3 _ e).2.2.one hX; cases this)
          · have hty := m1.ty
            have s3 := m1.set_ 0 (.slice (some ⟨gn, 0, none⟩) (at_ fr en (pre.length + 1) - fr) cp)
            simp only [List.setIfInBounds_toArray, List.set_cons_zero] at s3
            have r1 := (hi.b1.turn hT1 (by decide))
            have r2 := (hi.b2.turn hT1 (by decide))
            have r0 := (hi.b0.turn hT1 (by decide))
            refine ⟨(r0.only hro (hne r0 (by decide))).put hty (by decide) _, (r1.only hro (hne r1 (by decide))).far (p := ⟨q0 + 1 + 1 + 1, 0, none⟩) (by show q0 + 1 ≠ q0 + 1 + 1 + 1; omega) _, (r2.only hro (hne r2 (by decide))).put hty (by decide) _, ⟨_, s3, ?_⟩, ⟨va2, hS2.put hty (by decide) _⟩, fun j hj => ?_, ?_, (hCa.ty ((Ct.turn hT1).ty hi.tf)).setCell _ _, (hCa.ty ((Ct.turn hT1).ty hi.tg)).setCell _ _, hi.nq⟩
            · exact row_put hown hty (by decide) _
            · by_cases e : j < pre.length
              · exact hi.nb j e
              · obtain rfl : j = pre.length := by omega
                exact hb.out
            · exact ((hi.tn.trans hT1).new (hro.mono fun k hk e => (row_lt' k3 k e).1)).setCell (.inr hq3.2) _
          · have := hvlt i k hik hk
            have := (row_lt' k3 k e).1
            omega
        have hCt : Ct W (W2.setCell ⟨q0 + 1 + 1 + 1, 0, none⟩ (.slice (some ⟨gn, 0, none⟩) (at_ fr en (pre.length + 1) - fr) cp)) := ((Ct.turn hT1).trans hCa).trans (Ct.put m1.ty (by decide) _)
        have hkp : KpP qf (qf + 1) W (W2.setCell ⟨q0 + 1 + 1 + 1, 0, none⟩ (.slice (some ⟨gn, 0, none⟩) (at_ fr en (pre.length + 1) - fr) cp)) := ⟨hCt.keep hi.tf, hCt.keep hi.tg⟩
        have j1 : (0 : Int) ≤ (pf : Int) := by omega
        have j2 : (pf : Int) ≤ (ph : Int) := by omega
        have j3 : (ph : Int) ≤ 512 := by omega
        have j4 : ¬ (512 : Int) = (pf : Int) := by omega
        have j5 : ¬ 512 = pf := by omega
        replace hfin := Lib.hid hfin
        replace hCt := Lib.hid hCt
        replace hkp := Lib.hid hkp
        replace hrun := Lib.hid hrun
        have hS0 : W1.drew.cell? ⟨q0 + 1 + 1 + 1, 0, none⟩ = some vo ∧ W1.drew.cell? ⟨qp, 0, none⟩ = some (.int .i64 pf) ∧ W1.drew.cell? ⟨qp, 1, none⟩ = some (.int .i64 ph) := ⟨e0, e1, e2⟩
        have hS9 : W2.cell? ⟨q0 + 1 + 1 + 1, 0, none⟩ = some vo ∧ W2.cell? ⟨qp, 0, none⟩ = some (.int .i64 pf) ∧ W2.cell? ⟨qp, 1, none⟩ = some (.int .i64 ph) := ⟨n0, n1, n2⟩
        clear hi hq hL hS1 hT1 hSh hrow hb3 hqp k1 k2 k3 k3' e0 e1 e2 hrd m1 m2 hown hgr hro hne hCa n1 n2 hlen1 hl2 hatl hbase
        refine wpIn_region_norm (by kernel_rfl) (by kernel_rfl) (E_any (S := fun W => W.cell? ⟨q0 + 1 + 1 + 1, 0, none⟩ = some vo ∧ W.cell? ⟨qp, 0, none⟩ = some (.int .i64 pf) ∧ W.cell? ⟨qp, 1, none⟩ = some (.int .i64 ph)) (z := 8) _ _ _ _ ?_)
        generalize W1.drew = W1d at *
        refine E_take (v := ?v0) 0 rfl (by kernel_rfl) (by kernel_rfl) (by kernel_rfl) (by kernel_rfl) (by kernel_rfl) (by kernel_rfl) (fun _ _ _ h => h) rfl hS0 ?vh0 ?_
        case vh0 => intro W hW; obtain ⟨g0, g1, g2⟩ := hW; go_simp; try with_reducible rfl
        simp only [Act.put, List.setIfInBounds_toArray, List.set_cons_zero, List.set_cons_succ]
        refine E_take (v := ?v1) 1 rfl (by kernel_rfl) (by kernel_rfl) (by kernel_rfl) (by kernel_rfl) (by kernel_rfl) (by kernel_rfl) (fun _ _ _ h => h) rfl hS0 ?vh1 ?_
        case vh1 => intro W hW; obtain ⟨g0, g1, g2⟩ := hW; go_simp; try with_reducible rfl
        simp only [Act.put, List.setIfInBounds_toArray, List.set_cons_zero, List.set_cons_succ]
        refine E_take (v := ?v2) 2 rfl (by kernel_rfl) (by kernel_rfl) (by kernel_rfl) (by kernel_rfl) (by kernel_rfl) (by kernel_rfl) (fun _ _ _ h => h) rfl hS0 ?vh2 ?_
        case vh2 => intro W hW; obtain ⟨g0, g1, g2⟩ := hW; go_simp; try with_reducible rfl
        simp only [Act.put, List.setIfInBounds_toArray, List.set_cons_zero, List.set_cons_succ]
        refine E_take (v := ?v3) 3 rfl (by kernel_rfl) (by kernel_rfl) (by kernel_rfl) (by kernel_rfl) (by kernel_rfl) (by kernel_rfl) (fun _ _ _ h => h) rfl hS0 ?vh3 ?_
        case vh3 => intro W hW; obtain ⟨g0, g1, g2⟩ := hW; go_simp; try with_reducible rfl
        simp only [Act.put, List.setIfInBounds_toArray, List.set_cons_zero, List.set_cons_succ]
        refine E_take (v := ?v4) 4 rfl (by kernel_rfl) (by kernel_rfl) (by kernel_rfl) (by kernel_rfl) (by kernel_rfl) (by kernel_rfl) (fun _ _ _ h => h) rfl hS0 ?vh4 ?_
        case vh4 => intro W hW; obtain ⟨g0, g1, g2⟩ := hW; go_simp; try with_reducible rfl
        simp only [Act.put, List.setIfInBounds_toArray, List.set_cons_zero, List.set_cons_succ]
        refine E_take (v := ?v5) 5 rfl (by kernel_rfl) (by kernel_rfl) (by kernel_rfl) (by kernel_rfl) (by kernel_rfl) (by kernel_rfl) (fun _ _ _ h => h) rfl hS0 ?vh5 ?_
        case vh5 => intro W hW; obtain ⟨g0, g1, g2⟩ := hW; go_simp; try with_reducible rfl
        simp only [Act.put, List.setIfInBounds_toArray, List.set_cons_zero, List.set_cons_succ]
        refine E_take (v := ?v6) 6 rfl (by kernel_rfl) (by kernel_rfl) (by kernel_rfl) (by kernel_rfl) (by kernel_rfl) (by kernel_rfl) (fun _ _ _ h => h) rfl hS0 ?vh6 ?_
        case vh6 => intro W hW; obtain ⟨g0, g1, g2⟩ := hW; go_simp; try with_reducible rfl
        simp only [Act.put, List.setIfInBounds_toArray, List.set_cons_zero, List.set_cons_succ]
        refine E_one 7 (by kernel_rfl) rfl (fun K hK => ?_)
        refine step_append_eq1 rfl (.tmp 50) (.tmp 56) 24 rfl _ _ _ _ (by rfl) (by rfl) hrun.out ?_
        refine hK.out _ _ (fun _ => hS9) ?_
        clear hK K
        try simp only [Act.put, List.setIfInBounds_toArray, List.set_cons_zero, List.set_cons_succ]
        refine E_one 8 (by kernel_rfl) rfl (fun K hK => ?_)
        go_simp
        refine hK.out _ _ (fun h => absurd h (by decide)) ?_
        clear hK K
        try simp only [Act.put, List.setIfInBounds_toArray, List.set_cons_zero, List.set_cons_succ]
        refine E_done (by kernel_rfl) (norm_in ?_)
        gi_wp2
        exact ⟨hCt.out.keepsFrom, hkp.out, hfin.out⟩
    case done =>
      rintro D xs W hD hcn hi hK
      obtain ⟨vo, hb3, hrow⟩ := hi.b3
      obtain ⟨va', hSh⟩ := hi.sh
      have hnb := hi.nb
      rw [hcn] at hrow hSh hnb
      have hae : at_ fr en (cnt fr en) = en := at_end (by have := hto.out; omega)
      rw [hae] at hrow
      obtain ⟨A, c, rfl, hrd, hnc⟩ := row_form1 hrow
      have b1 := hi.b1
      have b2 := hi.b2
      have c1 := b1.cell 0
      have f1 := b1.frozen 0
      have c2 := b2.cell 0
      have f2 := b2.frozen 0
      have c3 := hb3.cell 0
      simp only [List.getElem?_toArray, List.getElem?_cons_zero] at c1 c2 c3
      have hDn : ∀ q t cs, Blk W q t cs → D ≠ q := fun q t cs hb e => by subst e; exact noncells hK rfl hb.ty
      have hK1 := (Below.heap_setCell W ⟨q0 + 1, 0, none⟩ (.slice A (en - fr) c) D (hDn _ _ _ b1)).trans hK
      have s1 := b1.set_ 0 (.slice A (en - fr) c)
      have s2 := b2.put (i := 0) b1.ty (by decide) (.slice A (en - fr) c)
      have hK2 := (Below.heap_setCell (W.setCell ⟨q0 + 1, 0, none⟩ (.slice A (en - fr) c)) ⟨q0 + 1 + 1, 0, none⟩ (.int .i64 0) D (hDn _ _ _ b2)).trans hK1
      have s3 := s2.set_ 0 (.int .i64 0)
      have s4 := s1.put (i := 0) s2.ty (by decide) (.int .i64 0)
      simp only [List.setIfInBounds_toArray, List.set_cons_zero] at s3 s4
      have hS2 := (hSh.put (i := 0) b1.ty (by decide) (.slice A (en - fr) c)).put (i := 0) s2.ty (by decide) (.int .i64 0)
      have hT2 := ((hi.tn).setCell (p := ⟨q0 + 1, 0, none⟩) (.inr (by show w.heap.size ≤ q0 + 1; have := hq0.out; omega)) (.slice A (en - fr) c)).setCell (p := ⟨q0 + 1 + 1, 0, none⟩) (.inr (by show w.heap.size ≤ q0 + 1 + 1; have := hq0.out; omega)) (.int .i64 0)
      have hr2 := row_put (i := 0) (row_put (i := 0) hrow b1.ty (by decide) (.slice A (en - fr) c)) s2.ty (by decide) (.int .i64 0)
      generalize hW9 : (W.setCell ⟨q0 + 1, 0, none⟩ (.slice A (en - fr) c)).setCell ⟨q0 + 1 + 1, 0, none⟩ (.int .i64 0) = W9 at *
      have hg := grownBy_putObj' W9 D (.deferred none)
      have hr9 : ∀ r, (some D : Option Nat) = some r → w.heap.size ≤ r ∧ ∃ o : Obj, W9.heap[r]? = some o ∧ o.isCells = false := fun r e => by cases e; exact ⟨Nat.le_trans hN hD, _, hK2, rfl⟩
      have t3 := s3.grown hg hr9
      have t4 := s4.grown hg hr9
      have hfin : ReadOk B g v m bad ask fr en w A c (W9.putObj D (.deferred none)) := ⟨Reads.of_own (row_grown hr2 hg hr9), hnc, ⟨va', hS2.grown hg hr9⟩, hnb, hT2.grown hg hr9 (Nat.le_refl _), row_grown hr2 hg hr9⟩
      replace hfin := Lib.hid hfin
      replace hK2 := Lib.hid hK2
      replace hW9 := Lib.hid hW9
      clear bf bt hRI hqW z6 hrow hSh hnb hae hrd hnc b1 b2 hDn hK1 s1 s2 s3 s4 hS2 hT2 hr2 hg hr9 hi hcn hb3 hK
      gi_wp2
      go_wp2
      rw [hW9.out]
      refine ⟨by simp, .inl ⟨_, _, rfl, run_takeDeferred hK2.out, ?_⟩⟩
      have ee := hto.out
      subst ee
      exact ⟨_, res11 _ _ _ _ _ _ rfl rfl t4.cell0 t3.cell0, .inl ⟨A, c, rfl, hfin.out⟩⟩
    case stop =>
      rintro D c pre W hD _ ⟨rfl, hpl, hx⟩ hK
      have hg := grownBy_putObj' W D (.deferred none)
      have hr9 : ∀ r, (some D : Option Nat) = some r → w.heap.size ≤ r ∧ ∃ o : Obj, W.heap[r]? = some o ∧ o.isCells = false := fun r e => by cases e; exact ⟨Nat.le_trans hN hD, _, hK, rfl⟩
      have hx9 := hx.grown hg hr9 (Nat.le_refl _)
      replace hK := Lib.hid hK
      clear bf bt hRI hqW z6 hx hg hr9
      gi_wp2
      refine ⟨by simp, .inl ⟨_, _, rfl, run_takeDeferred hK.out, ?_⟩⟩
      have ee := hto.out
      subst ee
      exact ⟨_, res11 _ _ _ _ _ _ rfl rfl hx9.b1.cell0 hx9.b2.cell0, .inr ⟨pre.length, hpl, rfl, hx9.sh, hx9.nb, hx9.bd, hx9.tn⟩⟩
end Go.Proofs.Ytpkadhgoaaphkaa
