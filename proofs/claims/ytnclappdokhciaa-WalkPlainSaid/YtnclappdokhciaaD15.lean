/-
  The law's of, same, Great (func 36, 40, 33).
-/
import Derived.Test.YtnclappdokhciaaD14
namespace Go.Proofs.Ytnclappdokhciaa
open Go Go.RowKit
set_option linter.unusedVariables false
set_option maxRecDepth 10000 in
set_option maxHeartbeats 4000000 in
theorem ofE_any (l : List Ent) (A : Option Addr) (c : Nat) (w : World) (h : RowE w A l c) (hn : l.length ≤ 100000) :
    Calls Try.prog 36 #[.slice A l.length c] w fun r w' => ∃ A' c', r = .returned (.slice A' l.length c') ∧ RowE w' A' l c' ∧ Only (fun _ => False) w w' := by
  go_enter Try.func36, Try.ntmps36
  go_wp2
  go_loopw [3, 4] (fun s3 s4 wr => ∃ i : Nat, s4 = .int .i64 i ∧ i ≤ l.length ∧ PE 63 w (l.take i) s3 wr) (fun _ s4 _ => l.length - (intOf s4).toNat)
  case atStart => exact ⟨0, rfl, by omega, PE.nil _ _⟩
  case round =>
    obtain ⟨i, rfl, hi, hP⟩ := hrel
    by_cases hlt : i < l.length
    · obtain ⟨x, hx⟩ : ∃ x, l[i]? = some x := ⟨_, List.getElem?_eq_getElem hlt⟩
      have htk := Lib.hid (takeE_snoc l i x hx)
      obtain ⟨A3, c3, rfl, _⟩ := hP.row
      have e1 : (l.take i).length = i := by rw [List.length_take]; omega
      have i0 : (0 : Int) ≤ (i : Int) := by omega
      have i1 : (i : Int) < (l.length : Int) := by omega
      rw [e1] at hP ⊢
      go_wp2_with fail
      have od := (Only.refl (fun _ => False) wr).drew
      have hPd := hP.next od
      clear od hP
      generalize hwd : wr.drew = wd at *
      replace hwd := Lib.hid hwd
      have hSof : ∀ W, Only (fun _ => False) w W → ∃ b o, A = some ⟨b, o, none⟩ ∧ (W.cell? ⟨b, o + i * 3, none⟩ = some (.string x.nm) ∧ W.cell? ⟨b, o + i * 3 + 1, none⟩ = some (.int .u16 x.num) ∧ W.cell? ⟨b, o + i * 3 + 2, none⟩ = some (.int .u8 x.kind)) := fun W hW => by
        obtain ⟨b, o, e, _, q⟩ := (h.only hW (fun _ _ x => x)).lit hx
        exact ⟨b, o, e, q⟩
      obtain ⟨b, o, rfl, s0⟩ := hSof wd hPd.2
      have hx9 : Blk (wd.alloc (.cells #[.string x.nm, .int .u16 x.num, .int .u8 x.kind] 63)) wd.heap.size 63 #[.string x.nm, .int .u16 x.num, .int .u8 x.kind] := Blk.new _ _ _
      have ob := (Only.refl (fun _ => False) wd).alloc (.cells #[.string x.nm, .int .u16 x.num, .int .u8 x.kind] 63)
      obtain ⟨A9, c9, w9, hap, hP9⟩ := hPd.one ty59 ob (by rw [e1]; omega) wd.heap.size x hx9
      obtain ⟨b', o', e, s2⟩ := hSof _ (hPd.2.trans ob)
      cases e
      obtain ⟨b', o', e, s3⟩ := hSof _ hP9.2
      cases e
      rw [e1] at hap hP9
      rw [← htk.out] at hP9
      replace s2 := Lib.hid s2
      replace s3 := Lib.hid s3
      replace e1 := Lib.hid e1
      replace hx := Lib.hid hx
      clear hSof hx9 ob hPd
      refine wp_region_noPanic ?_
      refine wp_region_E 19 (fun W => (W.cell? ⟨b, o + i * 3, none⟩ = some (.string x.nm) ∧ W.cell? ⟨b, o + i * 3 + 1, none⟩ = some (.int .u16 x.num) ∧ W.cell? ⟨b, o + i * 3 + 2, none⟩ = some (.int .u8 x.kind))) (by kernel_rfl) ?_
      rw [hwd.out]
      refine E_take (v := ?v0) 0 rfl (by kernel_rfl) (by kernel_rfl) (by kernel_rfl) (by kernel_rfl) (by kernel_rfl) (by kernel_rfl) (fun _ _ _ h => h) rfl s0 ?vh0 ?_
      case vh0 => intro W hW; obtain ⟨t0, t1, t2⟩ := hW; go_simp; try with_reducible rfl
      simp only [Act.put, List.setIfInBounds_toArray, List.set_cons_zero, List.set_cons_succ]
      refine E_take (v := ?v1) 1 rfl (by kernel_rfl) (by kernel_rfl) (by kernel_rfl) (by kernel_rfl) (by kernel_rfl) (by kernel_rfl) (fun _ _ _ h => h) rfl s0 ?vh1 ?_
      case vh1 => intro W hW; obtain ⟨t0, t1, t2⟩ := hW; go_simp; try with_reducible rfl
      simp only [Act.put, List.setIfInBounds_toArray, List.set_cons_zero, List.set_cons_succ]
      refine E_take (v := ?v2) 2 rfl (by kernel_rfl) (by kernel_rfl) (by kernel_rfl) (by kernel_rfl) (by kernel_rfl) (by kernel_rfl) (fun _ _ _ h => h) rfl s0 ?vh2 ?_
      case vh2 => intro W hW; obtain ⟨t0, t1, t2⟩ := hW; go_simp; try with_reducible rfl
      simp only [Act.put, List.setIfInBounds_toArray, List.set_cons_zero, List.set_cons_succ]
      refine E_take (v := ?v3) 3 rfl (by kernel_rfl) (by kernel_rfl) (by kernel_rfl) (by kernel_rfl) (by kernel_rfl) (by kernel_rfl) (fun _ _ _ h => h) rfl s0 ?vh3 ?_
      case vh3 => intro W hW; obtain ⟨t0, t1, t2⟩ := hW; go_simp; try with_reducible rfl
      simp only [Act.put, List.setIfInBounds_toArray, List.set_cons_zero, List.set_cons_succ]
      refine E_take (v := ?v4) 4 rfl (by kernel_rfl) (by kernel_rfl) (by kernel_rfl) (by kernel_rfl) (by kernel_rfl) (by kernel_rfl) (fun _ _ _ h => h) rfl s0 ?vh4 ?_
      case vh4 => intro W hW; obtain ⟨t0, t1, t2⟩ := hW; go_simp; try with_reducible rfl
      simp only [Act.put, List.setIfInBounds_toArray, List.set_cons_zero, List.set_cons_succ]
      refine E_take (v := ?v5) 5 rfl (by kernel_rfl) (by kernel_rfl) (by kernel_rfl) (by kernel_rfl) (by kernel_rfl) (by kernel_rfl) (fun _ _ _ h => h) rfl s0 ?vh5 ?_
      case vh5 => intro W hW; obtain ⟨t0, t1, t2⟩ := hW; go_simp; try with_reducible rfl
      simp only [Act.put, List.setIfInBounds_toArray, List.set_cons_zero, List.set_cons_succ]
      refine E_take (v := ?v6) 6 rfl (by kernel_rfl) (by kernel_rfl) (by kernel_rfl) (by kernel_rfl) (by kernel_rfl) (by kernel_rfl) (fun _ _ _ h => h) rfl s0 ?vh6 ?_
      case vh6 => intro W hW; obtain ⟨t0, t1, t2⟩ := hW; go_simp; try with_reducible rfl
      simp only [Act.put, List.setIfInBounds_toArray, List.set_cons_zero, List.set_cons_succ]
      refine E_take (v := ?v7) 7 rfl (by kernel_rfl) (by kernel_rfl) (by kernel_rfl) (by kernel_rfl) (by kernel_rfl) (by kernel_rfl) (fun _ _ _ h => h) rfl s0 ?vh7 ?_
      case vh7 => intro W hW; obtain ⟨t0, t1, t2⟩ := hW; go_simp; try with_reducible rfl
      simp only [Act.put, List.setIfInBounds_toArray, List.set_cons_zero, List.set_cons_succ]
      refine E_take (v := ?v8) 8 rfl (by kernel_rfl) (by kernel_rfl) (by kernel_rfl) (by kernel_rfl) (by kernel_rfl) (by kernel_rfl) (fun _ _ _ h => h) rfl s0 ?vh8 ?_
      case vh8 => intro W hW; obtain ⟨t0, t1, t2⟩ := hW; go_simp; try with_reducible rfl
      simp only [Act.put, List.setIfInBounds_toArray, List.set_cons_zero, List.set_cons_succ]
      refine E_take (v := ?v9) 9 rfl (by kernel_rfl) (by kernel_rfl) (by kernel_rfl) (by kernel_rfl) (by kernel_rfl) (by kernel_rfl) (fun _ _ _ h => h) rfl s0 ?vh9 ?_
      case vh9 => intro W hW; obtain ⟨t0, t1, t2⟩ := hW; go_simp; try with_reducible rfl
      simp only [Act.put, List.setIfInBounds_toArray, List.set_cons_zero, List.set_cons_succ]
      refine E_take (v := ?v10) 10 rfl (by kernel_rfl) (by kernel_rfl) (by kernel_rfl) (by kernel_rfl) (by kernel_rfl) (by kernel_rfl) (fun _ _ _ h => h) rfl s0 ?vh10 ?_
      case vh10 => intro W hW; obtain ⟨t0, t1, t2⟩ := hW; go_simp; try with_reducible rfl
      simp only [Act.put, List.setIfInBounds_toArray, List.set_cons_zero, List.set_cons_succ]
      refine E_take (v := ?v11) 11 rfl (by kernel_rfl) (by kernel_rfl) (by kernel_rfl) (by kernel_rfl) (by kernel_rfl) (by kernel_rfl) (fun _ _ _ h => h) rfl s0 ?vh11 ?_
      case vh11 => intro W hW; obtain ⟨t0, t1, t2⟩ := hW; go_simp; try with_reducible rfl
      simp only [Act.put, List.setIfInBounds_toArray, List.set_cons_zero, List.set_cons_succ]
      refine E_take (v := ?v12) 12 rfl (by kernel_rfl) (by kernel_rfl) (by kernel_rfl) (by kernel_rfl) (by kernel_rfl) (by kernel_rfl) (fun _ _ _ h => h) rfl s0 ?vh12 ?_
      case vh12 => intro W hW; obtain ⟨t0, t1, t2⟩ := hW; go_simp; try with_reducible rfl
      simp only [Act.put, List.setIfInBounds_toArray, List.set_cons_zero, List.set_cons_succ]
      refine E_take (v := ?v13) 13 rfl (by kernel_rfl) (by kernel_rfl) (by kernel_rfl) (by kernel_rfl) (by kernel_rfl) (by kernel_rfl) (fun _ _ _ h => h) rfl s0 ?vh13 ?_
      case vh13 => intro W hW; obtain ⟨t0, t1, t2⟩ := hW; go_simp; try with_reducible rfl
      simp only [Act.put, List.setIfInBounds_toArray, List.set_cons_zero, List.set_cons_succ]
      refine E_take (v := ?v14) 14 rfl (by kernel_rfl) (by kernel_rfl) (by kernel_rfl) (by kernel_rfl) (by kernel_rfl) (by kernel_rfl) (fun _ _ _ h => h) rfl s0 ?vh14 ?_
      case vh14 => intro W hW; obtain ⟨t0, t1, t2⟩ := hW; go_simp; try with_reducible rfl
      simp only [Act.put, List.setIfInBounds_toArray, List.set_cons_zero, List.set_cons_succ]
      refine E_take (v := ?v15) 15 rfl (by kernel_rfl) (by kernel_rfl) (by kernel_rfl) (by kernel_rfl) (by kernel_rfl) (by kernel_rfl) (fun _ _ _ h => h) rfl s0 ?vh15 ?_
      case vh15 => intro W hW; obtain ⟨t0, t1, t2⟩ := hW; go_simp; try with_reducible rfl
      simp only [Act.put, List.setIfInBounds_toArray, List.set_cons_zero, List.set_cons_succ]
      refine E_take (v := ?v16) 16 rfl (by kernel_rfl) (by kernel_rfl) (by kernel_rfl) (by kernel_rfl) (by kernel_rfl) (by kernel_rfl) (fun _ _ _ h => h) rfl s0 ?vh16 ?_
      case vh16 => intro W hW; obtain ⟨t0, t1, t2⟩ := hW; go_simp; try with_reducible rfl
      simp only [Act.put, List.setIfInBounds_toArray, List.set_cons_zero, List.set_cons_succ]
      refine E_one 17 (by kernel_rfl) rfl (fun K hK => ?_)
      go_simp
      refine hK.out _ _ (fun _ => s2.out) ?_
      clear hK K
      try simp only [Act.put, List.setIfInBounds_toArray, List.set_cons_zero, List.set_cons_succ]
      refine E_one 18 (by kernel_rfl) rfl (fun K hK => ?_)
      refine step_append_eq1 rfl (.tmp 11) (.tmp 28) 59 rfl _ _ _ w9 (by simp [Act.eval]) (by simp [Act.eval]) hap ?_
      refine hK.out _ _ (fun _ => s3.out) ?_
      clear hK K
      try simp only [Act.put, List.setIfInBounds_toArray, List.set_cons_zero, List.set_cons_succ]
      refine E_one 19 (by kernel_rfl) rfl (fun K hK => ?_)
      go_simp
      refine hK.out _ _ (fun h => absurd h (by decide)) ?_
      clear hK K
      try simp only [Act.put, List.setIfInBounds_toArray, List.set_cons_zero, List.set_cons_succ]
      refine E_done (by kernel_rfl) (NoPanic.normal ?_)
      clear hap s2 s3 s0
      go_wp2
      go_roundw
      case rel => exact ⟨i + 1, by go_num, by omega, hP9⟩
      case measure => simp [intOf]; omega
    · obtain rfl : i = l.length := by omega
      rw [List.take_length] at hP
      obtain ⟨A3, c3, rfl, hr⟩ := hP.row
      have ho := hP.2
      clear hP
      go_wp2
      go_ret
      exact ⟨A3, c3, rfl, hr, ho⟩
set_option maxRecDepth 20000 in
theorem neq63 (x : Ent) (W : World) : (binOp .neq 63 (.agg #[.string x.nm, .int .u16 x.num, .int .u8 x.kind]) (.agg #[.string x.nm, .int .u16 x.num, .int .u8 x.kind])).run Try.prog W = .ok (.bool false) W := by
  go_simp
set_option maxRecDepth 10000 in
set_option maxHeartbeats 4000000 in
theorem sameE_true (l : List Ent) (A A2 : Option Addr) (c c2 : Nat) (w : World) (h : RowE w A l c) (h2 : RowE w A2 l c2) (hn : l.length ≤ 100000) :
    Calls Try.prog 40 #[.slice A l.length c, .slice A2 l.length c2] w fun r w' => r = .returned (.bool true) ∧ Only (fun _ => False) w w' := by
  go_enter Try.func40, Try.ntmps40
  go_wp2
  go_loopw [5] (fun s5 wr => ∃ i : Nat, s5 = .int .i64 i ∧ i ≤ l.length ∧ Only (fun _ => False) w wr) (fun s5 _ => l.length - (intOf s5).toNat)
  case atStart => exact ⟨0, rfl, by omega, Only.refl _ _⟩
  case round =>
    obtain ⟨i, rfl, hi, ho⟩ := hrel
    by_cases hlt : i < l.length
    · obtain ⟨x, hx⟩ : ∃ x, l[i]? = some x := ⟨_, List.getElem?_eq_getElem hlt⟩
      obtain ⟨b, o, rfl, _, d0, d1, d2⟩ := (h.only ho (fun _ _ x => x)).lit hx
      obtain ⟨b2, o2, rfl, _, e0, e1, e2⟩ := (h2.only ho (fun _ _ x => x)).lit hx
      have i0 : (0 : Int) ≤ (i : Int) := by omega
      have i1 : (i : Int) < (l.length : Int) := by omega
      replace hx := Lib.hid hx
      go_wp2
      go_quiet (fail)
      have ho2 := ho.drewN nq
      clear ho d0 d1 d2 e0 e1 e2
      generalize wr.drewN nq = wq at *
      go_wp2
      go_roundw
      case rel => exact ⟨i + 1, by go_num, by omega, ho2⟩
      case measure => simp [intOf]; omega
    · obtain rfl : i = l.length := by omega
      go_wp2
      go_ret
      exact ⟨rfl, ho⟩
def greatE (l : List Ent) : Bool := decide (100 < l.length) || l.any fun e => decide (300 < e.nm.size)
set_option maxRecDepth 10000 in
set_option maxHeartbeats 4000000 in
theorem greatE_any (l : List Ent) (A : Option Addr) (c : Nat) (w : World) (h : RowE w A l c) :
    Calls Try.prog 33 #[.slice A l.length c] w fun r w' => r = .returned (.bool (greatE l)) ∧ w = w' := by
  by_cases h100 : 100 < l.length
  · have hd : greatE l = true := by unfold greatE; rw [decide_eq_true h100]; rfl
    replace hd := Lib.hid hd
    have i0 : (100 : Int) < (l.length : Int) := by omega
    go_enter Try.func33, Try.ntmps33
    go_wp2
    go_ret
    exact ⟨by rw [hd.out]; rfl, rfl⟩
  · have hd : greatE l = l.any fun e => decide (300 < e.nm.size) := by unfold greatE; rw [decide_eq_false h100]; rfl
    replace hd := Lib.hid hd
    have i0 : ¬ (100 : Int) < (l.length : Int) := by omega
    go_enter Try.func33, Try.ntmps33
    go_wp2
    go_loop [3] (fun s3 => ∃ i : Nat, s3 = .int .i64 i ∧ i ≤ l.length ∧ (l.any fun e => decide (300 < e.nm.size)) = ((l.drop i).any fun e => decide (300 < e.nm.size))) (fun s3 => l.length - (intOf s3).toNat)
    case atStart => exact ⟨0, rfl, by omega, rfl⟩
    case round =>
      obtain ⟨i, rfl, hi, hr⟩ := hrel
      by_cases hlt : i < l.length
      · obtain ⟨x, hx⟩ : ∃ x, l[i]? = some x := ⟨_, List.getElem?_eq_getElem hlt⟩
        obtain ⟨b, o, rfl, _, d0, d1, d2⟩ := h.lit hx
        have hdr : l.drop i = x :: l.drop (i + 1) := by
          rw [List.drop_eq_getElem_cons hlt]
          rw [List.getElem?_eq_getElem hlt] at hx
          cases hx; rfl
        rw [hdr, List.any_cons] at hr
        have j0 : (0 : Int) ≤ (i : Int) := by omega
        have j1 : (i : Int) < (l.length : Int) := by omega
        clear hdr hx
        by_cases hg : 300 < x.nm.size
        · rw [decide_eq_true hg, Bool.true_or] at hr
          have hg' : (300 : Int) < (x.nm.size : Int) := by omega
          have hd2 := Lib.hid (hd.out.trans hr)
          clear hr
          go_wp2
          go_ret
          exact ⟨by rw [hd2.out]; rfl, rfl⟩
        · rw [decide_eq_false hg, Bool.false_or] at hr
          have hg' : ¬ (300 : Int) < (x.nm.size : Int) := by omega
          replace hr := Lib.hid hr
          go_wp2
          go_round
          case rel => exact ⟨i + 1, by go_num, by omega, hr.out⟩
          case measure => simp [intOf]; omega
      · obtain rfl : i = l.length := by omega
        rw [List.drop_length] at hr
        have hd2 := Lib.hid (hd.out.trans hr)
        clear hr
        go_wp2
        go_ret
        exact ⟨by rw [hd2.out]; rfl, rfl⟩
end Go.Proofs.Ytnclappdokhciaa

