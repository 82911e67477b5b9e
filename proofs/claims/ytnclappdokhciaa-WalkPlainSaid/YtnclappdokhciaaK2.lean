/-
  A toy's Entries, Target; the reference's entries, target (func 31, 114, 77, 78).
-/
import Derived.Test.YtnclappdokhciaaK1
import Derived.Test.YtnclappdokhciaaD15
namespace Go.Proofs.Ytnclappdokhciaa
open Go Go.RowKit
set_option linter.unusedVariables false
theorem thAt_none {ts : List Thg} {n : Nat} (h : n < 1 ∨ ts.length < n) : thAt ts n = none := by
  unfold thAt
  rcases h with h | h
  · rw [if_pos h]
  · split
    · rfl
    · exact List.getElem?_eq_none (by omega)
theorem thAt_some {ts : List Thg} {n : Nat} (h1 : ¬ n < 1) (h2 : ¬ ts.length < n) : ∃ t, thAt ts n = some t ∧ ts[n - 1]? = some t := by
  unfold thAt
  rw [if_neg h1]
  exact ⟨_, List.getElem?_eq_getElem (by omega), List.getElem?_eq_getElem (by omega)⟩
set_option maxRecDepth 20000 in
set_option maxHeartbeats 8000000 in
theorem entries_any (ts : List Thg) (A : Option Addr) (c g n : Nat) (links : Int) (w : World) (hb : Blk w g 45 #[.slice A ts.length c, .int .i64 links]) (h : RowT w A ts c) (hn : n < 65536) (hlen : ts.length ≤ 12) (hL : ∀ t ∈ ts, t.L.length ≤ 100000) :
    Calls Try.prog 31 #[.pointer (some ⟨g, 0, none⟩), .int .u16 n] w fun r w' => ∃ A' c', r = .returned (.tuple #[.slice A' (entsS ts n).1.length c', .int .i64 (entsS ts n).2]) ∧ RowE w' A' (entsS ts n).1 c' ∧ Only (fun _ => False) w w' := by
  have q0 := hb.cell 0
  have q1 := hb.cell 1
  simp only [List.getElem?_toArray, List.getElem?_cons_zero, List.getElem?_cons_succ] at q0 q1
  by_cases h1 : n < 1
  · have hd : entsS ts n = ([], 21) := by unfold entsS; rw [thAt_none (.inl h1)]
    have i0 : (n : Int) < 1 := by omega
    rw [hd]
    go_enter Try.func31, Try.ntmps31
    go_wp2
    go_ret2
    exact ⟨none, 0, rfl, RowE.nil _, Only.refl _ _⟩
  have i0 : ¬ (n : Int) < 1 := by omega
  by_cases h2 : ts.length < n
  · have hd : entsS ts n = ([], 21) := by unfold entsS; rw [thAt_none (.inr h2)]
    have i1 : (ts.length : Int) < (n : Int) := by omega
    rw [hd]
    go_enter Try.func31, Try.ntmps31
    go_wp2
    go_ret2
    exact ⟨none, 0, rfl, RowE.nil _, Only.refl _ _⟩
  have i1 : ¬ (ts.length : Int) < (n : Int) := by omega
  obtain ⟨t, ht, hti⟩ := thAt_some h1 h2
  obtain ⟨m, rfl⟩ : ∃ m, n = m + 1 := ⟨n - 1, by omega⟩
  obtain ⟨b, o, rfl, hbb, d0, d1, d2⟩ := h.lit hti
  have hrow := h.rows t (List.mem_of_getElem? hti)
  have hLt := hL t (List.mem_of_getElem? hti)
  obtain ⟨tA, tc, tL, tg, te⟩ := t
  simp only [Nat.add_sub_cancel] at d0 d1 d2 hrow hLt
  have j0 : (0 : Int) ≤ (m : Int) := by omega
  have j1 : (m : Int) < (ts.length : Int) := by omega
  have j2 : ((m + 1 : Nat) : Int) - 1 = (m : Int) := by omega
  have j3 : ((m : Int) + 1 - 1) % 65536 = (m : Int) := by omega
  have oa := (Only.refl (fun _ => False) w).alloc (.cells #[.slice tA tL.length tc, .string tg, .int .i64 te] 98)
  have hbx := Blk.new w 98 #[.slice tA tL.length tc, .string tg, .int .i64 te]
  have hd : entsS ts (m + 1) = if te = 0 then (tL, 0) else ([], te) := by unfold entsS; rw [ht]
  replace hd := Lib.hid hd
  clear ht hti hL
  by_cases he : te = 0
  · have hd2 := hd.out
    rw [if_pos he] at hd2
    replace hd2 := Lib.hid hd2
    clear hd
    have heb : (te != 0) = false := by rw [he]; rfl
    replace he := Lib.hid he
    go_enter Try.func31, Try.ntmps31
    go_wp2_with fail
    generalize hw1 : w.alloc _ = w1 at *
    generalize w.heap.size = gx at *
    have hrow1 := hrow.only oa (fun _ _ x => x)
    clear d0 d1 d2 q0 q1 hb h hrow
    go_loopw [7, 8] (fun s7 s8 wr => ∃ i : Nat, s8 = .int .i64 i ∧ i ≤ tL.length ∧ PE 63 w1 (tL.take i) s7 wr) (fun _ s8 _ => tL.length - (intOf s8).toNat)
    case atStart => exact ⟨0, rfl, by omega, PE.nil _ _⟩
    case round =>
      obtain ⟨i, rfl, hi, hP⟩ := hrel
      have hbr := hbx.only hP.2 (fun x => x)
      have p0 := hbr.cell 0
      simp only [List.getElem?_toArray, List.getElem?_cons_zero] at p0
      by_cases hlt : i < tL.length
      · obtain ⟨x, hx⟩ : ∃ x, tL[i]? = some x := ⟨_, List.getElem?_eq_getElem hlt⟩
        have htk := Lib.hid (takeE_snoc tL i x hx)
        obtain ⟨A3, c3, rfl, _⟩ := hP.row
        have e1 : (tL.take i).length = i := by rw [List.length_take]; omega
        have i5 : (0 : Int) ≤ (i : Int) := by omega
        have i6 : (i : Int) < (tL.length : Int) := by omega
        rw [e1] at hP ⊢
        go_wp2_with fail
        have od := (Only.refl (fun _ => False) wr).drew
        have hPd := hP.next od
        clear od hP p0 hbr
        generalize hwd : wr.drew = wd at *
        replace hwd := Lib.hid hwd
        have hSof : ∀ W, Only (fun _ => False) w1 W → ∃ b o, tA = some ⟨b, o, none⟩ ∧ ((W.cell? ⟨gx, 0, none⟩ = some (.slice (some ⟨b, o, none⟩) tL.length tc)) ∧ (W.cell? ⟨b, o + i * 3, none⟩ = some (.string x.nm) ∧ W.cell? ⟨b, o + i * 3 + 1, none⟩ = some (.int .u16 x.num) ∧ W.cell? ⟨b, o + i * 3 + 2, none⟩ = some (.int .u8 x.kind))) := fun W hW => by
          obtain ⟨b, o, e, _, q⟩ := (hrow1.only hW (fun _ _ x => x)).lit hx
          have hc := (hbx.only hW (fun x => x)).cell 0
          subst e
          exact ⟨b, o, rfl, hc, q⟩
        obtain ⟨b, o, rfl, s0⟩ := hSof wd hPd.2
        have hx9 : Blk (wd.alloc (.cells #[.string x.nm, .int .u16 x.num, .int .u8 x.kind] 63)) wd.heap.size 63 #[.string x.nm, .int .u16 x.num, .int .u8 x.kind] := Blk.new _ _ _
        have ob := (Only.refl (fun _ => False) wd).alloc (.cells #[.string x.nm, .int .u16 x.num, .int .u8 x.kind] 63)
        obtain ⟨A9, c9, w9, hap, hP9⟩ := hPd.one ty59 ob (by rw [e1]; omega) wd.heap.size x hx9
        obtain ⟨b', o', e, s2⟩ := hSof _ (hPd.2.trans ob)
        cases e
        obtain ⟨b', o', e, s3⟩ := hSof _ hP9.2
        cases e
        rw [e1] at hap hP9
        rw [← htk.out] at hP9
        replace s2 := Lib.hid s2
        replace s3 := Lib.hid s3
        replace e1 := Lib.hid e1
        replace hx := Lib.hid hx
        clear hSof hx9 ob hPd
        refine wp_region_noPanic ?_
        refine wp_region_E 22 (fun W => (W.cell? ⟨gx, 0, none⟩ = some (.slice (some ⟨b, o, none⟩) tL.length tc)) ∧ (W.cell? ⟨b, o + i * 3, none⟩ = some (.string x.nm) ∧ W.cell? ⟨b, o + i * 3 + 1, none⟩ = some (.int .u16 x.num) ∧ W.cell? ⟨b, o + i * 3 + 2, none⟩ = some (.int .u8 x.kind))) (by kernel_rfl) ?_
        rw [hwd.out]
        refine E_take (v := ?v0) 0 rfl (by kernel_rfl) (by kernel_rfl) (by kernel_rfl) (by kernel_rfl) (by kernel_rfl) (by kernel_rfl) (fun _ _ _ h => h) rfl s0 ?vh0 ?_
        case vh0 => intro W hW; obtain ⟨t3, t0, t1, t2⟩ := hW; go_simp; try with_reducible rfl
        simp only [Act.put, List.setIfInBounds_toArray, List.set_cons_zero, List.set_cons_succ]
        refine E_take (v := ?v1) 1 rfl (by kernel_rfl) (by kernel_rfl) (by kernel_rfl) (by kernel_rfl) (by kernel_rfl) (by kernel_rfl) (fun _ _ _ h => h) rfl s0 ?vh1 ?_
        case vh1 => intro W hW; obtain ⟨t3, t0, t1, t2⟩ := hW; go_simp; try with_reducible rfl
        simp only [Act.put, List.setIfInBounds_toArray, List.set_cons_zero, List.set_cons_succ]
        refine E_take (v := ?v2) 2 rfl (by kernel_rfl) (by kernel_rfl) (by kernel_rfl) (by kernel_rfl) (by kernel_rfl) (by kernel_rfl) (fun _ _ _ h => h) rfl s0 ?vh2 ?_
        case vh2 => intro W hW; obtain ⟨t3, t0, t1, t2⟩ := hW; go_simp; try with_reducible rfl
        simp only [Act.put, List.setIfInBounds_toArray, List.set_cons_zero, List.set_cons_succ]
        refine E_take (v := ?v3) 3 rfl (by kernel_rfl) (by kernel_rfl) (by kernel_rfl) (by kernel_rfl) (by kernel_rfl) (by kernel_rfl) (fun _ _ _ h => h) rfl s0 ?vh3 ?_
        case vh3 => intro W hW; obtain ⟨t3, t0, t1, t2⟩ := hW; go_simp; try with_reducible rfl
        simp only [Act.put, List.setIfInBounds_toArray, List.set_cons_zero, List.set_cons_succ]
        refine E_take (v := ?v4) 4 rfl (by kernel_rfl) (by kernel_rfl) (by kernel_rfl) (by kernel_rfl) (by kernel_rfl) (by kernel_rfl) (fun _ _ _ h => h) rfl s0 ?vh4 ?_
        case vh4 => intro W hW; obtain ⟨t3, t0, t1, t2⟩ := hW; go_simp; try with_reducible rfl
        simp only [Act.put, List.setIfInBounds_toArray, List.set_cons_zero, List.set_cons_succ]
        refine E_take (v := ?v5) 5 rfl (by kernel_rfl) (by kernel_rfl) (by kernel_rfl) (by kernel_rfl) (by kernel_rfl) (by kernel_rfl) (fun _ _ _ h => h) rfl s0 ?vh5 ?_
        case vh5 => intro W hW; obtain ⟨t3, t0, t1, t2⟩ := hW; go_simp; try with_reducible rfl
        simp only [Act.put, List.setIfInBounds_toArray, List.set_cons_zero, List.set_cons_succ]
        refine E_take (v := ?v6) 6 rfl (by kernel_rfl) (by kernel_rfl) (by kernel_rfl) (by kernel_rfl) (by kernel_rfl) (by kernel_rfl) (fun _ _ _ h => h) rfl s0 ?vh6 ?_
        case vh6 => intro W hW; obtain ⟨t3, t0, t1, t2⟩ := hW; go_simp; try with_reducible rfl
        simp only [Act.put, List.setIfInBounds_toArray, List.set_cons_zero, List.set_cons_succ]
        refine E_take (v := ?v7) 7 rfl (by kernel_rfl) (by kernel_rfl) (by kernel_rfl) (by kernel_rfl) (by kernel_rfl) (by kernel_rfl) (fun _ _ _ h => h) rfl s0 ?vh7 ?_
        case vh7 => intro W hW; obtain ⟨t3, t0, t1, t2⟩ := hW; go_simp; try with_reducible rfl
        simp only [Act.put, List.setIfInBounds_toArray, List.set_cons_zero, List.set_cons_succ]
        refine E_take (v := ?v8) 8 rfl (by kernel_rfl) (by kernel_rfl) (by kernel_rfl) (by kernel_rfl) (by kernel_rfl) (by kernel_rfl) (fun _ _ _ h => h) rfl s0 ?vh8 ?_
        case vh8 => intro W hW; obtain ⟨t3, t0, t1, t2⟩ := hW; go_simp; try with_reducible rfl
        simp only [Act.put, List.setIfInBounds_toArray, List.set_cons_zero, List.set_cons_succ]
        refine E_take (v := ?v9) 9 rfl (by kernel_rfl) (by kernel_rfl) (by kernel_rfl) (by kernel_rfl) (by kernel_rfl) (by kernel_rfl) (fun _ _ _ h => h) rfl s0 ?vh9 ?_
        case vh9 => intro W hW; obtain ⟨t3, t0, t1, t2⟩ := hW; go_simp; try with_reducible rfl
        simp only [Act.put, List.setIfInBounds_toArray, List.set_cons_zero, List.set_cons_succ]
        refine E_take (v := ?v10) 10 rfl (by kernel_rfl) (by kernel_rfl) (by kernel_rfl) (by kernel_rfl) (by kernel_rfl) (by kernel_rfl) (fun _ _ _ h => h) rfl s0 ?vh10 ?_
        case vh10 => intro W hW; obtain ⟨t3, t0, t1, t2⟩ := hW; go_simp; try with_reducible rfl
        simp only [Act.put, List.setIfInBounds_toArray, List.set_cons_zero, List.set_cons_succ]
        refine E_take (v := ?v11) 11 rfl (by kernel_rfl) (by kernel_rfl) (by kernel_rfl) (by kernel_rfl) (by kernel_rfl) (by kernel_rfl) (fun _ _ _ h => h) rfl s0 ?vh11 ?_
        case vh11 => intro W hW; obtain ⟨t3, t0, t1, t2⟩ := hW; go_simp; try with_reducible rfl
        simp only [Act.put, List.setIfInBounds_toArray, List.set_cons_zero, List.set_cons_succ]
        refine E_take (v := ?v12) 12 rfl (by kernel_rfl) (by kernel_rfl) (by kernel_rfl) (by kernel_rfl) (by kernel_rfl) (by kernel_rfl) (fun _ _ _ h => h) rfl s0 ?vh12 ?_
        case vh12 => intro W hW; obtain ⟨t3, t0, t1, t2⟩ := hW; go_simp; try with_reducible rfl
        simp only [Act.put, List.setIfInBounds_toArray, List.set_cons_zero, List.set_cons_succ]
        refine E_take (v := ?v13) 13 rfl (by kernel_rfl) (by kernel_rfl) (by kernel_rfl) (by kernel_rfl) (by kernel_rfl) (by kernel_rfl) (fun _ _ _ h => h) rfl s0 ?vh13 ?_
        case vh13 => intro W hW; obtain ⟨t3, t0, t1, t2⟩ := hW; go_simp; try with_reducible rfl
        simp only [Act.put, List.setIfInBounds_toArray, List.set_cons_zero, List.set_cons_succ]
        refine E_take (v := ?v14) 14 rfl (by kernel_rfl) (by kernel_rfl) (by kernel_rfl) (by kernel_rfl) (by kernel_rfl) (by kernel_rfl) (fun _ _ _ h => h) rfl s0 ?vh14 ?_
        case vh14 => intro W hW; obtain ⟨t3, t0, t1, t2⟩ := hW; go_simp; try with_reducible rfl
        simp only [Act.put, List.setIfInBounds_toArray, List.set_cons_zero, List.set_cons_succ]
        refine E_take (v := ?v15) 15 rfl (by kernel_rfl) (by kernel_rfl) (by kernel_rfl) (by kernel_rfl) (by kernel_rfl) (by kernel_rfl) (fun _ _ _ h => h) rfl s0 ?vh15 ?_
        case vh15 => intro W hW; obtain ⟨t3, t0, t1, t2⟩ := hW; go_simp; try with_reducible rfl
        simp only [Act.put, List.setIfInBounds_toArray, List.set_cons_zero, List.set_cons_succ]
        refine E_take (v := ?v16) 16 rfl (by kernel_rfl) (by kernel_rfl) (by kernel_rfl) (by kernel_rfl) (by kernel_rfl) (by kernel_rfl) (fun _ _ _ h => h) rfl s0 ?vh16 ?_
        case vh16 => intro W hW; obtain ⟨t3, t0, t1, t2⟩ := hW; go_simp; try with_reducible rfl
        simp only [Act.put, List.setIfInBounds_toArray, List.set_cons_zero, List.set_cons_succ]
        refine E_take (v := ?v17) 17 rfl (by kernel_rfl) (by kernel_rfl) (by kernel_rfl) (by kernel_rfl) (by kernel_rfl) (by kernel_rfl) (fun _ _ _ h => h) rfl s0 ?vh17 ?_
        case vh17 => intro W hW; obtain ⟨t3, t0, t1, t2⟩ := hW; go_simp; try with_reducible rfl
        simp only [Act.put, List.setIfInBounds_toArray, List.set_cons_zero, List.set_cons_succ]
        refine E_take (v := ?v18) 18 rfl (by kernel_rfl) (by kernel_rfl) (by kernel_rfl) (by kernel_rfl) (by kernel_rfl) (by kernel_rfl) (fun _ _ _ h => h) rfl s0 ?vh18 ?_
        case vh18 => intro W hW; obtain ⟨t3, t0, t1, t2⟩ := hW; go_simp; try with_reducible rfl
        simp only [Act.put, List.setIfInBounds_toArray, List.set_cons_zero, List.set_cons_succ]
        refine E_take (v := ?v19) 19 rfl (by kernel_rfl) (by kernel_rfl) (by kernel_rfl) (by kernel_rfl) (by kernel_rfl) (by kernel_rfl) (fun _ _ _ h => h) rfl s0 ?vh19 ?_
        case vh19 => intro W hW; obtain ⟨t3, t0, t1, t2⟩ := hW; go_simp; try with_reducible rfl
        simp only [Act.put, List.setIfInBounds_toArray, List.set_cons_zero, List.set_cons_succ]
        refine E_one 20 (by kernel_rfl) rfl (fun K hK => ?_)
        go_simp
        refine hK.out _ _ (fun _ => s2.out) ?_
        clear hK K
        try simp only [Act.put, List.setIfInBounds_toArray, List.set_cons_zero, List.set_cons_succ]
        refine E_one 21 (by kernel_rfl) rfl (fun K hK => ?_)
        refine step_append_eq1 rfl (.tmp 41) (.tmp 61) 59 rfl _ _ _ w9 (by simp [Act.eval]) (by simp [Act.eval]) hap ?_
        refine hK.out _ _ (fun _ => s3.out) ?_
        clear hK K
        try simp only [Act.put, List.setIfInBounds_toArray, List.set_cons_zero, List.set_cons_succ]
        refine E_one 22 (by kernel_rfl) rfl (fun K hK => ?_)
        go_simp
        refine hK.out _ _ (fun h => absurd h (by decide)) ?_
        clear hK K
        try simp only [Act.put, List.setIfInBounds_toArray, List.set_cons_zero, List.set_cons_succ]
        refine E_done (by kernel_rfl) (NoPanic.normal ?_)
        clear hap s2 s3 s0
        go_wp2
        go_roundw
        case rel => exact ⟨i + 1, by go_num, by omega, hP9⟩
        case measure => simp [intOf]; omega
      · obtain rfl : i = tL.length := by omega
        rw [List.take_length] at hP
        obtain ⟨A3, c3, rfl, hr⟩ := hP.row
        have ho := oa.trans hP.2
        have i7 : ¬ (tL.length : Int) < (tL.length : Int) := by omega
        clear hP hbr
        go_wp2
        go_ret2
        exact ⟨A3, c3, by rw [hd2.out]; rfl, by rw [hd2.out]; exact hr, ho⟩
  · have hd2 := hd.out
    rw [if_neg he] at hd2
    replace hd2 := Lib.hid hd2
    clear hd
    have heb : (te != 0) = true := by rw [bne, beq_false_of_ne he]; rfl
    replace he := Lib.hid he
    go_enter Try.func31, Try.ntmps31
    go_wp2_with fail
    go_quiet (fail)
    have ho := oa.drewN nq
    go_wp2
    go_ret2
    exact ⟨none, 0, by rw [hd2.out]; rfl, by rw [hd2.out]; exact RowE.nil _, ho⟩
set_option maxRecDepth 20000 in
set_option maxHeartbeats 8000000 in
theorem entriesR_any (ts : List Thg) (A : Option Addr) (c n : Nat) (w : World) (h : RowT w A ts c) (hn : n < 65536) (hlen : ts.length ≤ 12) (hG : ∀ t ∈ ts, t.e ≠ 0 → t.L = []) :
    Calls Try.prog 77 #[.slice A ts.length c, .int .u16 n] w fun r w' => ∃ A' c', r = .returned (.tuple #[.slice A' (entsS ts n).1.length c', .int .i64 (entsS ts n).2]) ∧ RowE w' A' (entsS ts n).1 c' ∧ Only (fun _ => False) w w' := by
  by_cases h1 : n < 1
  · have hd : entsS ts n = ([], 21) := by unfold entsS; rw [thAt_none (.inl h1)]
    have i0 : (n : Int) < 1 := by omega
    rw [hd]
    go_enter Try.func77, Try.ntmps77
    go_wp2
    go_ret2
    exact ⟨none, 0, rfl, RowE.nil _, Only.refl _ _⟩
  have i0 : ¬ (n : Int) < 1 := by omega
  by_cases h2 : ts.length < n
  · have hd : entsS ts n = ([], 21) := by unfold entsS; rw [thAt_none (.inr h2)]
    have i1 : (ts.length : Int) < (n : Int) := by omega
    rw [hd]
    go_enter Try.func77, Try.ntmps77
    go_wp2
    go_ret2
    exact ⟨none, 0, rfl, RowE.nil _, Only.refl _ _⟩
  have i1 : ¬ (ts.length : Int) < (n : Int) := by omega
  obtain ⟨t, ht, hti⟩ := thAt_some h1 h2
  obtain ⟨m, rfl⟩ : ∃ m, n = m + 1 := ⟨n - 1, by omega⟩
  obtain ⟨b, o, rfl, hbb, d0, d1, d2⟩ := h.lit hti
  have hrow := h.rows t (List.mem_of_getElem? hti)
  have hg := hG t (List.mem_of_getElem? hti)
  obtain ⟨tA, tc, tL, tg, te⟩ := t
  simp only [Nat.add_sub_cancel] at d0 d1 d2 hrow hg
  have j0 : (0 : Int) ≤ (m : Int) := by omega
  have j1 : (m : Int) < (ts.length : Int) := by omega
  have j3 : ((m : Int) + 1 - 1) % 65536 = (m : Int) := by omega
  have hd : entsS ts (m + 1) = (tL, te) := by
    unfold entsS
    rw [ht]
    simp only
    split
    · rename_i he; rw [he]
    · rename_i he; rw [hg he]
  replace hd := Lib.hid hd
  clear ht hti hg
  go_enter Try.func77, Try.ntmps77
  go_wp2
  go_quiet (fail)
  have ho := (Only.refl (fun _ => False) w).drewN nq
  go_wp2
  go_ret2
  exact ⟨tA, tc, by rw [hd.out]; rfl, by rw [hd.out]; exact hrow.only ho (fun _ _ x => x), ho⟩
set_option maxRecDepth 20000 in
set_option maxHeartbeats 8000000 in
theorem targetR_any (ts : List Thg) (A : Option Addr) (c n : Nat) (w : World) (h : RowT w A ts c) (hn : n < 65536) (hlen : ts.length ≤ 12) :
    Calls Try.prog 78 #[.slice A ts.length c, .int .u16 n] w fun r w' => ∃ s : ByteArray, r = .returned (.tuple #[.string s, .int .i64 (targS ts n).2]) ∧ ((targS ts n).2 = 0 → s = (targS ts n).1) ∧ Only (fun _ => False) w w' := by
  by_cases h1 : n < 1
  · have hd : targS ts n = (⟨#[]⟩, 21) := by unfold targS; rw [thAt_none (.inl h1)]
    have i0 : (n : Int) < 1 := by omega
    replace hd := Lib.hid hd
    go_enter Try.func78, Try.ntmps78
    go_wp2
    go_ret2
    exact ⟨⟨#[]⟩, by rw [hd.out]; rfl, fun _ => by rw [hd.out], Only.refl _ _⟩
  have i0 : ¬ (n : Int) < 1 := by omega
  by_cases h2 : ts.length < n
  · have hd : targS ts n = (⟨#[]⟩, 21) := by unfold targS; rw [thAt_none (.inr h2)]
    have i1 : (ts.length : Int) < (n : Int) := by omega
    replace hd := Lib.hid hd
    go_enter Try.func78, Try.ntmps78
    go_wp2
    go_ret2
    exact ⟨⟨#[]⟩, by rw [hd.out]; rfl, fun _ => by rw [hd.out], Only.refl _ _⟩
  have i1 : ¬ (ts.length : Int) < (n : Int) := by omega
  obtain ⟨t, ht, hti⟩ := thAt_some h1 h2
  obtain ⟨m, rfl⟩ : ∃ m, n = m + 1 := ⟨n - 1, by omega⟩
  obtain ⟨b, o, rfl, hbb, d0, d1, d2⟩ := h.lit hti
  obtain ⟨tA, tc, tL, tg, te⟩ := t
  simp only [Nat.add_sub_cancel] at d0 d1 d2
  have j0 : (0 : Int) ≤ (m : Int) := by omega
  have j1 : (m : Int) < (ts.length : Int) := by omega
  have j3 : ((m : Int) + 1 - 1) % 65536 = (m : Int) := by omega
  have hd : (targS ts (m + 1)).2 = te ∧ (te = 0 → (targS ts (m + 1)).1 = tg) := by
    unfold targS
    rw [ht]
    simp only
    split
    · rename_i he; exact ⟨he.symm, fun _ => rfl⟩
    · rename_i he; exact ⟨rfl, fun e => absurd e he⟩
  replace hd := Lib.hid hd
  clear ht hti
  go_enter Try.func78, Try.ntmps78
  go_wp2
  go_quiet (fail)
  have ho := (Only.refl (fun _ => False) w).drewN nq
  go_wp2
  go_ret2
  exact ⟨tg, by rw [hd.out.1]; rfl, fun e => (hd.out.2 (hd.out.1 ▸ e)).symm, ho⟩
set_option maxRecDepth 20000 in
set_option maxHeartbeats 8000000 in
theorem target_any (ts : List Thg) (A : Option Addr) (c g n : Nat) (links : Nat) (w : World) (hb : Blk w g 45 #[.slice A ts.length c, .int .i64 links]) (h : RowT w A ts c) (hn : n < 65536) (hlen : ts.length ≤ 12) (hk : links ≤ 100000) :
    Calls Try.prog 114 #[.pointer (some ⟨g, 0, none⟩), .int .u16 n] w fun r w' => r = .returned (.tuple #[.string (targS ts n).1, .int .i64 (targS ts n).2]) ∧ Blk w' g 45 #[.slice A ts.length c, .int .i64 (links + 1 : Nat)] ∧ Only (fun k => k = g) w w' := by
  have q0 := hb.cell 0
  have q1 := hb.cell 1
  simp only [List.getElem?_toArray, List.getElem?_cons_zero, List.getElem?_cons_succ] at q0 q1
  have q2 := hb.frozen 1
  have kw : IntKind.i64.wrap ((links : Int) + 1) = (links : Int) + 1 := by rw [IntKind.wrap_i64]; omega
  have hb1 : Blk (w.setCell ⟨g, 1, none⟩ (.int .i64 ((links : Int) + 1))) g 45 #[.slice A ts.length c, .int .i64 ((links : Int) + 1)] := by
    have := hb.set_ 1 (.int .i64 ((links : Int) + 1))
    simpa using this
  have ho1 : Only (fun k => k = g) w (w.setCell ⟨g, 1, none⟩ (.int .i64 ((links : Int) + 1))) := (Only.refl (fun k => k = g) w).setCell (p := ⟨g, 1, none⟩) (.inl rfl) _
  have h9 := h.apart hb (by intro i s; match i with | 0 => simp | 1 => simp | i + 2 => simp) ho1
  by_cases h1 : n < 1
  · have hd : targS ts n = (⟨#[]⟩, 21) := by unfold targS; rw [thAt_none (.inl h1)]
    have i0 : (n : Int) < 1 := by omega
    rw [hd]
    go_enter Try.func114, Try.ntmps114
    go_wp2
    go_ret2
    exact ⟨rfl, hb1, ho1⟩
  have i0 : ¬ (n : Int) < 1 := by omega
  have p0 := hb1.cell 0
  have p1 := hb1.cell 1
  simp only [List.getElem?_toArray, List.getElem?_cons_zero, List.getElem?_cons_succ] at p0 p1
  by_cases h2 : ts.length < n
  · have hd : targS ts n = (⟨#[]⟩, 21) := by unfold targS; rw [thAt_none (.inr h2)]
    have i1 : (ts.length : Int) < (n : Int) := by omega
    replace hd := Lib.hid hd
    replace hb1 := Lib.hid hb1
    go_enter Try.func114, Try.ntmps114
    go_wp2
    go_ret2
    exact ⟨by rw [hd.out]; rfl, hb1.out, ho1⟩
  have i1 : ¬ (ts.length : Int) < (n : Int) := by omega
  obtain ⟨t, ht, hti⟩ := thAt_some h1 h2
  obtain ⟨m, rfl⟩ : ∃ m, n = m + 1 := ⟨n - 1, by omega⟩
  obtain ⟨b, o, rfl, hbb, d0, d1, d2⟩ := h9.lit hti
  obtain ⟨tA, tc, tL, tg, te⟩ := t
  simp only [Nat.add_sub_cancel] at d0 d1 d2
  have j0 : (0 : Int) ≤ (m : Int) := by omega
  have j1 : (m : Int) < (ts.length : Int) := by omega
  have j3 : ((m : Int) + 1 - 1) % 65536 = (m : Int) := by omega
  have hd : targS ts (m + 1) = if te = 0 then (tg, 0) else (⟨#[]⟩, te) := by unfold targS; rw [ht]
  replace hb1 := Lib.hid hb1
  clear ht hti h9 h hb
  by_cases he : te = 0
  · rw [if_pos he] at hd
    have heb : (te != 0) = false := by rw [he]; rfl
    replace he := Lib.hid he
    replace hd := Lib.hid hd
    go_enter Try.func114, Try.ntmps114
    go_wp2
    go_ret2
    exact ⟨by rw [hd.out]; rfl, hb1.out, ho1⟩
  · rw [if_neg he] at hd
    have heb : (te != 0) = true := by rw [bne, beq_false_of_ne he]; rfl
    replace he := Lib.hid he
    replace hd := Lib.hid hd
    go_enter Try.func114, Try.ntmps114
    go_wp2_with fail
    go_quiet (fail)
    have hb2 := Lib.hid (hb1.out.drewN nq)
    have ho2 := ho1.drewN nq
    go_wp2
    go_ret2
    exact ⟨by rw [hd.out]; rfl, hb2.out, ho2⟩
end Go.Proofs.Ytnclappdokhciaa

