/-
  The reference's Sum (func 10).
-/
import Derived.Test.YtpmikgbdicokhaaDoorR3
import Derived.Test.YtpmikgbdicokhaaDoorR4
namespace Go.Proofs.YtpmikgbdicokhaaDoor
open Go.RowKit
set_option linter.unusedVariables false

set_option maxRecDepth 10000 in
set_option maxHeartbeats 2000000 in
theorem rsum_any (A : Option Addr) (bs : List Nat) (cb : Nat) (w : World) (hl : ∀ x ∈ bs, x < 256) (hR : Reads w w.heap.size A bs.length (bs.map ub)) (hA : A = none → bs.length = 0) (hn : bs.length ≤ 1000000) :
    Calls Tryd.prog 10 #[.slice A bs.length cb] w fun e w' => e = .returned (.agg (tab 32 fun i => ub (dby (sha bs) i))) ∧ Only (fun _ => False) w w' := by
  go_enter Tryd.func10, Tryd.ntmps10
  have hT := (Tab.new w 24 32 (fun _ => ub 0)).alloc (.cells #[.int .u32 1779033703, .int .u32 3144134277, .int .u32 1013904242, .int .u32 2773480762, .int .u32 1359893119, .int .u32 2600822924, .int .u32 528734635, .int .u32 1541459225] 36)
  have hb := Blk.new (w.alloc (.cells (tab 32 fun _ => ub 0) 24)) 36 #[.int .u32 1779033703, .int .u32 3144134277, .int .u32 1013904242, .int .u32 2773480762, .int .u32 1359893119, .int .u32 2600822924, .int .u32 528734635, .int .u32 1541459225]
  have ho := ((Only.refl (fun _ => False) w).alloc (.cells (tab 32 fun _ => ub 0) 24)).alloc (.cells #[.int .u32 1779033703, .int .u32 3144134277, .int .u32 1013904242, .int .u32 2773480762, .int .u32 1359893119, .int .u32 2600822924, .int .u32 528734635, .int .u32 1541459225] 36)
  rw [World.size_alloc] at hb
  rw [z24] at hT hb ho
  go_wp2_with fail
  revert hT hb ho
  generalize (w.alloc _).alloc _ = w1
  intro hT hb ho
  have hR1 := (hR.only (Nat.le_refl _) ho (fun _ _ x => x)).more ho.size
  refine (filled_any A bs cb w1 hR1 hA hn).mono ?_
  rintro e w2 ⟨v4, rfl, hP⟩
  have hfl := fill_length bs
  have hflt := fill_lt hl
  have hdiv : (fill bs).length % 64 = 0 := by omega
  have hsm : (fill bs).length ≤ 1000200 := by omega
  have hsh : sha bs = stAt (fill bs) ((fill bs).length / 64) := rfl
  replace hsh := Lib.hid hsh
  have hpos : 0 < (fill bs).length := by omega
  generalize fill bs = F at *
  clear hfl
  have hT2 := hT.only hP.only (fun x => x)
  have hb2 := hb.only hP.only (fun x => x)
  have ho2 := ho.trans hP.only
  have hr0 : w.heap.size < w1.heap.size := hT.lt
  have hS2 : Reads w2 w2.heap.size (some ⟨w.heap.size + 1, 0, none⟩) 8 (s8l (stAt F 0)) := ⟨rfl, fun _ => ⟨_, 0, rfl, hb2.lt, fun j u hu => by
    rw [Nat.zero_add, hb2.cell j]
    match j, hu with
    | 0, hu | 1, hu | 2, hu | 3, hu | 4, hu | 5, hu | 6, hu | 7, hu => cases hu; rfl
    | j + 8, hu => cases hu⟩⟩
  clear hT hb ho hb2
  obtain ⟨g4, c4, rfl, hc4, _, _, _⟩ := hP.at_ hpos
  go_wp2
  go_loopw [3, 5] (fun v t wr => ∃ (k a : Nat) (As : Option Addr) (c : Nat), a = 64 * k ∧ a ≤ F.length ∧ t = .int .i64 a ∧ v = .slice As 8 c ∧ 8 ≤ c ∧ Reads wr wr.heap.size As 8 (s8l (stAt F k)) ∧ PV w1 5 (F.map ub) F.length (.slice (some ⟨g4, 0, none⟩) F.length c4) wr ∧ Tab wr w.heap.size 24 32 (fun _ => ub 0) ∧ Only (fun _ => False) w wr) (fun _ t _ => F.length - (intOf t).toNat)
  case atStart => exact ⟨0, 0, _, 8, rfl, by omega, rfl, rfl, by omega, hS2, hP, hT2, ho2⟩
  case round =>
    obtain ⟨k, a, As, c, hak, haF, rfl, rfl, hc8, hS, hPF, hTr, hor⟩ := hrel
    clear hS2 hP hT2 ho2
    by_cases hlt : a < F.length
    · have ha64 : a + 64 ≤ F.length := by omega
      have hne : ¬ c4 = a := by omega
      have a0 : (0 : Int) ≤ (a : Int) := by omega
      have a1 : (a : Int) + 64 ≤ (c4 : Int) := by omega
      have a2 : IntKind.i64.wrap ((a : Int) + 64) = (a : Int) + 64 := IntWalk.i64_in _ (by omega)
      have a3 : ((a : Int) + 64).toNat - a = 64 := by omega
      have a4 : (a : Int) < F.length := by omega
      have a5 : ((a : Int) + 64).toNat = a + 64 := by omega
      have a6 : a + 64 - a = 64 := by omega
      have hpc : Piece wr g4 a (pc F k) := by
        obtain ⟨g, c', hv, _, _, hglt, hcell⟩ := hPF.at_ hpos
        cases hv
        refine ⟨hglt, pc_lt hflt k, fun i hi => ?_⟩
        refine hcell (a + i) _ ?_
        rw [List.getElem?_map, hak]
        unfold pc
        rw [List.getD_eq_getElem?_getD, List.getElem?_eq_getElem (show 64 * k + i < F.length by omega)]
        rfl
      have hst : stAt F (k + 1) = taken (stAt F k) (pc F k) := rfl
      replace hak := Lib.hid hak
      go_wp2_with fail
      with_reducible refine (rtake_any As c g4 a (c4 - a) (pc F k) (stAt F k) (stAt_ok F k) wr hS hpc (by omega) hc8).mono ?_
      rintro e w5 ⟨v5, rfl, hP5⟩
      obtain ⟨A5, c5, rfl, hA5, hc5, hown5, ho5⟩ := id hP5
      go_wp2
      go_roundw
      case rel => exact ⟨k + 1, a + 64, A5, c5, by have := hak.out; omega, by omega, by go_num, rfl, hc5, by rw [hst]; exact Reads.of_own hown5, hPF.next ho5, hTr.only ho5 (fun x => x), hor.trans ho5⟩
      case measure => simp [intOf]; omega
    · have hkF : k = F.length / 64 := by omega
      have a4 : ¬ (a : Int) < F.length := by omega
      obtain ⟨gs, os, rfl, hgs, hcS⟩ := hS.2 (by omega)
      have hS8 := stAt_ok F k
      have hsh' : sha bs = stAt F k := by rw [hkF]; exact hsh.out
      replace hsh' := Lib.hid hsh'
      clear hsh hPF hkF
      generalize stAt F k = S at *
      have hT6 := Tab.new wr 24 32 (fun _ => ub 0)
      have hTr6 := hTr.alloc (.cells (tab 32 fun _ => ub 0) 24)
      have ho6 := hor.alloc (.cells (tab 32 fun _ => ub 0) 24)
      have hc6 : ∀ i, i < 8 → (wr.alloc (.cells (tab 32 fun _ => ub 0) 24)).cell? ⟨gs, os + i, none⟩ = some (.int .u32 (S.nth i : Int)) := fun i hi =>
        (Blk.cell_only (a := ⟨gs, os + i, none⟩) ((Only.refl (fun _ => False) wr).alloc (.cells (tab 32 fun _ => ub 0) 24)) hgs (fun x => x)).trans (hcS i _ (s8l_get S hi))
      have hq : w.heap.size < wr.heap.size := hTr.lt
      have hgq : gs < wr.heap.size := hgs
      rw [z24] at hT6 hTr6 ho6 hc6
      go_wp2
      revert hT6 hTr6 ho6 hc6
      generalize hW7 : wr.alloc _ = w7
      intro hT6 hTr6 ho6 hc6
      clear hW7 hS hcS hTr hor
      generalize wr.heap.size = q at *
      go_loopw [7, 8, 9] (fun t _ _ wr' => ∃ (i : Nat), t = .int .i64 i ∧ i ≤ 32 ∧ Tab wr' q 24 32 (fun j => if j < i then ub (dby S j) else ub 0) ∧ Only (· = q) w7 wr') (fun t _ _ _ => 32 - (intOf t).toNat)
      case atStart => exact ⟨0, rfl, by omega, hT6.congr (by simp), Only.refl _ _⟩
      case round =>
        obtain ⟨i, rfl, hi, hTi, hoi⟩ := hrel
        by_cases hi32 : i < 32
        · have y := (Blk.cell_only (a := ⟨gs, os + i / 4, none⟩) hoi (show gs < w7.heap.size by have := hT6.lt; omega) (by show ¬ gs = q; omega)).trans (hc6 (i / 4) (by omega))
          have hnl := S8.nth_lt hS8 (show i / 4 < 8 by omega)
          have i0 : (0 : Int) ≤ (i : Int) / 4 := by omega
          have i1 : (i : Int) / 4 < 8 := by omega
          have i2 : ((i : Int) / 4).toNat = i / 4 := by omega
          have i3 : (i : Int).tdiv 4 = (i : Int) / 4 := Int.tdiv_eq_ediv_of_nonneg (by omega)
          have i4 : (i : Int).tmod 4 = (i : Int) % 4 := Int.tmod_eq_emod_of_nonneg (by omega)
          have i5 : (i : Int) < 32 := by omega
          have i6 : IntKind.i64.wrap ((i : Int) / 4) = (i : Int) / 4 := IntWalk.i64_in _ (by omega)
          have hd : dby S i = S.nth (i / 4) / 256 ^ (3 - i % 4) % 256 := rfl
          replace hd := Lib.hid hd
          generalize S.nth (i / 4) = x at *
          have z1 := hTi.cell i hi32
          have z2 := hTi.frozen i
          have hO := Lib.hid (And.intro hTi hoi)
          clear hTi hoi hc6
          go_wp2
          go_loopw [8, 9] (fun v t wr' => ∃ (m : Nat), t = .int .i64 m ∧ i % 4 ≤ m ∧ m ≤ 3 ∧ v = .int .u32 ((x / 256 ^ (m - i % 4) : Nat) : Int) ∧ wr' = wr) (fun _ t _ => 3 - (intOf t).toNat)
          case atStart => exact ⟨i % 4, rfl, by omega, by omega, by rw [Nat.sub_self, Nat.pow_zero, Nat.div_one], rfl⟩
          case round =>
            obtain ⟨m, rfl, hm1, hm3, rfl, rfl⟩ := hrel
            by_cases hm : m < 3
            · have hs : x / 256 ^ (m + 1 - i % 4) = x / 256 ^ (m - i % 4) / 256 := by rw [show m + 1 - i % 4 = (m - i % 4) + 1 by omega, Nat.pow_succ, ← Nat.div_div_eq_div_mul]
              have hlt2 : x / 256 ^ (m - i % 4) < 4294967296 := Nat.lt_of_le_of_lt (Nat.div_le_self _ _) hnl
              replace hs := Lib.hid hs
              generalize x / 256 ^ (m - i % 4) = u at *
              have n1 : IntKind.u32.wrap ((u : Int) / 256) = (u : Int) / 256 := IntWalk.u32_in _ (by omega)
              have n2 : (m : Int) < 3 := by omega
              go_wp2
              go_roundw
              case rel => exact ⟨m + 1, by go_num, by omega, by omega, by rw [hs.out]; rfl, by first | rfl | trivial⟩
              case measure => simp [intOf]; omega
            · obtain rfl : m = 3 := by omega
              have hlt2 : x / 256 ^ (3 - i % 4) < 4294967296 := Nat.lt_of_le_of_lt (Nat.div_le_self _ _) hnl
              generalize x / 256 ^ (3 - i % 4) = u at *
              have n1 : (u : Int).tmod 256 = (u : Int) % 256 := Int.tmod_eq_emod_of_nonneg (by omega)
              have n2 : IntKind.u8.wrap ((u : Int) % 256) = (u : Int) % 256 := IntWalk.u8_in _ (by omega)
              have n3 : (0 : Int) ≤ (i : Int) := by omega
              clear i0 i1 i2 i3 i4 i6
              go_wp2
              go_roundw
              case rel =>
                refine ⟨i + 1, by go_num, by omega, (hO.out.1.set_ i _).congr (fun j hj => ?_), hO.out.2.setCell (p := ⟨q, i, none⟩) (.inl rfl) _⟩
                unfold put
                by_cases hji : j = i
                · subst hji
                  rw [if_pos rfl, if_pos (by omega), hd.out]
                  rfl
                · rw [if_neg hji]
                  show (if j < i then ub _ else ub 0) = _
                  by_cases hjl : j < i
                  · rw [if_pos hjl, if_pos (by omega)]
                  · rw [if_neg hjl, if_neg (by omega)]
              case measure => simp [intOf]; omega
        · obtain rfl : i = 32 := by omega
          have ht3 : Tab wr q 24 32 (fun j => ub (dby S j)) := hTi.congr (fun j hj => by simp only [if_pos hj])
          have hTr8 := hTr6.only hoi (by omega)
          obtain ⟨w9, hst, ht9, ho9⟩ := store_tab (P := Tryd.prog) (fun i => ub (dby S i)) hTr8 (fun _ => rfl)
          have hf := (ho6.trans_of hoi (fun i hi e => by omega)).trans_of ho9 (fun i hi e => by omega)
          clear hTi hTr8 hTr6 hT6 hc6 ho6 hoi
          go_wp2_with (refine wpList_load_row rfl 24 (.tmp 6) rfl q rfl 24 (tab 32 fun i => ub (dby S i)) (0, 0) _ ht3 Tryd.underlying24 rfl (info24 _) ?_)
          refine bodyPost_ret (v := .agg (tab 32 fun i => ub (dby S i))) (results_cell_row rfl _ _ w.heap.size 24 (tab 32 fun i => ub (dby S i)) (0, 0) _ rfl ht9 Tryd.underlying24 rfl (info24 _)) rfl ⟨by rw [hsh'.out], hf⟩
end Go.Proofs.YtpmikgbdicokhaaDoor
