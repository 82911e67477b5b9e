/-
  The reference's Filled (func 16).
-/
import Derived.Test.YtpmikgbdicokhaaDoorPv
namespace Go.Proofs.YtpmikgbdicokhaaDoor
open Go.RowKit
set_option linter.unusedVariables false

/-- The last j of a number's bytes. -/
def tail8 (v : Nat) (j : Nat) : List Nat := (len8 v).drop (8 - j)
theorem tail8_next (v : Nat) {j : Nat} (hj : j < 8) : tail8 v (j + 1) = (v / 256 ^ j % 256) :: tail8 v j := by
  match j, hj with
  | 0, _ | 1, _ | 2, _ | 3, _ | 4, _ | 5, _ | 6, _ | 7, _ => simp [tail8, len8]
theorem tail8_all (v : Nat) : tail8 v 8 = len8 v := by simp [tail8]
theorem tail8_length (v : Nat) {j : Nat} (hj : j ≤ 8) : (tail8 v j).length = j := by
  simp [tail8, len8]; omega

/-- A byte ahead of a row. -/
theorem cons_any (wr : World) (x : Nat) (A : Option Addr) (j c : Nat) (ys : List Nat) (hR : Reads wr wr.heap.size A j (ys.map ub)) (hj : j ≤ 1000) : ∃ A2 c2 w', (Builtin.append_ #[22, 22] 22 #[.slice (some ⟨wr.heap.size, 0, none⟩) 1 1, .slice A j c]).run Tryd.prog (wr.alloc (.cells #[.int .u8 (x : Int)] 5)) = .ok (.slice A2 (j + 1) c2) w' ∧
    Reads w' w'.heap.size A2 (j + 1) ((x :: ys).map ub) ∧ Only (fun _ => False) wr w' := by
  obtain ⟨i5, hi, hi0, hi1, hi2⟩ := info5
  have ho : Only (fun _ => False) wr (wr.alloc (.cells #[.int .u8 (x : Int)] 5)) := (Only.refl _ wr).alloc _
  have hx : Reads (wr.alloc (.cells #[.int .u8 (x : Int)] 5)) (wr.alloc (.cells #[.int .u8 (x : Int)] 5)).heap.size (some ⟨wr.heap.size, 0, none⟩) 1 [ub x] := ⟨rfl, fun _ => ⟨wr.heap.size, 0, rfl, by simp, fun i u hu => by
    cases i with
    | zero => cases hu; exact (Blk.new wr 5 #[.int .u8 (x : Int)]).cell 0
    | succ i => cases hu⟩⟩
  rcases Nat.eq_zero_or_pos j with rfl | h0
  · obtain rfl : ys = [] := by
      have := hR.1
      exact List.eq_nil_of_length_eq_zero (by simpa using this)
    exact ⟨some ⟨wr.heap.size, 0, none⟩, 1, _, run_append_zero _ 22 22 5 i5 und22 hi (some ⟨wr.heap.size, 0, none⟩) A 1 1 c (Nat.le_refl _) (fun h => by cases h), hx, ho⟩
  · obtain ⟨v', w', hr, hown, hg⟩ := run_append_full (P := Tryd.prog) (wr.alloc (.cells #[.int .u8 (x : Int)] 5)) 22 22 5 i5 (.int .u8 0) 1 und22 hi hi0 hi1 hi2 rfl (some ⟨wr.heap.size, 0, none⟩) A 1 j c _ _ [ub x] (ys.map ub) (fun h => by cases h) hx (hR.only (Nat.le_refl _) ho (fun _ _ x => x)) ub_one h0 (by unfold maxLen; omega) (by omega)
    rw [Nat.add_comm 1 j] at hown
    obtain ⟨g, cap, hv, _, _⟩ := hown.form (by omega)
    subst hv
    exact ⟨_, cap, w', hr, Reads.of_own hown, ho.trans (Only.of_grown hg)⟩

set_option maxRecDepth 10000 in
set_option maxHeartbeats 2000000 in
theorem filled_any (A : Option Addr) (bs : List Nat) (cb : Nat) (w : World) (hR : Reads w w.heap.size A bs.length (bs.map ub)) (hA : A = none → bs.length = 0) (hn : bs.length ≤ 1000000) :
    Calls Tryd.prog 16 #[.slice A bs.length cb] w fun e w' => ∃ v, e = .returned v ∧ PV w 5 ((fill bs).map ub) (fill bs).length v w' := by
  obtain ⟨i5, hi, hi0, hi1, hi2⟩ := info5
  have h1 : ∃ v1 w1, (Builtin.append_ #[22, 22] 22 #[.slice none 0 0, .slice A bs.length cb]).run Tryd.prog w = .ok v1 w1 ∧ PV w 5 (bs.map ub) bs.length v1 w1 := by
    rcases Nat.eq_zero_or_pos bs.length with h0 | h0
    · obtain rfl : bs = [] := List.eq_nil_of_length_eq_zero h0
      exact ⟨.slice none 0 0, w, run_append_zero w 22 22 5 i5 und22 hi none A 0 0 cb (Nat.le_refl _) (fun _ => ⟨rfl, rfl⟩), PV.nil w 5⟩
    · have := (PV.nil w 5).app (P := Tryd.prog) (Only.refl _ w) i5 (.int .u8 0) 1 22 und22 hi hi0 hi1 hi2 rfl (by omega) A bs.length cb w.heap.size (bs.map ub) h0 hR ub_one (by omega)
      simpa using this
  obtain ⟨v1, w1, hap1, hP1⟩ := h1
  obtain ⟨v2, w2, hap2, hP2⟩ := hP1.one (P := Tryd.prog) i5 (.int .u8 0) 1 22 und22 hi hi0 hi1 hi2 rfl (by omega) (.int .u8 128) rfl (by omega)
  have hr56 : ∀ z, (bs.length + 1 + z) % 64 = 56 → z ≤ (119 - bs.length % 64) % 64 → z = (119 - bs.length % 64) % 64 := by intro z h1 h2; omega
  obtain ⟨A1, c1, rfl, _⟩ := id hP1
  obtain ⟨A2, c2, rfl, _⟩ := id hP2
  go_enter Tryd.func16, Tryd.ntmps16
  go_wp2_with (at_builtin; first | (refine wpList_append_eq1 rfl (.const (.slice none 0 0)) (.tmp 7) 22 rfl (.slice none 0 0) (.slice A bs.length cb) _ w1 (by simp [Act.eval]) (by simp [Act.eval]) hap1 ?_) | (refine wpList_append_eq1 rfl (.tmp 9) (.tmp 10) 22 rfl (.slice A1 bs.length c1) (.slice (some ⟨w1.heap.size, 0, none⟩) 1 1) _ w2 (by simp [Act.eval]) (by simp [Act.eval]) hap2 ?_))
  clear hap1 hap2 hP1
  go_loopw [3] (fun v wr => ∃ (z : Nat), z ≤ (119 - bs.length % 64) % 64 ∧ PV w 5 ((bs ++ [128] ++ List.replicate z 0).map ub) (bs.length + 1 + z) v wr) (fun v _ => match v with | .slice _ n _ => bs.length + 100 - n | _ => 0)
  case atStart => exact ⟨0, by omega, by rw [List.replicate_zero, List.append_nil, List.map_append]; exact hP2⟩
  case round =>
    obtain ⟨z, hz, hP⟩ := hrel
    clear hP2
    obtain ⟨A', c', rfl, _⟩ := id hP
    by_cases hm : (bs.length + 1 + z) % 64 = 56
    · obtain rfl := hr56 z hm hz
      generalize hzz : (119 - bs.length % 64) % 64 = z at *
      have hmi : ((bs.length : Int) + 1 + z) % 64 = 56 := by omega
      have hmt : ((bs.length : Int) + 1 + z).tmod 64 = 56 := by rw [Int.tmod_eq_emod_of_nonneg (by omega)]; exact hmi
      have hw8 : IntKind.u64.wrap ((bs.length : Int) * 8) = (bs.length : Int) * 8 := IntWalk.u64_in _ (by omega)
      have hvl : bs.length * 8 < 18446744073709551616 := by omega
      have hfl : (fill bs).length = bs.length + 1 + z + 8 := by rw [fill_length, hzz]; omega
      have hfe : bs ++ [128] ++ List.replicate z 0 ++ len8 (8 * bs.length) = fill bs := by
        unfold fill; rw [hzz, List.append_assoc, List.append_assoc]; rfl
      rw [Nat.mul_comm] at hfe
      replace hfe := Lib.hid hfe
      replace hfl := Lib.hid hfl
      clear hm hmi hr56 hw8
      have hw8 : IntKind.u64.wrap ((bs.length : Int) * 8) = (bs.length : Int) * 8 := IntWalk.u64_in _ (by omega)
      go_wp2
      go_loopw [4, 5, 6] (fun q v t wr => ∃ (j : Nat) (A5 : Option Addr) (c5 : Nat), t = .int .i64 j ∧ j ≤ 8 ∧ q = .int .u64 ((bs.length * 8 / 256 ^ j : Nat) : Int) ∧ v = .slice A5 j c5 ∧ Reads wr wr.heap.size A5 j ((tail8 (bs.length * 8) j).map ub) ∧ PV w 5 ((bs ++ [128] ++ List.replicate z 0).map ub) (bs.length + 1 + z) (.slice A' (bs.length + 1 + z) c') wr) (fun _ _ t _ => 8 - (intOf t).toNat)
      case atStart => exact ⟨0, none, 0, rfl, by omega, by simp, rfl, Reads.nil_ _ _ _, hP⟩
      case round =>
        obtain ⟨j, A5, c5, rfl, hj, rfl, rfl, hR5, hP5⟩ := hrel
        clear hP
        by_cases hj8 : j < 8
        · have htn := tail8_next (bs.length * 8) hj8
          have hq : bs.length * 8 / 256 ^ (j + 1) = bs.length * 8 / 256 ^ j / 256 := by rw [Nat.pow_succ, ← Nat.div_div_eq_div_mul]
          have hqlt : bs.length * 8 / 256 ^ j < 18446744073709551616 := Nat.lt_of_le_of_lt (Nat.div_le_self _ _) hvl
          replace htn := Lib.hid htn
          replace hq := Lib.hid hq
          generalize bs.length * 8 / 256 ^ j = y at *
          obtain ⟨A6, c6, w6, hap, hR6, ho6⟩ := cons_any wr (y % 256) A5 j c5 _ hR5 (by omega)
          have hap' : (Builtin.append_ #[22, 22] 22 #[.slice (some ⟨wr.heap.size, 0, none⟩) 1 1, .slice A5 j c5]).run Tryd.prog (wr.alloc (.cells #[.int .u8 ((y : Int) % 256)] 5)) = .ok (.slice A6 (j + 1) c6) w6 := hap
          have n1 : (y : Int).tmod 256 = (y : Int) % 256 := Int.tmod_eq_emod_of_nonneg (by omega)
          have n2 : IntKind.u8.wrap ((y : Int) % 256) = (y : Int) % 256 := IntWalk.u8_in _ (by omega)
          have n3 : IntKind.u64.wrap ((y : Int) / 256) = (y : Int) / 256 := IntWalk.u64_in _ (by omega)
          have hP6 := hP5.next ho6
          clear hap hR5 hP5
          go_wp2_with (at_builtin; refine wpList_append_eq1 rfl (.tmp 30) (.tmp 31) 22 rfl (.slice (some ⟨wr.heap.size, 0, none⟩) 1 1) (.slice A5 j c5) _ w6 (by simp [Act.eval]) (by simp [Act.eval]) hap' ?_)
          go_roundw
          case rel => exact ⟨j + 1, A6, c6, by go_num, by omega, by rw [hq.out]; rfl, rfl, by rw [htn.out]; exact hR6, hP6⟩
          case measure => simp [intOf]; omega
        · obtain rfl : j = 8 := by omega
          rw [tail8_all] at hR5
          obtain ⟨v', w', hap, hP'⟩ := hP5.app (P := Tryd.prog) (Only.refl _ wr) i5 (.int .u8 0) 1 22 und22 hi hi0 hi1 hi2 rfl (by omega) A5 8 c5 wr.heap.size _ (by omega) hR5 ub_one (by omega)
          rw [← List.map_append, hfe.out, ← hfl.out] at hP'
          go_wp2_with (at_builtin; refine wpList_append_eq1 rfl (.tmp 35) (.tmp 36) 22 rfl (.slice A' (bs.length + 1 + z) c') (.slice A5 8 c5) _ w' (by simp [Act.eval]) (by simp [Act.eval]) hap ?_)
          go_ret
          exact ⟨_, rfl, hP'⟩
    · have hmi : ¬ ((bs.length : Int) + 1 + z) % 64 = 56 := by omega
      have hmt : ¬ ((bs.length : Int) + 1 + z).tmod 64 = 56 := by rw [Int.tmod_eq_emod_of_nonneg (by omega)]; exact hmi
      have hz1 : z + 1 ≤ (119 - bs.length % 64) % 64 := by omega
      obtain ⟨v', w', hap, hP'⟩ := hP.one (P := Tryd.prog) i5 (.int .u8 0) 1 22 und22 hi hi0 hi1 hi2 rfl (by omega) (.int .u8 0) rfl (by omega)
      go_wp2_with (at_builtin; refine wpList_append_eq1 rfl (.tmp 16) (.tmp 17) 22 rfl (.slice A' (bs.length + 1 + z) c') (.slice (some ⟨_, 0, none⟩) 1 1) v' w' (by simp [Act.eval]) (by simp [Act.eval]) hap ?_)
      go_roundw
      case rel =>
        refine ⟨z + 1, hz1, ?_⟩
        rw [List.replicate_succ', ← List.append_assoc, List.map_append]
        exact hP'
      case measure =>
        obtain ⟨A9, c9, rfl, _⟩ := id hP'
        show bs.length + 100 - (bs.length + 1 + z + 1) < bs.length + 100 - (bs.length + 1 + z)
        omega
end Go.Proofs.YtpmikgbdicokhaaDoor
