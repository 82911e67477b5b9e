/-
  The reference's numbers of a piece (func 21).
-/
import Derived.Test.YtpmikgbdicokhaaDoorPv
namespace Go.Proofs.YtpmikgbdicokhaaDoor
open Go.RowKit
set_option linter.unusedVariables false

/-- j bytes of number k. -/
def wv (B : Nat → Nat) (k : Nat) : Nat → Nat
  | 0 => 0
  | j + 1 => wv B k j * 256 + B (4 * k + j)
theorem wv_lt {B : Nat → Nat} (hB : ∀ i, B i < 256) (k : Nat) : ∀ j, wv B k j < 256 ^ j
  | 0 => by simp [wv]
  | j + 1 => by
    have := wv_lt hB k j
    have := hB (4 * k + j)
    rw [wv, Nat.pow_succ]
    omega
theorem wv_word (B : Nat → Nat) (k : Nat) : wv B k 4 = word B k := by
  simp only [wv, word, Nat.add_zero]
  omega

theorem cf23 : ∀ (args : Array Value) (w : World), (callFunc 23 args).run Tryd.prog w = .ok (.enter 23 args) w := fun args w => by kernel_rfl
theorem cf27 : ∀ (args : Array Value) (w : World), (callFunc 27 args).run Tryd.prog w = .ok (.enter 27 args) w := fun args w => by kernel_rfl
theorem turned_at (x n : Nat) (N : Int) (hN : N = (n : Int)) (hx : x < 4294967296) (hn : n ≤ 31) : ∀ w, Calls Tryd.prog 23 #[.int .u32 (x : Int), .int .i64 N] w fun e w' => e = .returned (.int .u32 (rot n x : Int)) ∧ w = w' := by
  subst hN; exact turned_any x n hx hn
theorem moved_at (x n : Nat) (N M : Int) (hN : N = (n : Int)) (hM : M = ((2 ^ n : Nat) : Int)) (hx : x < 4294967296) (hn : n ≤ 31) : ∀ w, Calls Tryd.prog 27 #[.int .u32 (x : Int), .int .i64 N] w fun e w' => e = .returned (.int .u32 ((x : Int) / M)) ∧ w = w' := by
  subst hN; subst hM; intro w
  rw [← Int.natCast_ediv]
  exact moved_any x n hx hn w
theorem wsu (B : Nat → Nat) {i k : Nat} (h : i < k) : ((ws B k).map uw)[i]? = some (uw (wn B i)) := by
  have hl : i < (ws B k).length := by rw [ws_length]; exact h
  have := ws_get B h
  rw [List.getD_eq_getElem?_getD, List.getElem?_eq_getElem hl] at this
  rw [List.getElem?_map, List.getElem?_eq_getElem hl]
  show some (uw _) = some (uw (nextw B (ws B i)))
  rw [← this]
  rfl

set_option maxRecDepth 10000 in
set_option maxHeartbeats 2000000 in
theorem rnum_any (bb bo cb : Nat) (B : Nat → Nat) (w : World) (hp : Piece w bb bo B) (hcb : 64 ≤ cb) : Calls Tryd.prog 21 #[.slice (some ⟨bb, bo, none⟩) 64 cb] w fun e w' => ∃ v, e = .returned v ∧ PV w 36 ((ws B 64).map uw) 64 v w' := by
  obtain ⟨i36, hi, hi0, hi1, hi2⟩ := info36
  go_enter Tryd.func21, Tryd.ntmps21
  go_wp2
  go_loopw [3, 4, 5, 6] (fun v t _ _ wr => ∃ (k : Nat), t = .int .i64 k ∧ k ≤ 16 ∧ PV w 36 ((ws B k).map uw) k v wr) (fun _ t _ _ _ => 16 - (intOf t).toNat)
  case atStart => exact ⟨0, rfl, by omega, PV.nil w 36⟩
  case round =>
    obtain ⟨k, rfl, hk, hP⟩ := hrel
    by_cases hlt : k < 16
    · obtain ⟨A, c, rfl, _⟩ := id hP
      have k0 : (k : Int) < 16 := by omega
      go_wp2
      go_loopw [5, 6] (fun v t wr' => ∃ (j : Nat), t = .int .i64 j ∧ j ≤ 4 ∧ v = .int .u32 (wv B k j : Int) ∧ wr' = wr) (fun _ t _ => 4 - (intOf t).toNat)
      case atStart => exact ⟨0, rfl, by omega, rfl, rfl⟩
      case round =>
        obtain ⟨j, rfl, hj, rfl, rfl⟩ := hrel
        by_cases hj4 : j < 4
        · have hp' := hp.only hP.only (fun x => x)
          have y := hp'.2.2 (4 * k + j) (by omega)
          have hb := hp'.2.1 (4 * k + j)
          have hw := wv_lt hp'.2.1 k j
          have hw4 : wv B k j < 16777216 := Nat.lt_of_lt_of_le hw (Nat.pow_le_pow_right (by omega) (show j ≤ 3 by omega))
          have hs : wv B k (j + 1) = wv B k j * 256 + B (4 * k + j) := rfl
          generalize wv B k j = x at *
          generalize B (4 * k + j) = u at *
          replace hs := Lib.hid hs
          clear hp' hw
          have e1 : IntKind.i64.wrap (4 * (k : Int)) = 4 * (k : Int) := IntWalk.i64_in _ (by omega)
          have e2 : IntKind.i64.wrap (4 * (k : Int) + j) = 4 * (k : Int) + j := IntWalk.i64_in _ (by omega)
          have e3 : (0 : Int) ≤ 4 * (k : Int) + j := by omega
          have e4 : 4 * (k : Int) + j < 64 := by omega
          have e5 : (4 * (k : Int) + j).toNat = 4 * k + j := by omega
          have e6 : IntKind.u32.wrap ((x : Int) * 256) = (x : Int) * 256 := IntWalk.u32_in _ (by omega)
          have e7 : IntKind.u32.wrap ((x : Int) * 256 + u) = (x : Int) * 256 + u := IntWalk.u32_in _ (by omega)
          go_wp2
          go_roundw
          case rel => exact ⟨j + 1, by go_num, by omega, by rw [hs.out]; rfl, by first | rfl | trivial⟩
          case measure => simp [intOf]; omega
        · obtain rfl : j = 4 := by omega
          rw [wv_word]
          have hws : ws B (k + 1) = ws B k ++ [word B k] := by rw [ws]; congr 2; exact wn_low B k (by omega)
          obtain ⟨v', w', hap, hP'⟩ := hP.one (P := Tryd.prog) i36 (.int .u32 0) 4 37 und37 hi hi0 hi1 hi2 rfl (by omega) (uw (word B k)) rfl (by omega)
          unfold uw at hap
          go_wp2_with (at_builtin; refine wpList_append_eq1 rfl (.tmp 29) (.tmp 31) 37 rfl (.slice A k c) (.slice (some ⟨_, 0, none⟩) 1 1) v' w' (by simp [Act.eval]) (by simp [Act.eval]) hap ?_)
          go_roundw
          case rel => exact ⟨k + 1, by go_num, by omega, by rw [hws, List.map_append]; exact hP'⟩
          case measure => simp [intOf]; omega
    · obtain rfl : k = 16 := by omega
      rw [show ((16 : Nat) : Int) = 16 from rfl]
      go_wp2
      go_loopw [3, 7, 8, 9] (fun v t _ _ wr => ∃ (k : Nat), t = .int .i64 k ∧ 16 ≤ k ∧ k ≤ 64 ∧ PV w 36 ((ws B k).map uw) k v wr) (fun _ t _ _ _ => 64 - (intOf t).toNat)
      case atStart => exact ⟨16, rfl, by omega, by omega, hP⟩
      case round =>
        obtain ⟨k, rfl, hk16, hk64, hP⟩ := hrel
        by_cases hlt : k < 64
        · obtain ⟨g, c, rfl, hc, hg, hglt, hcell⟩ := hP.at_ (by omega)
          have hB := hp.2.1
          have c15 := hcell (k - 15) _ (wsu B (show k - 15 < k by omega))
          have c2 := hcell (k - 2) _ (wsu B (show k - 2 < k by omega))
          have c16 := hcell (k - 16) _ (wsu B (show k - 16 < k by omega))
          have c7 := hcell (k - 7) _ (wsu B (show k - 7 < k by omega))
          have l15 := wn_lt B hB (k - 15)
          have l2 := wn_lt B hB (k - 2)
          have l16 := wn_lt B hB (k - 16)
          have l7 := wn_lt B hB (k - 7)
          have hws : ws B (k + 1) = ws B k ++ [wn B k] := rfl
          have HW := wn_high B k hk16
          clear hcell
          generalize wn B (k - 15) = x15 at c15 l15 HW
          generalize wn B (k - 2) = x2 at c2 l2 HW
          generalize wn B (k - 16) = x16 at c16 l16 HW
          generalize wn B (k - 7) = x7 at c7 l7 HW
          unfold uw at c15 c2 c16 c7
          have v15 : IntKind.i64.wrap ((k : Int) - 15) = (k : Int) - 15 := IntWalk.i64_in _ (by omega)
          have v2 : IntKind.i64.wrap ((k : Int) - 2) = (k : Int) - 2 := IntWalk.i64_in _ (by omega)
          have v16 : IntKind.i64.wrap ((k : Int) - 16) = (k : Int) - 16 := IntWalk.i64_in _ (by omega)
          have v7 : IntKind.i64.wrap ((k : Int) - 7) = (k : Int) - 7 := IntWalk.i64_in _ (by omega)
          have g15 : (0 : Int) ≤ (k : Int) - 15 := by omega
          have g2 : (0 : Int) ≤ (k : Int) - 2 := by omega
          have g16 : (0 : Int) ≤ (k : Int) - 16 := by omega
          have g7 : (0 : Int) ≤ (k : Int) - 7 := by omega
          have u15 : (k : Int) - 15 < k := by omega
          have u2 : (k : Int) - 2 < k := by omega
          have u16 : (k : Int) - 16 < k := by omega
          have u7 : (k : Int) - 7 < k := by omega
          have t15 : ((k : Int) - 15).toNat = k - 15 := by omega
          have t2 : ((k : Int) - 2).toNat = k - 2 := by omega
          have t16 : ((k : Int) - 16).toNat = k - 16 := by omega
          have t7 : ((k : Int) - 7).toNat = k - 7 := by omega
          have kl : (k : Int) < 64 := by omega
          have g16' : (16 : Int) ≤ (k : Int) := by omega
          have g7' : (7 : Int) ≤ (k : Int) := by omega
          have g15' : (15 : Int) ≤ (k : Int) := by omega
          have g2' : (2 : Int) ≤ (k : Int) := by omega
          replace HW := Lib.hid HW
          replace hws := Lib.hid hws
          go_wp2
          go_quiet (fail)
          have hP5 := hP.next ((Only.refl (fun _ => False) wr).drewN nq)
          have d16 : (wr.drewN nq).cell? ⟨g, k - 16, none⟩ = some (.int .u32 x16) := c16
          have d7 : (wr.drewN nq).cell? ⟨g, k - 7, none⟩ = some (.int .u32 x7) := c7
          clear c15 c2 c16 c7 hP
          generalize wr.drewN nq = w5 at *
          have t7' := Lib.hid (turned_at x15 7 7 rfl l15 (by omega))
          have t18' := Lib.hid (turned_at x15 18 18 rfl l15 (by omega))
          have t17' := Lib.hid (turned_at x2 17 17 rfl l2 (by omega))
          have t19' := Lib.hid (turned_at x2 19 19 rfl l2 (by omega))
          have m3' := Lib.hid (moved_at x15 3 3 8 rfl rfl l15 (by omega))
          have m10' := Lib.hid (moved_at x2 10 10 1024 rfl rfl l2 (by omega))
          have hEq := Lib.hid (sched_sum x16 x15 x7 x2 l15 l2)
          obtain ⟨v', w', hap, hP'⟩ := (hP5.next (Only.refl (fun _ => False) w5).drew).one (P := Tryd.prog) i36 (.int .u32 0) 4 37 und37 hi hi0 hi1 hi2 rfl (by omega) (.int .u32 (((((x16 : Int) + bits .xor .u32 (bits .xor .u32 (rot 7 x15 : Nat) (rot 18 x15 : Nat)) ((x15 : Int) / 8)) % 4294967296 + (x7 : Int)) % 4294967296 + bits .xor .u32 (bits .xor .u32 (rot 17 x2 : Nat) (rot 19 x2 : Nat)) ((x2 : Int) / 1024)) % 4294967296)) rfl (by omega)
          have hr := Lib.hid hP'
          clear hP'
          go_wp2
          have hkeep := (hP5.next (Only.refl (fun _ => False) w5).drew).kept (P := Tryd.prog) ((Only.refl _ _).alloc (.cells #[.int .u32 (((((x16 : Int) + bits .xor .u32 (bits .xor .u32 (rot 7 x15 : Nat) (rot 18 x15 : Nat)) ((x15 : Int) / 8)) % 4294967296 + (x7 : Int)) % 4294967296 + bits .xor .u32 (bits .xor .u32 (rot 17 x2 : Nat) (rot 19 x2 : Nat)) ((x2 : Int) / 1024)) % 4294967296)] 36)) i36 (.int .u32 0) 4 37 und37 hi hi0 hi1 hi2 rfl (by omega) w5.drew.heap.size _ ((Blk.new w5.drew 36 _).cell 0) rfl (by omega) v' w' hap
          have hg5 : g < w5.heap.size := by obtain ⟨g', c', hv, _, _, h, _⟩ := hP5.at_ (by omega); cases hv; exact h
          have kp16 : w'.cell? ⟨g, k - 16, none⟩ = some (.int .u32 x16) := (hkeep (k - 16) (by omega)).trans ((Blk.cell_only (a := ⟨g, k - 16, none⟩) ((Only.refl (fun _ => False) w5.drew).alloc _) hg5 (fun x => x)).trans d16)
          have kp7 : w'.cell? ⟨g, k - 7, none⟩ = some (.int .u32 x7) := (hkeep (k - 7) (by omega)).trans ((Blk.cell_only (a := ⟨g, k - 7, none⟩) ((Only.refl (fun _ => False) w5.drew).alloc _) hg5 (fun x => x)).trans d7)
          clear hkeep hP5
          go_region_held3 (fun W => W.cell? ⟨g, k - 16, none⟩ = some (.int .u32 x16) ∧ W.cell? ⟨g, k - 7, none⟩ = some (.int .u32 x7)) (first | assumption | exact ⟨kp16, kp7⟩ | go_keep) (first | (refine step_append_eq1 rfl (.tmp 47) (.tmp 77) 37 rfl (.slice (some ⟨g, 0, none⟩) k c) (.slice (some ⟨w5.heap.size, 0, none⟩) 1 1) v' w' (by simp [Act.eval]) (by simp [Act.eval]) hap ?_) | (go_at_call 23; first | (with_reducible refine (t7'.out _).mono ?_; rintro e w' ⟨rfl, rfl⟩) | (with_reducible refine (t18'.out _).mono ?_; rintro e w' ⟨rfl, rfl⟩) | (with_reducible refine (t17'.out _).mono ?_; rintro e w' ⟨rfl, rfl⟩) | (with_reducible refine (t19'.out _).mono ?_; rintro e w' ⟨rfl, rfl⟩)) | (go_at_call 27; first | (with_reducible refine (m3'.out _).mono ?_; rintro e w' ⟨rfl, rfl⟩) | (with_reducible refine (m10'.out _).mono ?_; rintro e w' ⟨rfl, rfl⟩)))
          all_goals
            go_wp2
            go_roundw
            case rel =>
              refine ⟨k + 1, by go_num, by omega, by omega, ?_⟩
              rw [hws.out, List.map_append, HW.out]
              have h := hr.out
              rw [hEq.out] at h
              exact h
            case measure => simp [intOf]; omega
        · obtain rfl : k = 64 := by omega
          go_wp2
          go_ret
          exact ⟨_, rfl, hP⟩
end Go.Proofs.YtpmikgbdicokhaaDoor
