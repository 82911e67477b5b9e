import Derived.Test.YtpmikgbdicokhaaDoorW8
import Derived.Deep.WholeRow
import Derived.WalkKit
import Derived.WalkLawsBesides
import Derived.WalkSpells
import Derived.BigQuiet
import Derived.BigRegion
import Derived.Deep.QuietTactic
import Derived.Deep.RegionHeld3
import Derived.StillTailTactics
import Derived.Deep.LoopGhost
import Derived.Outline
import Derived.Lib.Hide
import Derived.Laws.IdiomStrings
import Derived.Stop.BytesEq
import Derived.Laws.BitsAllLaws
namespace Go.Proofs.YtpmikgbdicokhaaDoor
open Go.RowKit
set_option linter.unusedVariables false

/-- A digit. -/
def dig (n : Nat) : UInt8 := UInt8.ofNat (if n < 10 then 48 + n else 87 + n)
/-- The digits of k bytes. -/
def hexl (d : Nat → Nat) : Nat → List UInt8
  | 0 => []
  | k + 1 => hexl d k ++ [dig (d k / 16), dig (d k % 16)]
theorem hexl_length (d : Nat → Nat) (k : Nat) : (hexl d k).length = 2 * k := by
  induction k with
  | zero => rfl
  | succ k ih => simp [hexl, ih]; omega
def hexv (d : Nat → Nat) : Value := .string ⟨(hexl d 32).toArray⟩

theorem dig_index {n : Nat} (hn : n < 16) (w : World) : (Instr.index 9 (.string { data := #[48, 49, 50, 51, 52, 53, 54, 55, 56, 57, 97, 98, 99, 100, 101, 102] }) (.int .u8 ((n : Nat) : Int))).run Tryd.prog w = .ok (.int .u8 ((dig n).toNat : Int)) w := by
  have i0 : (Instr.index 9 (.string { data := #[48, 49, 50, 51, 52, 53, 54, 55, 56, 57, 97, 98, 99, 100, 101, 102] }) (.int .u8 ((0 : Nat) : Int))).run Tryd.prog w = .ok (.int .u8 ((dig 0).toNat : Int)) w := by kernel_rfl
  have i1 : (Instr.index 9 (.string { data := #[48, 49, 50, 51, 52, 53, 54, 55, 56, 57, 97, 98, 99, 100, 101, 102] }) (.int .u8 ((1 : Nat) : Int))).run Tryd.prog w = .ok (.int .u8 ((dig 1).toNat : Int)) w := by kernel_rfl
  have i2 : (Instr.index 9 (.string { data := #[48, 49, 50, 51, 52, 53, 54, 55, 56, 57, 97, 98, 99, 100, 101, 102] }) (.int .u8 ((2 : Nat) : Int))).run Tryd.prog w = .ok (.int .u8 ((dig 2).toNat : Int)) w := by kernel_rfl
  have i3 : (Instr.index 9 (.string { data := #[48, 49, 50, 51, 52, 53, 54, 55, 56, 57, 97, 98, 99, 100, 101, 102] }) (.int .u8 ((3 : Nat) : Int))).run Tryd.prog w = .ok (.int .u8 ((dig 3).toNat : Int)) w := by kernel_rfl
  have i4 : (Instr.index 9 (.string { data := #[48, 49, 50, 51, 52, 53, 54, 55, 56, 57, 97, 98, 99, 100, 101, 102] }) (.int .u8 ((4 : Nat) : Int))).run Tryd.prog w = .ok (.int .u8 ((dig 4).toNat : Int)) w := by kernel_rfl
  have i5 : (Instr.index 9 (.string { data := #[48, 49, 50, 51, 52, 53, 54, 55, 56, 57, 97, 98, 99, 100, 101, 102] }) (.int .u8 ((5 : Nat) : Int))).run Tryd.prog w = .ok (.int .u8 ((dig 5).toNat : Int)) w := by kernel_rfl
  have i6 : (Instr.index 9 (.string { data := #[48, 49, 50, 51, 52, 53, 54, 55, 56, 57, 97, 98, 99, 100, 101, 102] }) (.int .u8 ((6 : Nat) : Int))).run Tryd.prog w = .ok (.int .u8 ((dig 6).toNat : Int)) w := by kernel_rfl
  have i7 : (Instr.index 9 (.string { data := #[48, 49, 50, 51, 52, 53, 54, 55, 56, 57, 97, 98, 99, 100, 101, 102] }) (.int .u8 ((7 : Nat) : Int))).run Tryd.prog w = .ok (.int .u8 ((dig 7).toNat : Int)) w := by kernel_rfl
  have i8 : (Instr.index 9 (.string { data := #[48, 49, 50, 51, 52, 53, 54, 55, 56, 57, 97, 98, 99, 100, 101, 102] }) (.int .u8 ((8 : Nat) : Int))).run Tryd.prog w = .ok (.int .u8 ((dig 8).toNat : Int)) w := by kernel_rfl
  have i9 : (Instr.index 9 (.string { data := #[48, 49, 50, 51, 52, 53, 54, 55, 56, 57, 97, 98, 99, 100, 101, 102] }) (.int .u8 ((9 : Nat) : Int))).run Tryd.prog w = .ok (.int .u8 ((dig 9).toNat : Int)) w := by kernel_rfl
  have i10 : (Instr.index 9 (.string { data := #[48, 49, 50, 51, 52, 53, 54, 55, 56, 57, 97, 98, 99, 100, 101, 102] }) (.int .u8 ((10 : Nat) : Int))).run Tryd.prog w = .ok (.int .u8 ((dig 10).toNat : Int)) w := by kernel_rfl
  have i11 : (Instr.index 9 (.string { data := #[48, 49, 50, 51, 52, 53, 54, 55, 56, 57, 97, 98, 99, 100, 101, 102] }) (.int .u8 ((11 : Nat) : Int))).run Tryd.prog w = .ok (.int .u8 ((dig 11).toNat : Int)) w := by kernel_rfl
  have i12 : (Instr.index 9 (.string { data := #[48, 49, 50, 51, 52, 53, 54, 55, 56, 57, 97, 98, 99, 100, 101, 102] }) (.int .u8 ((12 : Nat) : Int))).run Tryd.prog w = .ok (.int .u8 ((dig 12).toNat : Int)) w := by kernel_rfl
  have i13 : (Instr.index 9 (.string { data := #[48, 49, 50, 51, 52, 53, 54, 55, 56, 57, 97, 98, 99, 100, 101, 102] }) (.int .u8 ((13 : Nat) : Int))).run Tryd.prog w = .ok (.int .u8 ((dig 13).toNat : Int)) w := by kernel_rfl
  have i14 : (Instr.index 9 (.string { data := #[48, 49, 50, 51, 52, 53, 54, 55, 56, 57, 97, 98, 99, 100, 101, 102] }) (.int .u8 ((14 : Nat) : Int))).run Tryd.prog w = .ok (.int .u8 ((dig 14).toNat : Int)) w := by kernel_rfl
  have i15 : (Instr.index 9 (.string { data := #[48, 49, 50, 51, 52, 53, 54, 55, 56, 57, 97, 98, 99, 100, 101, 102] }) (.int .u8 ((15 : Nat) : Int))).run Tryd.prog w = .ok (.int .u8 ((dig 15).toNat : Int)) w := by kernel_rfl
  have h : n = 0 ∨ n = 1 ∨ n = 2 ∨ n = 3 ∨ n = 4 ∨ n = 5 ∨ n = 6 ∨ n = 7 ∨ n = 8 ∨ n = 9 ∨ n = 10 ∨ n = 11 ∨ n = 12 ∨ n = 13 ∨ n = 14 ∨ n = 15 := by omega
  rcases h with rfl | rfl | rfl | rfl | rfl | rfl | rfl | rfl | rfl | rfl | rfl | rfl | rfl | rfl | rfl | rfl
  · exact i0
  · exact i1
  · exact i2
  · exact i3
  · exact i4
  · exact i5
  · exact i6
  · exact i7
  · exact i8
  · exact i9
  · exact i10
  · exact i11
  · exact i12
  · exact i13
  · exact i14
  · exact i15
theorem dig_slice {n : Nat} (hn : n < 16) (w : World) : (Instr.slice 9 (.string { data := #[48, 49, 50, 51, 52, 53, 54, 55, 56, 57, 97, 98, 99, 100, 101, 102] }) (some (.int .u8 ((n : Nat) : Int))) (some (.int .u8 ((n + 1 : Nat) : Int))) none).run Tryd.prog w = .ok (.string ⟨#[dig n]⟩) w := by
  have i0 : (Instr.slice 9 (.string { data := #[48, 49, 50, 51, 52, 53, 54, 55, 56, 57, 97, 98, 99, 100, 101, 102] }) (some (.int .u8 ((0 : Nat) : Int))) (some (.int .u8 ((0 + 1 : Nat) : Int))) none).run Tryd.prog w = .ok (.string ⟨#[dig 0]⟩) w := by kernel_rfl
  have i1 : (Instr.slice 9 (.string { data := #[48, 49, 50, 51, 52, 53, 54, 55, 56, 57, 97, 98, 99, 100, 101, 102] }) (some (.int .u8 ((1 : Nat) : Int))) (some (.int .u8 ((1 + 1 : Nat) : Int))) none).run Tryd.prog w = .ok (.string ⟨#[dig 1]⟩) w := by kernel_rfl
  have i2 : (Instr.slice 9 (.string { data := #[48, 49, 50, 51, 52, 53, 54, 55, 56, 57, 97, 98, 99, 100, 101, 102] }) (some (.int .u8 ((2 : Nat) : Int))) (some (.int .u8 ((2 + 1 : Nat) : Int))) none).run Tryd.prog w = .ok (.string ⟨#[dig 2]⟩) w := by kernel_rfl
  have i3 : (Instr.slice 9 (.string { data := #[48, 49, 50, 51, 52, 53, 54, 55, 56, 57, 97, 98, 99, 100, 101, 102] }) (some (.int .u8 ((3 : Nat) : Int))) (some (.int .u8 ((3 + 1 : Nat) : Int))) none).run Tryd.prog w = .ok (.string ⟨#[dig 3]⟩) w := by kernel_rfl
  have i4 : (Instr.slice 9 (.string { data := #[48, 49, 50, 51, 52, 53, 54, 55, 56, 57, 97, 98, 99, 100, 101, 102] }) (some (.int .u8 ((4 : Nat) : Int))) (some (.int .u8 ((4 + 1 : Nat) : Int))) none).run Tryd.prog w = .ok (.string ⟨#[dig 4]⟩) w := by kernel_rfl
  have i5 : (Instr.slice 9 (.string { data := #[48, 49, 50, 51, 52, 53, 54, 55, 56, 57, 97, 98, 99, 100, 101, 102] }) (some (.int .u8 ((5 : Nat) : Int))) (some (.int .u8 ((5 + 1 : Nat) : Int))) none).run Tryd.prog w = .ok (.string ⟨#[dig 5]⟩) w := by kernel_rfl
  have i6 : (Instr.slice 9 (.string { data := #[48, 49, 50, 51, 52, 53, 54, 55, 56, 57, 97, 98, 99, 100, 101, 102] }) (some (.int .u8 ((6 : Nat) : Int))) (some (.int .u8 ((6 + 1 : Nat) : Int))) none).run Tryd.prog w = .ok (.string ⟨#[dig 6]⟩) w := by kernel_rfl
  have i7 : (Instr.slice 9 (.string { data := #[48, 49, 50, 51, 52, 53, 54, 55, 56, 57, 97, 98, 99, 100, 101, 102] }) (some (.int .u8 ((7 : Nat) : Int))) (some (.int .u8 ((7 + 1 : Nat) : Int))) none).run Tryd.prog w = .ok (.string ⟨#[dig 7]⟩) w := by kernel_rfl
  have i8 : (Instr.slice 9 (.string { data := #[48, 49, 50, 51, 52, 53, 54, 55, 56, 57, 97, 98, 99, 100, 101, 102] }) (some (.int .u8 ((8 : Nat) : Int))) (some (.int .u8 ((8 + 1 : Nat) : Int))) none).run Tryd.prog w = .ok (.string ⟨#[dig 8]⟩) w := by kernel_rfl
  have i9 : (Instr.slice 9 (.string { data := #[48, 49, 50, 51, 52, 53, 54, 55, 56, 57, 97, 98, 99, 100, 101, 102] }) (some (.int .u8 ((9 : Nat) : Int))) (some (.int .u8 ((9 + 1 : Nat) : Int))) none).run Tryd.prog w = .ok (.string ⟨#[dig 9]⟩) w := by kernel_rfl
  have i10 : (Instr.slice 9 (.string { data := #[48, 49, 50, 51, 52, 53, 54, 55, 56, 57, 97, 98, 99, 100, 101, 102] }) (some (.int .u8 ((10 : Nat) : Int))) (some (.int .u8 ((10 + 1 : Nat) : Int))) none).run Tryd.prog w = .ok (.string ⟨#[dig 10]⟩) w := by kernel_rfl
  have i11 : (Instr.slice 9 (.string { data := #[48, 49, 50, 51, 52, 53, 54, 55, 56, 57, 97, 98, 99, 100, 101, 102] }) (some (.int .u8 ((11 : Nat) : Int))) (some (.int .u8 ((11 + 1 : Nat) : Int))) none).run Tryd.prog w = .ok (.string ⟨#[dig 11]⟩) w := by kernel_rfl
  have i12 : (Instr.slice 9 (.string { data := #[48, 49, 50, 51, 52, 53, 54, 55, 56, 57, 97, 98, 99, 100, 101, 102] }) (some (.int .u8 ((12 : Nat) : Int))) (some (.int .u8 ((12 + 1 : Nat) : Int))) none).run Tryd.prog w = .ok (.string ⟨#[dig 12]⟩) w := by kernel_rfl
  have i13 : (Instr.slice 9 (.string { data := #[48, 49, 50, 51, 52, 53, 54, 55, 56, 57, 97, 98, 99, 100, 101, 102] }) (some (.int .u8 ((13 : Nat) : Int))) (some (.int .u8 ((13 + 1 : Nat) : Int))) none).run Tryd.prog w = .ok (.string ⟨#[dig 13]⟩) w := by kernel_rfl
  have i14 : (Instr.slice 9 (.string { data := #[48, 49, 50, 51, 52, 53, 54, 55, 56, 57, 97, 98, 99, 100, 101, 102] }) (some (.int .u8 ((14 : Nat) : Int))) (some (.int .u8 ((14 + 1 : Nat) : Int))) none).run Tryd.prog w = .ok (.string ⟨#[dig 14]⟩) w := by kernel_rfl
  have i15 : (Instr.slice 9 (.string { data := #[48, 49, 50, 51, 52, 53, 54, 55, 56, 57, 97, 98, 99, 100, 101, 102] }) (some (.int .u8 ((15 : Nat) : Int))) (some (.int .u8 ((15 + 1 : Nat) : Int))) none).run Tryd.prog w = .ok (.string ⟨#[dig 15]⟩) w := by kernel_rfl
  have h : n = 0 ∨ n = 1 ∨ n = 2 ∨ n = 3 ∨ n = 4 ∨ n = 5 ∨ n = 6 ∨ n = 7 ∨ n = 8 ∨ n = 9 ∨ n = 10 ∨ n = 11 ∨ n = 12 ∨ n = 13 ∨ n = 14 ∨ n = 15 := by omega
  rcases h with rfl | rfl | rfl | rfl | rfl | rfl | rfl | rfl | rfl | rfl | rfl | rfl | rfl | rfl | rfl | rfl
  · exact i0
  · exact i1
  · exact i2
  · exact i3
  · exact i4
  · exact i5
  · exact i6
  · exact i7
  · exact i8
  · exact i9
  · exact i10
  · exact i11
  · exact i12
  · exact i13
  · exact i14
  · exact i15

theorem und5 : Tryd.prog.underlying 5 = some (.int .u8) := by kernel_rfl
theorem und9 : Tryd.prog.underlying 9 = some .string := by kernel_rfl
theorem index24 (f : Nat → Value) {k : Nat} (hk : k < 32) (w : World) : (Instr.index 24 (.agg (tab 32 f)) (.int .i64 (k : Int))).run Tryd.prog w = .ok (f k) w := by
  obtain ⟨i5, hi, hi0, hi1, hi2⟩ := info5
  have hlt : (k : Int) < 32 := by omega
  have h0 : (0 : Int) ≤ k := by omega
  simp [Instr.index, asIntOf, run_underlying Tryd.underlying24, sizeOf, typeInfo, hi, hi1, part, isAgg, run_underlying und5, tab_get f hk, h0]
  intro h; omega

/-- Two bytes more. -/
theorem PR.two {P : Program} {w1 W : World} {l : List Nat} {n : Nat} {v : Value} (h : PR w1 l n v W) (i : TypeInfo) (t : TypeId) (ht : P.underlying t = some (.slice 5)) (hi : P.info? 5 = some i) (hz : i.zero = some (.int .u8 0)) (hsize : i.size = 1) (hby : i.bytes = 1)
    (hn : n ≤ 1000000) (x y : Nat) : ∃ v' w', (Builtin.append_ #[t, t] t #[v, .slice (some ⟨W.heap.size, 0, none⟩) 2 2]).run P (W.alloc (.cells #[.int .u8 x, .int .u8 y] 5)).drew = .ok v' w' ∧ PR w1 (l ++ [x, y]) (n + 2) v' w' := by
  obtain ⟨A, c, _, _, _, hown, ho⟩ := h
  have hb : Blk (W.alloc (.cells #[.int .u8 (x : Int), .int .u8 (y : Int)] 5)).drew W.heap.size 5 #[.int .u8 (x : Int), .int .u8 (y : Int)] := (Blk.new W 5 _).drew
  have hown1 : (W.alloc (.cells #[.int .u8 (x : Int), .int .u8 (y : Int)] 5)).drew.ownsRow w1.heap.size 5 1 v n (l.map ub) := hown.alloc _
  obtain ⟨v', w', hr, hown', hg, _⟩ := run_append_own (P := P) (W.alloc (.cells #[.int .u8 (x : Int), .int .u8 (y : Int)] 5)).drew w1.heap.size t t 5 i (.int .u8 0) 1 1 ht hi hz hsize hby rfl (by omega) v n _ hown1 ⟨W.heap.size, 0, none⟩ 2 2 [.int .u8 (x : Int), .int .u8 (y : Int)] rfl
    (fun j u hu => by
      match j, hu with
      | 0, hu => cases hu; exact hb.cell 0
      | 1, hu => cases hu; exact hb.cell 1
      | j + 2, hu => cases hu) (by intro u hu; rcases List.mem_cons.1 hu with h | h; · subst h; rfl
                                   · cases List.mem_singleton.1 h; rfl) (by unfold maxLen; omega) (by omega) (by have := ho.size; show w1.heap.size ≤ (W.alloc _).heap.size; simp; omega)
  refine ⟨v', w', hr, PR.of ?_ ?_⟩
  · rw [List.map_append]; exact hown'
  · exact (ho.alloc _).drew.trans_of (Only.of_grown_own (S := fun k => w1.heap.size ≤ k) hg (fun g e => (hown1.lt g e).1)) (fun k hk hs => by omega)

set_option maxHeartbeats 1000000 in
theorem hex_any (d : Nat → Nat) (hd : ∀ i, i < 32 → d i < 256) (w : World) : Calls Tryd.prog 11 #[.agg (tab 32 fun i => ub (d i))] w fun e w' => e = .returned (hexv d) ∧ Only (fun _ => False) w w' := by
  obtain ⟨i5, hi, hi0, hi1, hi2⟩ := info5
  go_enter Tryd.func11, Tryd.ntmps11
  have hT1 := Tab.new w 24 32 (fun i => ub (d i))
  have ho1 := (Only.refl (fun _ => False) w).alloc (.cells (tab 32 (fun i => ub (d i))) 24)
  go_wp2_with (refine wpList_load_row rfl 24 (.tmp 1) rfl w.heap.size rfl 24 (tab 32 fun i => ub (d i)) (0, 0) _ hT1 Tryd.underlying24 rfl (info24 _) ?_)
  revert hT1 ho1
  generalize w.alloc _ = w1
  intro hT1 ho1
  go_loopw [3, 5, 7] (fun v _ t wr => ∃ (k : Nat) (A : Option Addr) (c : Nat), k ≤ 32 ∧ t = .int .i64 k ∧ v = .slice A (2 * k) c ∧ PR w1 ((hexl d k).map UInt8.toNat) (2 * k) v wr) (fun _ _ t _ => 32 - (intOf t).toNat)
  case atStart => exact ⟨0, none, 0, by omega, rfl, rfl, PR.of (World.ownsRow_nil _ _ _ _) (Only.refl _ _)⟩
  case round =>
    obtain ⟨k, A, c, hk, rfl, rfl, hP⟩ := hrel
    by_cases h32 : k < 32
    · have hix : ∀ w, (Instr.index 24 (.agg (tab 32 fun i => ub (d i))) (.int .i64 (k : Int))).run Tryd.prog w = .ok (.int .u8 (d k : Int)) w := index24 (fun i => ub (d i)) h32
      have hdk := hd k h32
      have hi1' : ∀ w, (Instr.index 9 (.string { data := #[48, 49, 50, 51, 52, 53, 54, 55, 56, 57, 97, 98, 99, 100, 101, 102] }) (.int .u8 ((d k : Int) / 16))).run Tryd.prog w = .ok (.int .u8 ((dig (d k / 16)).toNat : Int)) w := @dig_index (d k / 16) (by omega)
      have hi2' : ∀ w, (Instr.index 9 (.string { data := #[48, 49, 50, 51, 52, 53, 54, 55, 56, 57, 97, 98, 99, 100, 101, 102] }) (.int .u8 ((d k : Int) % 16))).run Tryd.prog w = .ok (.int .u8 ((dig (d k % 16)).toNat : Int)) w := @dig_index (d k % 16) (by omega)
      have hand : bits .and .u8 (d k : Int) 15 = (d k : Int) % 16 := by
        have h := u8_and_nat (d k) 15 (by omega) (by omega)
        rw [show d k &&& 15 = d k % 16 from Nat.and_two_pow_sub_one_eq_mod (d k) 4] at h
        exact h
      obtain ⟨v', w', hap, hP'⟩ := hP.two (P := Tryd.prog) i5 22 und22 hi hi0 hi1 hi2 (by omega) (dig (d k / 16)).toNat (dig (d k % 16)).toNat
      go_wp2
      go_region_held3 (fun _ => True) (trivial) (first | (refine step_append_eq1 rfl (.tmp 10) (.tmp 17) 22 rfl (.slice A (2 * k) c) (.slice (some ⟨wr.heap.size, 0, none⟩) 2 2) v' w' (by simp [Act.eval]) (by simp [Act.eval]) hap ?_))
      all_goals
        go_wp2
        go_roundw
        case rel =>
          obtain ⟨A9, c9, rfl, _⟩ := id hP'
          refine ⟨k + 1, A9, c9, by omega, by go_num, rfl, ?_⟩
          show PR w1 ((hexl d k ++ [dig (d k / 16), dig (d k % 16)]).map UInt8.toNat) (2 * k + 2) _ _
          rw [List.map_append]
          exact hP'
        case measure => simp [intOf]; omega
    · obtain rfl : k = 32 := by omega
      have hcv : ∀ W, Only (fun _ => False) wr W → (convert 22 9 (.slice A (2 * 32) c)).run Tryd.prog W = .ok (hexv d) W := by
        intro W hW
        obtain ⟨_, _, hv, _, _, hown, _⟩ := hP
        cases hv
        obtain ⟨b, o, e, hb, hc⟩ := ((Reads.of_own hown).only (Nat.le_refl _) hW (fun _ _ x => x)).2 (by omega)
        subst e
        have hl : (hexl d 32).length = 2 * 32 := hexl_length d 32
        unfold hexv
        rw [← hl]
        refine run_convert_bytes_back W 22 9 5 ⟨b, o, none⟩ c (hexl d 32) und22 und5 und9 (fun j hj => ?_)
        rw [add_lit]
        refine hc j _ ?_
        rw [List.map_map, List.getElem?_map, List.getElem?_eq_getElem hj]
        rfl
      have hcv := hcv wr (Only.refl _ _)
      go_wp2
      refine bodyPost_ret (v := hexv d) (by simp [results, Tryd.results11, go_sem]) rfl ⟨rfl, ?_⟩
      obtain ⟨_, _, _, _, _, _, ho⟩ := hP
      exact ho1.trans ho

set_option maxHeartbeats 1000000 in
theorem rhex_any (d : Nat → Nat) (hd : ∀ i, i < 32 → d i < 256) (w : World) : Calls Tryd.prog 12 #[.agg (tab 32 fun i => ub (d i))] w fun e w' => e = .returned (hexv d) ∧ Only (fun _ => False) w w' := by
  go_enter Tryd.func12, Tryd.ntmps12
  have hT1 := Tab.new w 24 32 (fun i => ub (d i))
  have ho1 := (Only.refl (fun _ => False) w).alloc (.cells (tab 32 (fun i => ub (d i))) 24)
  go_wp2_with fail
  revert hT1 ho1
  generalize w.alloc _ = w1
  intro hT1 ho1
  go_loopw [3, 4] (fun v t wr => ∃ (k : Nat), k ≤ 32 ∧ t = .int .i64 k ∧ v = .string ⟨(hexl d k).toArray⟩ ∧ Tab wr w.heap.size 24 32 (fun i => ub (d i)) ∧ Only (fun _ => False) w wr) (fun _ t _ => 32 - (intOf t).toNat)
  case atStart => exact ⟨0, by omega, rfl, rfl, hT1, ho1⟩
  case round =>
    obtain ⟨k, hk, rfl, rfl, hT, ho⟩ := hrel
    by_cases h32 : k < 32
    · have hc : wr.cell? ⟨w.heap.size, k, none⟩ = some (.int .u8 (d k : Int)) := hT.cell k h32
      have hdk := hd k h32
      have k0 : (0 : Int) ≤ (k : Int) := by omega
      have k1 : (k : Int) < 32 := by omega
      have w1' : IntKind.u8.wrap ((d k : Int) / 16 + 1) = (d k : Int) / 16 + 1 := IntWalk.u8_in _ (by omega)
      have w2' : IntKind.u8.wrap ((d k : Int) % 16 + 1) = (d k : Int) % 16 + 1 := IntWalk.u8_in _ (by omega)
      have hs1 : ∀ w, (Instr.slice 9 (.string { data := #[48, 49, 50, 51, 52, 53, 54, 55, 56, 57, 97, 98, 99, 100, 101, 102] }) (some (.int .u8 ((d k : Int) / 16))) (some (.int .u8 ((d k : Int) / 16 + 1))) none).run Tryd.prog w = .ok (.string ⟨#[dig (d k / 16)]⟩) w := @dig_slice (d k / 16) (by omega)
      have hs2 : ∀ w, (Instr.slice 9 (.string { data := #[48, 49, 50, 51, 52, 53, 54, 55, 56, 57, 97, 98, 99, 100, 101, 102] }) (some (.int .u8 ((d k : Int) % 16))) (some (.int .u8 ((d k : Int) % 16 + 1))) none).run Tryd.prog w = .ok (.string ⟨#[dig (d k % 16)]⟩) w := @dig_slice (d k % 16) (by omega)
      have q1 : IntKind.u8.wrap ((d k : Int) / 16) = (d k : Int) / 16 := IntWalk.u8_in _ (by omega)
      have q2 : (d k : Int).tmod 16 = (d k : Int) % 16 := Int.tmod_eq_emod_of_nonneg (by omega)
      have hsz : (hexl d k).length = 2 * k := hexl_length d k
      obtain ⟨S, hS⟩ : ∃ S : ByteArray, S = ⟨(hexl d k).toArray⟩ := ⟨_, rfl⟩
      have hSz : S.size = 2 * k := by rw [hS]; exact hsz
      have z1 : ¬ 9223372036854775807 < S.size + 1 := by omega
      have z2 : ¬ 9223372036854775807 < S.size + 1 + 1 := by omega
      rw [← hS]
      replace hS := Lib.hid hS
      clear hsz hSz
      go_wp2
      go_quiet (fail)
      go_wp2
      go_roundw
      case rel =>
        refine ⟨k + 1, by omega, by go_num, ?_, hT.drewN _, ho.drewN _⟩
        rw [hS.out]
        congr 1
        apply ByteArray.ext
        simp [hexl]
      case measure => simp [intOf]; omega
    · obtain rfl : k = 32 := by omega
      go_wp2
      exact bodyPost_ret (v := hexv d) (by simp [results, Tryd.results12, go_sem]; rfl) rfl ⟨rfl, ho⟩
end Go.Proofs.YtpmikgbdicokhaaDoor
