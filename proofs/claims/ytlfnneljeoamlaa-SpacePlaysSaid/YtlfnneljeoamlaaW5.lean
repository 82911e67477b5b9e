/-
  Contract of space.New where both numbers are in bounds.
-/
import Derived.Test.YtlfnneljeoamlaaW4
import Derived.WalkKit
import Derived.WalkLawsBesides
import Derived.WalkSpells
import Derived.BigQuiet
import Derived.Deep.QuietTactic
import Derived.Deep.RegionHeld3
import Derived.Deep.LoopGhost
import Derived.Outline
import Derived.Lib.Hide
namespace Go.Proofs.Ytlfnneljeoamlaa
open Go.RowKit
theorem new_bad2 (n : Nat) (b : Int) (w : World) (h1 : 1 ≤ n) (h2 : n ≤ 4096) (h : b < 1 ∨ 4096 < b) :
    Calls Try.prog 7 #[.int .i64 n, .int .i64 b] w fun e w' => e = .returned (.tuple #[.pointer none, .int .i64 1]) ∧ Only (fun _ => False) w w' := by
  have i0 : ∀ w, (Instr.index 53 (.agg #[.int .i64 (n : Int), .int .i64 b]) (.int .i64 0)).run Try.prog w = .ok (.int .i64 n) w := fun _ => by kernel_rfl
  have i1 : ∀ w, (Instr.index 53 (.agg #[.int .i64 (n : Int), .int .i64 b]) (.int .i64 1)).run Try.prog w = .ok (.int .i64 b) w := fun _ => by kernel_rfl
  have hmk := run_mk n h2
  rcases h with h | h
  · go_enter Try.func7, Try.ntmps7
    go_wp2
    refine wp_loop_rounds 2 ?_
    rw [rounds_succ]
    go_wp2
    go_region
    go_wp2
    rw [rounds_succ]
    go_wp2
    go_ret2
    exact ⟨rfl, (((Only.refl _ _).alloc _).alloc _).drew⟩
  · have h' : ¬ b < 1 := by omega
    go_enter Try.func7, Try.ntmps7
    go_wp2
    refine wp_loop_rounds 2 ?_
    rw [rounds_succ]
    go_wp2
    go_region
    go_wp2
    rw [rounds_succ]
    go_wp2
    go_ret2
    exact ⟨rfl, (((Only.refl _ _).alloc _).alloc _).drew⟩

def fresh (n m : Nat) : St := fun j => if j = 0 then List.replicate n (0, false) else List.replicate m (0, false)

set_option maxHeartbeats 400000 in
theorem new_ok (n m : Nat) (w : World) (h1 : 1 ≤ n) (h2 : n ≤ 4096) (h3 : 1 ≤ m) (h4 : m ≤ 4096) :
    Calls Try.prog 7 #[.int .i64 n, .int .i64 m] w fun e w' => e = .returned (.tuple #[.pointer (some ⟨w.heap.size, 0, none⟩), .int .i64 0]) ∧
      Sat w' w.heap.size (fun j => if j = 0 then w.heap.size + 1 else w.heap.size + 2) (fresh n m) ∧ Only (fun _ => False) w w' := by
  have i0 : ∀ w, (Instr.index 53 (.agg #[.int .i64 (n : Int), .int .i64 m]) (.int .i64 0)).run Try.prog w = .ok (.int .i64 n) w := fun _ => by kernel_rfl
  have i1 : ∀ w, (Instr.index 53 (.agg #[.int .i64 (n : Int), .int .i64 m]) (.int .i64 1)).run Try.prog w = .ok (.int .i64 m) w := fun _ => by kernel_rfl
  have hmk := run_mk n h2
  have hmk' := run_mk m h4
  go_enter Try.func7, Try.ntmps7
  go_wp2
  refine wp_loop_rounds 3 ?_
  rw [rounds_succ]
  go_wp2
  go_region
  go_wp2
  rw [rounds_succ]
  go_wp2
  go_region
  go_wp2
  rw [rounds_succ]
  go_wp2
  go_ret2
  refine ⟨rfl, ?_, ?_⟩
  · clear i0 i1 hmk hmk'
    go_tidy
    have b1 := ((Blk.new w 52 #[.slice (some ⟨w.heap.size + 1, 0, none⟩) n n, .slice (some ⟨w.heap.size + 1 + 1, 0, none⟩) m m]).alloc (.cells (cellsOf (List.replicate n (0, false))).toArray 57)).alloc (.cells (cellsOf (List.replicate m (0, false))).toArray 57)
    have b2 := (Blk.new (w.alloc (.cells #[.slice (some ⟨w.heap.size + 1, 0, none⟩) n n, .slice (some ⟨w.heap.size + 1 + 1, 0, none⟩) m m] 52)) 57 (cellsOf (List.replicate n (0, false))).toArray).alloc (.cells (cellsOf (List.replicate m (0, false))).toArray 57)
    have b3 := Blk.new ((w.alloc (.cells #[.slice (some ⟨w.heap.size + 1, 0, none⟩) n n, .slice (some ⟨w.heap.size + 1 + 1, 0, none⟩) m m] 52)).alloc (.cells (cellsOf (List.replicate n (0, false))).toArray 57)) 57 (cellsOf (List.replicate m (0, false))).toArray
    rw [World.size_alloc] at b2
    rw [World.size_alloc, World.size_alloc] at b3
    refine ⟨?_, ?_, ?_, by simp⟩
    · simpa [fresh] using b1.drew.drew
    · intro j hj
      have : j = 0 ∨ j = 1 := by omega
      rcases this with rfl | rfl
      · exact b2.drew.drew
      · exact b3.drew.drew
    · intro j hj
      have : j = 0 ∨ j = 1 := by omega
      rcases this with rfl | rfl <;> simp [fresh] <;> omega
  · clear i0 i1 hmk hmk'
    go_tidy
    repeat (first | exact Only.refl _ _ | refine Only.alloc ?_ _ | refine Only.drew ?_ | refine Only.setCell ?_ (.inr (by simp)) _)
end Go.Proofs.Ytlfnneljeoamlaa
