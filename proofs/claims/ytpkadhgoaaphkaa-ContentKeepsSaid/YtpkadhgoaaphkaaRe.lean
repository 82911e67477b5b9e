/-
  content.Read where nothing is read (func 11).
-/
import Derived.Test.YtpkadhgoaaphkaaRd
namespace Go.Proofs.Ytpkadhgoaaphkaa
open Go Go.RowKit
set_option linter.unusedVariables false
theorem three_alloc (w : World) (o1 : Obj) (v1 v2 : Value) (t1 t2 : TypeId) :
    (((w.alloc o1).alloc (.cells #[v1] t1)).alloc (.cells #[v2] t2)).cell? ⟨w.heap.size + 1, 0, none⟩ = some v1 ∧ (((w.alloc o1).alloc (.cells #[v1] t1)).alloc (.cells #[v2] t2)).cell? ⟨w.heap.size + 1 + 1, 0, none⟩ = some v2 ∧ Only (fun _ => False) w (((w.alloc o1).alloc (.cells #[v1] t1)).alloc (.cells #[v2] t2)) := by
  have b1 := Blk.new (w.alloc o1) t1 #[v1]
  have b2 := Blk.new ((w.alloc o1).alloc (.cells #[v1] t1)) t2 #[v2]
  have z1 : (w.alloc o1).heap.size = w.heap.size + 1 := by simp
  have z2 : ((w.alloc o1).alloc (.cells #[v1] t1)).heap.size = w.heap.size + 1 + 1 := by simp
  rw [z1] at b1
  rw [z2] at b2
  exact ⟨(b1.alloc _).cell0, b2.cell0, (((Only.refl _ w).alloc _).alloc _).alloc _⟩
set_option maxRecDepth 20000 in
set_option maxHeartbeats 8000000 in
theorem read_err (iv : Value) (g : Nat) (ha : iv = .nilIface ∨ iv = .iface 29 (.pointer (some ⟨g, 0, none⟩))) (size : Nat) (at_ n e : Int) (he : (e != 0) = true) (w : World) (hM : ∀ w, Calls Try.prog 13 #[iv, .int .i64 at_, .int .i64 n] w fun r w' => r = .returned (.int .i64 e) ∧ w = w') :
    Calls Try.prog 11 #[iv, .int .u32 size, .int .i64 at_, .int .i64 n] w fun r w' => r = .returned (.tuple #[.slice none 0 0, .int .i64 e]) ∧ Only (fun _ => False) w w' := by
  rcases ha with rfl | rfl
  all_goals
    replace hM := Lib.hid hM
    go_enter Try.func11, Try.ntmps11
    go_wp2_with fail
    refine (hM.out _).mono ?_
    rintro r w1 ⟨rfl, rfl⟩
    go_wp2
    have h3 := three_alloc w
    exact bodyPost_ret (res11 _ _ _ _ _ _ rfl rfl (h3 _ _ _ _ _).1 (h3 _ _ _ _ _).2.1) rfl ⟨rfl, (h3 _ _ _ _ _).2.2⟩
set_option maxRecDepth 20000 in
set_option maxHeartbeats 8000000 in
theorem read_end (g : Nat) (size : Nat) (fr n : Nat) (hs : size ≤ 32768) (h1 : size ≤ fr) (h2 : n ≤ 2048) (w : World) :
    Calls Try.prog 11 #[.iface 29 (.pointer (some ⟨g, 0, none⟩)), .int .u32 size, .int .i64 fr, .int .i64 n] w fun r w' => r = .returned (.tuple #[.slice none 0 0, .int .i64 0]) ∧ Only (fun _ => False) w w' := by
  have hM := may_any g fr n
  have e : mayF fr n = 0 := by unfold mayF; rw [if_neg (by omega), if_neg (by omega), if_neg (by omega)]
  simp only [e] at hM
  clear e
  replace hM := Lib.hid hM
  have i0 : (size : Int) ≤ 32768 := by omega
  have i1 : (size : Int) ≤ (fr : Int) := by omega
  go_enter Try.func11, Try.ntmps11
  go_wp2_with fail
  refine (hM.out _).mono ?_
  rintro r w1 ⟨rfl, rfl⟩
  go_wp2
  have h3 := three_alloc w
  refine bodyPost_ret (res11 _ _ (w.heap.size + 1) (w.heap.size + 1 + 1) (.slice none 0 0) (.int .i64 0) rfl rfl ?_ ?_) rfl ⟨rfl, ?_⟩
  · exact ((Blk.alloc (t := 24) (cs := #[.slice none 0 0]) (g := w.heap.size + 1) (by have := Blk.new (w.alloc (.cells #[.iface 29 (.pointer (some ⟨g, 0, none⟩))] 49)) 24 #[.slice none 0 0]; simpa using this) (.cells #[.int .i64 0] 36)).alloc _).cell0
  · exact (Blk.alloc (t := 36) (cs := #[.int .i64 0]) (g := w.heap.size + 1 + 1) (by have := Blk.new ((w.alloc (.cells #[.iface 29 (.pointer (some ⟨g, 0, none⟩))] 49)).alloc (.cells #[.slice none 0 0] 24)) 36 #[.int .i64 0]; simpa using this) _).cell0
  · exact (h3 _ _ _ _ _).2.2.alloc _
end Go.Proofs.Ytpkadhgoaaphkaa
