/-
  content.Truncate, content.Write where nothing is changed for an error (func 9, 8).
-/
import Derived.Test.YtpkadhgoaaphkaaTr
import Derived.Test.YtpkadhgoaaphkaaRe
namespace Go.Proofs.Ytpkadhgoaaphkaa
open Go Go.RowKit
set_option linter.unusedVariables false
theorem four_alloc (w : World) (o1 : Obj) (v1 v2 v3 : Value) (t1 t2 t3 : TypeId) :
    ((((w.alloc o1).alloc (.cells #[v1] t1)).alloc (.cells #[v2] t2)).alloc (.cells #[v3] t3)).cell? ⟨w.heap.size + 1, 0, none⟩ = some v1 ∧ ((((w.alloc o1).alloc (.cells #[v1] t1)).alloc (.cells #[v2] t2)).alloc (.cells #[v3] t3)).cell? ⟨w.heap.size + 1 + 1, 0, none⟩ = some v2 ∧ ((((w.alloc o1).alloc (.cells #[v1] t1)).alloc (.cells #[v2] t2)).alloc (.cells #[v3] t3)).cell? ⟨w.heap.size + 1 + 1 + 1, 0, none⟩ = some v3 ∧ Only (fun _ => False) w ((((w.alloc o1).alloc (.cells #[v1] t1)).alloc (.cells #[v2] t2)).alloc (.cells #[v3] t3)) := by
  have z0 : (w.alloc o1).heap.size = w.heap.size + 1 := by simp
  have o0 := (Only.refl (fun _ => False) w).alloc o1
  generalize w.alloc o1 = w1 at *
  obtain ⟨a1, z1, o1, p1⟩ := alloc_one z0 o0 v1 t1
  generalize w1.alloc (.cells #[v1] t1) = w2 at *
  obtain ⟨a2, z2, o2, p2⟩ := alloc_one z1 o1 v2 t2
  generalize w2.alloc (.cells #[v2] t2) = w3 at *
  obtain ⟨a3, z3, o3, p3⟩ := alloc_one z2 o2 v3 t3
  generalize w3.alloc (.cells #[v3] t3) = w4 at *
  exact ⟨((a1.only p2 (fun x => x)).only p3 (fun x => x)).cell0, (a2.only p3 (fun x => x)).cell0, a3.cell0, o3⟩
set_option maxRecDepth 20000 in
set_option maxHeartbeats 8000000 in
theorem trunc_err (iv : Value) (g : Nat) (ha : iv = .nilIface ∨ iv = .iface 29 (.pointer (some ⟨g, 0, none⟩))) (size : Nat) (at_ e : Int) (he : (e != 0) = true) (w : World) (hM : ∀ w, Calls Try.prog 13 #[iv, .int .i64 at_, .int .i64 0] w fun r w' => r = .returned (.int .i64 e) ∧ w = w') :
    Calls Try.prog 9 #[iv, .int .u32 size, .int .i64 at_] w fun r w' => r = .returned (.tuple #[.slice none 0 0, .int .u32 0, .int .i64 e]) ∧ Only (fun _ => False) w w' := by
  rcases ha with rfl | rfl
  all_goals
    replace hM := Lib.hid hM
    go_enter Try.func9, Try.ntmps9
    go_wp2_with fail
    refine (hM.out _).mono ?_
    rintro r w1 ⟨rfl, rfl⟩
    go_wp2
    have h3 := four_alloc w
    exact bodyPost_ret (res9 _ _ _ _ _ _ _ _ rfl rfl rfl (h3 _ _ _ _ _ _ _).1 (h3 _ _ _ _ _ _ _).2.1 (h3 _ _ _ _ _ _ _).2.2.1) rfl ⟨rfl, (h3 _ _ _ _ _ _ _).2.2.2⟩
set_option maxRecDepth 20000 in
set_option maxHeartbeats 8000000 in
theorem trunc_big (g : Nat) (size : Nat) (at_ : Int) (h1 : 32768 < at_) (w : World) :
    Calls Try.prog 9 #[.iface 29 (.pointer (some ⟨g, 0, none⟩)), .int .u32 size, .int .i64 at_] w fun r w' => r = .returned (.tuple #[.slice none 0 0, .int .u32 0, .int .i64 29]) ∧ Only (fun _ => False) w w' := by
  have hM := may_any g at_ 0
  have e : mayF at_ 0 = 0 := by unfold mayF; rw [if_neg (by omega), if_neg (by omega), if_neg (by omega)]
  simp only [e] at hM
  clear e
  replace hM := Lib.hid hM
  go_enter Try.func9, Try.ntmps9
  go_wp2_with fail
  refine (hM.out _).mono ?_
  rintro r w1 ⟨rfl, rfl⟩
  go_wp2
  have h3 := four_alloc w
  exact bodyPost_ret (res9 _ _ _ _ _ _ _ _ rfl rfl rfl (h3 _ _ _ _ _ _ _).1 (h3 _ _ _ _ _ _ _).2.1 (h3 _ _ _ _ _ _ _).2.2.1) rfl ⟨rfl, (h3 _ _ _ _ _ _ _).2.2.2⟩
theorem agg24 (w : World) : (isAgg 24).run Try.prog w = .ok false w := isAgg_of und24 rfl w
theorem res8 (tm : Array Value) (W : World) (q1 q2 q3 : Nat) (v1 v2 v3 : Value) (h8 : tm.getD 8 undef = .pointer (some ⟨q1, 0, none⟩)) (h9 : tm.getD 9 undef = .pointer (some ⟨q2, 0, none⟩)) (h10 : tm.getD 10 undef = .pointer (some ⟨q3, 0, none⟩)) (c1 : W.cell? ⟨q1, 0, none⟩ = some v1) (c2 : W.cell? ⟨q2, 0, none⟩ = some v2) (c3 : W.cell? ⟨q3, 0, none⟩ = some v3) :
    (results Try.f8 tm).run Try.prog W = .ok (.tuple #[v1, v2, v3]) W :=
  res3 Try.results8 (by kernel_rfl) agg35 agg34 agg36 tm W q1 q2 q3 v1 v2 v3 h8 h9 h10 c1 c2 c3
theorem five_alloc (w : World) (o0 o1 : Obj) (v1 v2 v3 : Value) (t1 t2 t3 : TypeId) :
    (((((w.alloc o0).alloc o1).alloc (.cells #[v1] t1)).alloc (.cells #[v2] t2)).alloc (.cells #[v3] t3)).cell? ⟨w.heap.size + 1 + 1, 0, none⟩ = some v1 ∧ (((((w.alloc o0).alloc o1).alloc (.cells #[v1] t1)).alloc (.cells #[v2] t2)).alloc (.cells #[v3] t3)).cell? ⟨w.heap.size + 1 + 1 + 1, 0, none⟩ = some v2 ∧ (((((w.alloc o0).alloc o1).alloc (.cells #[v1] t1)).alloc (.cells #[v2] t2)).alloc (.cells #[v3] t3)).cell? ⟨w.heap.size + 1 + 1 + 1 + 1, 0, none⟩ = some v3 ∧ Only (fun _ => False) w (((((w.alloc o0).alloc o1).alloc (.cells #[v1] t1)).alloc (.cells #[v2] t2)).alloc (.cells #[v3] t3)) := by
  have h := four_alloc (w.alloc o0) o1 v1 v2 v3 t1 t2 t3
  rw [show (w.alloc o0).heap.size = w.heap.size + 1 by simp] at h
  exact ⟨h.1, h.2.1, h.2.2.1, ((Only.refl _ w).alloc o0).trans h.2.2.2⟩
set_option maxRecDepth 20000 in
set_option maxHeartbeats 8000000 in
theorem write_err (iv : Value) (g : Nat) (ha : iv = .nilIface ∨ iv = .iface 29 (.pointer (some ⟨g, 0, none⟩))) (size : Nat) (at_ e : Int) (A : Option Addr) (n c : Nat) (he : (e != 0) = true) (w : World) (hM : ∀ w, Calls Try.prog 13 #[iv, .int .i64 at_, .int .i64 n] w fun r w' => r = .returned (.int .i64 e) ∧ w = w') :
    Calls Try.prog 8 #[iv, .int .u32 size, .int .i64 at_, .slice A n c] w fun r w' => r = .returned (.tuple #[.slice none 0 0, .int .u32 0, .int .i64 e]) ∧ Only (fun _ => False) w w' := by
  rcases ha with rfl | rfl
  all_goals
    replace hM := Lib.hid hM
    go_enter Try.func8, Try.ntmps8
    go_wp2_with fail
    refine (hM.out _).mono ?_
    rintro r w1 ⟨rfl, rfl⟩
    go_wp2
    have h3 := five_alloc w
    exact bodyPost_ret (res8 _ _ _ _ _ _ _ _ rfl rfl rfl (h3 _ _ _ _ _ _ _ _).1 (h3 _ _ _ _ _ _ _ _).2.1 (h3 _ _ _ _ _ _ _ _).2.2.1) rfl ⟨rfl, (h3 _ _ _ _ _ _ _ _).2.2.2⟩
set_option maxRecDepth 20000 in
set_option maxHeartbeats 8000000 in
theorem write_big (g : Nat) (size : Nat) (at_ : Int) (A : Option Addr) (n c : Nat) (hn : n ≤ 2048) (h0 : 0 ≤ at_) (h1 : 32768 - (n : Int) < at_) (w : World) :
    Calls Try.prog 8 #[.iface 29 (.pointer (some ⟨g, 0, none⟩)), .int .u32 size, .int .i64 at_, .slice A n c] w fun r w' => r = .returned (.tuple #[.slice none 0 0, .int .u32 0, .int .i64 29]) ∧ Only (fun _ => False) w w' := by
  have hM := may_any g at_ n
  have e : mayF at_ n = 0 := by unfold mayF; rw [if_neg (by omega), if_neg (by omega), if_neg (by omega)]
  simp only [e] at hM
  clear e
  replace hM := Lib.hid hM
  have i0 : (n : Int) ≤ 2048 := by omega
  go_enter Try.func8, Try.ntmps8
  go_wp2_with fail
  refine (hM.out _).mono ?_
  rintro r w1 ⟨rfl, rfl⟩
  go_wp2
  have h3 := five_alloc w
  exact bodyPost_ret (res8 _ _ _ _ _ _ _ _ rfl rfl rfl (h3 _ _ _ _ _ _ _ _).1 (h3 _ _ _ _ _ _ _ _).2.1 (h3 _ _ _ _ _ _ _ _).2.2.1) rfl ⟨rfl, (h3 _ _ _ _ _ _ _ _).2.2.2⟩
end Go.Proofs.Ytpkadhgoaaphkaa
