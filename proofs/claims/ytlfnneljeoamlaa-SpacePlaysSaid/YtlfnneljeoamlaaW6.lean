/-
  The contracts at numerals; the law's own wakes returns true.
-/
import Derived.Test.YtlfnneljeoamlaaW5
import Derived.WalkKit
import Derived.WalkLawsBesides
import Derived.WalkSpells
import Derived.BigQuiet
import Derived.Deep.QuietTactic
import Derived.Deep.RegionHeld3
import Derived.Deep.LoopGhost
import Derived.Outline
import Derived.Lib.Hide
namespace Go.Proofs.Ytlfnneljeoamlaa
open Go.RowKit
/-! ### The same contracts at numerals -/
theorem alloc_w {w : World} {p : Nat} {b : Nat → Nat} {L : St} (hs : Sat w p b L) (d : Int) (j : Nat) (hd : (j : Int) = d) (hj : j ≤ 1) (r : Int) (hr : (firstFrom 0 (L j) : Int) = r) (L' : St) (hL : allocAt L j = L') :
    Calls Try.prog 8 #[.pointer (some ⟨p, 0, none⟩), .int .i64 d] w fun e w' => e = .returned (.int .u16 r) ∧ Sat w' p b L' ∧ Only (Rows2 b) w w' := by
  subst hd hr hL
  exact alloc_in hs hj
theorem hold_w {w : World} {p : Nat} {b : Nat → Nat} {L : St} (hs : Sat w p b L) (d : Int) (j : Nat) (hd : (j : Int) = d) (hj : j ≤ 1) (a : Int) (k : Nat) (ha : (k : Int) = a) (hk : k ≤ 65535) (r : Int) (L' : St) (hr : turnAt 1 2 L j k = (r, L')) :
    Calls Try.prog 10 #[.pointer (some ⟨p, 0, none⟩), .int .i64 d, .int .u16 a] w fun e w' => e = .returned (.int .i64 r) ∧ Sat w' p b L' ∧ Only (Rows2 b) w w' := by
  subst hd ha
  have h := hold_in hs hj k hk
  rw [hr] at h
  exact h
theorem sick_w {w : World} {p : Nat} {b : Nat → Nat} {L : St} (hs : Sat w p b L) (d : Int) (j : Nat) (hd : (j : Int) = d) (hj : j ≤ 1) (a : Int) (k : Nat) (ha : (k : Int) = a) (hk : k ≤ 65535) (r : Int) (L' : St) (hr : sickAt L j k = (r, L')) :
    Calls Try.prog 11 #[.pointer (some ⟨p, 0, none⟩), .int .i64 d, .int .u16 a] w fun e w' => e = .returned (.int .i64 r) ∧ Sat w' p b L' ∧ Only (Rows2 b) w w' := by
  subst hd ha
  have h := sick_in hs hj k hk
  rw [hr] at h
  exact h
theorem is_w {w : World} {p : Nat} {b : Nat → Nat} {L : St} (hs : Sat w p b L) (d : Int) (j : Nat) (hd : (j : Int) = d) (hj : j ≤ 1) (a : Int) (k : Nat) (ha : (k : Int) = a) (hk : k ≤ 65535) (r : Bool) (hr : isSick (L j) k = r) :
    Calls Try.prog 19 #[.pointer (some ⟨p, 0, none⟩), .int .i64 d, .int .u16 a] w fun e w' => e = .returned (.bool r) ∧ w = w' := by
  subst hd ha hr
  exact is_in hs hj k hk
theorem count_w {w : World} {p : Nat} {b : Nat → Nat} {L : St} (hs : Sat w p b L) (d : Int) (j : Nat) (hd : (j : Int) = d) (hj : j ≤ 1) (hok : Okl (L j)) (v : Value) (hv : countOf (L j) = v) :
    Calls Try.prog 13 #[.pointer (some ⟨p, 0, none⟩), .int .i64 d] w fun e w' => e = .returned v ∧ Only (fun _ => False) w w' := by
  subst hd hv
  exact count_in hs hj hok
theorem new_w (n m : Int) (w : World) (h1 : 1 ≤ n) (h2 : n ≤ 4096) (h3 : 1 ≤ m) (h4 : m ≤ 4096) :
    Calls Try.prog 7 #[.int .i64 n, .int .i64 m] w fun e w' => e = .returned (.tuple #[.pointer (some ⟨w.heap.size, 0, none⟩), .int .i64 0]) ∧
      Sat w' w.heap.size (fun j => if j = 0 then w.heap.size + 1 else w.heap.size + 2) (fresh n.toNat m.toNat) ∧ Only (fun _ => False) w w' := by
  obtain ⟨n, rfl⟩ := Int.eq_ofNat_of_zero_le (show 0 ≤ n by omega)
  obtain ⟨m, rfl⟩ := Int.eq_ofNat_of_zero_le (show 0 ≤ m by omega)
  exact new_ok n m w (by omega) (by omega) (by omega) (by omega)

/-- Two rows, written out. -/
def rows2 (x y : List Place) : St := fun j => if j = 0 then x else if j = 1 then y else []
theorem rows2_upd0 (x y z : List Place) : (rows2 x y).upd 0 z = rows2 z y := by
  funext j; simp only [rows2, St.upd]; by_cases h : j = 0 <;> simp_all
theorem rows2_upd1 (x y z : List Place) : (rows2 x y).upd 1 z = rows2 x z := by
  funext j; simp only [rows2, St.upd]; by_cases h : j = 0 <;> by_cases h' : j = 1 <;> simp_all
theorem Sat.ext {w : World} {p : Nat} {b : Nat → Nat} {L L' : St} (h : Sat w p b L) (h0 : L 0 = L' 0) (h1 : L 1 = L' 1) : Sat w p b L' := by
  obtain ⟨a, r, l, n⟩ := h
  refine ⟨by rw [← h0, ← h1]; exact a, fun j hj => ?_, fun j hj => ?_, n⟩ <;>
  · have : j = 0 ∨ j = 1 := by omega
    rcases this with rfl | rfl
    · rw [← h0]; first | exact r 0 hj | exact l 0 hj
    · rw [← h1]; first | exact r 1 hj | exact l 1 hj

abbrev q0 : Place := (0, false)
abbrev q1 : Place := (1, false)
abbrev q2 : Place := (2, false)
theorem okl_w : Okl (rows2 [q0, q1, q1, q1] [q0, (0, true), q1, q0] 0) := by
  intro x hx; simp [rows2] at hx; rcases hx with rfl | rfl <;> simp
theorem all_w : allAt 0 (rows2 [q0, q1, q2, q1] [q0, q0, q0, q0]) = rows2 [q0, q1, q0, q1] [q0, q0, q0, q0] := by
  funext j
  by_cases h : j = 0
  · subst h; rfl
  · by_cases h' : j = 1
    · subst h'; rfl
    · unfold allAt; rw [if_neg (by omega)]; simp [rows2, h, h']
theorem a1 : allocAt (rows2 [q0, q0, q0, q0] [q0, q0, q0, q0]) 0 = rows2 [q0, q1, q0, q0] [q0, q0, q0, q0] := rows2_upd0 _ _ _
theorem a2 : allocAt (rows2 [q0, q1, q0, q0] [q0, q0, q0, q0]) 0 = rows2 [q0, q1, q1, q0] [q0, q0, q0, q0] := rows2_upd0 _ _ _
theorem a3 : allocAt (rows2 [q0, q1, q1, q0] [q0, q0, q0, q0]) 0 = rows2 [q0, q1, q1, q1] [q0, q0, q0, q0] := rows2_upd0 _ _ _
theorem a4 : allocAt (rows2 [q0, q1, q1, q1] [q0, q0, q0, q0]) 0 = rows2 [q0, q1, q1, q1] [q0, q0, q0, q0] := rfl
theorem a5 : turnAt 1 2 (rows2 [q0, q1, q1, q1] [q0, q0, q0, q0]) 0 2 = (0, rows2 [q0, q1, q2, q1] [q0, q0, q0, q0]) := congrArg (Prod.mk 0) (rows2_upd0 _ _ _)
theorem a6 : allocAt (rows2 [q0, q1, q2, q1] [q0, q0, q0, q0]) 0 = rows2 [q0, q1, q2, q1] [q0, q0, q0, q0] := rfl
theorem a7 : allocAt (rows2 [q0, q1, q0, q1] [q0, q0, q0, q0]) 0 = rows2 [q0, q1, q1, q1] [q0, q0, q0, q0] := rows2_upd0 _ _ _
theorem a8 : sickAt (rows2 [q0, q1, q1, q1] [q0, q0, q0, q0]) 1 1 = (0, rows2 [q0, q1, q1, q1] [q0, (0, true), q0, q0]) := congrArg (Prod.mk 0) (rows2_upd1 _ _ _)
theorem a9 : allocAt (rows2 [q0, q1, q1, q1] [q0, (0, true), q0, q0]) 1 = rows2 [q0, q1, q1, q1] [q0, (0, true), q1, q0] := rows2_upd1 _ _ _

set_option maxHeartbeats 1000000 in
theorem wakes_true (w : World) : Calls Try.prog 6 #[] w fun e w' => e = .returned (.bool true) ∧ Only (fun _ => False) w w' := by
  have hb : ∀ k, Rows2 (fun j => if j = 0 then w.heap.size + 1 else w.heap.size + 2) k → w.heap.size ≤ k := by
    intro k hk
    rcases hk with rfl | rfl <;> simp
  have HB := Lib.hid hb
  clear hb
  go_enter Try.func6, Try.ntmps6
  go_wp2_with fail
  refine (new_w 4 4 w (by omega) (by omega) (by omega) (by omega)).mono ?_
  rintro e w1 ⟨rfl, hs0, ho0⟩
  replace hs0 := hs0.ext (L' := rows2 [q0, q0, q0, q0] [q0, q0, q0, q0]) rfl rfl
  go_wp2_with fail
  refine (alloc_w hs0 0 0 rfl (by omega) 1 rfl _ a1).mono ?_
  rintro e w2 ⟨rfl, hs1, ho1⟩
  go_wp2_with fail
  refine (alloc_w hs1 0 0 rfl (by omega) 2 rfl _ a2).mono ?_
  rintro e w3 ⟨rfl, hs2, ho2⟩
  go_wp2_with fail
  refine (alloc_w hs2 0 0 rfl (by omega) 3 rfl _ a3).mono ?_
  rintro e w4 ⟨rfl, hs3, ho3⟩
  go_wp2_with fail
  refine (alloc_w hs3 0 0 rfl (by omega) 0 rfl _ a4).mono ?_
  rintro e w5 ⟨rfl, hs4, ho4⟩
  go_wp2_with fail
  refine (hold_w hs4 0 0 rfl (by omega) 2 2 rfl (by omega) 0 _ a5).mono ?_
  rintro e w6 ⟨rfl, hs5, ho5⟩
  go_wp2_with fail
  refine (alloc_w hs5 0 0 rfl (by omega) 0 rfl _ a6).mono ?_
  rintro e w7 ⟨rfl, hs6, ho6⟩
  go_wp2_with fail
  refine (release_in hs6).mono ?_
  rintro e w8 ⟨rfl, hs7, ho7⟩
  rw [all_w] at hs7
  go_wp2_with fail
  refine (alloc_w hs7 0 0 rfl (by omega) 2 rfl _ a7).mono ?_
  rintro e w9 ⟨rfl, hs8, ho8⟩
  go_wp2_with fail
  refine (sick_w hs8 1 1 rfl (by omega) 1 1 rfl (by omega) 0 _ a8).mono ?_
  rintro e w10 ⟨rfl, hs9, ho9⟩
  go_wp2_with fail
  refine (is_w hs9 1 1 rfl (by omega) 1 1 rfl (by omega) true rfl).mono ?_
  rintro e w11 ⟨rfl, rfl⟩
  go_wp2_with fail
  refine (alloc_w hs9 1 1 rfl (by omega) 2 rfl _ a9).mono ?_
  rintro e w12 ⟨rfl, hs10, ho10⟩
  go_wp2_with fail
  refine (count_w hs10 0 0 rfl (by omega) okl_w (.agg #[.int .i64 0, .int .i64 3, .int .i64 0, .int .i64 0]) rfl).mono ?_
  rintro e w13 ⟨rfl, ho11⟩
  go_wp2_with fail
  go_ret
  refine ⟨rfl, ?_⟩
  have h := (((((((((ho1.trans ho2).trans ho3).trans ho4).trans ho5).trans ho6).trans ho7).trans ho8).trans ho9).trans ho10)
  have hbl := ho0.below (B := w.heap.size) (Nat.le_refl _) (fun _ _ h => h)
  have hb2 := h.below (B := w.heap.size) hbl.size (fun k hk hr => by have := HB.out k hr; omega)
  have hb3 := ho11.below (B := w.heap.size) (hbl.trans hb2).size (fun _ _ h => h)
  exact Only.of_below ((hbl.trans hb2).trans hb3) _
end Go.Proofs.Ytlfnneljeoamlaa
