/-
  The law SpaceApart: rounds of its loop, one theorem a kind of act (3 of 4).
-/
import Derived.Test.YtlfnneljeoamlaaApart1
import Derived.WalkKit
import Derived.WalkLawsBesides
import Derived.WalkSpells
import Derived.BigQuiet
import Derived.Deep.QuietTactic
import Derived.Deep.RegionHeld3
import Derived.Deep.LoopGhost
import Derived.Outline
import Derived.Lib.Hide
namespace Go.Proofs.Ytlfnneljeoamlaa
open Go.RowKit
set_option linter.unusedVariables false

set_option maxRecDepth 100000 in
set_option maxHeartbeats 2000000 in
theorem round_hold (n p o : Nat) (b : Nat → Nat) (c : Nat) (acts : List ActV) (w wr : World) (ab ao k : Nat) (hk : k < acts.length) (hlen : acts.length ≤ 300) (h1 : 1 ≤ n) (h2 : n ≤ 60) (dd dk da : Int) (f : Nat → Value)
    (c0 : wr.cell? ⟨ab, ao + k * 3, none⟩ = some (.int .u8 dd)) (c1 : wr.cell? ⟨ab, ao + k * 3 + 1, none⟩ = some (.int .i64 dk)) (c2 : wr.cell? ⟨ab, ao + k * 3 + 2, none⟩ = some (.int .u16 da))
    (r0 : 0 ≤ da) (r1 : da ≤ 65535) (L : St) (fo fk fs : Nat → Bool) (hw : RW n p o b w wr L fo fk fs)
    (hd0 : 0 ≤ dk) (hd1 : dk ≤ 1) (e0 : dd = 3) (K : Act → World → Prop) (Q : Exit → Act → World → Prop) (hK : ∀ a w', ApI n p o b (some ⟨ab, ao, none⟩) c acts w (k + 1) a w' → K a w') :
    Code.wp Try.prog body3 (Exit.then K Q) ⟨#[.int .i64 n, .slice (some ⟨ab, ao, none⟩) acts.length c, f 2, f 3, f 4, .pointer (some ⟨p, 0, none⟩), f 6, .pointer (some ⟨o, 0, none⟩), .pointer (some ⟨o + 1, 0, none⟩), .pointer (some ⟨o + 1 + 1, 0, none⟩), .int .i64 k, f 11, f 12, f 13, f 14, f 15, f 16, f 17, f 18, f 19, f 20, f 21, f 22, f 23, f 24, f 25, f 26, f 27, f 28, f 29, f 30, f 31, f 32, f 33, f 34, f 35, f 36, f 37, f 38, f 39, f 40, f 41, f 42, f 43, f 44, f 45, f 46, f 47, f 48, f 49, f 50, f 51, f 52, f 53, f 54, f 55, f 56, f 57, f 58, f 59, f 60, f 61, f 62, f 63, f 64, f 65, f 66, f 67, f 68, f 69, f 70, f 71, f 72, f 73, f 74, f 75, f 76, f 77, f 78, f 79, f 80, f 81, f 82, f 83, f 84, f 85, f 86, f 87, f 88, f 89, f 90, f 91, f 92, f 93, f 94, f 95, f 96, f 97, f 98, f 99, f 100, f 101, f 102, f 103, f 104, f 105, f 106, f 107, f 108, f 109, f 110, f 111, f 112, f 113, f 114, f 115, f 116, f 117, f 118, f 119, f 120, f 121, f 122, f 123, f 124, f 125, f 126, f 127, f 128, f 129, f 130, f 131, f 132, f 133, f 134, f 135, f 136, f 137, f 138, f 139, f 140, f 141, f 142, f 143, f 144, f 145, f 146, f 147, f 148, f 149, f 150, f 151, f 152, f 153, f 154, f 155, f 156, f 157, f 158, f 159, f 160, f 161, f 162, f 163, f 164, f 165, f 166, f 167, f 168, f 169, f 170, f 171, f 172, f 173, f 174, f 175, f 176, f 177, f 178, f 179, f 180, f 181, f 182, f 183, f 184, f 185, f 186, f 187, f 188, f 189, f 190, f 191, f 192, f 193, f 194, f 195, f 196, f 197, f 198, f 199, f 200, f 201, f 202, f 203, f 204, f 205, f 206, f 207, f 208, f 209, f 210, f 211, f 212, f 213, f 214, f 215, f 216, f 217, f 218, f 219, f 220, f 221, f 222, f 223, f 224, f 225, f 226, f 227, f 228, f 229, f 230, f 231, f 232, f 233, f 234, f 235, f 236, f 237, f 238], []⟩ wr := by
  obtain ⟨j, rfl⟩ := Int.eq_ofNat_of_zero_le hd0
  obtain ⟨a, rfl⟩ := Int.eq_ofNat_of_zero_le r0
  have hj : j ≤ 1 := by omega
  have ha : a ≤ 65535 := by omega
  have HWR := hw
  clear hw
  subst e0
  conv => arg 2; whnf
  go_wp2
  go_quiet (fail)
  have hw2 := (HWR.alloc (.cells #[.int .u8 3, .int .i64 j, .int .u16 a] 32)).drewN nq
  go_wp2_with fail
  refine (hold_in hw2.sat hj a ha).mono ?_
  rintro e w3 ⟨rfl, hs3, ho3⟩
  obtain ⟨hs3, hout, hkept, hsick, hbel⟩ := hw2.call hs3 ho3
  have hsz := hw2.geo
  have hinv := hw2.inv
  rcases turn_inv hinv h2 hj a 2 (by simp) with ⟨t1, t2⟩ | ⟨t1, t2, t3, t4, t5, t6⟩
  · have hw4 : RW n p o b w w3 L fo fk fs := ⟨by rw [t2] at hs3; exact hs3, hout, hkept, hsick, hinv, hbel, hsz⟩
    clear t2 hs3 hout hkept hsick
    go_wp2_with (go_at_call 13; refine (count_sum hw4.sat hj (hw4.inv.ok j hj) n (hw4.inv.len j hj) h1).mono ?_; rintro e w5 ⟨q0, q1, q2, q3, rfl, hq1, hq2, ho5⟩)
    have HW := ((hw4.none_ ho5).alloc (.cells #[.int .i64 q0, .int .i64 q1, .int .i64 q2, .int .i64 q3] 36)).apw (A := some ⟨ab, ao, none⟩) (acts := acts)
    exact ⟨rfl, rfl, rfl, rfl, rfl, rfl, rfl, rfl, by show Value.int IntKind.i64 ((k : Int) + 1) = _; go_num, by omega, HW⟩
  · have x1 := hout.cell (j * 61 + a) (by omega)
    rw [t4] at x1
    have x2 := hout.frozen (j * 61 + a)
    have y1 := hkept.cell (j * 61 + a) (by omega)
    have y2 := hkept.frozen (j * 61 + a)
    have Hs3 := Lib.hid (And.intro hs3 (And.intro hout (And.intro hkept (And.intro hsick t6))))
    clear t4 t5 t6 hs3 hout hkept hsick
    go_wp2_with fail
    go_region
    obtain ⟨hs3, hout, hkept, hsick, t6⟩ := Hs3.out
    have hw4 : RW n p o b w ((w3.setCell ⟨o, j * 61 + a, none⟩ (.bool false)).setCell ⟨o + 1, j * 61 + a, none⟩ (.bool true)).drew (turnAt 1 2 L j a).2 (put fo (j * 61 + a) false) (put fk (j * 61 + a) true) fs :=
      RW.drew ⟨hs3.only (((Only.refl (fun x => x = o ∨ x = o + 1) _).setCell (.inl (.inl rfl)) _).setCell (.inl (.inr rfl)) _) (by omega) (by omega) (by omega),
        At.far (At.set_ hout (j * 61 + a) false) (by simp) _, At.set_ (At.far hkept (by simp) _) (j * 61 + a) true, At.far (At.far hsick (by simp; omega) _) (by simp) _, t6,
        (hbel.setCell (by simp; omega) _).setCell (by simp; omega) _, hsz⟩
    clear hs3 hout hkept hsick t6 x1 x2 y1 y2 Hs3
    go_wp2_with (go_at_call 13; refine (count_sum hw4.sat hj (hw4.inv.ok j hj) n (hw4.inv.len j hj) h1).mono ?_; rintro e w5 ⟨q0, q1, q2, q3, rfl, hq1, hq2, ho5⟩)
    have HW := ((hw4.none_ ho5).alloc (.cells #[.int .i64 q0, .int .i64 q1, .int .i64 q2, .int .i64 q3] 36)).apw (A := some ⟨ab, ao, none⟩) (acts := acts)
    exact ⟨rfl, rfl, rfl, rfl, rfl, rfl, rfl, rfl, by show Value.int IntKind.i64 ((k : Int) + 1) = _; go_num, by omega, HW⟩


set_option maxRecDepth 100000 in
set_option maxHeartbeats 2000000 in
theorem round_rel (n p o : Nat) (b : Nat → Nat) (c : Nat) (acts : List ActV) (w wr : World) (ab ao k : Nat) (hk : k < acts.length) (hlen : acts.length ≤ 300) (h1 : 1 ≤ n) (h2 : n ≤ 60) (dd dk da : Int) (f : Nat → Value)
    (c0 : wr.cell? ⟨ab, ao + k * 3, none⟩ = some (.int .u8 dd)) (c1 : wr.cell? ⟨ab, ao + k * 3 + 1, none⟩ = some (.int .i64 dk)) (c2 : wr.cell? ⟨ab, ao + k * 3 + 2, none⟩ = some (.int .u16 da))
    (r0 : 0 ≤ da) (r1 : da ≤ 65535) (L : St) (fo fk fs : Nat → Bool) (hw : RW n p o b w wr L fo fk fs)
    (hd0 : 0 ≤ dk) (hd1 : dk ≤ 1) (e0 : dd = 5) (K : Act → World → Prop) (Q : Exit → Act → World → Prop) (hK : ∀ a w', ApI n p o b (some ⟨ab, ao, none⟩) c acts w (k + 1) a w' → K a w') :
    Code.wp Try.prog body3 (Exit.then K Q) ⟨#[.int .i64 n, .slice (some ⟨ab, ao, none⟩) acts.length c, f 2, f 3, f 4, .pointer (some ⟨p, 0, none⟩), f 6, .pointer (some ⟨o, 0, none⟩), .pointer (some ⟨o + 1, 0, none⟩), .pointer (some ⟨o + 1 + 1, 0, none⟩), .int .i64 k, f 11, f 12, f 13, f 14, f 15, f 16, f 17, f 18, f 19, f 20, f 21, f 22, f 23, f 24, f 25, f 26, f 27, f 28, f 29, f 30, f 31, f 32, f 33, f 34, f 35, f 36, f 37, f 38, f 39, f 40, f 41, f 42, f 43, f 44, f 45, f 46, f 47, f 48, f 49, f 50, f 51, f 52, f 53, f 54, f 55, f 56, f 57, f 58, f 59, f 60, f 61, f 62, f 63, f 64, f 65, f 66, f 67, f 68, f 69, f 70, f 71, f 72, f 73, f 74, f 75, f 76, f 77, f 78, f 79, f 80, f 81, f 82, f 83, f 84, f 85, f 86, f 87, f 88, f 89, f 90, f 91, f 92, f 93, f 94, f 95, f 96, f 97, f 98, f 99, f 100, f 101, f 102, f 103, f 104, f 105, f 106, f 107, f 108, f 109, f 110, f 111, f 112, f 113, f 114, f 115, f 116, f 117, f 118, f 119, f 120, f 121, f 122, f 123, f 124, f 125, f 126, f 127, f 128, f 129, f 130, f 131, f 132, f 133, f 134, f 135, f 136, f 137, f 138, f 139, f 140, f 141, f 142, f 143, f 144, f 145, f 146, f 147, f 148, f 149, f 150, f 151, f 152, f 153, f 154, f 155, f 156, f 157, f 158, f 159, f 160, f 161, f 162, f 163, f 164, f 165, f 166, f 167, f 168, f 169, f 170, f 171, f 172, f 173, f 174, f 175, f 176, f 177, f 178, f 179, f 180, f 181, f 182, f 183, f 184, f 185, f 186, f 187, f 188, f 189, f 190, f 191, f 192, f 193, f 194, f 195, f 196, f 197, f 198, f 199, f 200, f 201, f 202, f 203, f 204, f 205, f 206, f 207, f 208, f 209, f 210, f 211, f 212, f 213, f 214, f 215, f 216, f 217, f 218, f 219, f 220, f 221, f 222, f 223, f 224, f 225, f 226, f 227, f 228, f 229, f 230, f 231, f 232, f 233, f 234, f 235, f 236, f 237, f 238], []⟩ wr := by
  obtain ⟨j, rfl⟩ := Int.eq_ofNat_of_zero_le hd0
  obtain ⟨a, rfl⟩ := Int.eq_ofNat_of_zero_le r0
  have hj : j ≤ 1 := by omega
  have ha : a ≤ 65535 := by omega
  have HWR := hw
  clear hw
  subst e0
  conv => arg 2; whnf
  go_wp2
  go_quiet (fail)
  have hw2 := (HWR.alloc (.cells #[.int .u8 5, .int .i64 j, .int .u16 a] 32)).drewN nq
  go_wp2_with fail
  refine (release_in hw2.sat).mono ?_
  rintro e w3 ⟨rfl, hs3, ho3⟩
  obtain ⟨hs3, hout, hkept, hsick, hbel⟩ := hw2.call hs3 ho3
  have hsz := hw2.geo
  have hinv := hw2.inv
  have hz := zero29
  obtain ⟨w4, hst, hk4, ho4⟩ := store_table (P := Try.prog) (fun _ => false) hkept
  have hw4 : RW n p o b w w4 (allAt 0 L) fo (fun _ => false) fs :=
    ⟨hs3.only ho4 (by omega) (by omega) (by omega), hout.only ho4 (by omega), hk4, hsick.only ho4 (by omega), release_inv hinv, hbel.trans (ho4.below hbel.size (fun k hk e => by omega)), hsz⟩
  clear hs3 hout hkept hsick ho3 ho4 hk4
  go_wp2_with (go_at_call 13; refine (count_sum hw4.sat hj (hw4.inv.ok j hj) n (hw4.inv.len j hj) h1).mono ?_; rintro e w5 ⟨q0, q1, q2, q3, rfl, hq1, hq2, ho5⟩)
  have HW := ((hw4.none_ ho5).alloc (.cells #[.int .i64 q0, .int .i64 q1, .int .i64 q2, .int .i64 q3] 36)).apw (A := some ⟨ab, ao, none⟩) (acts := acts)
  exact ⟨rfl, rfl, rfl, rfl, rfl, rfl, rfl, rfl, by show Value.int IntKind.i64 ((k : Int) + 1) = _; go_num, by omega, HW⟩


set_option maxRecDepth 100000 in
set_option maxHeartbeats 2000000 in
theorem round_al (n p o : Nat) (b : Nat → Nat) (c : Nat) (acts : List ActV) (w wr : World) (ab ao k : Nat) (hk : k < acts.length) (hlen : acts.length ≤ 300) (h1 : 1 ≤ n) (h2 : n ≤ 60) (dd dk da : Int) (f : Nat → Value)
    (c0 : wr.cell? ⟨ab, ao + k * 3, none⟩ = some (.int .u8 dd)) (c1 : wr.cell? ⟨ab, ao + k * 3 + 1, none⟩ = some (.int .i64 dk)) (c2 : wr.cell? ⟨ab, ao + k * 3 + 2, none⟩ = some (.int .u16 da))
    (r0 : 0 ≤ da) (r1 : da ≤ 65535) (L : St) (fo fk fs : Nat → Bool) (hw : RW n p o b w wr L fo fk fs)
    (hd0 : 0 ≤ dk) (hd1 : dk ≤ 1) (e0 : dd = 0) (K : Act → World → Prop) (Q : Exit → Act → World → Prop) (hK : ∀ a w', ApI n p o b (some ⟨ab, ao, none⟩) c acts w (k + 1) a w' → K a w') :
    Code.wp Try.prog body3 (Exit.then K Q) ⟨#[.int .i64 n, .slice (some ⟨ab, ao, none⟩) acts.length c, f 2, f 3, f 4, .pointer (some ⟨p, 0, none⟩), f 6, .pointer (some ⟨o, 0, none⟩), .pointer (some ⟨o + 1, 0, none⟩), .pointer (some ⟨o + 1 + 1, 0, none⟩), .int .i64 k, f 11, f 12, f 13, f 14, f 15, f 16, f 17, f 18, f 19, f 20, f 21, f 22, f 23, f 24, f 25, f 26, f 27, f 28, f 29, f 30, f 31, f 32, f 33, f 34, f 35, f 36, f 37, f 38, f 39, f 40, f 41, f 42, f 43, f 44, f 45, f 46, f 47, f 48, f 49, f 50, f 51, f 52, f 53, f 54, f 55, f 56, f 57, f 58, f 59, f 60, f 61, f 62, f 63, f 64, f 65, f 66, f 67, f 68, f 69, f 70, f 71, f 72, f 73, f 74, f 75, f 76, f 77, f 78, f 79, f 80, f 81, f 82, f 83, f 84, f 85, f 86, f 87, f 88, f 89, f 90, f 91, f 92, f 93, f 94, f 95, f 96, f 97, f 98, f 99, f 100, f 101, f 102, f 103, f 104, f 105, f 106, f 107, f 108, f 109, f 110, f 111, f 112, f 113, f 114, f 115, f 116, f 117, f 118, f 119, f 120, f 121, f 122, f 123, f 124, f 125, f 126, f 127, f 128, f 129, f 130, f 131, f 132, f 133, f 134, f 135, f 136, f 137, f 138, f 139, f 140, f 141, f 142, f 143, f 144, f 145, f 146, f 147, f 148, f 149, f 150, f 151, f 152, f 153, f 154, f 155, f 156, f 157, f 158, f 159, f 160, f 161, f 162, f 163, f 164, f 165, f 166, f 167, f 168, f 169, f 170, f 171, f 172, f 173, f 174, f 175, f 176, f 177, f 178, f 179, f 180, f 181, f 182, f 183, f 184, f 185, f 186, f 187, f 188, f 189, f 190, f 191, f 192, f 193, f 194, f 195, f 196, f 197, f 198, f 199, f 200, f 201, f 202, f 203, f 204, f 205, f 206, f 207, f 208, f 209, f 210, f 211, f 212, f 213, f 214, f 215, f 216, f 217, f 218, f 219, f 220, f 221, f 222, f 223, f 224, f 225, f 226, f 227, f 228, f 229, f 230, f 231, f 232, f 233, f 234, f 235, f 236, f 237, f 238], []⟩ wr := by
  obtain ⟨j, rfl⟩ := Int.eq_ofNat_of_zero_le hd0
  obtain ⟨a, rfl⟩ := Int.eq_ofNat_of_zero_le r0
  have hj : j ≤ 1 := by omega
  have ha : a ≤ 65535 := by omega
  have HWR := hw
  clear hw
  subst e0
  conv => arg 2; whnf
  go_wp2
  go_quiet (fail)
  have hw2 := (HWR.alloc (.cells #[.int .u8 0, .int .i64 j, .int .u16 a] 32)).drewN nq
  obtain ⟨hal, hst⟩ := alloc_inv hw2.inv h2 hj
  go_wp2_with fail
  refine (alloc_in hw2.sat hj).mono ?_
  rintro e w3 ⟨rfl, hs3, ho3⟩
  obtain ⟨hs3, hout, hkept, hsick, hbel⟩ := hw2.call hs3 ho3
  have hsz := hw2.geo
  have hinv := hw2.inv
  generalize hL : allocAt L j = L' at hs3 hst
  clear hL
  generalize firstFrom 0 (L j) = r at hal hst ⊢
  rcases hst with ⟨rfl, t2⟩ | ⟨t2, t3, t4, t5, t6, t7⟩
  · have hw4 : RW n p o b w w3 L fo fk fs := ⟨by rw [t2] at hs3; exact hs3, hout, hkept, hsick, hinv, hbel, hsz⟩
    have Hal := Lib.hid hal
    clear t2 hs3 hal
    have Hat := Lib.hid (And.intro hout (And.intro hkept hsick))
    clear hout hkept hsick
    go_wp2_with fail
    go_loop [15] (fun v => ∃ m : Nat, 1 ≤ m ∧ m ≤ n ∧ v = .int .i64 m) (fun v => n - (intOf v).toNat)
    case atStart => exact ⟨1, by omega, by omega, rfl⟩
    case round =>
      obtain ⟨m, hm1, hm2, rfl⟩ := hrel
      by_cases hmn : m < n
      · obtain ⟨hout, hkept, hsick⟩ := Hat.out
        have x1 := hout.cell (j * 61 + m) (by omega)
        have x2 := hkept.cell (j * 61 + m) (by omega)
        have x3 := hsick.cell (j * 61 + m) (by omega)
        have hor := Hal.out m hm1 (by omega) (by simp)
        clear hout hkept hsick
        generalize fo (j * 61 + m) = u1 at x1 hor
        generalize fk (j * 61 + m) = u2 at x2 hor
        generalize fs (j * 61 + m) = u3 at x3 hor
        have hmn1 : m < n := by omega
        cases u1 <;> cases u2 <;> cases u3 <;> first | (exfalso; revert hor; decide) | skip
        all_goals
          clear hor
          go_wp2
          go_round
          case rel => exact ⟨m + 1, by omega, by omega, by go_num⟩
          case measure => simp [intOf]; omega
      · skip
        go_wp2_with (go_at_call 13; refine (count_sum hw4.sat hj (hw4.inv.ok j hj) n (hw4.inv.len j hj) h1).mono ?_; rintro e w5 ⟨q0, q1, q2, q3, rfl, hq1, hq2, ho5⟩)
        have HW := ((hw4.none_ ho5).alloc (.cells #[.int .i64 q0, .int .i64 q1, .int .i64 q2, .int .i64 q3] 36)).apw (A := some ⟨ab, ao, none⟩) (acts := acts)
        exact ⟨rfl, rfl, rfl, rfl, rfl, rfl, rfl, rfl, by show Value.int IntKind.i64 ((k : Int) + 1) = _; go_num, by omega, HW⟩
  · have z1 := hout.cell (j * 61 + r) (by omega)
    have z2 := hkept.cell (j * 61 + r) (by omega)
    have z3 := hsick.cell (j * 61 + r) (by omega)
    have z0 := hout.frozen (j * 61 + r)
    rw [t4] at z1
    rw [t5] at z2
    rw [t6] at z3
    have hr0 : ((r : Int) == 0) = false := beq_eq_false_iff_ne.2 (by omega)
    have hw4 : RW n p o b w (w3.setCell ⟨o, j * 61 + r, none⟩ (.bool true)) L' (put fo (j * 61 + r) true) fk fs :=
      ⟨hs3.only ((Only.refl (· = o) _).setCell (.inl rfl) _) (by omega) (by omega) (by omega), hout.set_ _ _, Blk.far hkept (by simp) _, Blk.far hsick (by simp; omega) _, t7, hbel.setCell (by simp; omega) _, hsz⟩
    have Hal := Lib.hid hal
    clear hs3 hal t4 t5 t6 t7
    have Hat := Lib.hid (And.intro hout (And.intro hkept hsick))
    clear hout hkept hsick
    go_wp2_with fail
    go_loop [15] (fun v => ∃ m : Nat, 1 ≤ m ∧ m ≤ r ∧ v = .int .i64 m) (fun v => r - (intOf v).toNat)
    case atStart => exact ⟨1, by omega, by omega, rfl⟩
    case round =>
      obtain ⟨m, hm1, hm2, rfl⟩ := hrel
      by_cases hmn : m < r
      · obtain ⟨hout, hkept, hsick⟩ := Hat.out
        have x1 := hout.cell (j * 61 + m) (by omega)
        have x2 := hkept.cell (j * 61 + m) (by omega)
        have x3 := hsick.cell (j * 61 + m) (by omega)
        have hor := Hal.out m hm1 (by omega) (.inr hmn)
        clear hout hkept hsick
        generalize fo (j * 61 + m) = u1 at x1 hor
        generalize fk (j * 61 + m) = u2 at x2 hor
        generalize fs (j * 61 + m) = u3 at x3 hor
        have hmn1 : m < n := by omega
        cases u1 <;> cases u2 <;> cases u3 <;> first | (exfalso; revert hor; decide) | skip
        all_goals
          clear hor
          go_wp2
          go_round
          case rel => exact ⟨m + 1, by omega, by omega, by go_num⟩
          case measure => simp [intOf]; omega
      · obtain rfl : m = r := by omega
        go_wp2_with (go_at_call 13; refine (count_sum hw4.sat hj (hw4.inv.ok j hj) n (hw4.inv.len j hj) h1).mono ?_; rintro e w5 ⟨q0, q1, q2, q3, rfl, hq1, hq2, ho5⟩)
        have HW := ((hw4.none_ ho5).alloc (.cells #[.int .i64 q0, .int .i64 q1, .int .i64 q2, .int .i64 q3] 36)).apw (A := some ⟨ab, ao, none⟩) (acts := acts)
        exact ⟨rfl, rfl, rfl, rfl, rfl, rfl, rfl, rfl, by show Value.int IntKind.i64 ((k : Int) + 1) = _; go_num, by omega, HW⟩

end Go.Proofs.Ytlfnneljeoamlaa
