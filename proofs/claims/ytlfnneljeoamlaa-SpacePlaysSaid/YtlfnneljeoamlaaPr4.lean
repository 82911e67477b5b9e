/-
  The law SpacePlays: rounds of its loop, one theorem a kind of act.
-/
import Derived.Test.YtlfnneljeoamlaaPr0
namespace Go.Proofs.Ytlfnneljeoamlaa
open Go.RowKit
set_option linter.unusedVariables false

set_option maxRecDepth 100000 in
set_option maxHeartbeats 4000000 in
theorem rd_c1 (n m p gw B : Nat) (bq q : Nat → Nat) (c : Nat) (acts : List ActV) (w wr : World) (ab ao i : Nat) (hlt : i < acts.length) (xd xa : Nat) (xk : Int) (f : Nat → Value)
    (y0' : wr.cell? ⟨ab, ao + i * 3, none⟩ = some (.int .u8 (xd : Int))) (y1' : wr.cell? ⟨ab, ao + i * 3 + 1, none⟩ = some (.int .i64 xk)) (y2' : wr.cell? ⟨ab, ao + i * 3 + 2, none⟩ = some (.int .u16 (xa : Int)))
    (r1 : (xd : Int) ≤ 255) (r3 : (xa : Int) ≤ 65535) (L : St) (d : Nat → Rd) (u h s : Nat → Value) (hm : Mem w wr p bq L gw B q d u h s) (hR : ∀ j, j ≤ 1 → Rel (L j) (d j)) (hlen : acts.length ≤ 200)
    (hxd : xd = 5) (hxk : xk = 0) (K : Act → World → Prop) (Q : Exit → Act → World → Prop) (hK : ∀ a w', PlI n m p (some ⟨ab, ao, none⟩) c acts bq gw B q w (i + 1) a w' → K a w') :
    Code.wp Try.prog body4 (Exit.then K Q) ⟨#[.int .i64 n, .int .i64 m, .slice (some ⟨ab, ao, none⟩) acts.length c, f 3, f 4, f 5, f 6, .pointer (some ⟨p, 0, none⟩), f 8, .slice (some ⟨gw, 0, none⟩) 2 2, .int .i64 i, f 11, f 12, f 13, f 14, f 15, f 16, f 17, f 18, f 19, f 20, f 21, f 22, f 23, f 24, f 25, f 26, f 27, f 28, f 29, f 30, f 31, f 32, f 33, f 34, f 35, f 36, f 37, f 38, f 39, f 40, f 41, f 42, f 43, f 44, f 45, f 46, f 47, f 48, f 49, f 50, f 51, f 52, f 53, f 54, f 55, f 56, f 57, f 58, f 59, f 60, f 61, f 62, f 63, f 64, f 65, f 66, f 67, f 68, f 69, f 70, f 71, f 72, f 73, f 74, f 75, f 76, f 77, f 78, f 79, f 80, f 81, f 82, f 83, f 84, f 85, f 86, f 87, f 88, f 89, f 90, f 91, f 92, f 93, f 94, f 95, f 96, f 97, f 98, f 99, f 100, f 101, f 102, f 103, f 104, f 105, f 106, f 107, f 108, f 109, f 110, f 111, f 112, f 113, f 114, f 115, f 116, f 117, f 118, f 119, f 120, f 121, f 122, f 123, f 124, f 125, f 126, f 127, f 128, f 129, f 130, f 131, f 132, f 133, f 134, f 135, f 136, f 137, f 138, f 139, f 140, f 141, f 142, f 143, f 144, f 145, f 146, f 147, f 148, f 149, f 150, f 151, f 152, f 153, f 154, f 155, f 156, f 157, f 158, f 159, f 160, f 161, f 162, f 163, f 164, f 165, f 166, f 167, f 168, f 169, f 170, f 171, f 172, f 173, f 174, f 175, f 176, f 177, f 178, f 179, f 180, f 181, f 182, f 183, f 184, f 185, f 186, f 187, f 188, f 189, f 190, f 191, f 192, f 193, f 194, f 195, f 196, f 197, f 198, f 199, f 200, f 201, f 202, f 203, f 204, f 205, f 206, f 207, f 208, f 209, f 210, f 211, f 212, f 213, f 214, f 215], []⟩ wr := by
  have i0 : (0 : Int) ≤ (i : Int) := by omega
  have i1 : (i : Int) < (acts.length : Int) := by omega
  have hnb := Blk.new wr 32 #[.int .u8 (xd : Int), .int .i64 xk, .int .u16 (xa : Int)]
  have hm5 := hm.next ((Only.refl (fun _ => False) wr).alloc (.cells #[.int .u8 (xd : Int), .int .i64 xk, .int .u16 (xa : Int)] 32))
  have hfar : ∀ j, j ≤ 1 → ¬ Own (q j) (u j) (h j) (s j) wr.heap.size := fun j hj h => by have := ((hm.dk j hj).lt _ h).2; omega
  have hfar2 : ¬ Rows2 bq wr.heap.size := rows2_not hm.bB hm.hB
  subst hxd
  have z0 := hnb.cell 0
  have z1 := hnb.cell 1
  simp only [List.getElem?_toArray, List.getElem?_cons_zero, List.getElem?_cons_succ] at z0 z1
  have hcS := Lib.hid (release_in hm5.sat)
  have hH := Lib.hid (And.intro hm5 hR)
  clear hm5 hR hm hnb
  simp only [c5] at *
  subst hxk
  conv => arg 2; whnf
  go_wp2_with fail
  refine hcS.out.mono ?_
  rintro e w8 ⟨rfl, hS8, ho8⟩
  obtain ⟨hm5, hR⟩ := hH.out
  have hm6 := hm5.space hS8 ho8
  clear hS8 ho8 hcS z0 z1 hm5
  have r0 := hm6.row 0 (by omega)
  have r1 := hm6.row 1 (by omega)
  have v0 := (hm6.dk 0 (by omega)).hd.cell 2
  have v1 := (hm6.dk 1 (by omega)).hd.cell 2
  have f0 := (hm6.dk 0 (by omega)).hd.frozen 2
  have f1 := (hm6.dk 1 (by omega)).hd.frozen 2
  have hne := hm6.ne
  have hne' := hm6.ne.symm
  have hPI := Lib.hid (pi_release hm6 hR)
  clear hm6 hR
  simp only [List.getElem?_toArray, List.getElem?_cons_zero, List.getElem?_cons_succ] at v0 v1
  go_wp2
  go_region
  obtain ⟨L9, d9, u9, h9, s9, hm9, hR9⟩ := hPI.out
  clear hPI r0 r1 v0 v1 f0 f1 hne hne'
  have hsame := Lib.hid (same_any (hm9.both hR9) 2 (by omega))
  go_wp2_with fail
  refine hsame.out.mono ?_
  rintro e w10 ⟨rfl, ho10⟩
  clear hsame
  have hFin := Lib.hid (show PI w p bq gw B q w10 from ⟨_, _, _, _, _, hm9.next ho10, hR9⟩)
  clear hm9 hR9 ho10
  go_wp2
  exact ⟨rfl, rfl, rfl, rfl, rfl, rfl, rfl, by show Value.int IntKind.i64 ((i : Int) + 1) = _; go_num, by omega, hFin.out⟩

set_option maxRecDepth 100000 in
set_option maxHeartbeats 4000000 in
theorem rd_c0 (n m p gw B : Nat) (bq q : Nat → Nat) (c : Nat) (acts : List ActV) (w wr : World) (ab ao i : Nat) (hlt : i < acts.length) (xd xa : Nat) (xk : Int) (f : Nat → Value)
    (y0' : wr.cell? ⟨ab, ao + i * 3, none⟩ = some (.int .u8 (xd : Int))) (y1' : wr.cell? ⟨ab, ao + i * 3 + 1, none⟩ = some (.int .i64 xk)) (y2' : wr.cell? ⟨ab, ao + i * 3 + 2, none⟩ = some (.int .u16 (xa : Int)))
    (r1 : (xd : Int) ≤ 255) (r3 : (xa : Int) ≤ 65535) (L : St) (d : Nat → Rd) (u h s : Nat → Value) (hm : Mem w wr p bq L gw B q d u h s) (hR : ∀ j, j ≤ 1 → Rel (L j) (d j)) (hlen : acts.length ≤ 200)
    (hxd : xd = 5) (hxk : ¬ xk = 0) (K : Act → World → Prop) (Q : Exit → Act → World → Prop) (hK : ∀ a w', PlI n m p (some ⟨ab, ao, none⟩) c acts bq gw B q w (i + 1) a w' → K a w') :
    Code.wp Try.prog body4 (Exit.then K Q) ⟨#[.int .i64 n, .int .i64 m, .slice (some ⟨ab, ao, none⟩) acts.length c, f 3, f 4, f 5, f 6, .pointer (some ⟨p, 0, none⟩), f 8, .slice (some ⟨gw, 0, none⟩) 2 2, .int .i64 i, f 11, f 12, f 13, f 14, f 15, f 16, f 17, f 18, f 19, f 20, f 21, f 22, f 23, f 24, f 25, f 26, f 27, f 28, f 29, f 30, f 31, f 32, f 33, f 34, f 35, f 36, f 37, f 38, f 39, f 40, f 41, f 42, f 43, f 44, f 45, f 46, f 47, f 48, f 49, f 50, f 51, f 52, f 53, f 54, f 55, f 56, f 57, f 58, f 59, f 60, f 61, f 62, f 63, f 64, f 65, f 66, f 67, f 68, f 69, f 70, f 71, f 72, f 73, f 74, f 75, f 76, f 77, f 78, f 79, f 80, f 81, f 82, f 83, f 84, f 85, f 86, f 87, f 88, f 89, f 90, f 91, f 92, f 93, f 94, f 95, f 96, f 97, f 98, f 99, f 100, f 101, f 102, f 103, f 104, f 105, f 106, f 107, f 108, f 109, f 110, f 111, f 112, f 113, f 114, f 115, f 116, f 117, f 118, f 119, f 120, f 121, f 122, f 123, f 124, f 125, f 126, f 127, f 128, f 129, f 130, f 131, f 132, f 133, f 134, f 135, f 136, f 137, f 138, f 139, f 140, f 141, f 142, f 143, f 144, f 145, f 146, f 147, f 148, f 149, f 150, f 151, f 152, f 153, f 154, f 155, f 156, f 157, f 158, f 159, f 160, f 161, f 162, f 163, f 164, f 165, f 166, f 167, f 168, f 169, f 170, f 171, f 172, f 173, f 174, f 175, f 176, f 177, f 178, f 179, f 180, f 181, f 182, f 183, f 184, f 185, f 186, f 187, f 188, f 189, f 190, f 191, f 192, f 193, f 194, f 195, f 196, f 197, f 198, f 199, f 200, f 201, f 202, f 203, f 204, f 205, f 206, f 207, f 208, f 209, f 210, f 211, f 212, f 213, f 214, f 215], []⟩ wr := by
  have i0 : (0 : Int) ≤ (i : Int) := by omega
  have i1 : (i : Int) < (acts.length : Int) := by omega
  have hnb := Blk.new wr 32 #[.int .u8 (xd : Int), .int .i64 xk, .int .u16 (xa : Int)]
  have hm5 := hm.next ((Only.refl (fun _ => False) wr).alloc (.cells #[.int .u8 (xd : Int), .int .i64 xk, .int .u16 (xa : Int)] 32))
  have hfar : ∀ j, j ≤ 1 → ¬ Own (q j) (u j) (h j) (s j) wr.heap.size := fun j hj h => by have := ((hm.dk j hj).lt _ h).2; omega
  have hfar2 : ¬ Rows2 bq wr.heap.size := rows2_not hm.bB hm.hB
  subst hxd
  have z0 := hnb.cell 0
  have z1 := hnb.cell 1
  simp only [List.getElem?_toArray, List.getElem?_cons_zero, List.getElem?_cons_succ] at z0 z1
  have hcS := Lib.hid (release_in hm5.sat)
  have hH := Lib.hid (And.intro hm5 hR)
  clear hm5 hR hm hnb
  simp only [c5] at *
  have hb0 : (xk == 0) = false := beq_false_of_ne hxk
  conv => arg 2; whnf
  go_wp2_with fail
  refine hcS.out.mono ?_
  rintro e w8 ⟨rfl, hS8, ho8⟩
  obtain ⟨hm5, hR⟩ := hH.out
  have hm6 := hm5.space hS8 ho8
  clear hS8 ho8 hcS z0 z1 hm5
  have r0 := hm6.row 0 (by omega)
  have r1 := hm6.row 1 (by omega)
  have v0 := (hm6.dk 0 (by omega)).hd.cell 2
  have v1 := (hm6.dk 1 (by omega)).hd.cell 2
  have f0 := (hm6.dk 0 (by omega)).hd.frozen 2
  have f1 := (hm6.dk 1 (by omega)).hd.frozen 2
  have hne := hm6.ne
  have hne' := hm6.ne.symm
  have hPI := Lib.hid (pi_release hm6 hR)
  clear hm6 hR
  simp only [List.getElem?_toArray, List.getElem?_cons_zero, List.getElem?_cons_succ] at v0 v1
  go_wp2
  go_region
  obtain ⟨L9, d9, u9, h9, s9, hm9, hR9⟩ := hPI.out
  clear hPI r0 r1 v0 v1 f0 f1 hne hne'
  have hsame := Lib.hid (same_any (hm9.both hR9) 2 (by omega))
  go_wp2_with fail
  refine hsame.out.mono ?_
  rintro e w10 ⟨rfl, ho10⟩
  clear hsame
  have hFin := Lib.hid (show PI w p bq gw B q w10 from ⟨_, _, _, _, _, hm9.next ho10, hR9⟩)
  clear hm9 hR9 ho10
  go_wp2
  exact ⟨rfl, rfl, rfl, rfl, rfl, rfl, rfl, by show Value.int IntKind.i64 ((i : Int) + 1) = _; go_num, by omega, hFin.out⟩

set_option maxRecDepth 100000 in
set_option maxHeartbeats 4000000 in
theorem rd_d1 (n m p gw B : Nat) (bq q : Nat → Nat) (c : Nat) (acts : List ActV) (w wr : World) (ab ao i : Nat) (hlt : i < acts.length) (xd xa : Nat) (xk : Int) (f : Nat → Value)
    (y0' : wr.cell? ⟨ab, ao + i * 3, none⟩ = some (.int .u8 (xd : Int))) (y1' : wr.cell? ⟨ab, ao + i * 3 + 1, none⟩ = some (.int .i64 xk)) (y2' : wr.cell? ⟨ab, ao + i * 3 + 2, none⟩ = some (.int .u16 (xa : Int)))
    (r1 : (xd : Int) ≤ 255) (r3 : (xa : Int) ≤ 65535) (L : St) (d : Nat → Rd) (u h s : Nat → Value) (hm : Mem w wr p bq L gw B q d u h s) (hR : ∀ j, j ≤ 1 → Rel (L j) (d j)) (hlen : acts.length ≤ 200)
    (hd5 : 5 < xd) (hxk : xk = 0) (K : Act → World → Prop) (Q : Exit → Act → World → Prop) (hK : ∀ a w', PlI n m p (some ⟨ab, ao, none⟩) c acts bq gw B q w (i + 1) a w' → K a w') :
    Code.wp Try.prog body4 (Exit.then K Q) ⟨#[.int .i64 n, .int .i64 m, .slice (some ⟨ab, ao, none⟩) acts.length c, f 3, f 4, f 5, f 6, .pointer (some ⟨p, 0, none⟩), f 8, .slice (some ⟨gw, 0, none⟩) 2 2, .int .i64 i, f 11, f 12, f 13, f 14, f 15, f 16, f 17, f 18, f 19, f 20, f 21, f 22, f 23, f 24, f 25, f 26, f 27, f 28, f 29, f 30, f 31, f 32, f 33, f 34, f 35, f 36, f 37, f 38, f 39, f 40, f 41, f 42, f 43, f 44, f 45, f 46, f 47, f 48, f 49, f 50, f 51, f 52, f 53, f 54, f 55, f 56, f 57, f 58, f 59, f 60, f 61, f 62, f 63, f 64, f 65, f 66, f 67, f 68, f 69, f 70, f 71, f 72, f 73, f 74, f 75, f 76, f 77, f 78, f 79, f 80, f 81, f 82, f 83, f 84, f 85, f 86, f 87, f 88, f 89, f 90, f 91, f 92, f 93, f 94, f 95, f 96, f 97, f 98, f 99, f 100, f 101, f 102, f 103, f 104, f 105, f 106, f 107, f 108, f 109, f 110, f 111, f 112, f 113, f 114, f 115, f 116, f 117, f 118, f 119, f 120, f 121, f 122, f 123, f 124, f 125, f 126, f 127, f 128, f 129, f 130, f 131, f 132, f 133, f 134, f 135, f 136, f 137, f 138, f 139, f 140, f 141, f 142, f 143, f 144, f 145, f 146, f 147, f 148, f 149, f 150, f 151, f 152, f 153, f 154, f 155, f 156, f 157, f 158, f 159, f 160, f 161, f 162, f 163, f 164, f 165, f 166, f 167, f 168, f 169, f 170, f 171, f 172, f 173, f 174, f 175, f 176, f 177, f 178, f 179, f 180, f 181, f 182, f 183, f 184, f 185, f 186, f 187, f 188, f 189, f 190, f 191, f 192, f 193, f 194, f 195, f 196, f 197, f 198, f 199, f 200, f 201, f 202, f 203, f 204, f 205, f 206, f 207, f 208, f 209, f 210, f 211, f 212, f 213, f 214, f 215], []⟩ wr := by
  have i0 : (0 : Int) ≤ (i : Int) := by omega
  have i1 : (i : Int) < (acts.length : Int) := by omega
  have hnb := Blk.new wr 32 #[.int .u8 (xd : Int), .int .i64 xk, .int .u16 (xa : Int)]
  have hm5 := hm.next ((Only.refl (fun _ => False) wr).alloc (.cells #[.int .u8 (xd : Int), .int .i64 xk, .int .u16 (xa : Int)] 32))
  have hfar : ∀ j, j ≤ 1 → ¬ Own (q j) (u j) (h j) (s j) wr.heap.size := fun j hj h => by have := ((hm.dk j hj).lt _ h).2; omega
  have hfar2 : ¬ Rows2 bq wr.heap.size := rows2_not hm.bB hm.hB
  have b0 : ((xd : Int) == 0) = false := beq_false_of_ne (by omega)
  have e0 : ¬ (xd : Int) = 0 := by omega
  have b1 : ((xd : Int) == 1) = false := beq_false_of_ne (by omega)
  have e1 : ¬ (xd : Int) = 1 := by omega
  have b2 : ((xd : Int) == 2) = false := beq_false_of_ne (by omega)
  have e2 : ¬ (xd : Int) = 2 := by omega
  have b3 : ((xd : Int) == 3) = false := beq_false_of_ne (by omega)
  have e3 : ¬ (xd : Int) = 3 := by omega
  have b4 : ((xd : Int) == 4) = false := beq_false_of_ne (by omega)
  have e4 : ¬ (xd : Int) = 4 := by omega
  have b5 : ((xd : Int) == 5) = false := beq_false_of_ne (by omega)
  have e5 : ¬ (xd : Int) = 5 := by omega
  have z0 := hnb.cell 0
  have z1 := hnb.cell 1
  simp only [List.getElem?_toArray, List.getElem?_cons_zero, List.getElem?_cons_succ] at z0 z1
  have hcS := Lib.hid (back_in hm5.sat)
  have hH := Lib.hid (And.intro hm5 hR)
  clear hm5 hR hm hnb
  subst hxk
  conv => arg 2; whnf
  go_wp2_with fail
  refine hcS.out.mono ?_
  rintro e w8 ⟨rfl, hS8, ho8⟩
  obtain ⟨hm5, hR⟩ := hH.out
  have hPB := Lib.hid (PB.start (hm5.space hS8 ho8) hR)
  clear hS8 ho8 hcS z0 z1 hm5 hR
  go_wp2
  go_loopw [16] (fun t wk => ∃ k : Nat, t = .int .i64 k ∧ k ≤ 2 ∧ PB w p bq gw B q L k wk) (fun t _ => 2 - (intOf t).toNat)
  case atStart => exact ⟨0, rfl, by omega, hPB.out⟩
  case round =>
    obtain ⟨k, rfl, hk, hPk⟩ := hrel
    by_cases hk2 : k < 2
    · have k0 : (k : Int) < 2 := by omega
      have k1 : (0 : Int) ≤ (k : Int) := by omega
      obtain ⟨hr, Au, nu, cu, Ah, nh, ch, A9, n9, c9, w', vh, y1, y2, hap, t1, t2, r2, v2, f2, r3, t3, hPB2⟩ := PB.step (hPk.next (Only.refl _ _).drew) (by omega)
      have hr' : wr.cell? ⟨gw, k, none⟩ = some (.pointer (some ⟨q k, 0, none⟩)) := hr
      have y1' : wr.cell? ⟨q k, 1, none⟩ = some (.slice Au nu cu) := y1
      have y2' : wr.cell? ⟨q k, 2, none⟩ = some (.slice Ah nh ch) := y2
      have hF := Lib.hid hPB2
      clear hPk hr y1 y2 hPB2
      go_wp2
      refine wp_region_noPanic ?_
      refine wp_region_E 21 (fun W => W.cell? ⟨gw, k, none⟩ = some (.pointer (some ⟨q k, 0, none⟩)) ∧ W.cell? ⟨q k, 1, none⟩ = some (.slice Au nu cu) ∧ W.cell? ⟨q k, 2, none⟩ = some (.slice Ah nh ch)) (by kernel_rfl) ?_
      have hS0 := And.intro hr' (And.intro y1' y2')
      refine E_take (v := ?v0x0) 0 rfl (by kernel_rfl) (by kernel_rfl) (by kernel_rfl) (by kernel_rfl) (by kernel_rfl) (by kernel_rfl) (fun _ _ _ h => h) rfl hS0 ?hy0x0 ?_
      case hy0x0 => intro W hW; obtain ⟨s1, s2, s3⟩ := hW; go_simp; try with_reducible rfl
      simp only [Act.put, List.setIfInBounds_toArray, List.set_cons_zero, List.set_cons_succ]
      refine E_take (v := ?v0x1) 1 rfl (by kernel_rfl) (by kernel_rfl) (by kernel_rfl) (by kernel_rfl) (by kernel_rfl) (by kernel_rfl) (fun _ _ _ h => h) rfl hS0 ?hy0x1 ?_
      case hy0x1 => intro W hW; obtain ⟨s1, s2, s3⟩ := hW; go_simp; try with_reducible rfl
      simp only [Act.put, List.setIfInBounds_toArray, List.set_cons_zero, List.set_cons_succ]
      refine E_take (v := ?v0x2) 2 rfl (by kernel_rfl) (by kernel_rfl) (by kernel_rfl) (by kernel_rfl) (by kernel_rfl) (by kernel_rfl) (fun _ _ _ h => h) rfl hS0 ?hy0x2 ?_
      case hy0x2 => intro W hW; obtain ⟨s1, s2, s3⟩ := hW; go_simp; try with_reducible rfl
      simp only [Act.put, List.setIfInBounds_toArray, List.set_cons_zero, List.set_cons_succ]
      refine E_take (v := ?v0x3) 3 rfl (by kernel_rfl) (by kernel_rfl) (by kernel_rfl) (by kernel_rfl) (by kernel_rfl) (by kernel_rfl) (fun _ _ _ h => h) rfl hS0 ?hy0x3 ?_
      case hy0x3 => intro W hW; obtain ⟨s1, s2, s3⟩ := hW; go_simp; try with_reducible rfl
      simp only [Act.put, List.setIfInBounds_toArray, List.set_cons_zero, List.set_cons_succ]
      refine E_take (v := ?v0x4) 4 rfl (by kernel_rfl) (by kernel_rfl) (by kernel_rfl) (by kernel_rfl) (by kernel_rfl) (by kernel_rfl) (fun _ _ _ h => h) rfl hS0 ?hy0x4 ?_
      case hy0x4 => intro W hW; obtain ⟨s1, s2, s3⟩ := hW; go_simp; try with_reducible rfl
      simp only [Act.put, List.setIfInBounds_toArray, List.set_cons_zero, List.set_cons_succ]
      refine E_take (v := ?v0x5) 5 rfl (by kernel_rfl) (by kernel_rfl) (by kernel_rfl) (by kernel_rfl) (by kernel_rfl) (by kernel_rfl) (fun _ _ _ h => h) rfl hS0 ?hy0x5 ?_
      case hy0x5 => intro W hW; obtain ⟨s1, s2, s3⟩ := hW; go_simp; try with_reducible rfl
      simp only [Act.put, List.setIfInBounds_toArray, List.set_cons_zero, List.set_cons_succ]
      refine E_take (v := ?v0x6) 6 rfl (by kernel_rfl) (by kernel_rfl) (by kernel_rfl) (by kernel_rfl) (by kernel_rfl) (by kernel_rfl) (fun _ _ _ h => h) rfl hS0 ?hy0x6 ?_
      case hy0x6 => intro W hW; obtain ⟨s1, s2, s3⟩ := hW; go_simp; try with_reducible rfl
      simp only [Act.put, List.setIfInBounds_toArray, List.set_cons_zero, List.set_cons_succ]
      refine E_take (v := ?v0x7) 7 rfl (by kernel_rfl) (by kernel_rfl) (by kernel_rfl) (by kernel_rfl) (by kernel_rfl) (by kernel_rfl) (fun _ _ _ h => h) rfl hS0 ?hy0x7 ?_
      case hy0x7 => intro W hW; obtain ⟨s1, s2, s3⟩ := hW; go_simp; try with_reducible rfl
      simp only [Act.put, List.setIfInBounds_toArray, List.set_cons_zero, List.set_cons_succ]
      refine E_take (v := ?v0x8) 8 rfl (by kernel_rfl) (by kernel_rfl) (by kernel_rfl) (by kernel_rfl) (by kernel_rfl) (by kernel_rfl) (fun _ _ _ h => h) rfl hS0 ?hy0x8 ?_
      case hy0x8 => intro W hW; obtain ⟨s1, s2, s3⟩ := hW; go_simp; try with_reducible rfl
      simp only [Act.put, List.setIfInBounds_toArray, List.set_cons_zero, List.set_cons_succ]
      refine E_take (v := ?v0x9) 9 rfl (by kernel_rfl) (by kernel_rfl) (by kernel_rfl) (by kernel_rfl) (by kernel_rfl) (by kernel_rfl) (fun _ _ _ h => h) rfl hS0 ?hy0x9 ?_
      case hy0x9 => intro W hW; obtain ⟨s1, s2, s3⟩ := hW; go_simp; try with_reducible rfl
      simp only [Act.put, List.setIfInBounds_toArray, List.set_cons_zero, List.set_cons_succ]
      refine E_take (v := ?v0x10) 10 rfl (by kernel_rfl) (by kernel_rfl) (by kernel_rfl) (by kernel_rfl) (by kernel_rfl) (by kernel_rfl) (fun _ _ _ h => h) rfl hS0 ?hy0x10 ?_
      case hy0x10 => intro W hW; obtain ⟨s1, s2, s3⟩ := hW; go_simp; try with_reducible rfl
      simp only [Act.put, List.setIfInBounds_toArray, List.set_cons_zero, List.set_cons_succ]
      refine E_take (v := ?v0x11) 11 rfl (by kernel_rfl) (by kernel_rfl) (by kernel_rfl) (by kernel_rfl) (by kernel_rfl) (by kernel_rfl) (fun _ _ _ h => h) rfl hS0 ?hy0x11 ?_
      case hy0x11 => intro W hW; obtain ⟨s1, s2, s3⟩ := hW; go_simp; try with_reducible rfl
      simp only [Act.put, List.setIfInBounds_toArray, List.set_cons_zero, List.set_cons_succ]
      refine E_take (v := ?v0x12) 12 rfl (by kernel_rfl) (by kernel_rfl) (by kernel_rfl) (by kernel_rfl) (by kernel_rfl) (by kernel_rfl) (fun _ _ _ h => h) rfl hS0 ?hy0x12 ?_
      case hy0x12 => intro W hW; obtain ⟨s1, s2, s3⟩ := hW; go_simp; try with_reducible rfl
      simp only [Act.put, List.setIfInBounds_toArray, List.set_cons_zero, List.set_cons_succ]
      refine E_take (v := ?v0x13) 13 rfl (by kernel_rfl) (by kernel_rfl) (by kernel_rfl) (by kernel_rfl) (by kernel_rfl) (by kernel_rfl) (fun _ _ _ h => h) rfl hS0 ?hy0x13 ?_
      case hy0x13 => intro W hW; obtain ⟨s1, s2, s3⟩ := hW; go_simp; try with_reducible rfl
      simp only [Act.put, List.setIfInBounds_toArray, List.set_cons_zero, List.set_cons_succ]
      refine E_take (v := ?v0x14) 14 rfl (by kernel_rfl) (by kernel_rfl) (by kernel_rfl) (by kernel_rfl) (by kernel_rfl) (by kernel_rfl) (fun _ _ _ h => h) rfl hS0 ?hy0x14 ?_
      case hy0x14 => intro W hW; obtain ⟨s1, s2, s3⟩ := hW; go_simp; try with_reducible rfl
      simp only [Act.put, List.setIfInBounds_toArray, List.set_cons_zero, List.set_cons_succ]
      refine E_take (v := ?v0x15) 15 rfl (by kernel_rfl) (by kernel_rfl) (by kernel_rfl) (by kernel_rfl) (by kernel_rfl) (by kernel_rfl) (fun _ _ _ h => h) rfl hS0 ?hy0x15 ?_
      case hy0x15 => intro W hW; obtain ⟨s1, s2, s3⟩ := hW; go_simp; try with_reducible rfl
      simp only [Act.put, List.setIfInBounds_toArray, List.set_cons_zero, List.set_cons_succ]
      refine E_take (v := ?v0x16) 16 rfl (by kernel_rfl) (by kernel_rfl) (by kernel_rfl) (by kernel_rfl) (by kernel_rfl) (by kernel_rfl) (fun _ _ _ h => h) rfl hS0 ?hy0x16 ?_
      case hy0x16 => intro W hW; obtain ⟨s1, s2, s3⟩ := hW; go_simp; try with_reducible rfl
      simp only [Act.put, List.setIfInBounds_toArray, List.set_cons_zero, List.set_cons_succ]
      refine E_take (v := ?v0x17) 17 rfl (by kernel_rfl) (by kernel_rfl) (by kernel_rfl) (by kernel_rfl) (by kernel_rfl) (by kernel_rfl) (fun _ _ _ h => h) rfl hS0 ?hy0x17 ?_
      case hy0x17 => intro W hW; obtain ⟨s1, s2, s3⟩ := hW; go_simp; try with_reducible rfl
      simp only [Act.put, List.setIfInBounds_toArray, List.set_cons_zero, List.set_cons_succ]
      refine E_one 18 (by kernel_rfl) rfl (fun K hK => ?_)
      refine step_append_eq1 rfl (.tmp 99) (.tmp 106) 40 rfl (.slice Au nu cu) (.slice Ah nh ch) (.slice A9 n9 c9) w' (by simp [Act.eval]) (by simp [Act.eval]) hap ?_
      refine hK.out _ _ (fun _ => ⟨r3, t1, t3⟩) ?_
      clear hK K
      try simp only [Act.put, List.setIfInBounds_toArray, List.set_cons_zero, List.set_cons_succ]
      have hS1 := And.intro r3 (And.intro t1 t3)
      refine E_one 19 (by kernel_rfl) rfl (fun K hK => ?_)
      go_simp
      refine hK.out _ _ (fun _ => hS1) ?_
      clear hK K
      try simp only [Act.put, List.setIfInBounds_toArray, List.set_cons_zero, List.set_cons_succ]
      refine E_one 20 (by kernel_rfl) rfl (fun K hK => ?_)
      go_simp
      refine hK.out _ _ (fun _ => hS1) ?_
      clear hK K
      try simp only [Act.put, List.setIfInBounds_toArray, List.set_cons_zero, List.set_cons_succ]
      refine E_one 21 (by kernel_rfl) rfl (fun K hK => ?_)
      go_simp
      refine hK.out _ _ (fun h => absurd h (by decide)) ?_
      clear hK K
      try simp only [Act.put, List.setIfInBounds_toArray, List.set_cons_zero, List.set_cons_succ]
      refine E_done (by kernel_rfl) (NoPanic.normal ?_)
      all_goals
        go_wp2
        go_roundw
        case rel => exact ⟨k + 1, by go_num, by omega, hF.out⟩
        case measure => simp [intOf]; omega
    · have k0 : ¬ (k : Int) < 2 := by omega
      have hF := Lib.hid (hPk.done (by omega))
      clear hPk
      obtain ⟨L9, d9, u9, h9, s9, hm9, hR9⟩ := hF.out
      clear hF
      have hsame := Lib.hid (same_any (hm9.both hR9) 2 (by omega))
      go_wp2_with fail
      refine hsame.out.mono ?_
      rintro e w10 ⟨rfl, ho10⟩
      clear hsame
      have hFin := Lib.hid (show PI w p bq gw B q w10 from ⟨_, _, _, _, _, hm9.next ho10, hR9⟩)
      clear hm9 hR9 ho10
      go_wp2
      exact ⟨rfl, rfl, rfl, rfl, rfl, rfl, rfl, by show Value.int IntKind.i64 ((i : Int) + 1) = _; go_num, by omega, hFin.out⟩

set_option maxRecDepth 100000 in
set_option maxHeartbeats 4000000 in
theorem rd_d0 (n m p gw B : Nat) (bq q : Nat → Nat) (c : Nat) (acts : List ActV) (w wr : World) (ab ao i : Nat) (hlt : i < acts.length) (xd xa : Nat) (xk : Int) (f : Nat → Value)
    (y0' : wr.cell? ⟨ab, ao + i * 3, none⟩ = some (.int .u8 (xd : Int))) (y1' : wr.cell? ⟨ab, ao + i * 3 + 1, none⟩ = some (.int .i64 xk)) (y2' : wr.cell? ⟨ab, ao + i * 3 + 2, none⟩ = some (.int .u16 (xa : Int)))
    (r1 : (xd : Int) ≤ 255) (r3 : (xa : Int) ≤ 65535) (L : St) (d : Nat → Rd) (u h s : Nat → Value) (hm : Mem w wr p bq L gw B q d u h s) (hR : ∀ j, j ≤ 1 → Rel (L j) (d j)) (hlen : acts.length ≤ 200)
    (hd5 : 5 < xd) (hxk : ¬ xk = 0) (K : Act → World → Prop) (Q : Exit → Act → World → Prop) (hK : ∀ a w', PlI n m p (some ⟨ab, ao, none⟩) c acts bq gw B q w (i + 1) a w' → K a w') :
    Code.wp Try.prog body4 (Exit.then K Q) ⟨#[.int .i64 n, .int .i64 m, .slice (some ⟨ab, ao, none⟩) acts.length c, f 3, f 4, f 5, f 6, .pointer (some ⟨p, 0, none⟩), f 8, .slice (some ⟨gw, 0, none⟩) 2 2, .int .i64 i, f 11, f 12, f 13, f 14, f 15, f 16, f 17, f 18, f 19, f 20, f 21, f 22, f 23, f 24, f 25, f 26, f 27, f 28, f 29, f 30, f 31, f 32, f 33, f 34, f 35, f 36, f 37, f 38, f 39, f 40, f 41, f 42, f 43, f 44, f 45, f 46, f 47, f 48, f 49, f 50, f 51, f 52, f 53, f 54, f 55, f 56, f 57, f 58, f 59, f 60, f 61, f 62, f 63, f 64, f 65, f 66, f 67, f 68, f 69, f 70, f 71, f 72, f 73, f 74, f 75, f 76, f 77, f 78, f 79, f 80, f 81, f 82, f 83, f 84, f 85, f 86, f 87, f 88, f 89, f 90, f 91, f 92, f 93, f 94, f 95, f 96, f 97, f 98, f 99, f 100, f 101, f 102, f 103, f 104, f 105, f 106, f 107, f 108, f 109, f 110, f 111, f 112, f 113, f 114, f 115, f 116, f 117, f 118, f 119, f 120, f 121, f 122, f 123, f 124, f 125, f 126, f 127, f 128, f 129, f 130, f 131, f 132, f 133, f 134, f 135, f 136, f 137, f 138, f 139, f 140, f 141, f 142, f 143, f 144, f 145, f 146, f 147, f 148, f 149, f 150, f 151, f 152, f 153, f 154, f 155, f 156, f 157, f 158, f 159, f 160, f 161, f 162, f 163, f 164, f 165, f 166, f 167, f 168, f 169, f 170, f 171, f 172, f 173, f 174, f 175, f 176, f 177, f 178, f 179, f 180, f 181, f 182, f 183, f 184, f 185, f 186, f 187, f 188, f 189, f 190, f 191, f 192, f 193, f 194, f 195, f 196, f 197, f 198, f 199, f 200, f 201, f 202, f 203, f 204, f 205, f 206, f 207, f 208, f 209, f 210, f 211, f 212, f 213, f 214, f 215], []⟩ wr := by
  have i0 : (0 : Int) ≤ (i : Int) := by omega
  have i1 : (i : Int) < (acts.length : Int) := by omega
  have hnb := Blk.new wr 32 #[.int .u8 (xd : Int), .int .i64 xk, .int .u16 (xa : Int)]
  have hm5 := hm.next ((Only.refl (fun _ => False) wr).alloc (.cells #[.int .u8 (xd : Int), .int .i64 xk, .int .u16 (xa : Int)] 32))
  have hfar : ∀ j, j ≤ 1 → ¬ Own (q j) (u j) (h j) (s j) wr.heap.size := fun j hj h => by have := ((hm.dk j hj).lt _ h).2; omega
  have hfar2 : ¬ Rows2 bq wr.heap.size := rows2_not hm.bB hm.hB
  have b0 : ((xd : Int) == 0) = false := beq_false_of_ne (by omega)
  have e0 : ¬ (xd : Int) = 0 := by omega
  have b1 : ((xd : Int) == 1) = false := beq_false_of_ne (by omega)
  have e1 : ¬ (xd : Int) = 1 := by omega
  have b2 : ((xd : Int) == 2) = false := beq_false_of_ne (by omega)
  have e2 : ¬ (xd : Int) = 2 := by omega
  have b3 : ((xd : Int) == 3) = false := beq_false_of_ne (by omega)
  have e3 : ¬ (xd : Int) = 3 := by omega
  have b4 : ((xd : Int) == 4) = false := beq_false_of_ne (by omega)
  have e4 : ¬ (xd : Int) = 4 := by omega
  have b5 : ((xd : Int) == 5) = false := beq_false_of_ne (by omega)
  have e5 : ¬ (xd : Int) = 5 := by omega
  have z0 := hnb.cell 0
  have z1 := hnb.cell 1
  simp only [List.getElem?_toArray, List.getElem?_cons_zero, List.getElem?_cons_succ] at z0 z1
  have hcS := Lib.hid (back_in hm5.sat)
  have hH := Lib.hid (And.intro hm5 hR)
  clear hm5 hR hm hnb
  have hb0 : (xk == 0) = false := beq_false_of_ne hxk
  conv => arg 2; whnf
  go_wp2_with fail
  refine hcS.out.mono ?_
  rintro e w8 ⟨rfl, hS8, ho8⟩
  obtain ⟨hm5, hR⟩ := hH.out
  have hPB := Lib.hid (PB.start (hm5.space hS8 ho8) hR)
  clear hS8 ho8 hcS z0 z1 hm5 hR
  go_wp2
  go_loopw [16] (fun t wk => ∃ k : Nat, t = .int .i64 k ∧ k ≤ 2 ∧ PB w p bq gw B q L k wk) (fun t _ => 2 - (intOf t).toNat)
  case atStart => exact ⟨0, rfl, by omega, hPB.out⟩
  case round =>
    obtain ⟨k, rfl, hk, hPk⟩ := hrel
    by_cases hk2 : k < 2
    · have k0 : (k : Int) < 2 := by omega
      have k1 : (0 : Int) ≤ (k : Int) := by omega
      obtain ⟨hr, Au, nu, cu, Ah, nh, ch, A9, n9, c9, w', vh, y1, y2, hap, t1, t2, r2, v2, f2, r3, t3, hPB2⟩ := PB.step (hPk.next (Only.refl _ _).drew) (by omega)
      have hr' : wr.cell? ⟨gw, k, none⟩ = some (.pointer (some ⟨q k, 0, none⟩)) := hr
      have y1' : wr.cell? ⟨q k, 1, none⟩ = some (.slice Au nu cu) := y1
      have y2' : wr.cell? ⟨q k, 2, none⟩ = some (.slice Ah nh ch) := y2
      have hF := Lib.hid hPB2
      clear hPk hr y1 y2 hPB2
      go_wp2
      refine wp_region_noPanic ?_
      refine wp_region_E 21 (fun W => W.cell? ⟨gw, k, none⟩ = some (.pointer (some ⟨q k, 0, none⟩)) ∧ W.cell? ⟨q k, 1, none⟩ = some (.slice Au nu cu) ∧ W.cell? ⟨q k, 2, none⟩ = some (.slice Ah nh ch)) (by kernel_rfl) ?_
      have hS0 := And.intro hr' (And.intro y1' y2')
      refine E_take (v := ?v0x0) 0 rfl (by kernel_rfl) (by kernel_rfl) (by kernel_rfl) (by kernel_rfl) (by kernel_rfl) (by kernel_rfl) (fun _ _ _ h => h) rfl hS0 ?hy0x0 ?_
      case hy0x0 => intro W hW; obtain ⟨s1, s2, s3⟩ := hW; go_simp; try with_reducible rfl
      simp only [Act.put, List.setIfInBounds_toArray, List.set_cons_zero, List.set_cons_succ]
      refine E_take (v := ?v0x1) 1 rfl (by kernel_rfl) (by kernel_rfl) (by kernel_rfl) (by kernel_rfl) (by kernel_rfl) (by kernel_rfl) (fun _ _ _ h => h) rfl hS0 ?hy0x1 ?_
      case hy0x1 => intro W hW; obtain ⟨s1, s2, s3⟩ := hW; go_simp; try with_reducible rfl
      simp only [Act.put, List.setIfInBounds_toArray, List.set_cons_zero, List.set_cons_succ]
      refine E_take (v := ?v0x2) 2 rfl (by kernel_rfl) (by kernel_rfl) (by kernel_rfl) (by kernel_rfl) (by kernel_rfl) (by kernel_rfl) (fun _ _ _ h => h) rfl hS0 ?hy0x2 ?_
      case hy0x2 => intro W hW; obtain ⟨s1, s2, s3⟩ := hW; go_simp; try with_reducible rfl
      simp only [Act.put, List.setIfInBounds_toArray, List.set_cons_zero, List.set_cons_succ]
      refine E_take (v := ?v0x3) 3 rfl (by kernel_rfl) (by kernel_rfl) (by kernel_rfl) (by kernel_rfl) (by kernel_rfl) (by kernel_rfl) (fun _ _ _ h => h) rfl hS0 ?hy0x3 ?_
      case hy0x3 => intro W hW; obtain ⟨s1, s2, s3⟩ := hW; go_simp; try with_reducible rfl
      simp only [Act.put, List.setIfInBounds_toArray, List.set_cons_zero, List.set_cons_succ]
      refine E_take (v := ?v0x4) 4 rfl (by kernel_rfl) (by kernel_rfl) (by kernel_rfl) (by kernel_rfl) (by kernel_rfl) (by kernel_rfl) (fun _ _ _ h => h) rfl hS0 ?hy0x4 ?_
      case hy0x4 => intro W hW; obtain ⟨s1, s2, s3⟩ := hW; go_simp; try with_reducible rfl
      simp only [Act.put, List.setIfInBounds_toArray, List.set_cons_zero, List.set_cons_succ]
      refine E_take (v := ?v0x5) 5 rfl (by kernel_rfl) (by kernel_rfl) (by kernel_rfl) (by kernel_rfl) (by kernel_rfl) (by kernel_rfl) (fun _ _ _ h => h) rfl hS0 ?hy0x5 ?_
      case hy0x5 => intro W hW; obtain ⟨s1, s2, s3⟩ := hW; go_simp; try with_reducible rfl
      simp only [Act.put, List.setIfInBounds_toArray, List.set_cons_zero, List.set_cons_succ]
      refine E_take (v := ?v0x6) 6 rfl (by kernel_rfl) (by kernel_rfl) (by kernel_rfl) (by kernel_rfl) (by kernel_rfl) (by kernel_rfl) (fun _ _ _ h => h) rfl hS0 ?hy0x6 ?_
      case hy0x6 => intro W hW; obtain ⟨s1, s2, s3⟩ := hW; go_simp; try with_reducible rfl
      simp only [Act.put, List.setIfInBounds_toArray, List.set_cons_zero, List.set_cons_succ]
      refine E_take (v := ?v0x7) 7 rfl (by kernel_rfl) (by kernel_rfl) (by kernel_rfl) (by kernel_rfl) (by kernel_rfl) (by kernel_rfl) (fun _ _ _ h => h) rfl hS0 ?hy0x7 ?_
      case hy0x7 => intro W hW; obtain ⟨s1, s2, s3⟩ := hW; go_simp; try with_reducible rfl
      simp only [Act.put, List.setIfInBounds_toArray, List.set_cons_zero, List.set_cons_succ]
      refine E_take (v := ?v0x8) 8 rfl (by kernel_rfl) (by kernel_rfl) (by kernel_rfl) (by kernel_rfl) (by kernel_rfl) (by kernel_rfl) (fun _ _ _ h => h) rfl hS0 ?hy0x8 ?_
      case hy0x8 => intro W hW; obtain ⟨s1, s2, s3⟩ := hW; go_simp; try with_reducible rfl
      simp only [Act.put, List.setIfInBounds_toArray, List.set_cons_zero, List.set_cons_succ]
      refine E_take (v := ?v0x9) 9 rfl (by kernel_rfl) (by kernel_rfl) (by kernel_rfl) (by kernel_rfl) (by kernel_rfl) (by kernel_rfl) (fun _ _ _ h => h) rfl hS0 ?hy0x9 ?_
      case hy0x9 => intro W hW; obtain ⟨s1, s2, s3⟩ := hW; go_simp; try with_reducible rfl
      simp only [Act.put, List.setIfInBounds_toArray, List.set_cons_zero, List.set_cons_succ]
      refine E_take (v := ?v0x10) 10 rfl (by kernel_rfl) (by kernel_rfl) (by kernel_rfl) (by kernel_rfl) (by kernel_rfl) (by kernel_rfl) (fun _ _ _ h => h) rfl hS0 ?hy0x10 ?_
      case hy0x10 => intro W hW; obtain ⟨s1, s2, s3⟩ := hW; go_simp; try with_reducible rfl
      simp only [Act.put, List.setIfInBounds_toArray, List.set_cons_zero, List.set_cons_succ]
      refine E_take (v := ?v0x11) 11 rfl (by kernel_rfl) (by kernel_rfl) (by kernel_rfl) (by kernel_rfl) (by kernel_rfl) (by kernel_rfl) (fun _ _ _ h => h) rfl hS0 ?hy0x11 ?_
      case hy0x11 => intro W hW; obtain ⟨s1, s2, s3⟩ := hW; go_simp; try with_reducible rfl
      simp only [Act.put, List.setIfInBounds_toArray, List.set_cons_zero, List.set_cons_succ]
      refine E_take (v := ?v0x12) 12 rfl (by kernel_rfl) (by kernel_rfl) (by kernel_rfl) (by kernel_rfl) (by kernel_rfl) (by kernel_rfl) (fun _ _ _ h => h) rfl hS0 ?hy0x12 ?_
      case hy0x12 => intro W hW; obtain ⟨s1, s2, s3⟩ := hW; go_simp; try with_reducible rfl
      simp only [Act.put, List.setIfInBounds_toArray, List.set_cons_zero, List.set_cons_succ]
      refine E_take (v := ?v0x13) 13 rfl (by kernel_rfl) (by kernel_rfl) (by kernel_rfl) (by kernel_rfl) (by kernel_rfl) (by kernel_rfl) (fun _ _ _ h => h) rfl hS0 ?hy0x13 ?_
      case hy0x13 => intro W hW; obtain ⟨s1, s2, s3⟩ := hW; go_simp; try with_reducible rfl
      simp only [Act.put, List.setIfInBounds_toArray, List.set_cons_zero, List.set_cons_succ]
      refine E_take (v := ?v0x14) 14 rfl (by kernel_rfl) (by kernel_rfl) (by kernel_rfl) (by kernel_rfl) (by kernel_rfl) (by kernel_rfl) (fun _ _ _ h => h) rfl hS0 ?hy0x14 ?_
      case hy0x14 => intro W hW; obtain ⟨s1, s2, s3⟩ := hW; go_simp; try with_reducible rfl
      simp only [Act.put, List.setIfInBounds_toArray, List.set_cons_zero, List.set_cons_succ]
      refine E_take (v := ?v0x15) 15 rfl (by kernel_rfl) (by kernel_rfl) (by kernel_rfl) (by kernel_rfl) (by kernel_rfl) (by kernel_rfl) (fun _ _ _ h => h) rfl hS0 ?hy0x15 ?_
      case hy0x15 => intro W hW; obtain ⟨s1, s2, s3⟩ := hW; go_simp; try with_reducible rfl
      simp only [Act.put, List.setIfInBounds_toArray, List.set_cons_zero, List.set_cons_succ]
      refine E_take (v := ?v0x16) 16 rfl (by kernel_rfl) (by kernel_rfl) (by kernel_rfl) (by kernel_rfl) (by kernel_rfl) (by kernel_rfl) (fun _ _ _ h => h) rfl hS0 ?hy0x16 ?_
      case hy0x16 => intro W hW; obtain ⟨s1, s2, s3⟩ := hW; go_simp; try with_reducible rfl
      simp only [Act.put, List.setIfInBounds_toArray, List.set_cons_zero, List.set_cons_succ]
      refine E_take (v := ?v0x17) 17 rfl (by kernel_rfl) (by kernel_rfl) (by kernel_rfl) (by kernel_rfl) (by kernel_rfl) (by kernel_rfl) (fun _ _ _ h => h) rfl hS0 ?hy0x17 ?_
      case hy0x17 => intro W hW; obtain ⟨s1, s2, s3⟩ := hW; go_simp; try with_reducible rfl
      simp only [Act.put, List.setIfInBounds_toArray, List.set_cons_zero, List.set_cons_succ]
      refine E_one 18 (by kernel_rfl) rfl (fun K hK => ?_)
      refine step_append_eq1 rfl (.tmp 99) (.tmp 106) 40 rfl (.slice Au nu cu) (.slice Ah nh ch) (.slice A9 n9 c9) w' (by simp [Act.eval]) (by simp [Act.eval]) hap ?_
      refine hK.out _ _ (fun _ => ⟨r3, t1, t3⟩) ?_
      clear hK K
      try simp only [Act.put, List.setIfInBounds_toArray, List.set_cons_zero, List.set_cons_succ]
      have hS1 := And.intro r3 (And.intro t1 t3)
      refine E_one 19 (by kernel_rfl) rfl (fun K hK => ?_)
      go_simp
      refine hK.out _ _ (fun _ => hS1) ?_
      clear hK K
      try simp only [Act.put, List.setIfInBounds_toArray, List.set_cons_zero, List.set_cons_succ]
      refine E_one 20 (by kernel_rfl) rfl (fun K hK => ?_)
      go_simp
      refine hK.out _ _ (fun _ => hS1) ?_
      clear hK K
      try simp only [Act.put, List.setIfInBounds_toArray, List.set_cons_zero, List.set_cons_succ]
      refine E_one 21 (by kernel_rfl) rfl (fun K hK => ?_)
      go_simp
      refine hK.out _ _ (fun h => absurd h (by decide)) ?_
      clear hK K
      try simp only [Act.put, List.setIfInBounds_toArray, List.set_cons_zero, List.set_cons_succ]
      refine E_done (by kernel_rfl) (NoPanic.normal ?_)
      all_goals
        go_wp2
        go_roundw
        case rel => exact ⟨k + 1, by go_num, by omega, hF.out⟩
        case measure => simp [intOf]; omega
    · have k0 : ¬ (k : Int) < 2 := by omega
      have hF := Lib.hid (hPk.done (by omega))
      clear hPk
      obtain ⟨L9, d9, u9, h9, s9, hm9, hR9⟩ := hF.out
      clear hF
      have hsame := Lib.hid (same_any (hm9.both hR9) 2 (by omega))
      go_wp2_with fail
      refine hsame.out.mono ?_
      rintro e w10 ⟨rfl, ho10⟩
      clear hsame
      have hFin := Lib.hid (show PI w p bq gw B q w10 from ⟨_, _, _, _, _, hm9.next ho10, hR9⟩)
      clear hm9 hR9 ho10
      go_wp2
      exact ⟨rfl, rfl, rfl, rfl, rfl, rfl, rfl, by show Value.int IntKind.i64 ((i : Int) + 1) = _; go_num, by omega, hFin.out⟩
end Go.Proofs.Ytlfnneljeoamlaa
