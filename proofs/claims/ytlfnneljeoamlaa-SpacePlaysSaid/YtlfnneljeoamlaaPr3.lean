/-
  The law SpacePlays: rounds of its loop, one theorem a kind of act.
-/
import Derived.Test.YtlfnneljeoamlaaPr0
namespace Go.Proofs.Ytlfnneljeoamlaa
open Go.RowKit
set_option linter.unusedVariables false

set_option maxRecDepth 100000 in
set_option maxHeartbeats 4000000 in
theorem rd_b10 (n m p gw B : Nat) (bq q : Nat → Nat) (c : Nat) (acts : List ActV) (w wr : World) (ab ao i : Nat) (hlt : i < acts.length) (xd xa : Nat) (xk : Int) (f : Nat → Value)
    (y0' : wr.cell? ⟨ab, ao + i * 3, none⟩ = some (.int .u8 (xd : Int))) (y1' : wr.cell? ⟨ab, ao + i * 3 + 1, none⟩ = some (.int .i64 xk)) (y2' : wr.cell? ⟨ab, ao + i * 3 + 2, none⟩ = some (.int .u16 (xa : Int)))
    (r1 : (xd : Int) ≤ 255) (r3 : (xa : Int) ≤ 65535) (L : St) (d : Nat → Rd) (u h s : Nat → Value) (hm : Mem w wr p bq L gw B q d u h s) (hR : ∀ j, j ≤ 1 → Rel (L j) (d j)) (hlen : acts.length ≤ 200)
    (hxd : xd = 1) (hxk : xk = 1) (K : Act → World → Prop) (Q : Exit → Act → World → Prop) (hK : ∀ a w', PlI n m p (some ⟨ab, ao, none⟩) c acts bq gw B q w (i + 1) a w' → K a w') :
    Code.wp Try.prog body4 (Exit.then K Q) ⟨#[.int .i64 n, .int .i64 m, .slice (some ⟨ab, ao, none⟩) acts.length c, f 3, f 4, f 5, f 6, .pointer (some ⟨p, 0, none⟩), f 8, .slice (some ⟨gw, 0, none⟩) 2 2, .int .i64 i, f 11, f 12, f 13, f 14, f 15, f 16, f 17, f 18, f 19, f 20, f 21, f 22, f 23, f 24, f 25, f 26, f 27, f 28, f 29, f 30, f 31, f 32, f 33, f 34, f 35, f 36, f 37, f 38, f 39, f 40, f 41, f 42, f 43, f 44, f 45, f 46, f 47, f 48, f 49, f 50, f 51, f 52, f 53, f 54, f 55, f 56, f 57, f 58, f 59, f 60, f 61, f 62, f 63, f 64, f 65, f 66, f 67, f 68, f 69, f 70, f 71, f 72, f 73, f 74, f 75, f 76, f 77, f 78, f 79, f 80, f 81, f 82, f 83, f 84, f 85, f 86, f 87, f 88, f 89, f 90, f 91, f 92, f 93, f 94, f 95, f 96, f 97, f 98, f 99, f 100, f 101, f 102, f 103, f 104, f 105, f 106, f 107, f 108, f 109, f 110, f 111, f 112, f 113, f 114, f 115, f 116, f 117, f 118, f 119, f 120, f 121, f 122, f 123, f 124, f 125, f 126, f 127, f 128, f 129, f 130, f 131, f 132, f 133, f 134, f 135, f 136, f 137, f 138, f 139, f 140, f 141, f 142, f 143, f 144, f 145, f 146, f 147, f 148, f 149, f 150, f 151, f 152, f 153, f 154, f 155, f 156, f 157, f 158, f 159, f 160, f 161, f 162, f 163, f 164, f 165, f 166, f 167, f 168, f 169, f 170, f 171, f 172, f 173, f 174, f 175, f 176, f 177, f 178, f 179, f 180, f 181, f 182, f 183, f 184, f 185, f 186, f 187, f 188, f 189, f 190, f 191, f 192, f 193, f 194, f 195, f 196, f 197, f 198, f 199, f 200, f 201, f 202, f 203, f 204, f 205, f 206, f 207, f 208, f 209, f 210, f 211, f 212, f 213, f 214, f 215], []⟩ wr := by
  have i0 : (0 : Int) ≤ (i : Int) := by omega
  have i1 : (i : Int) < (acts.length : Int) := by omega
  have hnb := Blk.new wr 32 #[.int .u8 (xd : Int), .int .i64 xk, .int .u16 (xa : Int)]
  have hm5 := hm.next ((Only.refl (fun _ => False) wr).alloc (.cells #[.int .u8 (xd : Int), .int .i64 xk, .int .u16 (xa : Int)] 32))
  have hfar : ∀ j, j ≤ 1 → ¬ Own (q j) (u j) (h j) (s j) wr.heap.size := fun j hj h => by have := ((hm.dk j hj).lt _ h).2; omega
  have hfar2 : ¬ Rows2 bq wr.heap.size := rows2_not hm.bB hm.hB
  subst hxk
  subst hxd
  have hj : 1 ≤ 1 := by omega
  have hk : 0 ≤ 3 := by omega
  have hsm := rel_small (hR 1 hj) (hm.sat.len 1 hj)
  have hm5d := hm5.next (Only.refl _ _).drew
  have hcA := Lib.hid (actR (hm5d.dk 1 hj) hm5d.hB hsm 0 hk xa (by omega))
  have hrw := hm5.row 1 hj
  obtain ⟨hop1, hop2⟩ := rel_op (hR 1 hj) 0 hk xa
  have hRA := upd_rel (L := L) (d := d) (j := 1) hR hop2
  have z0 := hnb.cell 0
  have z1 := hnb.cell 1
  have z2 := hnb.cell 2
  simp only [List.getElem?_toArray, List.getElem?_cons_zero, List.getElem?_cons_succ] at z0 z1 z2
  have hH := Lib.hid (And.intro hm5d (And.intro hRA hop1))
  have hHn := Lib.hid hnb.lt
  clear hm5 hm5d hR hRA hop1 hop2 hm hnb hsm
  simp only [c0, c1, c2, c3, Nat.zero_add, Nat.reduceAdd, c4] at *
  conv => arg 2; whnf
  go_wp2
  generalize hw5 : wr.alloc _ = w5 at *
  clear hw5
  go_still_tail 11, (by kernel_rfl)
  change wpList _ _ _ _ _ w5.drew
  go_wp2_with fail
  refine hcA.out.mono ?_
  rintro e w6 ⟨rfl, hN6⟩
  obtain ⟨hm5, hR9, hop⟩ := hH.out
  have z0' := (DkNext.kept (hm5.dk _ hj) hN6 hHn.out (hfar _ hj) 0).trans z0
  have z1' := (DkNext.kept (hm5.dk _ hj) hN6 hHn.out (hfar _ hj) 1).trans z1
  have z2' := (DkNext.kept (hm5.dk _ hj) hN6 hHn.out (hfar _ hj) 2).trans z2
  obtain ⟨u', h', s', hm6⟩ := hm5.disk hj hN6
  have hcS := Lib.hid (opS hm6.sat hj _ hk xa (by omega))
  clear hN6 z0 z1 z2 hm5
  go_wp2_with fail
  refine hcS.out.mono ?_
  rintro e w8 ⟨rfl, hS8, ho8⟩
  have hm9 := hm6.space hS8 ho8
  clear hm6 hS8 ho8 hcS hcA
  rw [hop]
  have hsame := Lib.hid (same_any (hm9.both hR9) 2 (by omega))
  go_wp2_with fail
  refine hsame.out.mono ?_
  rintro e w10 ⟨rfl, ho10⟩
  clear hsame
  have hFin := Lib.hid (show PI w p bq gw B q w10 from ⟨_, _, _, _, _, hm9.next ho10, hR9⟩)
  clear hm9 hR9 ho10
  go_wp2
  exact ⟨rfl, rfl, rfl, rfl, rfl, rfl, rfl, by show Value.int IntKind.i64 ((i : Int) + 1) = _; go_num, by omega, hFin.out⟩

set_option maxRecDepth 100000 in
set_option maxHeartbeats 4000000 in
theorem rd_b11 (n m p gw B : Nat) (bq q : Nat → Nat) (c : Nat) (acts : List ActV) (w wr : World) (ab ao i : Nat) (hlt : i < acts.length) (xd xa : Nat) (xk : Int) (f : Nat → Value)
    (y0' : wr.cell? ⟨ab, ao + i * 3, none⟩ = some (.int .u8 (xd : Int))) (y1' : wr.cell? ⟨ab, ao + i * 3 + 1, none⟩ = some (.int .i64 xk)) (y2' : wr.cell? ⟨ab, ao + i * 3 + 2, none⟩ = some (.int .u16 (xa : Int)))
    (r1 : (xd : Int) ≤ 255) (r3 : (xa : Int) ≤ 65535) (L : St) (d : Nat → Rd) (u h s : Nat → Value) (hm : Mem w wr p bq L gw B q d u h s) (hR : ∀ j, j ≤ 1 → Rel (L j) (d j)) (hlen : acts.length ≤ 200)
    (hxd : xd = 2) (hxk : xk = 1) (K : Act → World → Prop) (Q : Exit → Act → World → Prop) (hK : ∀ a w', PlI n m p (some ⟨ab, ao, none⟩) c acts bq gw B q w (i + 1) a w' → K a w') :
    Code.wp Try.prog body4 (Exit.then K Q) ⟨#[.int .i64 n, .int .i64 m, .slice (some ⟨ab, ao, none⟩) acts.length c, f 3, f 4, f 5, f 6, .pointer (some ⟨p, 0, none⟩), f 8, .slice (some ⟨gw, 0, none⟩) 2 2, .int .i64 i, f 11, f 12, f 13, f 14, f 15, f 16, f 17, f 18, f 19, f 20, f 21, f 22, f 23, f 24, f 25, f 26, f 27, f 28, f 29, f 30, f 31, f 32, f 33, f 34, f 35, f 36, f 37, f 38, f 39, f 40, f 41, f 42, f 43, f 44, f 45, f 46, f 47, f 48, f 49, f 50, f 51, f 52, f 53, f 54, f 55, f 56, f 57, f 58, f 59, f 60, f 61, f 62, f 63, f 64, f 65, f 66, f 67, f 68, f 69, f 70, f 71, f 72, f 73, f 74, f 75, f 76, f 77, f 78, f 79, f 80, f 81, f 82, f 83, f 84, f 85, f 86, f 87, f 88, f 89, f 90, f 91, f 92, f 93, f 94, f 95, f 96, f 97, f 98, f 99, f 100, f 101, f 102, f 103, f 104, f 105, f 106, f 107, f 108, f 109, f 110, f 111, f 112, f 113, f 114, f 115, f 116, f 117, f 118, f 119, f 120, f 121, f 122, f 123, f 124, f 125, f 126, f 127, f 128, f 129, f 130, f 131, f 132, f 133, f 134, f 135, f 136, f 137, f 138, f 139, f 140, f 141, f 142, f 143, f 144, f 145, f 146, f 147, f 148, f 149, f 150, f 151, f 152, f 153, f 154, f 155, f 156, f 157, f 158, f 159, f 160, f 161, f 162, f 163, f 164, f 165, f 166, f 167, f 168, f 169, f 170, f 171, f 172, f 173, f 174, f 175, f 176, f 177, f 178, f 179, f 180, f 181, f 182, f 183, f 184, f 185, f 186, f 187, f 188, f 189, f 190, f 191, f 192, f 193, f 194, f 195, f 196, f 197, f 198, f 199, f 200, f 201, f 202, f 203, f 204, f 205, f 206, f 207, f 208, f 209, f 210, f 211, f 212, f 213, f 214, f 215], []⟩ wr := by
  have i0 : (0 : Int) ≤ (i : Int) := by omega
  have i1 : (i : Int) < (acts.length : Int) := by omega
  have hnb := Blk.new wr 32 #[.int .u8 (xd : Int), .int .i64 xk, .int .u16 (xa : Int)]
  have hm5 := hm.next ((Only.refl (fun _ => False) wr).alloc (.cells #[.int .u8 (xd : Int), .int .i64 xk, .int .u16 (xa : Int)] 32))
  have hfar : ∀ j, j ≤ 1 → ¬ Own (q j) (u j) (h j) (s j) wr.heap.size := fun j hj h => by have := ((hm.dk j hj).lt _ h).2; omega
  have hfar2 : ¬ Rows2 bq wr.heap.size := rows2_not hm.bB hm.hB
  subst hxk
  subst hxd
  have hj : 1 ≤ 1 := by omega
  have hk : 1 ≤ 3 := by omega
  have hsm := rel_small (hR 1 hj) (hm.sat.len 1 hj)
  have hm5d := hm5.next (Only.refl _ _).drew
  have hcA := Lib.hid (actR (hm5d.dk 1 hj) hm5d.hB hsm 1 hk xa (by omega))
  have hrw := hm5.row 1 hj
  obtain ⟨hop1, hop2⟩ := rel_op (hR 1 hj) 1 hk xa
  have hRA := upd_rel (L := L) (d := d) (j := 1) hR hop2
  have z0 := hnb.cell 0
  have z1 := hnb.cell 1
  have z2 := hnb.cell 2
  simp only [List.getElem?_toArray, List.getElem?_cons_zero, List.getElem?_cons_succ] at z0 z1 z2
  have hH := Lib.hid (And.intro hm5d (And.intro hRA hop1))
  have hHn := Lib.hid hnb.lt
  clear hm5 hm5d hR hRA hop1 hop2 hm hnb hsm
  simp only [c0, c1, c2, c3, Nat.zero_add, Nat.reduceAdd, c4] at *
  conv => arg 2; whnf
  go_wp2
  generalize hw5 : wr.alloc _ = w5 at *
  clear hw5
  go_still_tail 11, (by kernel_rfl)
  change wpList _ _ _ _ _ w5.drew
  go_wp2_with fail
  refine hcA.out.mono ?_
  rintro e w6 ⟨rfl, hN6⟩
  obtain ⟨hm5, hR9, hop⟩ := hH.out
  have z0' := (DkNext.kept (hm5.dk _ hj) hN6 hHn.out (hfar _ hj) 0).trans z0
  have z1' := (DkNext.kept (hm5.dk _ hj) hN6 hHn.out (hfar _ hj) 1).trans z1
  have z2' := (DkNext.kept (hm5.dk _ hj) hN6 hHn.out (hfar _ hj) 2).trans z2
  obtain ⟨u', h', s', hm6⟩ := hm5.disk hj hN6
  have hcS := Lib.hid (opS hm6.sat hj _ hk xa (by omega))
  clear hN6 z0 z1 z2 hm5
  go_wp2_with fail
  refine hcS.out.mono ?_
  rintro e w8 ⟨rfl, hS8, ho8⟩
  have hm9 := hm6.space hS8 ho8
  clear hm6 hS8 ho8 hcS hcA
  rw [hop]
  have hsame := Lib.hid (same_any (hm9.both hR9) 2 (by omega))
  go_wp2_with fail
  refine hsame.out.mono ?_
  rintro e w10 ⟨rfl, ho10⟩
  clear hsame
  have hFin := Lib.hid (show PI w p bq gw B q w10 from ⟨_, _, _, _, _, hm9.next ho10, hR9⟩)
  clear hm9 hR9 ho10
  go_wp2
  exact ⟨rfl, rfl, rfl, rfl, rfl, rfl, rfl, by show Value.int IntKind.i64 ((i : Int) + 1) = _; go_num, by omega, hFin.out⟩

set_option maxRecDepth 100000 in
set_option maxHeartbeats 4000000 in
theorem rd_b12 (n m p gw B : Nat) (bq q : Nat → Nat) (c : Nat) (acts : List ActV) (w wr : World) (ab ao i : Nat) (hlt : i < acts.length) (xd xa : Nat) (xk : Int) (f : Nat → Value)
    (y0' : wr.cell? ⟨ab, ao + i * 3, none⟩ = some (.int .u8 (xd : Int))) (y1' : wr.cell? ⟨ab, ao + i * 3 + 1, none⟩ = some (.int .i64 xk)) (y2' : wr.cell? ⟨ab, ao + i * 3 + 2, none⟩ = some (.int .u16 (xa : Int)))
    (r1 : (xd : Int) ≤ 255) (r3 : (xa : Int) ≤ 65535) (L : St) (d : Nat → Rd) (u h s : Nat → Value) (hm : Mem w wr p bq L gw B q d u h s) (hR : ∀ j, j ≤ 1 → Rel (L j) (d j)) (hlen : acts.length ≤ 200)
    (hxd : xd = 3) (hxk : xk = 1) (K : Act → World → Prop) (Q : Exit → Act → World → Prop) (hK : ∀ a w', PlI n m p (some ⟨ab, ao, none⟩) c acts bq gw B q w (i + 1) a w' → K a w') :
    Code.wp Try.prog body4 (Exit.then K Q) ⟨#[.int .i64 n, .int .i64 m, .slice (some ⟨ab, ao, none⟩) acts.length c, f 3, f 4, f 5, f 6, .pointer (some ⟨p, 0, none⟩), f 8, .slice (some ⟨gw, 0, none⟩) 2 2, .int .i64 i, f 11, f 12, f 13, f 14, f 15, f 16, f 17, f 18, f 19, f 20, f 21, f 22, f 23, f 24, f 25, f 26, f 27, f 28, f 29, f 30, f 31, f 32, f 33, f 34, f 35, f 36, f 37, f 38, f 39, f 40, f 41, f 42, f 43, f 44, f 45, f 46, f 47, f 48, f 49, f 50, f 51, f 52, f 53, f 54, f 55, f 56, f 57, f 58, f 59, f 60, f 61, f 62, f 63, f 64, f 65, f 66, f 67, f 68, f 69, f 70, f 71, f 72, f 73, f 74, f 75, f 76, f 77, f 78, f 79, f 80, f 81, f 82, f 83, f 84, f 85, f 86, f 87, f 88, f 89, f 90, f 91, f 92, f 93, f 94, f 95, f 96, f 97, f 98, f 99, f 100, f 101, f 102, f 103, f 104, f 105, f 106, f 107, f 108, f 109, f 110, f 111, f 112, f 113, f 114, f 115, f 116, f 117, f 118, f 119, f 120, f 121, f 122, f 123, f 124, f 125, f 126, f 127, f 128, f 129, f 130, f 131, f 132, f 133, f 134, f 135, f 136, f 137, f 138, f 139, f 140, f 141, f 142, f 143, f 144, f 145, f 146, f 147, f 148, f 149, f 150, f 151, f 152, f 153, f 154, f 155, f 156, f 157, f 158, f 159, f 160, f 161, f 162, f 163, f 164, f 165, f 166, f 167, f 168, f 169, f 170, f 171, f 172, f 173, f 174, f 175, f 176, f 177, f 178, f 179, f 180, f 181, f 182, f 183, f 184, f 185, f 186, f 187, f 188, f 189, f 190, f 191, f 192, f 193, f 194, f 195, f 196, f 197, f 198, f 199, f 200, f 201, f 202, f 203, f 204, f 205, f 206, f 207, f 208, f 209, f 210, f 211, f 212, f 213, f 214, f 215], []⟩ wr := by
  have i0 : (0 : Int) ≤ (i : Int) := by omega
  have i1 : (i : Int) < (acts.length : Int) := by omega
  have hnb := Blk.new wr 32 #[.int .u8 (xd : Int), .int .i64 xk, .int .u16 (xa : Int)]
  have hm5 := hm.next ((Only.refl (fun _ => False) wr).alloc (.cells #[.int .u8 (xd : Int), .int .i64 xk, .int .u16 (xa : Int)] 32))
  have hfar : ∀ j, j ≤ 1 → ¬ Own (q j) (u j) (h j) (s j) wr.heap.size := fun j hj h => by have := ((hm.dk j hj).lt _ h).2; omega
  have hfar2 : ¬ Rows2 bq wr.heap.size := rows2_not hm.bB hm.hB
  subst hxk
  subst hxd
  have hj : 1 ≤ 1 := by omega
  have hk : 2 ≤ 3 := by omega
  have hsm := rel_small (hR 1 hj) (hm.sat.len 1 hj)
  have hm5d := hm5.next (Only.refl _ _).drew
  have hcA := Lib.hid (actR (hm5d.dk 1 hj) hm5d.hB hsm 2 hk xa (by omega))
  have hrw := hm5.row 1 hj
  obtain ⟨hop1, hop2⟩ := rel_op (hR 1 hj) 2 hk xa
  have hRA := upd_rel (L := L) (d := d) (j := 1) hR hop2
  have z0 := hnb.cell 0
  have z1 := hnb.cell 1
  have z2 := hnb.cell 2
  simp only [List.getElem?_toArray, List.getElem?_cons_zero, List.getElem?_cons_succ] at z0 z1 z2
  have hH := Lib.hid (And.intro hm5d (And.intro hRA hop1))
  have hHn := Lib.hid hnb.lt
  clear hm5 hm5d hR hRA hop1 hop2 hm hnb hsm
  simp only [c0, c1, c2, c3, Nat.zero_add, Nat.reduceAdd, c4] at *
  conv => arg 2; whnf
  go_wp2
  generalize hw5 : wr.alloc _ = w5 at *
  clear hw5
  go_still_tail 11, (by kernel_rfl)
  change wpList _ _ _ _ _ w5.drew
  go_wp2_with fail
  refine hcA.out.mono ?_
  rintro e w6 ⟨rfl, hN6⟩
  obtain ⟨hm5, hR9, hop⟩ := hH.out
  have z0' := (DkNext.kept (hm5.dk _ hj) hN6 hHn.out (hfar _ hj) 0).trans z0
  have z1' := (DkNext.kept (hm5.dk _ hj) hN6 hHn.out (hfar _ hj) 1).trans z1
  have z2' := (DkNext.kept (hm5.dk _ hj) hN6 hHn.out (hfar _ hj) 2).trans z2
  obtain ⟨u', h', s', hm6⟩ := hm5.disk hj hN6
  have hcS := Lib.hid (opS hm6.sat hj _ hk xa (by omega))
  clear hN6 z0 z1 z2 hm5
  go_wp2_with fail
  refine hcS.out.mono ?_
  rintro e w8 ⟨rfl, hS8, ho8⟩
  have hm9 := hm6.space hS8 ho8
  clear hm6 hS8 ho8 hcS hcA
  rw [hop]
  have hsame := Lib.hid (same_any (hm9.both hR9) 2 (by omega))
  go_wp2_with fail
  refine hsame.out.mono ?_
  rintro e w10 ⟨rfl, ho10⟩
  clear hsame
  have hFin := Lib.hid (show PI w p bq gw B q w10 from ⟨_, _, _, _, _, hm9.next ho10, hR9⟩)
  clear hm9 hR9 ho10
  go_wp2
  exact ⟨rfl, rfl, rfl, rfl, rfl, rfl, rfl, by show Value.int IntKind.i64 ((i : Int) + 1) = _; go_num, by omega, hFin.out⟩

set_option maxRecDepth 100000 in
set_option maxHeartbeats 4000000 in
theorem rd_b13 (n m p gw B : Nat) (bq q : Nat → Nat) (c : Nat) (acts : List ActV) (w wr : World) (ab ao i : Nat) (hlt : i < acts.length) (xd xa : Nat) (xk : Int) (f : Nat → Value)
    (y0' : wr.cell? ⟨ab, ao + i * 3, none⟩ = some (.int .u8 (xd : Int))) (y1' : wr.cell? ⟨ab, ao + i * 3 + 1, none⟩ = some (.int .i64 xk)) (y2' : wr.cell? ⟨ab, ao + i * 3 + 2, none⟩ = some (.int .u16 (xa : Int)))
    (r1 : (xd : Int) ≤ 255) (r3 : (xa : Int) ≤ 65535) (L : St) (d : Nat → Rd) (u h s : Nat → Value) (hm : Mem w wr p bq L gw B q d u h s) (hR : ∀ j, j ≤ 1 → Rel (L j) (d j)) (hlen : acts.length ≤ 200)
    (hxd : xd = 4) (hxk : xk = 1) (K : Act → World → Prop) (Q : Exit → Act → World → Prop) (hK : ∀ a w', PlI n m p (some ⟨ab, ao, none⟩) c acts bq gw B q w (i + 1) a w' → K a w') :
    Code.wp Try.prog body4 (Exit.then K Q) ⟨#[.int .i64 n, .int .i64 m, .slice (some ⟨ab, ao, none⟩) acts.length c, f 3, f 4, f 5, f 6, .pointer (some ⟨p, 0, none⟩), f 8, .slice (some ⟨gw, 0, none⟩) 2 2, .int .i64 i, f 11, f 12, f 13, f 14, f 15, f 16, f 17, f 18, f 19, f 20, f 21, f 22, f 23, f 24, f 25, f 26, f 27, f 28, f 29, f 30, f 31, f 32, f 33, f 34, f 35, f 36, f 37, f 38, f 39, f 40, f 41, f 42, f 43, f 44, f 45, f 46, f 47, f 48, f 49, f 50, f 51, f 52, f 53, f 54, f 55, f 56, f 57, f 58, f 59, f 60, f 61, f 62, f 63, f 64, f 65, f 66, f 67, f 68, f 69, f 70, f 71, f 72, f 73, f 74, f 75, f 76, f 77, f 78, f 79, f 80, f 81, f 82, f 83, f 84, f 85, f 86, f 87, f 88, f 89, f 90, f 91, f 92, f 93, f 94, f 95, f 96, f 97, f 98, f 99, f 100, f 101, f 102, f 103, f 104, f 105, f 106, f 107, f 108, f 109, f 110, f 111, f 112, f 113, f 114, f 115, f 116, f 117, f 118, f 119, f 120, f 121, f 122, f 123, f 124, f 125, f 126, f 127, f 128, f 129, f 130, f 131, f 132, f 133, f 134, f 135, f 136, f 137, f 138, f 139, f 140, f 141, f 142, f 143, f 144, f 145, f 146, f 147, f 148, f 149, f 150, f 151, f 152, f 153, f 154, f 155, f 156, f 157, f 158, f 159, f 160, f 161, f 162, f 163, f 164, f 165, f 166, f 167, f 168, f 169, f 170, f 171, f 172, f 173, f 174, f 175, f 176, f 177, f 178, f 179, f 180, f 181, f 182, f 183, f 184, f 185, f 186, f 187, f 188, f 189, f 190, f 191, f 192, f 193, f 194, f 195, f 196, f 197, f 198, f 199, f 200, f 201, f 202, f 203, f 204, f 205, f 206, f 207, f 208, f 209, f 210, f 211, f 212, f 213, f 214, f 215], []⟩ wr := by
  have i0 : (0 : Int) ≤ (i : Int) := by omega
  have i1 : (i : Int) < (acts.length : Int) := by omega
  have hnb := Blk.new wr 32 #[.int .u8 (xd : Int), .int .i64 xk, .int .u16 (xa : Int)]
  have hm5 := hm.next ((Only.refl (fun _ => False) wr).alloc (.cells #[.int .u8 (xd : Int), .int .i64 xk, .int .u16 (xa : Int)] 32))
  have hfar : ∀ j, j ≤ 1 → ¬ Own (q j) (u j) (h j) (s j) wr.heap.size := fun j hj h => by have := ((hm.dk j hj).lt _ h).2; omega
  have hfar2 : ¬ Rows2 bq wr.heap.size := rows2_not hm.bB hm.hB
  subst hxk
  subst hxd
  have hj : 1 ≤ 1 := by omega
  have hk : 3 ≤ 3 := by omega
  have hsm := rel_small (hR 1 hj) (hm.sat.len 1 hj)
  have hm5d := hm5.next (Only.refl _ _).drew
  have hcA := Lib.hid (actR (hm5d.dk 1 hj) hm5d.hB hsm 3 hk xa (by omega))
  have hrw := hm5.row 1 hj
  obtain ⟨hop1, hop2⟩ := rel_op (hR 1 hj) 3 hk xa
  have hRA := upd_rel (L := L) (d := d) (j := 1) hR hop2
  have z0 := hnb.cell 0
  have z1 := hnb.cell 1
  have z2 := hnb.cell 2
  simp only [List.getElem?_toArray, List.getElem?_cons_zero, List.getElem?_cons_succ] at z0 z1 z2
  have hH := Lib.hid (And.intro hm5d (And.intro hRA hop1))
  have hHn := Lib.hid hnb.lt
  clear hm5 hm5d hR hRA hop1 hop2 hm hnb hsm
  simp only [c0, c1, c2, c3, Nat.zero_add, Nat.reduceAdd, c4] at *
  conv => arg 2; whnf
  go_wp2
  generalize hw5 : wr.alloc _ = w5 at *
  clear hw5
  go_still_tail 11, (by kernel_rfl)
  change wpList _ _ _ _ _ w5.drew
  go_wp2_with fail
  refine hcA.out.mono ?_
  rintro e w6 ⟨rfl, hN6⟩
  obtain ⟨hm5, hR9, hop⟩ := hH.out
  have z0' := (DkNext.kept (hm5.dk _ hj) hN6 hHn.out (hfar _ hj) 0).trans z0
  have z1' := (DkNext.kept (hm5.dk _ hj) hN6 hHn.out (hfar _ hj) 1).trans z1
  have z2' := (DkNext.kept (hm5.dk _ hj) hN6 hHn.out (hfar _ hj) 2).trans z2
  obtain ⟨u', h', s', hm6⟩ := hm5.disk hj hN6
  have hcS := Lib.hid (opS hm6.sat hj _ hk xa (by omega))
  clear hN6 z0 z1 z2 hm5
  go_wp2_with fail
  refine hcS.out.mono ?_
  rintro e w8 ⟨rfl, hS8, ho8⟩
  have hm9 := hm6.space hS8 ho8
  clear hm6 hS8 ho8 hcS hcA
  rw [hop]
  have hsame := Lib.hid (same_any (hm9.both hR9) 2 (by omega))
  go_wp2_with fail
  refine hsame.out.mono ?_
  rintro e w10 ⟨rfl, ho10⟩
  clear hsame
  have hFin := Lib.hid (show PI w p bq gw B q w10 from ⟨_, _, _, _, _, hm9.next ho10, hR9⟩)
  clear hm9 hR9 ho10
  go_wp2
  exact ⟨rfl, rfl, rfl, rfl, rfl, rfl, rfl, by show Value.int IntKind.i64 ((i : Int) + 1) = _; go_num, by omega, hFin.out⟩
end Go.Proofs.Ytlfnneljeoamlaa
