/-
  The law's known, wakes (func 52, 25).
-/
import Derived.Test.YtnclappdokhciaaK7
import Derived.Test.YtnclappdokhciaaK9b
namespace Go.Proofs.Ytnclappdokhciaa
open Go Go.RowKit
set_option linter.unusedVariables false
def tD : Ent := ⟨⟨#[100]⟩, 2, 2⟩
def tL : Ent := ⟨⟨#[108]⟩, 3, 3⟩
def tS : Ent := ⟨⟨#[115]⟩, 5, 3⟩
def tF : Ent := ⟨⟨#[102]⟩, 4, 1⟩
def knT (A1 A2 : Option Addr) : List Thg := [⟨A1, 3, [tD, tL, tS], ⟨#[]⟩, 0⟩, ⟨A2, 1, [tF], ⟨#[]⟩, 0⟩, ⟨none, 0, [], ⟨#[100]⟩, 0⟩, ⟨none, 0, [], ⟨#[]⟩, 0⟩, ⟨none, 0, [], ⟨#[115]⟩, 0⟩]
theorem kn0 : areS [] = true := by kernel_rfl
theorem kn1 : areS [tD, tL, tS] = true := by kernel_rfl
theorem kn2 : areS [tF] = true := by kernel_rfl
theorem knT_good (A1 A2 : Option Addr) : Good (knT A1 A2) := by
  refine ⟨(by decide : 5 ≤ 12), fun t ht => ?_⟩
  simp only [knT, List.mem_cons, List.not_mem_nil, or_false] at ht
  rcases ht with rfl | rfl | rfl | rfl | rfl
  · exact ⟨kn1, fun h => absurd rfl h, Nat.zero_le _⟩
  · exact ⟨kn2, fun h => absurd rfl h, Nat.zero_le _⟩
  · exact ⟨kn0, fun h => absurd rfl h, by decide⟩
  · exact ⟨kn0, fun h => absurd rfl h, by decide⟩
  · exact ⟨kn0, fun h => absurd rfl h, by decide⟩
theorem kw1 (A1 A2 : Option Addr) : walkS (knT A1 A2) ⟨#[108, 47, 102]⟩ false = (⟨2, ⟨#[102]⟩, 4, 1, false, [1, 2]⟩, 0) := by kernel_rfl
theorem kw2 (A1 A2 : Option Addr) : walkS (knT A1 A2) ⟨#[100, 47, 120]⟩ true = (⟨2, ⟨#[120]⟩, 0, 0, false, [1, 2]⟩, 0) := by kernel_rfl
theorem kw3 (A1 A2 : Option Addr) : walkS (knT A1 A2) ⟨#[100, 47, 102, 47]⟩ true = (noF, 24) := by kernel_rfl
theorem kw4 (A1 A2 : Option Addr) : walkS (knT A1 A2) ⟨#[115, 47, 102]⟩ false = (noF, 35) := by kernel_rfl
theorem kw5 (A1 A2 : Option Addr) : walkS (knT A1 A2) ⟨#[115]⟩ false = (⟨1, ⟨#[115]⟩, 5, 3, false, [1]⟩, 0) := by kernel_rfl
theorem Blk.reads {w : World} {g n : Nat} {t : TypeId} {cs : Array Value} (xs : List Value) (h : Blk w g t cs) (hn : xs.length = n) (hx : cs.toList = xs) : Reads w w.heap.size (some ⟨g, 0, none⟩) n xs := by
  refine ⟨hn, fun _ => ⟨g, 0, rfl, h.lt, fun j u hu => ?_⟩⟩
  rw [Nat.zero_add, h.cell, ← Array.getElem?_toList, hx]
  exact hu
set_option maxRecDepth 20000 in
set_option maxHeartbeats 8000000 in
theorem known_any (w : World) :
    Calls Try.prog 52 #[] w fun r w' => ∃ g A A1 A2, r = .returned (.pointer (some ⟨g, 0, none⟩)) ∧ Blk w' g 45 #[.slice A (knT A1 A2).length 5, .int .i64 ((0 : Nat) : Int)] ∧ RowT w' A (knT A1 A2) 5 ∧ w.heap.size ≤ g ∧ Only (fun _ => False) w w' := by
  go_enter Try.func52, Try.ntmps52
  go_wp2
  have b1 := Blk.new w 79 #[.string ⟨#[100]⟩, .int .u16 2, .int .u8 2, .string ⟨#[108]⟩, .int .u16 3, .int .u8 3, .string ⟨#[115]⟩, .int .u16 5, .int .u8 3]
  generalize hw1 : w.alloc (.cells #[.string ⟨#[100]⟩, .int .u16 2, .int .u8 2, .string ⟨#[108]⟩, .int .u16 3, .int .u8 3, .string ⟨#[115]⟩, .int .u16 5, .int .u8 3] 79) = w1 at *
  have z1 : w1.heap.size = w.heap.size + 1 := by rw [← hw1]; simp
  have o1 : Only (fun _ => False) w w1 := by rw [← hw1]; exact (Only.refl _ _).alloc _
  have b2 := Blk.new w1 79 #[.string ⟨#[102]⟩, .int .u16 4, .int .u8 1]
  rw [z1] at b2
  have o2 : Only (fun _ => False) w1 (w1.alloc (.cells #[.string ⟨#[102]⟩, .int .u16 4, .int .u8 1] 79)) := (Only.refl _ _).alloc _
  generalize hw2 : w1.alloc (.cells #[.string ⟨#[102]⟩, .int .u16 4, .int .u8 1] 79) = w2 at *
  have z2 : w2.heap.size = w.heap.size + 1 + 1 := by rw [← hw2]; simp [z1]
  have b3 := Blk.new w2 98 #[.slice (some ⟨w.heap.size, 0, none⟩) 3 3, .string ⟨#[]⟩, .int .i64 0, .slice (some ⟨w.heap.size + 1, 0, none⟩) 1 1, .string ⟨#[]⟩, .int .i64 0, .slice none 0 0, .string ⟨#[100]⟩, .int .i64 0, .slice none 0 0, .string ⟨#[]⟩, .int .i64 0, .slice none 0 0, .string ⟨#[115]⟩, .int .i64 0]
  rw [z2] at b3
  have o3 : Only (fun _ => False) w2 (w2.alloc (.cells #[.slice (some ⟨w.heap.size, 0, none⟩) 3 3, .string ⟨#[]⟩, .int .i64 0, .slice (some ⟨w.heap.size + 1, 0, none⟩) 1 1, .string ⟨#[]⟩, .int .i64 0, .slice none 0 0, .string ⟨#[100]⟩, .int .i64 0, .slice none 0 0, .string ⟨#[]⟩, .int .i64 0, .slice none 0 0, .string ⟨#[115]⟩, .int .i64 0] 98)) := (Only.refl _ _).alloc _
  generalize hw3 : w2.alloc (.cells #[.slice (some ⟨w.heap.size, 0, none⟩) 3 3, .string ⟨#[]⟩, .int .i64 0, .slice (some ⟨w.heap.size + 1, 0, none⟩) 1 1, .string ⟨#[]⟩, .int .i64 0, .slice none 0 0, .string ⟨#[100]⟩, .int .i64 0, .slice none 0 0, .string ⟨#[]⟩, .int .i64 0, .slice none 0 0, .string ⟨#[115]⟩, .int .i64 0] 98) = w3 at *
  have z3 : w3.heap.size = w.heap.size + 1 + 1 + 1 := by rw [← hw3]; simp [z2]
  have b4 := Blk.new w3 45 #[.slice (some ⟨w.heap.size + 1 + 1, 0, none⟩) 5 5, .int .i64 0]
  rw [z3] at b4
  have o4 : Only (fun _ => False) w3 (w3.alloc (.cells #[.slice (some ⟨w.heap.size + 1 + 1, 0, none⟩) 5 5, .int .i64 0] 45)) := (Only.refl _ _).alloc _
  generalize hw4 : w3.alloc (.cells #[.slice (some ⟨w.heap.size + 1 + 1, 0, none⟩) 5 5, .int .i64 0] 45) = w4 at *
  have b3' := b3.only o4 (fun x => x)
  have b2' := (b2.only o3 (fun x => x)).only o4 (fun x => x)
  have b1' := ((b1.only o2 (fun x => x)).only o3 (fun x => x)).only o4 (fun x => x)
  refine bodyPost_ret (v := .pointer (some ⟨w.heap.size + 1 + 1 + 1, 0, none⟩)) (by simp [results, Try.results52, go_sem]) rfl ?_
  refine ⟨w.heap.size + 1 + 1 + 1, some ⟨w.heap.size + 1 + 1, 0, none⟩, some ⟨w.heap.size, 0, none⟩, some ⟨w.heap.size + 1, 0, none⟩, rfl, b4, ⟨Blk.reads _ b3' rfl rfl, ⟨Nat.le_refl _, fun e => by cases e⟩, fun t ht => ?_⟩, by omega, ((o1.trans o2).trans o3).trans o4⟩
  simp only [knT, List.mem_cons, List.not_mem_nil, or_false] at ht
  rcases ht with rfl | rfl | rfl | rfl | rfl
  · exact ⟨Blk.reads _ b1' rfl rfl, Nat.le_refl _, fun e => by cases e⟩
  · exact ⟨Blk.reads _ b2' rfl rfl, Nat.le_refl _, fun e => by cases e⟩
  · exact RowE.nil _
  · exact RowE.nil _
  · exact RowE.nil _
theorem kwalk (path : ByteArray) (follow : Bool) (dir num kind : Nat) (name : ByteArray) (must : Bool) (up : List Nat) (e : Int) (hp : path.size ≤ 800) (g : Nat) (A A1 A2 : Option Addr) (w : World)
    (hR : walkS (knT A1 A2) path follow = (⟨dir, name, num, kind, must, up⟩, e)) (hb : Blk w g 45 #[.slice A (knT A1 A2).length 5, .int .i64 ((0 : Nat) : Int)]) (ht : RowT w A (knT A1 A2) 5) :
    Calls Try.prog 27 #[.iface 42 (.pointer (some ⟨g, 0, none⟩)), .string path, .bool follow] w fun r w' => ∃ Au cu, r = .returned (.tuple #[.agg #[.int .u16 dir, .string name, .int .u16 num, .int .u8 kind, .bool must, .slice Au up.length cu], .int .i64 e]) ∧ RowU w' Au up cu ∧ Only (fun k => k = g) w w' := by
  refine (walk_any (knT A1 A2) A 5 g 0 path follow w hb ht (knT_good A1 A2) (by omega) hp).mono ?_
  rintro r w' ⟨d, Au, cu, _, hr, hu, _, ho⟩
  rw [hR] at hr hu
  exact ⟨Au, cu, hr, hu, ho⟩
theorem rowU_two (w : World) (a b : Nat) : RowU (w.alloc (.cells #[.int .u16 (a : Int), .int .u16 (b : Int)] 46)) (some ⟨w.heap.size, 0, none⟩) [a, b] 2 :=
  ⟨Blk.reads _ (Blk.new w 46 #[.int .u16 (a : Int), .int .u16 (b : Int)]) rfl rfl, Nat.le_refl _, fun e => by cases e⟩
set_option maxRecDepth 20000 in
set_option maxHeartbeats 8000000 in
theorem wakesT_any (w : World) : Calls Try.prog 25 #[] w fun r w' => r = .returned (.bool true) ∧ Only (fun _ => False) w w' := by
  have hO := Only.refl (fun _ => False) w
  have hS1 := fun (A A2 : Option Addr) (c c2 : Nat) (W : World) (h : RowU W A [1, 2] c) (h2 : RowU W A2 [1, 2] c2) => sameW_any 2 4 1 ⟨#[102]⟩ false [1, 2] A A2 c c2 W h h2 (by decide)
  have hS2 := fun (A A2 : Option Addr) (c c2 : Nat) (W : World) (h : RowU W A [1, 2] c) (h2 : RowU W A2 [1, 2] c2) => sameW_any 2 0 0 ⟨#[120]⟩ false [1, 2] A A2 c c2 W h h2 (by decide)
  simp only [List.length_cons, List.length_nil, Nat.zero_add, Nat.reduceAdd, show ((0 : Nat) : Int) = 0 from rfl, show ((1 : Nat) : Int) = 1 from rfl, show ((2 : Nat) : Int) = 2 from rfl, show ((3 : Nat) : Int) = 3 from rfl, show ((4 : Nat) : Int) = 4 from rfl, show ((5 : Nat) : Int) = 5 from rfl] at hS1 hS2
  replace hS1 := Lib.hid hS1
  replace hS2 := Lib.hid hS2
  go_enter Try.func25, Try.ntmps25
  go_wp2_with fail
  refine (known_any _).mono ?_
  rintro r k0 ⟨g, A, A1, A2, rfl, hb, ht, hg, hk⟩
  have hK := kwalk ⟨#[108, 47, 102]⟩ false 2 4 1 ⟨#[102]⟩ false [1, 2] 0 (by decide) g A A1 A2 k0 (kw1 A1 A2) hb ht
  simp only [List.length_cons, List.length_nil, Nat.zero_add, Nat.reduceAdd, show ((0 : Nat) : Int) = 0 from rfl, show ((1 : Nat) : Int) = 1 from rfl, show ((2 : Nat) : Int) = 2 from rfl, show ((3 : Nat) : Int) = 3 from rfl, show ((4 : Nat) : Int) = 4 from rfl, show ((5 : Nat) : Int) = 5 from rfl] at hK
  replace hK := Lib.hid hK
  clear hb ht
  go_wp2_with fail
  refine hK.out.mono ?_
  rintro r y0 ⟨Au0, cu0, rfl, hu0, hy⟩
  have hst : Only (fun _ => False) w y0 := hk.trans_of hy (fun k hk' e => by omega)
  have oa := (Only.refl (fun _ => False) y0).alloc (.cells #[.int .u16 2, .string ⟨#[102]⟩, .int .u16 4, .int .u8 1, .bool false, .slice Au0 2 cu0] 49)
  have hst := hst.trans oa
  replace hO := hO.trans hst
  have hq0 := Blk.new y0 49 #[.int .u16 2, .string ⟨#[102]⟩, .int .u16 4, .int .u8 1, .bool false, .slice Au0 2 cu0]
  replace hu0 := hu0.only oa (fun _ _ x => x)
  clear hK hk hy hst oa hg
  go_upto_region 2 with fail
  generalize World.alloc y0 _ = p0 at *
  generalize y0.heap.size = q0 at *
  go_wp2_with fail
  refine (known_any _).mono ?_
  rintro r k1 ⟨g, A, A1, A2, rfl, hb, ht, hg, hk⟩
  have hK := kwalk ⟨#[100, 47, 120]⟩ true 2 0 0 ⟨#[120]⟩ false [1, 2] 0 (by decide) g A A1 A2 k1 (kw2 A1 A2) hb ht
  simp only [List.length_cons, List.length_nil, Nat.zero_add, Nat.reduceAdd, show ((0 : Nat) : Int) = 0 from rfl, show ((1 : Nat) : Int) = 1 from rfl, show ((2 : Nat) : Int) = 2 from rfl, show ((3 : Nat) : Int) = 3 from rfl, show ((4 : Nat) : Int) = 4 from rfl, show ((5 : Nat) : Int) = 5 from rfl] at hK
  replace hK := Lib.hid hK
  clear hb ht
  go_wp2_with fail
  refine hK.out.mono ?_
  rintro r y1 ⟨Au1, cu1, rfl, hu1, hy⟩
  have hst : Only (fun _ => False) p0 y1 := hk.trans_of hy (fun k hk' e => by omega)
  have oa := (Only.refl (fun _ => False) y1).alloc (.cells #[.int .u16 2, .string ⟨#[120]⟩, .int .u16 0, .int .u8 0, .bool false, .slice Au1 2 cu1] 49)
  have hst := hst.trans oa
  replace hO := hO.trans hst
  replace hq0 := hq0.only hst (fun x => x)
  replace hu0 := hu0.only hst (fun _ _ x => x)
  have hq1 := Blk.new y1 49 #[.int .u16 2, .string ⟨#[120]⟩, .int .u16 0, .int .u8 0, .bool false, .slice Au1 2 cu1]
  replace hu1 := hu1.only oa (fun _ _ x => x)
  clear hK hk hy hst oa hg
  go_upto_region 3 with fail
  generalize World.alloc y1 _ = p1 at *
  generalize y1.heap.size = q1 at *
  go_wp2_with fail
  refine (known_any _).mono ?_
  rintro r k2 ⟨g, A, A1, A2, rfl, hb, ht, hg, hk⟩
  have hK := kwalk ⟨#[100, 47, 102, 47]⟩ true 0 0 0 ⟨#[]⟩ false [] 24 (by decide) g A A1 A2 k2 (kw3 A1 A2) hb ht
  simp only [List.length_cons, List.length_nil, Nat.zero_add, Nat.reduceAdd, show ((0 : Nat) : Int) = 0 from rfl, show ((1 : Nat) : Int) = 1 from rfl, show ((2 : Nat) : Int) = 2 from rfl, show ((3 : Nat) : Int) = 3 from rfl, show ((4 : Nat) : Int) = 4 from rfl, show ((5 : Nat) : Int) = 5 from rfl] at hK
  replace hK := Lib.hid hK
  clear hb ht
  go_wp2_with fail
  refine hK.out.mono ?_
  rintro r y2 ⟨Au2, cu2, rfl, hu2, hy⟩
  have hst : Only (fun _ => False) p1 y2 := hk.trans_of hy (fun k hk' e => by omega)
  have oa := (Only.refl (fun _ => False) y2).alloc (.cells #[.int .u16 0, .string ⟨#[]⟩, .int .u16 0, .int .u8 0, .bool false, .slice Au2 0 cu2] 49)
  have hst := hst.trans oa
  replace hO := hO.trans hst
  replace hq0 := hq0.only hst (fun x => x)
  replace hu0 := hu0.only hst (fun _ _ x => x)
  replace hq1 := hq1.only hst (fun x => x)
  replace hu1 := hu1.only hst (fun _ _ x => x)
  clear hu2
  clear hK hk hy hst oa hg
  go_upto_region 4 with fail
  generalize World.alloc y2 _ = p2 at *
  generalize y2.heap.size = q2 at *
  go_wp2_with fail
  refine (known_any _).mono ?_
  rintro r k3 ⟨g, A, A1, A2, rfl, hb, ht, hg, hk⟩
  have hK := kwalk ⟨#[115, 47, 102]⟩ false 0 0 0 ⟨#[]⟩ false [] 35 (by decide) g A A1 A2 k3 (kw4 A1 A2) hb ht
  simp only [List.length_cons, List.length_nil, Nat.zero_add, Nat.reduceAdd, show ((0 : Nat) : Int) = 0 from rfl, show ((1 : Nat) : Int) = 1 from rfl, show ((2 : Nat) : Int) = 2 from rfl, show ((3 : Nat) : Int) = 3 from rfl, show ((4 : Nat) : Int) = 4 from rfl, show ((5 : Nat) : Int) = 5 from rfl] at hK
  replace hK := Lib.hid hK
  clear hb ht
  go_wp2_with fail
  refine hK.out.mono ?_
  rintro r y3 ⟨Au3, cu3, rfl, hu3, hy⟩
  have hst : Only (fun _ => False) p2 y3 := hk.trans_of hy (fun k hk' e => by omega)
  have oa := (Only.refl (fun _ => False) y3).alloc (.cells #[.int .u16 0, .string ⟨#[]⟩, .int .u16 0, .int .u8 0, .bool false, .slice Au3 0 cu3] 49)
  have hst := hst.trans oa
  replace hO := hO.trans hst
  replace hq0 := hq0.only hst (fun x => x)
  replace hu0 := hu0.only hst (fun _ _ x => x)
  replace hq1 := hq1.only hst (fun x => x)
  replace hu1 := hu1.only hst (fun _ _ x => x)
  clear hu3
  clear hK hk hy hst oa hg
  go_upto_region 5 with fail
  generalize World.alloc y3 _ = p3 at *
  generalize y3.heap.size = q3 at *
  go_wp2_with fail
  refine (known_any _).mono ?_
  rintro r k4 ⟨g, A, A1, A2, rfl, hb, ht, hg, hk⟩
  have hK := kwalk ⟨#[115]⟩ false 1 5 3 ⟨#[115]⟩ false [1] 0 (by decide) g A A1 A2 k4 (kw5 A1 A2) hb ht
  simp only [List.length_cons, List.length_nil, Nat.zero_add, Nat.reduceAdd, show ((0 : Nat) : Int) = 0 from rfl, show ((1 : Nat) : Int) = 1 from rfl, show ((2 : Nat) : Int) = 2 from rfl, show ((3 : Nat) : Int) = 3 from rfl, show ((4 : Nat) : Int) = 4 from rfl, show ((5 : Nat) : Int) = 5 from rfl] at hK
  replace hK := Lib.hid hK
  clear hb ht
  go_wp2_with fail
  refine hK.out.mono ?_
  rintro r y4 ⟨Au4, cu4, rfl, hu4, hy⟩
  have hst : Only (fun _ => False) p3 y4 := hk.trans_of hy (fun k hk' e => by omega)
  have oa := (Only.refl (fun _ => False) y4).alloc (.cells #[.int .u16 1, .string ⟨#[115]⟩, .int .u16 5, .int .u8 3, .bool false, .slice Au4 1 cu4] 49)
  have hst := hst.trans oa
  replace hO := hO.trans hst
  replace hq0 := hq0.only hst (fun x => x)
  replace hu0 := hu0.only hst (fun _ _ x => x)
  replace hq1 := hq1.only hst (fun x => x)
  replace hu1 := hu1.only hst (fun _ _ x => x)
  have hq4 := Blk.new y4 49 #[.int .u16 1, .string ⟨#[115]⟩, .int .u16 5, .int .u8 3, .bool false, .slice Au4 1 cu4]
  replace hu4 := hu4.only oa (fun _ _ x => x)
  clear hK hk hy hst oa hg
  go_upto_region 6 with fail
  generalize World.alloc y4 _ = p4 at *
  generalize y4.heap.size = q4 at *
  have a00 := hq0.cell 0
  have a01 := hq0.cell 1
  have a02 := hq0.cell 2
  have a03 := hq0.cell 3
  have a04 := hq0.cell 4
  have a05 := hq0.cell 5
  simp only [List.getElem?_toArray, List.getElem?_cons_zero, List.getElem?_cons_succ] at a00 a01 a02 a03 a04 a05
  go_wp2_with fail
  have ob := (Only.refl (fun _ => False) p4).alloc (.cells #[.int .u16 1, .int .u16 2] 46)
  have hn := rowU_two p4 1 2
  refine (hS1.out Au0 _ cu0 2 _ (hu0.only ob (fun _ _ x => x)) hn).mono ?_
  rintro r s0 ⟨rfl, ho⟩
  have ho := ob.trans ho
  replace hO := hO.trans ho
  replace hq1 := hq1.only ho (fun x => x)
  replace hq4 := hq4.only ho (fun x => x)
  replace hu1 := hu1.only ho (fun _ _ x => x)
  clear a00 a01 a02 a03 a04 a05 hq0 hu0 ho hn ob hS1
  have a10 := hq1.cell 0
  have a11 := hq1.cell 1
  have a12 := hq1.cell 2
  have a13 := hq1.cell 3
  have a14 := hq1.cell 4
  have a15 := hq1.cell 5
  simp only [List.getElem?_toArray, List.getElem?_cons_zero, List.getElem?_cons_succ] at a10 a11 a12 a13 a14 a15
  go_wp2_with fail
  have ob := (Only.refl (fun _ => False) s0).alloc (.cells #[.int .u16 1, .int .u16 2] 46)
  have hn := rowU_two s0 1 2
  refine (hS2.out Au1 _ cu1 2 _ (hu1.only ob (fun _ _ x => x)) hn).mono ?_
  rintro r s1 ⟨rfl, ho⟩
  have ho := ob.trans ho
  replace hO := hO.trans ho
  replace hq4 := hq4.only ho (fun x => x)
  clear a10 a11 a12 a13 a14 a15 hq1 hu1 ho hn ob hS2
  have a40 := hq4.cell 0
  have a41 := hq4.cell 1
  have a42 := hq4.cell 2
  have a43 := hq4.cell 3
  have a44 := hq4.cell 4
  have a45 := hq4.cell 5
  simp only [List.getElem?_toArray, List.getElem?_cons_zero, List.getElem?_cons_succ] at a40 a41 a42 a43 a44 a45
  clear hq4 hu4
  go_wp2
  go_ret
  exact ⟨rfl, hO⟩
end Go.Proofs.Ytnclappdokhciaa
