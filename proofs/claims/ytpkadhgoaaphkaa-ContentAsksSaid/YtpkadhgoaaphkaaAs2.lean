/-
  The law ContentAsks (func 3): the rounds of its first loop.
-/
import Derived.Test.YtpkadhgoaaphkaaAs1
import Derived.StillTailTactics
namespace Go.Proofs.Ytpkadhgoaaphkaa
open Go Go.RowKit Go.Shelf
set_option linter.unusedVariables false
variable {ab ao : Nat}

set_option maxRecDepth 100000 in
set_option maxHeartbeats 4000000 in
theorem as_z (g q5 bad : Nat) (c : Nat) (acts : List Ac) (last : Ac) (w wr : World) (hRA : RowAc w (some ⟨ab, ao, none⟩) acts c) (i size : Nat) (hlt : i < acts.length) (hlen : acts.length ≤ 40) (x : Ac) (hx : acts[i]? = some x) (f : Nat → Value)
    (hI : AsW w g q5 last i size wr) (hd : x.d = 0) (K : Act → World → Prop) (Q : Exit → Act → World → Prop) (hK : ∀ a w', AsI (some ⟨ab, ao, none⟩) c acts bad g q5 last w (i + 1) a w' → K a w') :
    Code.wp Try.prog body3 (Exit.then K Q) ⟨#[.slice (some ⟨ab, ao, none⟩) acts.length c, .int .u64 bad, f 2, f 3, f 4, .pointer (some ⟨q5, 0, none⟩), f 6, .pointer (some ⟨g, 0, none⟩), .int .u32 size, .int .i64 i, f 10, f 11, f 12, f 13, f 14, f 15, f 16, f 17, f 18, f 19, f 20, f 21, f 22, f 23, f 24, f 25, f 26, f 27, f 28, f 29, f 30, f 31, f 32, f 33, f 34, f 35, f 36, f 37, f 38, f 39, f 40, f 41, f 42, f 43, f 44, f 45, f 46, f 47, f 48, f 49, f 50, f 51, f 52, f 53, f 54, f 55, f 56, f 57, f 58, f 59, f 60, f 61, f 62, f 63, f 64, f 65, f 66, f 67, f 68, f 69, f 70, f 71, f 72, f 73, f 74, f 75, f 76, f 77, f 78, f 79, f 80, f 81, f 82, f 83, f 84, f 85, f 86, f 87, f 88, f 89, f 90, f 91, f 92, f 93, f 94, f 95, f 96, f 97, f 98, f 99, f 100, f 101, f 102, f 103, f 104, f 105, f 106, f 107, f 108, f 109, f 110, f 111, f 112, f 113, f 114, f 115, f 116, f 117, f 118, f 119, f 120, f 121, f 122, f 123, f 124, f 125, f 126, f 127, f 128, f 129, f 130, f 131, f 132, f 133, f 134, f 135, f 136, f 137, f 138, f 139, f 140, f 141, f 142, f 143, f 144, f 145, f 146, f 147, f 148, f 149, f 150, f 151, f 152, f 153, f 154, f 155, f 156, f 157, f 158, f 159, f 160, f 161, f 162, f 163, f 164, f 165, f 166, f 167, f 168, f 169, f 170, f 171, f 172, f 173, f 174, f 175, f 176, f 177, f 178, f 179, f 180, f 181, f 182, f 183, f 184, f 185, f 186, f 187, f 188, f 189, f 190, f 191, f 192, f 193, f 194, f 195, f 196, f 197, f 198, f 199, f 200, f 201, f 202, f 203, f 204, f 205, f 206, f 207, f 208, f 209, f 210, f 211, f 212, f 213, f 214, f 215, f 216, f 217, f 218, f 219, f 220, f 221, f 222, f 223, f 224, f 225, f 226, f 227, f 228, f 229, f 230, f 231, f 232, f 233, f 234, f 235, f 236, f 237, f 238, f 239, f 240, f 241, f 242, f 243, f 244, f 245, f 246, f 247, f 248, f 249, f 250, f 251, f 252, f 253, f 254, f 255, f 256, f 257, f 258, f 259, f 260, f 261, f 262, f 263, f 264, f 265, f 266, f 267, f 268, f 269, f 270, f 271, f 272, f 273, f 274, f 275, f 276, f 277, f 278, f 279, f 280], []⟩ wr := by
  have hB := hI.tn.size
  have hRr := hRA.turn hI.tn
  obtain ⟨b9, o9, e9, _, d0, d1, d2, d3⟩ := hRr.lit hx
  cases e9
  have i0 : (0 : Int) ≤ (i : Int) := by omega
  have i1 : (i : Int) < (acts.length : Int) := by omega
  have i2 : (i : Int) ≤ 40 := by omega
  have hbr := (hRr.bs x (List.mem_of_getElem? hx))
  have hbA : 0 < x.b.length → ∀ a, x.A = some a → a.block < w.heap.size ∨ tyAt wr a.block 5 := fun h a e => .inl ((hRA.bs x (List.mem_of_getElem? hx)).1.lt h e)
  obtain ⟨v, m, va, ask, hS, hal⟩ := hI.sh
  have hsz := hI.sz
  have hT := takes_any w.heap.size g v m 0 va ask none 0 [] wr hS hB (Reads.nil_ _ _ _) (Nat.le_refl _) (fun _ h => (by cases h)) ⟨fun _ h => (by cases h), fun _ _ _ h => (by cases h)⟩ (by decide)
  replace hT := Lib.hid hT
  have hd9 : x.d = 0 := hd
  rw [hd9] at d0
  have c0 : ((0 : Nat) : Int) = 0 := rfl
  simp only [c0] at d0
  replace hI := Lib.hid hI
  clear hS hbr hbA hRr hd hd9 c0
  conv => arg 2; whnf
  go_wp2_with fail
  refine hT.out.mono ?_
  rintro r w1 ⟨rfl, hk⟩
  obtain ⟨v', hs⟩ := hk.sh
  have hF : AsW w g q5 last (i + 1) size w1 := ⟨⟨v', _, va, ask, hs, by omega⟩, hI.out.bx.turn hk.tn (by decide), hI.out.tn.trans hk.tn, hI.out.sz⟩
  replace hF := Lib.hid hF
  clear hk hs hT hI d0 d1 d2 d3
  go_wp2
  exact ⟨rfl, rfl, rfl, rfl, rfl, rfl, ⟨_, rfl, hF.out⟩, by show Value.int IntKind.i64 ((i : Int) + 1) = _; go_num, by omega⟩

set_option maxRecDepth 100000 in
set_option maxHeartbeats 4000000 in
theorem as_w (g q5 bad : Nat) (c : Nat) (acts : List Ac) (last : Ac) (w wr : World) (hRA : RowAc w (some ⟨ab, ao, none⟩) acts c) (i size : Nat) (hlt : i < acts.length) (hlen : acts.length ≤ 40) (x : Ac) (hx : acts[i]? = some x) (f : Nat → Value)
    (hI : AsW w g q5 last i size wr) (hd : x.d = 1) (K : Act → World → Prop) (Q : Exit → Act → World → Prop) (hK : ∀ a w', AsI (some ⟨ab, ao, none⟩) c acts bad g q5 last w (i + 1) a w' → K a w') :
    Code.wp Try.prog body3 (Exit.then K Q) ⟨#[.slice (some ⟨ab, ao, none⟩) acts.length c, .int .u64 bad, f 2, f 3, f 4, .pointer (some ⟨q5, 0, none⟩), f 6, .pointer (some ⟨g, 0, none⟩), .int .u32 size, .int .i64 i, f 10, f 11, f 12, f 13, f 14, f 15, f 16, f 17, f 18, f 19, f 20, f 21, f 22, f 23, f 24, f 25, f 26, f 27, f 28, f 29, f 30, f 31, f 32, f 33, f 34, f 35, f 36, f 37, f 38, f 39, f 40, f 41, f 42, f 43, f 44, f 45, f 46, f 47, f 48, f 49, f 50, f 51, f 52, f 53, f 54, f 55, f 56, f 57, f 58, f 59, f 60, f 61, f 62, f 63, f 64, f 65, f 66, f 67, f 68, f 69, f 70, f 71, f 72, f 73, f 74, f 75, f 76, f 77, f 78, f 79, f 80, f 81, f 82, f 83, f 84, f 85, f 86, f 87, f 88, f 89, f 90, f 91, f 92, f 93, f 94, f 95, f 96, f 97, f 98, f 99, f 100, f 101, f 102, f 103, f 104, f 105, f 106, f 107, f 108, f 109, f 110, f 111, f 112, f 113, f 114, f 115, f 116, f 117, f 118, f 119, f 120, f 121, f 122, f 123, f 124, f 125, f 126, f 127, f 128, f 129, f 130, f 131, f 132, f 133, f 134, f 135, f 136, f 137, f 138, f 139, f 140, f 141, f 142, f 143, f 144, f 145, f 146, f 147, f 148, f 149, f 150, f 151, f 152, f 153, f 154, f 155, f 156, f 157, f 158, f 159, f 160, f 161, f 162, f 163, f 164, f 165, f 166, f 167, f 168, f 169, f 170, f 171, f 172, f 173, f 174, f 175, f 176, f 177, f 178, f 179, f 180, f 181, f 182, f 183, f 184, f 185, f 186, f 187, f 188, f 189, f 190, f 191, f 192, f 193, f 194, f 195, f 196, f 197, f 198, f 199, f 200, f 201, f 202, f 203, f 204, f 205, f 206, f 207, f 208, f 209, f 210, f 211, f 212, f 213, f 214, f 215, f 216, f 217, f 218, f 219, f 220, f 221, f 222, f 223, f 224, f 225, f 226, f 227, f 228, f 229, f 230, f 231, f 232, f 233, f 234, f 235, f 236, f 237, f 238, f 239, f 240, f 241, f 242, f 243, f 244, f 245, f 246, f 247, f 248, f 249, f 250, f 251, f 252, f 253, f 254, f 255, f 256, f 257, f 258, f 259, f 260, f 261, f 262, f 263, f 264, f 265, f 266, f 267, f 268, f 269, f 270, f 271, f 272, f 273, f 274, f 275, f 276, f 277, f 278, f 279, f 280], []⟩ wr := by
  have hB := hI.tn.size
  have hRr := hRA.turn hI.tn
  obtain ⟨b9, o9, e9, _, d0, d1, d2, d3⟩ := hRr.lit hx
  cases e9
  have i0 : (0 : Int) ≤ (i : Int) := by omega
  have i1 : (i : Int) < (acts.length : Int) := by omega
  have i2 : (i : Int) ≤ 40 := by omega
  have hbr := (hRr.bs x (List.mem_of_getElem? hx))
  have hbA : 0 < x.b.length → ∀ a, x.A = some a → a.block < w.heap.size ∨ tyAt wr a.block 5 := fun h a e => .inl ((hRA.bs x (List.mem_of_getElem? hx)).1.lt h e)
  obtain ⟨v, m, va, ask, hS, hal⟩ := hI.sh
  have hsz := hI.sz
  have od := (Only.refl (fun _ => False) wr).drew
  replace hS := hS.only od
  replace hI := hI.only od
  clear od
  have hW := write_did w.heap.size g v m va ask size x hd wr.drew hS hB hsz (by omega) hbr.1 hbr.2 hbA
  replace hW := Lib.hid hW
  have hd9 : x.d = 1 := hd
  rw [hd9] at d0
  have c0 : ((1 : Nat) : Int) = 1 := rfl
  simp only [c0] at d0
  clear hd hd9 c0
  replace hI := Lib.hid hI
  replace hS := Lib.hid hS
  clear hbr hbA hRr
  conv => arg 2; whnf
  go_upto_region 11 with fail
  have hS0 : wr.drew.cell? ⟨ab, ao + i * 4 + 1, none⟩ = some (.int .i64 x.at_) ∧ wr.drew.cell? ⟨ab, ao + i * 4 + 3, none⟩ = some (.slice x.A x.b.length x.c) := ⟨d1, d3⟩
  clear d1 d2 d3
  refine wp_region_noPanic ?_
  refine wp_region_E 20 (fun W => W.cell? ⟨ab, ao + i * 4 + 1, none⟩ = some (.int .i64 x.at_) ∧ W.cell? ⟨ab, ao + i * 4 + 3, none⟩ = some (.slice x.A x.b.length x.c)) (by kernel_rfl) ?_
  refine E_take (v := ?a0) 0 rfl (by kernel_rfl) (by kernel_rfl) (by kernel_rfl) (by kernel_rfl) (by kernel_rfl) (by kernel_rfl) (fun _ _ _ h => h) rfl hS0 ?ah0 ?_
  case ah0 => intro W hW; obtain ⟨g0, g1⟩ := hW; go_simp; try with_reducible rfl
  simp only [Act.put, List.setIfInBounds_toArray, List.set_cons_zero, List.set_cons_succ]
  refine E_take (v := ?a1) 1 rfl (by kernel_rfl) (by kernel_rfl) (by kernel_rfl) (by kernel_rfl) (by kernel_rfl) (by kernel_rfl) (fun _ _ _ h => h) rfl hS0 ?ah1 ?_
  case ah1 => intro W hW; obtain ⟨g0, g1⟩ := hW; go_simp; try with_reducible rfl
  simp only [Act.put, List.setIfInBounds_toArray, List.set_cons_zero, List.set_cons_succ]
  refine E_take (v := ?a2) 2 rfl (by kernel_rfl) (by kernel_rfl) (by kernel_rfl) (by kernel_rfl) (by kernel_rfl) (by kernel_rfl) (fun _ _ _ h => h) rfl hS0 ?ah2 ?_
  case ah2 => intro W hW; obtain ⟨g0, g1⟩ := hW; go_simp; try with_reducible rfl
  simp only [Act.put, List.setIfInBounds_toArray, List.set_cons_zero, List.set_cons_succ]
  refine E_take (v := ?a3) 3 rfl (by kernel_rfl) (by kernel_rfl) (by kernel_rfl) (by kernel_rfl) (by kernel_rfl) (by kernel_rfl) (fun _ _ _ h => h) rfl hS0 ?ah3 ?_
  case ah3 => intro W hW; obtain ⟨g0, g1⟩ := hW; go_simp; try with_reducible rfl
  simp only [Act.put, List.setIfInBounds_toArray, List.set_cons_zero, List.set_cons_succ]
  refine E_take (v := ?a4) 4 rfl (by kernel_rfl) (by kernel_rfl) (by kernel_rfl) (by kernel_rfl) (by kernel_rfl) (by kernel_rfl) (fun _ _ _ h => h) rfl hS0 ?ah4 ?_
  case ah4 => intro W hW; obtain ⟨g0, g1⟩ := hW; go_simp; try with_reducible rfl
  simp only [Act.put, List.setIfInBounds_toArray, List.set_cons_zero, List.set_cons_succ]
  refine E_take (v := ?a5) 5 rfl (by kernel_rfl) (by kernel_rfl) (by kernel_rfl) (by kernel_rfl) (by kernel_rfl) (by kernel_rfl) (fun _ _ _ h => h) rfl hS0 ?ah5 ?_
  case ah5 => intro W hW; obtain ⟨g0, g1⟩ := hW; go_simp; try with_reducible rfl
  simp only [Act.put, List.setIfInBounds_toArray, List.set_cons_zero, List.set_cons_succ]
  refine E_take (v := ?a6) 6 rfl (by kernel_rfl) (by kernel_rfl) (by kernel_rfl) (by kernel_rfl) (by kernel_rfl) (by kernel_rfl) (fun _ _ _ h => h) rfl hS0 ?ah6 ?_
  case ah6 => intro W hW; obtain ⟨g0, g1⟩ := hW; go_simp; try with_reducible rfl
  simp only [Act.put, List.setIfInBounds_toArray, List.set_cons_zero, List.set_cons_succ]
  refine E_take (v := ?a7) 7 rfl (by kernel_rfl) (by kernel_rfl) (by kernel_rfl) (by kernel_rfl) (by kernel_rfl) (by kernel_rfl) (fun _ _ _ h => h) rfl hS0 ?ah7 ?_
  case ah7 => intro W hW; obtain ⟨g0, g1⟩ := hW; go_simp; try with_reducible rfl
  simp only [Act.put, List.setIfInBounds_toArray, List.set_cons_zero, List.set_cons_succ]
  refine E_take (v := ?a8) 8 rfl (by kernel_rfl) (by kernel_rfl) (by kernel_rfl) (by kernel_rfl) (by kernel_rfl) (by kernel_rfl) (fun _ _ _ h => h) rfl hS0 ?ah8 ?_
  case ah8 => intro W hW; obtain ⟨g0, g1⟩ := hW; go_simp; try with_reducible rfl
  simp only [Act.put, List.setIfInBounds_toArray, List.set_cons_zero, List.set_cons_succ]
  refine E_take (v := ?a9) 9 rfl (by kernel_rfl) (by kernel_rfl) (by kernel_rfl) (by kernel_rfl) (by kernel_rfl) (by kernel_rfl) (fun _ _ _ h => h) rfl hS0 ?ah9 ?_
  case ah9 => intro W hW; obtain ⟨g0, g1⟩ := hW; go_simp; try with_reducible rfl
  simp only [Act.put, List.setIfInBounds_toArray, List.set_cons_zero, List.set_cons_succ]
  refine E_take (v := ?a10) 10 rfl (by kernel_rfl) (by kernel_rfl) (by kernel_rfl) (by kernel_rfl) (by kernel_rfl) (by kernel_rfl) (fun _ _ _ h => h) rfl hS0 ?ah10 ?_
  case ah10 => intro W hW; obtain ⟨g0, g1⟩ := hW; go_simp; try with_reducible rfl
  simp only [Act.put, List.setIfInBounds_toArray, List.set_cons_zero, List.set_cons_succ]
  refine E_take (v := ?a11) 11 rfl (by kernel_rfl) (by kernel_rfl) (by kernel_rfl) (by kernel_rfl) (by kernel_rfl) (by kernel_rfl) (fun _ _ _ h => h) rfl hS0 ?ah11 ?_
  case ah11 => intro W hW; obtain ⟨g0, g1⟩ := hW; go_simp; try with_reducible rfl
  simp only [Act.put, List.setIfInBounds_toArray, List.set_cons_zero, List.set_cons_succ]
  refine E_take (v := ?a12) 12 rfl (by kernel_rfl) (by kernel_rfl) (by kernel_rfl) (by kernel_rfl) (by kernel_rfl) (by kernel_rfl) (fun _ _ _ h => h) rfl hS0 ?ah12 ?_
  case ah12 => intro W hW; obtain ⟨g0, g1⟩ := hW; go_simp; try with_reducible rfl
  simp only [Act.put, List.setIfInBounds_toArray, List.set_cons_zero, List.set_cons_succ]
  refine E_one 13 (by kernel_rfl) rfl (fun K hK => ?_)
  go_simp
  refine hW.out.mono ?_
  rintro r w1 hr
  rcases hr with ⟨e, he, rfl, ho⟩ | ⟨A9, c9, L, ns, rfl, hN, hns, hL9, hLc, hRis, hrd, hok, ⟨va', ask', hs', hal'⟩, ht⟩
  · obtain ⟨b9, o9, e9, _, y0, y1, y2, y3⟩ := (hRA.turn (hI.out.tn.only ho)).lit hx
    cases e9
    have hS9 : w1.cell? ⟨ab, ao + i * 4 + 1, none⟩ = some (.int .i64 x.at_) ∧ w1.cell? ⟨ab, ao + i * 4 + 3, none⟩ = some (.slice x.A x.b.length x.c) := ⟨y1, y3⟩
    clear y1 y2 y3
    refine hK.out _ _ (fun _ => hS9) ?_
    clear hK K
    try simp only [Act.put, List.setIfInBounds_toArray, List.set_cons_zero, List.set_cons_succ]
    refine E_take (v := ?b14) 14 rfl (by kernel_rfl) (by kernel_rfl) (by kernel_rfl) (by kernel_rfl) (by kernel_rfl) (by kernel_rfl) (fun _ _ _ h => h) rfl hS9 ?bh14 ?_
    case bh14 => intro W hW; obtain ⟨g0, g1⟩ := hW; go_simp; try with_reducible rfl
    simp only [Act.put, List.setIfInBounds_toArray, List.set_cons_zero, List.set_cons_succ]
    refine E_take (v := ?b15) 15 rfl (by kernel_rfl) (by kernel_rfl) (by kernel_rfl) (by kernel_rfl) (by kernel_rfl) (by kernel_rfl) (fun _ _ _ h => h) rfl hS9 ?bh15 ?_
    case bh15 => intro W hW; obtain ⟨g0, g1⟩ := hW; go_simp; try with_reducible rfl
    simp only [Act.put, List.setIfInBounds_toArray, List.set_cons_zero, List.set_cons_succ]
    refine E_take (v := ?b16) 16 rfl (by kernel_rfl) (by kernel_rfl) (by kernel_rfl) (by kernel_rfl) (by kernel_rfl) (by kernel_rfl) (fun _ _ _ h => h) rfl hS9 ?bh16 ?_
    case bh16 => intro W hW; obtain ⟨g0, g1⟩ := hW; go_simp; try with_reducible rfl
    simp only [Act.put, List.setIfInBounds_toArray, List.set_cons_zero, List.set_cons_succ]
    refine E_take (v := ?b17) 17 rfl (by kernel_rfl) (by kernel_rfl) (by kernel_rfl) (by kernel_rfl) (by kernel_rfl) (by kernel_rfl) (fun _ _ _ h => h) rfl hS9 ?bh17 ?_
    case bh17 => intro W hW; obtain ⟨g0, g1⟩ := hW; go_simp; try with_reducible rfl
    simp only [Act.put, List.setIfInBounds_toArray, List.set_cons_zero, List.set_cons_succ]
    refine E_take (v := ?b18) 18 rfl (by kernel_rfl) (by kernel_rfl) (by kernel_rfl) (by kernel_rfl) (by kernel_rfl) (by kernel_rfl) (fun _ _ _ h => h) rfl hS9 ?bh18 ?_
    case bh18 => intro W hW; obtain ⟨g0, g1⟩ := hW; go_simp; try with_reducible rfl
    simp only [Act.put, List.setIfInBounds_toArray, List.set_cons_zero, List.set_cons_succ]
    refine E_take (v := ?b19) 19 rfl (by kernel_rfl) (by kernel_rfl) (by kernel_rfl) (by kernel_rfl) (by kernel_rfl) (by kernel_rfl) (fun _ _ _ h => h) rfl hS9 ?bh19 ?_
    case bh19 => intro W hW; obtain ⟨g0, g1⟩ := hW; go_simp; try with_reducible rfl
    simp only [Act.put, List.setIfInBounds_toArray, List.set_cons_zero, List.set_cons_succ]
    refine E_one 20 (by kernel_rfl) rfl (fun K hK => ?_)
    go_simp
    refine hK.out _ _ (fun h => absurd h (by decide)) ?_
    clear hK K
    try simp only [Act.put, List.setIfInBounds_toArray, List.set_cons_zero, List.set_cons_succ]
    refine E_done (by kernel_rfl) (NoPanic.normal ?_)
    clear hS0 hS9
    have hF : AsW w g q5 last (i + 1) size w1 := ⟨⟨v, m, va, ask, hS.out.only ho, by omega⟩, hI.out.bx.only ho (fun x => x), hI.out.tn.only ho, hI.out.sz⟩
    replace hF := Lib.hid hF
    have he0 : (e == 0) = false := by rcases he with rfl | rfl <;> rfl
    clear he ho hW hI hS d0
    go_wp2
    exact ⟨rfl, rfl, rfl, rfl, rfl, rfl, ⟨_, rfl, hF.out⟩, by show Value.int IntKind.i64 ((i : Int) + 1) = _; go_num, by omega⟩
  · obtain ⟨b9, o9, e9, _, y0, y1, y2, y3⟩ := (hRA.turn (hI.out.tn.trans ht)).lit hx
    cases e9
    have hS9 : w1.cell? ⟨ab, ao + i * 4 + 1, none⟩ = some (.int .i64 x.at_) ∧ w1.cell? ⟨ab, ao + i * 4 + 3, none⟩ = some (.slice x.A x.b.length x.c) := ⟨y1, y3⟩
    clear y1 y2 y3
    refine hK.out _ _ (fun _ => hS9) ?_
    clear hK K
    try simp only [Act.put, List.setIfInBounds_toArray, List.set_cons_zero, List.set_cons_succ]
    refine E_take (v := ?c14) 14 rfl (by kernel_rfl) (by kernel_rfl) (by kernel_rfl) (by kernel_rfl) (by kernel_rfl) (by kernel_rfl) (fun _ _ _ h => h) rfl hS9 ?ch14 ?_
    case ch14 => intro W hW; obtain ⟨g0, g1⟩ := hW; go_simp; try with_reducible rfl
    simp only [Act.put, List.setIfInBounds_toArray, List.set_cons_zero, List.set_cons_succ]
    refine E_take (v := ?c15) 15 rfl (by kernel_rfl) (by kernel_rfl) (by kernel_rfl) (by kernel_rfl) (by kernel_rfl) (by kernel_rfl) (fun _ _ _ h => h) rfl hS9 ?ch15 ?_
    case ch15 => intro W hW; obtain ⟨g0, g1⟩ := hW; go_simp; try with_reducible rfl
    simp only [Act.put, List.setIfInBounds_toArray, List.set_cons_zero, List.set_cons_succ]
    refine E_take (v := ?c16) 16 rfl (by kernel_rfl) (by kernel_rfl) (by kernel_rfl) (by kernel_rfl) (by kernel_rfl) (by kernel_rfl) (fun _ _ _ h => h) rfl hS9 ?ch16 ?_
    case ch16 => intro W hW; obtain ⟨g0, g1⟩ := hW; go_simp; try with_reducible rfl
    simp only [Act.put, List.setIfInBounds_toArray, List.set_cons_zero, List.set_cons_succ]
    refine E_take (v := ?c17) 17 rfl (by kernel_rfl) (by kernel_rfl) (by kernel_rfl) (by kernel_rfl) (by kernel_rfl) (by kernel_rfl) (fun _ _ _ h => h) rfl hS9 ?ch17 ?_
    case ch17 => intro W hW; obtain ⟨g0, g1⟩ := hW; go_simp; try with_reducible rfl
    simp only [Act.put, List.setIfInBounds_toArray, List.set_cons_zero, List.set_cons_succ]
    refine E_take (v := ?c18) 18 rfl (by kernel_rfl) (by kernel_rfl) (by kernel_rfl) (by kernel_rfl) (by kernel_rfl) (by kernel_rfl) (fun _ _ _ h => h) rfl hS9 ?ch18 ?_
    case ch18 => intro W hW; obtain ⟨g0, g1⟩ := hW; go_simp; try with_reducible rfl
    simp only [Act.put, List.setIfInBounds_toArray, List.set_cons_zero, List.set_cons_succ]
    refine E_take (v := ?c19) 19 rfl (by kernel_rfl) (by kernel_rfl) (by kernel_rfl) (by kernel_rfl) (by kernel_rfl) (by kernel_rfl) (fun _ _ _ h => h) rfl hS9 ?ch19 ?_
    case ch19 => intro W hW; obtain ⟨g0, g1⟩ := hW; go_simp; try with_reducible rfl
    simp only [Act.put, List.setIfInBounds_toArray, List.set_cons_zero, List.set_cons_succ]
    refine E_one 20 (by kernel_rfl) rfl (fun K hK => ?_)
    go_simp
    refine hK.out _ _ (fun h => absurd h (by decide)) ?_
    clear hK K
    try simp only [Act.put, List.setIfInBounds_toArray, List.set_cons_zero, List.set_cons_succ]
    refine E_done (by kernel_rfl) (NoPanic.normal ?_)
    clear hS0 hS9
    have hT := takes_any w.heap.size g v m 0 va' ask' A9 c9 L w1 hs' (Nat.le_trans hB ht.size) hrd hLc (fun y hy => (hok y hy).lower hB) hRis hL9
    replace hT := Lib.hid hT
    have hF1 := hI.out.bx.turn ht (by decide)
    have hF2 := hI.out.tn.trans ht
    replace hF1 := Lib.hid hF1
    replace hF2 := Lib.hid hF2
    clear hW hI hS hs' hrd hok ht d0 hN hRis
    go_wp2_with fail
    refine hT.out.mono ?_
    rintro r w2 ⟨rfl, hk⟩
    obtain ⟨v2, hs2⟩ := hk.sh
    have hF : AsW w g q5 last (i + 1) ns w2 := ⟨⟨v2, _, va', ask', hs2, by omega⟩, hF1.out.turn hk.tn (by decide), hF2.out.trans hk.tn, hns⟩
    replace hF := Lib.hid hF
    clear hk hs2 hT hF1 hF2
    go_wp2
    exact ⟨rfl, rfl, rfl, rfl, rfl, rfl, ⟨_, rfl, hF.out⟩, by show Value.int IntKind.i64 ((i : Int) + 1) = _; go_num, by omega⟩

set_option maxRecDepth 100000 in
set_option maxHeartbeats 4000000 in
theorem as_t (g q5 bad : Nat) (c : Nat) (acts : List Ac) (last : Ac) (w wr : World) (hRA : RowAc w (some ⟨ab, ao, none⟩) acts c) (i size : Nat) (hlt : i < acts.length) (hlen : acts.length ≤ 40) (x : Ac) (hx : acts[i]? = some x) (f : Nat → Value)
    (hI : AsW w g q5 last i size wr) (hd : 1 < x.d) (K : Act → World → Prop) (Q : Exit → Act → World → Prop) (hK : ∀ a w', AsI (some ⟨ab, ao, none⟩) c acts bad g q5 last w (i + 1) a w' → K a w') :
    Code.wp Try.prog body3 (Exit.then K Q) ⟨#[.slice (some ⟨ab, ao, none⟩) acts.length c, .int .u64 bad, f 2, f 3, f 4, .pointer (some ⟨q5, 0, none⟩), f 6, .pointer (some ⟨g, 0, none⟩), .int .u32 size, .int .i64 i, f 10, f 11, f 12, f 13, f 14, f 15, f 16, f 17, f 18, f 19, f 20, f 21, f 22, f 23, f 24, f 25, f 26, f 27, f 28, f 29, f 30, f 31, f 32, f 33, f 34, f 35, f 36, f 37, f 38, f 39, f 40, f 41, f 42, f 43, f 44, f 45, f 46, f 47, f 48, f 49, f 50, f 51, f 52, f 53, f 54, f 55, f 56, f 57, f 58, f 59, f 60, f 61, f 62, f 63, f 64, f 65, f 66, f 67, f 68, f 69, f 70, f 71, f 72, f 73, f 74, f 75, f 76, f 77, f 78, f 79, f 80, f 81, f 82, f 83, f 84, f 85, f 86, f 87, f 88, f 89, f 90, f 91, f 92, f 93, f 94, f 95, f 96, f 97, f 98, f 99, f 100, f 101, f 102, f 103, f 104, f 105, f 106, f 107, f 108, f 109, f 110, f 111, f 112, f 113, f 114, f 115, f 116, f 117, f 118, f 119, f 120, f 121, f 122, f 123, f 124, f 125, f 126, f 127, f 128, f 129, f 130, f 131, f 132, f 133, f 134, f 135, f 136, f 137, f 138, f 139, f 140, f 141, f 142, f 143, f 144, f 145, f 146, f 147, f 148, f 149, f 150, f 151, f 152, f 153, f 154, f 155, f 156, f 157, f 158, f 159, f 160, f 161, f 162, f 163, f 164, f 165, f 166, f 167, f 168, f 169, f 170, f 171, f 172, f 173, f 174, f 175, f 176, f 177, f 178, f 179, f 180, f 181, f 182, f 183, f 184, f 185, f 186, f 187, f 188, f 189, f 190, f 191, f 192, f 193, f 194, f 195, f 196, f 197, f 198, f 199, f 200, f 201, f 202, f 203, f 204, f 205, f 206, f 207, f 208, f 209, f 210, f 211, f 212, f 213, f 214, f 215, f 216, f 217, f 218, f 219, f 220, f 221, f 222, f 223, f 224, f 225, f 226, f 227, f 228, f 229, f 230, f 231, f 232, f 233, f 234, f 235, f 236, f 237, f 238, f 239, f 240, f 241, f 242, f 243, f 244, f 245, f 246, f 247, f 248, f 249, f 250, f 251, f 252, f 253, f 254, f 255, f 256, f 257, f 258, f 259, f 260, f 261, f 262, f 263, f 264, f 265, f 266, f 267, f 268, f 269, f 270, f 271, f 272, f 273, f 274, f 275, f 276, f 277, f 278, f 279, f 280], []⟩ wr := by
  have hB := hI.tn.size
  have hRr := hRA.turn hI.tn
  obtain ⟨b9, o9, e9, _, d0, d1, d2, d3⟩ := hRr.lit hx
  cases e9
  have i0 : (0 : Int) ≤ (i : Int) := by omega
  have i1 : (i : Int) < (acts.length : Int) := by omega
  have i2 : (i : Int) ≤ 40 := by omega
  have hbr := (hRr.bs x (List.mem_of_getElem? hx))
  have hbA : 0 < x.b.length → ∀ a, x.A = some a → a.block < w.heap.size ∨ tyAt wr a.block 5 := fun h a e => .inl ((hRA.bs x (List.mem_of_getElem? hx)).1.lt h e)
  obtain ⟨v, m, va, ask, hS, hal⟩ := hI.sh
  have hsz := hI.sz
  have hW := trunc_did w.heap.size g v m va ask size x hd wr hS hB hsz (by omega)
  replace hW := Lib.hid hW
  have hb1 : ((x.d : Int) == 1) = false := beq_false_of_ne (by omega)
  have hb2 : (1 : Int) < (x.d : Int) := by omega
  clear hd
  replace hI := Lib.hid hI
  replace hS := Lib.hid hS
  clear hbr hbA hRr
  conv => arg 2; whnf
  go_wp2_with fail
  refine hW.out.mono ?_
  rintro r w1 hr
  rcases hr with ⟨e, he, rfl, ho⟩ | ⟨A9, c9, L, ns, rfl, hN, hns, hL9, hLc, hRis, hrd, hok, ⟨va', ask', hs', hal'⟩, ht⟩
  · clear d1 d2 d3
    have hF : AsW w g q5 last (i + 1) size w1 := ⟨⟨v, m, va, ask, hS.out.only ho, by omega⟩, hI.out.bx.only ho (fun x => x), hI.out.tn.only ho, hI.out.sz⟩
    replace hF := Lib.hid hF
    have he0 : (e == 0) = false := by rcases he with rfl | rfl <;> rfl
    clear he ho hW hI hS d0
    go_wp2
    exact ⟨rfl, rfl, rfl, rfl, rfl, rfl, ⟨_, rfl, hF.out⟩, by show Value.int IntKind.i64 ((i : Int) + 1) = _; go_num, by omega⟩
  · clear d1 d2 d3
    have hT := takes_any w.heap.size g v m 0 va' ask' A9 c9 L w1 hs' (Nat.le_trans hB ht.size) hrd hLc (fun y hy => (hok y hy).lower hB) hRis hL9
    replace hT := Lib.hid hT
    have hF1 := hI.out.bx.turn ht (by decide)
    have hF2 := hI.out.tn.trans ht
    replace hF1 := Lib.hid hF1
    replace hF2 := Lib.hid hF2
    clear hW hI hS hs' hrd hok ht d0 hN hRis
    go_wp2_with fail
    refine hT.out.mono ?_
    rintro r w2 ⟨rfl, hk⟩
    obtain ⟨v2, hs2⟩ := hk.sh
    have hF : AsW w g q5 last (i + 1) ns w2 := ⟨⟨v2, _, va', ask', hs2, by omega⟩, hF1.out.turn hk.tn (by decide), hF2.out.trans hk.tn, hns⟩
    replace hF := Lib.hid hF
    clear hk hs2 hT hF1 hF2
    go_wp2
    exact ⟨rfl, rfl, rfl, rfl, rfl, rfl, ⟨_, rfl, hF.out⟩, by show Value.int IntKind.i64 ((i : Int) + 1) = _; go_num, by omega⟩
end Go.Proofs.Ytpkadhgoaaphkaa
