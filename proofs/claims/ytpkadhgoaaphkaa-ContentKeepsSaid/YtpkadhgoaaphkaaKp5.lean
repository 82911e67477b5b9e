/-
  The law ContentKeeps (func 5): the rounds of its first loop.
-/
import Derived.Test.YtpkadhgoaaphkaaKp4
namespace Go.Proofs.Ytpkadhgoaaphkaa
open Go Go.RowKit Go.Shelf
set_option linter.unusedVariables false

set_option maxRecDepth 100000 in
set_option maxHeartbeats 4000000 in
theorem kp_z (ab ao : Nat) (acts : List Ac) (c0 q3 q4 g : Nat) (w wr : World) (hRA : RowAc w (some ⟨ab, ao, none⟩) acts c0) (hq4 : w.heap.size ≤ q4) (i : Nat) (hlt : i < acts.length) (hlen : acts.length ≤ 40) (x : Ac) (hx : acts[i]? = some x) (hbl : x.b.length ≤ 2100) (f : Nat → Value)
    (hI : KpW w g q3 q4 i wr) (hd : x.d = 0) (K : Act → World → Prop) (Q : Exit → Act → World → Prop) (hK : ∀ a w', KpI (some ⟨ab, ao, none⟩) acts c0 q3 q4 g w (i + 1) a w' → K a w') :
    Code.wp Try.prog body7 (Exit.then K Q) ⟨#[.slice (some ⟨ab, ao, none⟩) acts.length c0, f 1, f 2, .pointer (some ⟨q3, 0, none⟩), .pointer (some ⟨q4, 0, none⟩), .func (.func 12) #[] #[.pointer (some ⟨q4, 0, none⟩), .pointer (some ⟨q3, 0, none⟩)], .int .i64 i, f 7, f 8, f 9, f 10, f 11, f 12, f 13, f 14, f 15, f 16, f 17, f 18, f 19, f 20, f 21, f 22, f 23, f 24, f 25, f 26, f 27, f 28, f 29, f 30, f 31, f 32, f 33, f 34, f 35, f 36, f 37, f 38, f 39, f 40, f 41, f 42, f 43, f 44, f 45, f 46, f 47, f 48, f 49, f 50, f 51, f 52, f 53, f 54, f 55, f 56, f 57, f 58, f 59, f 60, f 61, f 62, f 63, f 64, f 65, f 66, f 67, f 68, f 69, f 70, f 71, f 72, f 73, f 74, f 75, f 76, f 77, f 78, f 79, f 80, f 81, f 82, f 83, f 84, f 85, f 86, f 87, f 88, f 89, f 90, f 91, f 92, f 93, f 94, f 95, f 96, f 97, f 98, f 99, f 100, f 101, f 102, f 103, f 104, f 105, f 106, f 107, f 108, f 109, f 110, f 111, f 112, f 113, f 114, f 115, f 116, f 117, f 118, f 119, f 120, f 121, f 122, f 123, f 124, f 125, f 126, f 127, f 128, f 129, f 130, f 131, f 132, f 133, f 134, f 135, f 136, f 137, f 138, f 139, f 140, f 141, f 142, f 143, f 144, f 145, f 146, f 147, f 148, f 149, f 150, f 151, f 152, f 153, f 154, f 155, f 156, f 157, f 158, f 159, f 160, f 161, f 162, f 163, f 164, f 165, f 166, f 167, f 168, f 169, f 170, f 171, f 172, f 173, f 174, f 175, f 176, f 177, f 178, f 179, f 180, f 181, f 182, f 183, f 184, f 185, f 186, f 187, f 188, f 189, f 190, f 191, f 192, f 193, f 194, f 195, f 196, f 197, f 198, f 199, f 200, f 201, f 202, f 203, f 204, f 205, f 206, f 207], []⟩ wr := by
  have hB := hI.tn.size
  have hRr := hRA.turn hI.tn
  obtain ⟨b9, o9, e9, _, d0, d1, d2, d3⟩ := hRr.lit hx
  cases e9
  have i0 : (0 : Int) ≤ (i : Int) := by omega
  have i1 : (i : Int) < (acts.length : Int) := by omega
  have i2 : (i : Int) ≤ 40 := by omega
  obtain ⟨v, m, size, hkp, hZ⟩ := hI.kp
  have htn := hI.tn
  have oa := (Only.refl (fun _ => False) wr).alloc (.cells #[.int .u8 x.d, .int .i64 x.at_, .int .i64 x.n, .slice x.A x.b.length x.c] 26)
  have hb9 := Blk.new wr 26 #[.int .u8 x.d, .int .i64 x.at_, .int .i64 x.n, .slice x.A x.b.length x.c]
  have y0 := hb9.cell 0
  have y1 := hb9.cell 1
  have y3 := hb9.cell 3
  simp only [List.getElem?_toArray, List.getElem?_cons_zero, List.getElem?_cons_succ] at y0 y1 y3
  have hF : KpW w g q3 q4 (i + 1) (wr.alloc (.cells #[.int .u8 x.d, .int .i64 x.at_, .int .i64 x.n, .slice x.A x.b.length x.c] 26)) := ⟨⟨v, m, size, (hkp.only oa).more (by omega), hZ⟩, htn.only oa⟩
  replace hF := Lib.hid hF
  rw [hd] at d0 y0
  have c9 : ((0 : Nat) : Int) = 0 := rfl
  simp only [c9] at d0 y0
  clear c9 hRr hkp htn hI oa hb9
  rw [hd] at hF y1 y3
  simp only [show ((0 : Nat) : Int) = 0 from rfl] at hF y1 y3
  conv => arg 2; whnf
  go_wp2
  exact ⟨rfl, rfl, rfl, rfl, rfl, rfl, by show Value.int IntKind.i64 _ = _; go_num, by omega, hF.out⟩

set_option maxRecDepth 100000 in
set_option maxHeartbeats 4000000 in
theorem kp_w (ab ao : Nat) (acts : List Ac) (c0 q3 q4 g : Nat) (w wr : World) (hRA : RowAc w (some ⟨ab, ao, none⟩) acts c0) (hq4 : w.heap.size ≤ q4) (i : Nat) (hlt : i < acts.length) (hlen : acts.length ≤ 40) (x : Ac) (hx : acts[i]? = some x) (hbl : x.b.length ≤ 2100) (f : Nat → Value)
    (hI : KpW w g q3 q4 i wr) (hd : x.d = 1) (K : Act → World → Prop) (Q : Exit → Act → World → Prop) (hK : ∀ a w', KpI (some ⟨ab, ao, none⟩) acts c0 q3 q4 g w (i + 1) a w' → K a w') :
    Code.wp Try.prog body7 (Exit.then K Q) ⟨#[.slice (some ⟨ab, ao, none⟩) acts.length c0, f 1, f 2, .pointer (some ⟨q3, 0, none⟩), .pointer (some ⟨q4, 0, none⟩), .func (.func 12) #[] #[.pointer (some ⟨q4, 0, none⟩), .pointer (some ⟨q3, 0, none⟩)], .int .i64 i, f 7, f 8, f 9, f 10, f 11, f 12, f 13, f 14, f 15, f 16, f 17, f 18, f 19, f 20, f 21, f 22, f 23, f 24, f 25, f 26, f 27, f 28, f 29, f 30, f 31, f 32, f 33, f 34, f 35, f 36, f 37, f 38, f 39, f 40, f 41, f 42, f 43, f 44, f 45, f 46, f 47, f 48, f 49, f 50, f 51, f 52, f 53, f 54, f 55, f 56, f 57, f 58, f 59, f 60, f 61, f 62, f 63, f 64, f 65, f 66, f 67, f 68, f 69, f 70, f 71, f 72, f 73, f 74, f 75, f 76, f 77, f 78, f 79, f 80, f 81, f 82, f 83, f 84, f 85, f 86, f 87, f 88, f 89, f 90, f 91, f 92, f 93, f 94, f 95, f 96, f 97, f 98, f 99, f 100, f 101, f 102, f 103, f 104, f 105, f 106, f 107, f 108, f 109, f 110, f 111, f 112, f 113, f 114, f 115, f 116, f 117, f 118, f 119, f 120, f 121, f 122, f 123, f 124, f 125, f 126, f 127, f 128, f 129, f 130, f 131, f 132, f 133, f 134, f 135, f 136, f 137, f 138, f 139, f 140, f 141, f 142, f 143, f 144, f 145, f 146, f 147, f 148, f 149, f 150, f 151, f 152, f 153, f 154, f 155, f 156, f 157, f 158, f 159, f 160, f 161, f 162, f 163, f 164, f 165, f 166, f 167, f 168, f 169, f 170, f 171, f 172, f 173, f 174, f 175, f 176, f 177, f 178, f 179, f 180, f 181, f 182, f 183, f 184, f 185, f 186, f 187, f 188, f 189, f 190, f 191, f 192, f 193, f 194, f 195, f 196, f 197, f 198, f 199, f 200, f 201, f 202, f 203, f 204, f 205, f 206, f 207], []⟩ wr := by
  have hB := hI.tn.size
  have hRr := hRA.turn hI.tn
  obtain ⟨b9, o9, e9, _, d0, d1, d2, d3⟩ := hRr.lit hx
  cases e9
  have i0 : (0 : Int) ≤ (i : Int) := by omega
  have i1 : (i : Int) < (acts.length : Int) := by omega
  have i2 : (i : Int) ≤ 40 := by omega
  obtain ⟨v, m, size, hkp, hZ⟩ := hI.kp
  have htn := hI.tn
  have oa := (Only.refl (fun _ => False) wr).alloc (.cells #[.int .u8 x.d, .int .i64 x.at_, .int .i64 x.n, .slice x.A x.b.length x.c] 26)
  have hb9 := Blk.new wr 26 #[.int .u8 x.d, .int .i64 x.at_, .int .i64 x.n, .slice x.A x.b.length x.c]
  have y0 := hb9.cell 0
  have y1 := hb9.cell 1
  have y3 := hb9.cell 3
  simp only [List.getElem?_toArray, List.getElem?_cons_zero, List.getElem?_cons_succ] at y0 y1 y3
  have hA1 := all_any w.heap.size g q3 q4 v m size (i * 2300) _ (hkp.only oa) (Nat.le_trans hB oa.size) (by omega)
  have htn1 := htn.only oa
  have hsz9 := hkp.sz
  have hb1 : ((x.d : Int) == 1) = true := by rw [hd]; rfl
  have hb2 : ((x.d : Int) == 0) = false := by rw [hd]; rfl
  have hd9 := Lib.hid hd
  clear hd
  clear hkp oa htn hRr hI
  replace hA1 := Lib.hid hA1
  replace htn1 := Lib.hid htn1
  replace hb9 := Lib.hid hb9
  replace hZ := Lib.hid hZ
  conv => arg 2; whnf
  go_upto_region 11 with fail
  generalize wr.alloc (.cells #[.int .u8 x.d, .int .i64 x.at_, .int .i64 x.n, .slice x.A x.b.length x.c] 26) = w1 at *
  generalize wr.heap.size = q7 at *
  clear d0 d1 d2 d3
  go_wp2_with fail
  refine hA1.out.mono ?_
  rintro r w2 ⟨Aw, cw, rfl, how, hcw, hk2, ht2⟩
  have hb2x := hb9.out.turn ht2 (by decide)
  have htn2 := htn1.out.trans ht2
  have z0 := hb2x.cell 0
  have z1 := hb2x.cell 1
  have z3 := hb2x.cell 3
  simp only [List.getElem?_toArray, List.getElem?_cons_zero, List.getElem?_cons_succ] at z0 z1 z3
  have c3 := hk2.b3.cell0
  have c4 := hk2.b4.cell0
  obtain ⟨va, ask, hS, hal⟩ := hk2.sh
  have hbr := (hRA.turn htn2).bs x (List.mem_of_getElem? hx)
  have hbA : 0 < x.b.length → ∀ a, x.A = some a → a.block < w.heap.size ∨ tyAt w2 a.block 5 := fun h a e => .inl ((hRA.bs x (List.mem_of_getElem? hx)).1.lt h e)
  have hB2 := htn2.size
  have hW := write_did w.heap.size g v m va ask size x hd9.out w2 hS hB2 hsz9 (by omega) hbr.1 hbr.2 hbA
  replace hW := Lib.hid hW
  replace how := Lib.hid how
  replace hk2 := Lib.hid hk2
  replace hb2x := Lib.hid hb2x
  replace htn2 := Lib.hid htn2
  have hzz := Lib.hid hS.sz
  clear hA1 htn1 hb9 ht2 hS hbr hbA y0 y1 y3
  go_wp2_with fail
  refine hW.out.mono ?_
  rintro r w3 hr
  rcases hr with ⟨e, he, rfl, ho⟩ | ⟨A9, c9, L, ns, rfl, hN, hns, hL9, hLc, hRis, hrd, hok, ⟨va', ask', hs', hal'⟩, ht⟩
  · have hF : KpW w g q3 q4 (i + 1) w3 := ⟨⟨v, m, size, (hk2.out.only ho).more (by omega), hZ.out⟩, htn2.out.only ho⟩
    replace hF := Lib.hid hF
    have he0 : (e == 0) = false := by rcases he with rfl | rfl <;> rfl
    clear he ho hW hk2 hZ z0 z1 z3 c3 c4 how hb2x htn2
    go_wp2
    exact ⟨rfl, rfl, rfl, rfl, rfl, rfl, by show Value.int IntKind.i64 _ = _; go_num, by omega, hF.out⟩
  · have hT := takes_any w.heap.size g v m 0 va' ask' A9 c9 L w3 hs' (Nat.le_trans hB2 ht.size) hrd hLc (fun y hy => (hok y hy).lower hB2) hRis hL9
    have hlaw := nxt_law hzz.out hZ.out hsz9 hN
    replace hT := Lib.hid hT
    replace hlaw := Lib.hid hlaw
    have hat9 : x.d = 1 → ∃ fr : Nat, x.at_ = fr := fun h => by
      rcases hN with ⟨_, fr, e, _⟩ | ⟨h2, _⟩
      · exact ⟨fr, e⟩
      · omega
    have b33 := hk2.out.b3.turn ht (by decide)
    have c33 := b33.cell0
    replace hs' := Lib.hid hs'
    replace b33 := Lib.hid b33
    replace ht := Lib.hid ht
    clear hW hrd hok hN hRis c3 c4 z0 z1 z3 hzz
    go_wp2_with fail
    refine hT.out.mono ?_
    rintro r w4 ⟨rfl, hk4⟩
    obtain ⟨v4, hs4, e64, e65⟩ := hk4.sh
    rw [List.take_length] at hs4
    have hkp4 : KpS w.heap.size g q3 q4 v4 (ovM m (L.map Cg.pair)) size (ask'.length) w4 := ⟨⟨va', ask', hs4, Nat.le_refl _⟩, e64.trans hk2.out.x4, e65.trans hk2.out.x5, b33.out.turn hk4.tn (by decide), hsz9⟩
    have htn4 := (htn2.out.trans ht.out).trans hk4.tn
    have t4x := hkp4.b4.cell0
    have t4f := hkp4.b4.frozen 0
    have hkp5 := hkp4.setX ns hns
    have q4t := hkp4.b4.ty
    have htn5 := htn4.setCell (p := ⟨q4, 0, none⟩) (.inr hq4) (.int .u32 ns)
    have b75 := ((hb2x.out.turn ht.out (by decide)).turn hk4.tn (by decide)).put (i := 0) q4t (by decide) (.int .u32 ns)
    have how5 := row_put (i := 0) (row_turn (row_turn how.out ht.out (by decide)) hk4.tn (by decide)) q4t (by decide) (.int .u32 ns)
    have hA5 := all_any w.heap.size g q3 q4 _ _ ns ask'.length _ hkp5 htn5.size (by omega)
    have ctr := hkp5.b4.cell0
    replace hA5 := Lib.hid hA5
    replace how5 := Lib.hid how5
    replace b75 := Lib.hid b75
    replace htn5 := Lib.hid htn5
    replace hkp5 := Lib.hid hkp5
    clear hT hk4 hs4 e64 e65 hkp4 htn4 q4t hs' b33 ht hk2 how hb2x htn2 c33
    go_upto_region 21 with fail
    generalize w4.setCell ⟨q4, 0, none⟩ (.int .u32 ns) = w5 at *
    clear t4x t4f ctr
    go_wp2_with fail
    refine hA5.out.mono ?_
    rintro r w6 ⟨An, cn, rfl, hon, hcn, hk6, ht6⟩
    have htn6 := htn5.out.trans ht6
    have b76 := b75.out.turn ht6 (by decide)
    have how6 := row_turn how5.out ht6 (by decide)
    have hcm : CmW q7 x Aw An cw cn size ns m (ovM m (L.map Cg.pair)) w6 := ⟨b76, Reads.of_own how6, Reads.of_own hon, ((hRA.turn htn6).bs x (List.mem_of_getElem? hx)).1, hlaw.out.law⟩
    have c46 := hk6.b4.cell0
    have hk6' := hk6.more (n' := (i + 1) * 2300) (by omega)
    have j1 : (size : Int) ≤ 32768 := by omega
    have j2 : ¬ (32768 : Int) < (size : Int) := by omega
    replace hcm := Lib.hid hcm
    replace hk6' := Lib.hid hk6'
    replace htn6 := Lib.hid htn6
    replace b76 := Lib.hid b76
    clear hA5 hkp5 how5 b75 htn5 how6 hon hk6 ht6
    go_wp2
    rename_i K9 hK9
    refine cm_loop (some ⟨ab, ao, none⟩) acts c0 q3 q4 i q7 x Aw An cw cn size ns m _ w6 hsz9 hns hat9 hcm.out _ _ ⟨rfl, rfl, rfl, rfl, rfl, rfl, rfl, rfl, rfl, rfl, rfl, Nat.zero_le _, Only.refl _ _⟩ _ ?_
    intro tm w7 h0 t0 t3 t4 t5 t6 t7 t8 t12 ho
    refine hK9 _ _ (kp34T (some ⟨ab, ao, none⟩) acts c0 q3 q4 i q7 x Aw An cw cn size ns w.heap.size g _ _ _ w7 (hk6'.out.only ho) hlaw.out.zer hsz9 (b76.out.only ho (fun x => x)) hbl hlaw.out.fin tm h0 t0 t3 t4 t5 t6 t7 t8 t12 _ ?_)
    clear t0 t3 t4 t5 t6 t7 t8 t12 h0
    intro tm w8 h0 t0 t3 t4 t5 t6 ho2
    have hF : KpW w g q3 q4 (i + 1) w8 := ⟨⟨_, _, ns, (hk6'.out.only ho).only ho2, hlaw.out.zer⟩, (htn6.out.only ho).only ho2⟩
    replace hF := Lib.hid hF
    obtain ⟨f, hf⟩ : ∃ f : Nat → Value, f = fun i => tm.getD i undef := ⟨_, rfl⟩
    rw [frameKC (some ⟨ab, ao, none⟩) acts c0 q3 q4 i tm h0 f hf (by rw [hf]; exact t0) (by rw [hf]; exact t3) (by rw [hf]; exact t4) (by rw [hf]; exact t5) (by rw [hf]; exact t6)]
    clear hf t0 t3 t4 t5 t6 h0 ho ho2 hk6' hcm b76 htn6 hlaw
    go_wp2
    exact ⟨rfl, rfl, rfl, rfl, rfl, rfl, by show Value.int IntKind.i64 _ = _; go_num, by omega, hF.out⟩

set_option maxRecDepth 100000 in
set_option maxHeartbeats 4000000 in
theorem kp_t (ab ao : Nat) (acts : List Ac) (c0 q3 q4 g : Nat) (w wr : World) (hRA : RowAc w (some ⟨ab, ao, none⟩) acts c0) (hq4 : w.heap.size ≤ q4) (i : Nat) (hlt : i < acts.length) (hlen : acts.length ≤ 40) (x : Ac) (hx : acts[i]? = some x) (hbl : x.b.length ≤ 2100) (f : Nat → Value)
    (hI : KpW w g q3 q4 i wr) (hd : 1 < x.d) (K : Act → World → Prop) (Q : Exit → Act → World → Prop) (hK : ∀ a w', KpI (some ⟨ab, ao, none⟩) acts c0 q3 q4 g w (i + 1) a w' → K a w') :
    Code.wp Try.prog body7 (Exit.then K Q) ⟨#[.slice (some ⟨ab, ao, none⟩) acts.length c0, f 1, f 2, .pointer (some ⟨q3, 0, none⟩), .pointer (some ⟨q4, 0, none⟩), .func (.func 12) #[] #[.pointer (some ⟨q4, 0, none⟩), .pointer (some ⟨q3, 0, none⟩)], .int .i64 i, f 7, f 8, f 9, f 10, f 11, f 12, f 13, f 14, f 15, f 16, f 17, f 18, f 19, f 20, f 21, f 22, f 23, f 24, f 25, f 26, f 27, f 28, f 29, f 30, f 31, f 32, f 33, f 34, f 35, f 36, f 37, f 38, f 39, f 40, f 41, f 42, f 43, f 44, f 45, f 46, f 47, f 48, f 49, f 50, f 51, f 52, f 53, f 54, f 55, f 56, f 57, f 58, f 59, f 60, f 61, f 62, f 63, f 64, f 65, f 66, f 67, f 68, f 69, f 70, f 71, f 72, f 73, f 74, f 75, f 76, f 77, f 78, f 79, f 80, f 81, f 82, f 83, f 84, f 85, f 86, f 87, f 88, f 89, f 90, f 91, f 92, f 93, f 94, f 95, f 96, f 97, f 98, f 99, f 100, f 101, f 102, f 103, f 104, f 105, f 106, f 107, f 108, f 109, f 110, f 111, f 112, f 113, f 114, f 115, f 116, f 117, f 118, f 119, f 120, f 121, f 122, f 123, f 124, f 125, f 126, f 127, f 128, f 129, f 130, f 131, f 132, f 133, f 134, f 135, f 136, f 137, f 138, f 139, f 140, f 141, f 142, f 143, f 144, f 145, f 146, f 147, f 148, f 149, f 150, f 151, f 152, f 153, f 154, f 155, f 156, f 157, f 158, f 159, f 160, f 161, f 162, f 163, f 164, f 165, f 166, f 167, f 168, f 169, f 170, f 171, f 172, f 173, f 174, f 175, f 176, f 177, f 178, f 179, f 180, f 181, f 182, f 183, f 184, f 185, f 186, f 187, f 188, f 189, f 190, f 191, f 192, f 193, f 194, f 195, f 196, f 197, f 198, f 199, f 200, f 201, f 202, f 203, f 204, f 205, f 206, f 207], []⟩ wr := by
  have hB := hI.tn.size
  have hRr := hRA.turn hI.tn
  obtain ⟨b9, o9, e9, _, d0, d1, d2, d3⟩ := hRr.lit hx
  cases e9
  have i0 : (0 : Int) ≤ (i : Int) := by omega
  have i1 : (i : Int) < (acts.length : Int) := by omega
  have i2 : (i : Int) ≤ 40 := by omega
  obtain ⟨v, m, size, hkp, hZ⟩ := hI.kp
  have htn := hI.tn
  have oa := (Only.refl (fun _ => False) wr).alloc (.cells #[.int .u8 x.d, .int .i64 x.at_, .int .i64 x.n, .slice x.A x.b.length x.c] 26)
  have hb9 := Blk.new wr 26 #[.int .u8 x.d, .int .i64 x.at_, .int .i64 x.n, .slice x.A x.b.length x.c]
  have y0 := hb9.cell 0
  have y1 := hb9.cell 1
  have y3 := hb9.cell 3
  simp only [List.getElem?_toArray, List.getElem?_cons_zero, List.getElem?_cons_succ] at y0 y1 y3
  have hA1 := all_any w.heap.size g q3 q4 v m size (i * 2300) _ (hkp.only oa) (Nat.le_trans hB oa.size) (by omega)
  have htn1 := htn.only oa
  have hsz9 := hkp.sz
  have hb1 : ((x.d : Int) == 1) = false := beq_false_of_ne (by omega)
  have hb2 : ((x.d : Int) == 0) = false := beq_false_of_ne (by omega)
  clear hkp oa htn hRr hI
  replace hA1 := Lib.hid hA1
  replace htn1 := Lib.hid htn1
  replace hb9 := Lib.hid hb9
  replace hZ := Lib.hid hZ
  conv => arg 2; whnf
  go_upto_region 11 with fail
  generalize wr.alloc (.cells #[.int .u8 x.d, .int .i64 x.at_, .int .i64 x.n, .slice x.A x.b.length x.c] 26) = w1 at *
  generalize wr.heap.size = q7 at *
  clear d0 d1 d2 d3
  go_wp2_with fail
  refine hA1.out.mono ?_
  rintro r w2 ⟨Aw, cw, rfl, how, hcw, hk2, ht2⟩
  have hb2x := hb9.out.turn ht2 (by decide)
  have htn2 := htn1.out.trans ht2
  have z0 := hb2x.cell 0
  have z1 := hb2x.cell 1
  have z3 := hb2x.cell 3
  simp only [List.getElem?_toArray, List.getElem?_cons_zero, List.getElem?_cons_succ] at z0 z1 z3
  have c3 := hk2.b3.cell0
  have c4 := hk2.b4.cell0
  obtain ⟨va, ask, hS, hal⟩ := hk2.sh
  have hbr := (hRA.turn htn2).bs x (List.mem_of_getElem? hx)
  have hbA : 0 < x.b.length → ∀ a, x.A = some a → a.block < w.heap.size ∨ tyAt w2 a.block 5 := fun h a e => .inl ((hRA.bs x (List.mem_of_getElem? hx)).1.lt h e)
  have hB2 := htn2.size
  have hW := trunc_did w.heap.size g v m va ask size x hd w2 hS hB2 hsz9 (by omega)
  replace hW := Lib.hid hW
  replace how := Lib.hid how
  replace hk2 := Lib.hid hk2
  replace hb2x := Lib.hid hb2x
  replace htn2 := Lib.hid htn2
  have hzz := Lib.hid hS.sz
  clear hA1 htn1 hb9 ht2 hS hbr hbA y0 y1 y3
  go_wp2_with fail
  refine hW.out.mono ?_
  rintro r w3 hr
  rcases hr with ⟨e, he, rfl, ho⟩ | ⟨A9, c9, L, ns, rfl, hN, hns, hL9, hLc, hRis, hrd, hok, ⟨va', ask', hs', hal'⟩, ht⟩
  · have hF : KpW w g q3 q4 (i + 1) w3 := ⟨⟨v, m, size, (hk2.out.only ho).more (by omega), hZ.out⟩, htn2.out.only ho⟩
    replace hF := Lib.hid hF
    have he0 : (e == 0) = false := by rcases he with rfl | rfl <;> rfl
    clear he ho hW hk2 hZ z0 z1 z3 c3 c4 how hb2x htn2
    go_wp2
    exact ⟨rfl, rfl, rfl, rfl, rfl, rfl, by show Value.int IntKind.i64 _ = _; go_num, by omega, hF.out⟩
  · have hT := takes_any w.heap.size g v m 0 va' ask' A9 c9 L w3 hs' (Nat.le_trans hB2 ht.size) hrd hLc (fun y hy => (hok y hy).lower hB2) hRis hL9
    have hlaw := nxt_law hzz.out hZ.out hsz9 hN
    replace hT := Lib.hid hT
    replace hlaw := Lib.hid hlaw
    have hat9 : x.d = 1 → ∃ fr : Nat, x.at_ = fr := fun h => by
      rcases hN with ⟨_, fr, e, _⟩ | ⟨h2, _⟩
      · exact ⟨fr, e⟩
      · omega
    have b33 := hk2.out.b3.turn ht (by decide)
    have c33 := b33.cell0
    replace hs' := Lib.hid hs'
    replace b33 := Lib.hid b33
    replace ht := Lib.hid ht
    clear hW hrd hok hN hRis c3 c4 z0 z1 z3 hzz
    go_wp2_with fail
    refine hT.out.mono ?_
    rintro r w4 ⟨rfl, hk4⟩
    obtain ⟨v4, hs4, e64, e65⟩ := hk4.sh
    rw [List.take_length] at hs4
    have hkp4 : KpS w.heap.size g q3 q4 v4 (ovM m (L.map Cg.pair)) size (ask'.length) w4 := ⟨⟨va', ask', hs4, Nat.le_refl _⟩, e64.trans hk2.out.x4, e65.trans hk2.out.x5, b33.out.turn hk4.tn (by decide), hsz9⟩
    have htn4 := (htn2.out.trans ht.out).trans hk4.tn
    have t4x := hkp4.b4.cell0
    have t4f := hkp4.b4.frozen 0
    have hkp5 := hkp4.setX ns hns
    have q4t := hkp4.b4.ty
    have htn5 := htn4.setCell (p := ⟨q4, 0, none⟩) (.inr hq4) (.int .u32 ns)
    have b75 := ((hb2x.out.turn ht.out (by decide)).turn hk4.tn (by decide)).put (i := 0) q4t (by decide) (.int .u32 ns)
    have how5 := row_put (i := 0) (row_turn (row_turn how.out ht.out (by decide)) hk4.tn (by decide)) q4t (by decide) (.int .u32 ns)
    have hA5 := all_any w.heap.size g q3 q4 _ _ ns ask'.length _ hkp5 htn5.size (by omega)
    have ctr := hkp5.b4.cell0
    replace hA5 := Lib.hid hA5
    replace how5 := Lib.hid how5
    replace b75 := Lib.hid b75
    replace htn5 := Lib.hid htn5
    replace hkp5 := Lib.hid hkp5
    clear hT hk4 hs4 e64 e65 hkp4 htn4 q4t hs' b33 ht hk2 how hb2x htn2 c33
    go_upto_region 21 with fail
    generalize w4.setCell ⟨q4, 0, none⟩ (.int .u32 ns) = w5 at *
    clear t4x t4f ctr
    go_wp2_with fail
    refine hA5.out.mono ?_
    rintro r w6 ⟨An, cn, rfl, hon, hcn, hk6, ht6⟩
    have htn6 := htn5.out.trans ht6
    have b76 := b75.out.turn ht6 (by decide)
    have how6 := row_turn how5.out ht6 (by decide)
    have hcm : CmW q7 x Aw An cw cn size ns m (ovM m (L.map Cg.pair)) w6 := ⟨b76, Reads.of_own how6, Reads.of_own hon, ((hRA.turn htn6).bs x (List.mem_of_getElem? hx)).1, hlaw.out.law⟩
    have c46 := hk6.b4.cell0
    have hk6' := hk6.more (n' := (i + 1) * 2300) (by omega)
    have j1 : (size : Int) ≤ 32768 := by omega
    have j2 : ¬ (32768 : Int) < (size : Int) := by omega
    replace hcm := Lib.hid hcm
    replace hk6' := Lib.hid hk6'
    replace htn6 := Lib.hid htn6
    replace b76 := Lib.hid b76
    clear hA5 hkp5 how5 b75 htn5 how6 hon hk6 ht6
    go_wp2
    rename_i K9 hK9
    refine cm_loop (some ⟨ab, ao, none⟩) acts c0 q3 q4 i q7 x Aw An cw cn size ns m _ w6 hsz9 hns hat9 hcm.out _ _ ⟨rfl, rfl, rfl, rfl, rfl, rfl, rfl, rfl, rfl, rfl, rfl, Nat.zero_le _, Only.refl _ _⟩ _ ?_
    intro tm w7 h0 t0 t3 t4 t5 t6 t7 t8 t12 ho
    refine hK9 _ _ (kp34T (some ⟨ab, ao, none⟩) acts c0 q3 q4 i q7 x Aw An cw cn size ns w.heap.size g _ _ _ w7 (hk6'.out.only ho) hlaw.out.zer hsz9 (b76.out.only ho (fun x => x)) hbl hlaw.out.fin tm h0 t0 t3 t4 t5 t6 t7 t8 t12 _ ?_)
    clear t0 t3 t4 t5 t6 t7 t8 t12 h0
    intro tm w8 h0 t0 t3 t4 t5 t6 ho2
    have hF : KpW w g q3 q4 (i + 1) w8 := ⟨⟨_, _, ns, (hk6'.out.only ho).only ho2, hlaw.out.zer⟩, (htn6.out.only ho).only ho2⟩
    replace hF := Lib.hid hF
    obtain ⟨f, hf⟩ : ∃ f : Nat → Value, f = fun i => tm.getD i undef := ⟨_, rfl⟩
    rw [frameKC (some ⟨ab, ao, none⟩) acts c0 q3 q4 i tm h0 f hf (by rw [hf]; exact t0) (by rw [hf]; exact t3) (by rw [hf]; exact t4) (by rw [hf]; exact t5) (by rw [hf]; exact t6)]
    clear hf t0 t3 t4 t5 t6 h0 ho ho2 hk6' hcm b76 htn6 hlaw
    go_wp2
    exact ⟨rfl, rfl, rfl, rfl, rfl, rfl, by show Value.int IntKind.i64 _ = _; go_num, by omega, hF.out⟩
end Go.Proofs.Ytpkadhgoaaphkaa
