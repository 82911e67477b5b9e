/-
  The law ContentKeeps (func 5): what follows its second loop; what one act does.
-/
import Derived.Test.YtpkadhgoaaphkaaKp3
namespace Go.Proofs.Ytpkadhgoaaphkaa
open Go Go.RowKit Go.Shelf
set_option linter.unusedVariables false

/-- What an act that is done comes to. -/
structure NxtL (x : Ac) (m : Nat → List UInt8) (size : Nat) (m' : Nat → List UInt8) (size' : Nat) : Prop where
  zer : Zer m' size'
  law : ∀ k, k < size' → byteAt m' k = want x m size k
  fin : (x.d = 1 ∧ ((x.b.length = 0 ∧ size' = size) ∨ (0 < x.b.length ∧ ∃ fr : Nat, x.at_ = fr ∧ fr ≤ 32768 ∧ size' = max size (fr + x.b.length)))) ∨ (1 < x.d ∧ x.at_ = size')
theorem nxt_law {x : Ac} {m m' : Nat → List UInt8} {size size' : Nat} (hz : Szd m) (h0 : Zer m size) (hs : size ≤ 32768) (h : Next x m size m' size') : NxtL x m size m' size' := by
  rcases h with ⟨hd, fr, hat, hen, hsz, rfl⟩ | ⟨hd, fr, hat, hen, hsz, rfl⟩
  · refine ⟨fun p hp hp2 => ?_, fun k hk => ?_, .inl ⟨hd, ?_⟩⟩
    · rw [wr_byte hz hen, if_neg (by split at hsz <;> omega)]
      exact h0 p (by split at hsz <;> omega) hp2
    · rw [wr_byte hz hen]
      unfold want
      by_cases hc : fr ≤ k ∧ k < fr + x.b.length
      · rw [if_pos hc, if_pos ⟨hd, by rw [hat]; omega, by rw [hat]; omega⟩, hat, show ((fr : Nat) : Int).toNat = fr by omega]
      · rw [if_neg hc, if_neg (fun h => by rw [hat] at h; omega)]
        split
        · rfl
        · exact h0 k (by omega) (by split at hsz <;> omega)
    · by_cases hl : x.b.length = 0
      · rw [if_pos hl] at hsz; exact .inl ⟨hl, hsz⟩
      · rw [if_neg hl] at hsz; exact .inr ⟨by omega, fr, hat, by omega, hsz⟩
  · subst hsz
    refine ⟨fun p hp hp2 => ?_, fun k hk => ?_, .inr ⟨hd, hat⟩⟩
    · rw [tr_byte hz hs h0 p hp2, if_neg (by omega)]
    · rw [tr_byte hz hs h0 k (by omega), if_pos hk]
      unfold want
      rw [if_neg (fun h => by omega)]
      split
      · rfl
      · exact h0 k (by omega) (by omega)
/-- The number beside the shelf is laid anew. -/
theorem KpS.setX {B g q3 q4 : Nat} {v : Nat → Value} {m : Nat → List UInt8} {size n : Nat} {w : World} (h : KpS B g q3 q4 v m size n w) (ns : Nat) (hn : ns ≤ 32768) : KpS B g q3 q4 (put v 65 (.int .u32 ns)) m ns n (w.setCell ⟨q4, 0, none⟩ (.int .u32 ns)) := by
  have hb4 := h.b4
  have ht := hb4.ty
  obtain ⟨va, ask, hs, hl⟩ := h.sh
  have hx := (hs.xb q4 h.x4).2
  have o := (Only.refl (fun k => k = q4) w).setCell (p := ⟨q4, 0, none⟩) (.inl rfl) (.int .u32 ns)
  have hs4 := hb4.set_ 0 (.int .u32 ns)
  simp only [List.setIfInBounds_toArray, List.set_cons_zero] at hs4
  refine ⟨⟨va, ask, ⟨(hs.tb.only o (fun e => by subst e; have := ht.one hs.ty; cases this)).congr fun i hi => ?_, fun k hk => ?_, hs.sz, row_keep hs.ak o (fun k hk e => hx (by rw [hk, e])), hs.gB, hs.bd, fun X hX => ?_⟩, hl⟩, ?_, ?_, h.b3.put ht (by decide) _, hn⟩
  · unfold shf put
    by_cases h1 : i < 64
    · rw [if_pos h1, if_pos h1, if_neg (by omega)]
    · rw [if_neg h1, if_neg h1]
  · rw [show put v 65 (.int .u32 ns) k = v k by unfold put; rw [if_neg (by omega)]]
    exact row_put (hs.lv k hk) ht (by decide) _
  · have e : X = q4 := by
      have h64 : put v 65 (.int .u32 ns) 64 = v 64 := rfl
      rw [h64, h.x4] at hX
      cases hX; rfl
    subst e
    exact ⟨hs4, hx⟩
  · exact h.x4
  · rfl

set_option maxRecDepth 100000 in
set_option maxHeartbeats 4000000 in
theorem kp34_0 (A0 : Option Addr) (acts : List Ac) (c0 q3 q4 i : Nat) (q7 : Nat) (x : Ac) (Aw An : Option Addr) (cw cn s0 s1 : Nat) (B g : Nat) (v : Nat → Value) (m : Nat → List UInt8) (n : Nat) (w0 : World) (hW : KpS B g q3 q4 v m s1 n w0) (hZ : Zer m s1) (hs0 : s0 ≤ 32768) (hbx : Blk w0 q7 26 #[.int .u8 x.d, .int .i64 x.at_, .int .i64 x.n, .slice x.A x.b.length x.c]) (hd : x.d = 1) (hl : x.b.length = 0) (hsz : s1 = s0) (f : Nat → Value) (Q : Exit → Act → World → Prop)
    (hfin : ∀ (tm : Array Value) (w' : World), tm.size = 208 → tm.getD 0 undef = .slice A0 acts.length c0 → tm.getD 3 undef = .pointer (some ⟨q3, 0, none⟩) → tm.getD 4 undef = .pointer (some ⟨q4, 0, none⟩) → tm.getD 5 undef = .func (.func 12) #[] #[.pointer (some ⟨q4, 0, none⟩), .pointer (some ⟨q3, 0, none⟩)] → tm.getD 6 undef = .int .i64 i → Only (fun _ => False) w0 w' → Q .normal ⟨tm, []⟩ w') : Code.wp Try.prog tail34 Q ⟨#[.slice A0 acts.length c0, f 1, f 2, .pointer (some ⟨q3, 0, none⟩), .pointer (some ⟨q4, 0, none⟩), .func (.func 12) #[] #[.pointer (some ⟨q4, 0, none⟩), .pointer (some ⟨q3, 0, none⟩)], .int .i64 i, .pointer (some ⟨q7, 0, none⟩), .slice Aw s0 cw, f 9, f 10, f 11, .slice An s1 cn, f 13, f 14, f 15, f 16, f 17, f 18, f 19, f 20, f 21, f 22, f 23, f 24, f 25, f 26, f 27, f 28, f 29, f 30, f 31, f 32, f 33, f 34, f 35, f 36, f 37, f 38, f 39, f 40, f 41, f 42, f 43, f 44, f 45, f 46, f 47, f 48, f 49, f 50, f 51, f 52, f 53, f 54, f 55, f 56, f 57, f 58, f 59, f 60, f 61, f 62, f 63, f 64, f 65, f 66, f 67, f 68, f 69, f 70, f 71, f 72, f 73, f 74, f 75, f 76, f 77, f 78, f 79, f 80, f 81, f 82, f 83, f 84, f 85, f 86, f 87, f 88, f 89, f 90, f 91, f 92, f 93, f 94, f 95, f 96, f 97, f 98, f 99, f 100, f 101, f 102, f 103, f 104, f 105, f 106, f 107, f 108, f 109, f 110, f 111, f 112, f 113, f 114, f 115, f 116, f 117, f 118, f 119, f 120, f 121, f 122, f 123, f 124, f 125, f 126, f 127, f 128, f 129, f 130, f 131, f 132, f 133, f 134, f 135, f 136, f 137, f 138, f 139, f 140, f 141, f 142, f 143, f 144, f 145, f 146, f 147, f 148, f 149, f 150, f 151, f 152, f 153, f 154, f 155, f 156, f 157, f 158, f 159, f 160, f 161, f 162, f 163, f 164, f 165, f 166, f 167, f 168, f 169, f 170, f 171, f 172, f 173, f 174, f 175, f 176, f 177, f 178, f 179, f 180, f 181, f 182, f 183, f 184, f 185, f 186, f 187, f 188, f 189, f 190, f 191, f 192, f 193, f 194, f 195, f 196, f 197, f 198, f 199, f 200, f 201, f 202, f 203, f 204, f 205, f 206, f 207], []⟩ w0 := by
  have hs1 := hW.sz
  have c4 := hW.b4.cell0
  have d0 := hbx.cell 0
  have d1 := hbx.cell 1
  have d3 := hbx.cell 3
  simp only [List.getElem?_toArray, List.getElem?_cons_zero, List.getElem?_cons_succ] at d0 d1 d3
  have i1 : (s1 : Int) ≤ 32768 := by omega
  have i2 : (s0 : Int) ≤ 32768 := by omega
  rw [hd] at d0
  have c0 : ((1 : Nat) : Int) = 1 := rfl
  simp only [c0] at d0
  clear c0
  rw [hl] at d3
  have c1 : ((0 : Nat) : Int) = 0 := rfl
  subst hsz
  replace hW := Lib.hid hW
  conv => arg 2; whnf
  go_wp2
  refine zr_loop A0 acts c0 q3 q4 i B g v m s1 n w0 hW.out hZ _ _ s1 (Nat.le_refl _) ⟨rfl, rfl, rfl, rfl, rfl, rfl, rfl, rfl, hs1, Only.refl _ _⟩ _ ?_
  intro tm w' h0 t0 t3 t4 t5 t6 ho
  exact hfin tm w' h0 t0 t3 t4 t5 t6 ho

set_option maxRecDepth 100000 in
set_option maxHeartbeats 4000000 in
theorem kp34_1 (A0 : Option Addr) (acts : List Ac) (c0 q3 q4 i : Nat) (q7 : Nat) (x : Ac) (Aw An : Option Addr) (cw cn s0 s1 : Nat) (B g : Nat) (v : Nat → Value) (m : Nat → List UInt8) (n : Nat) (w0 : World) (hW : KpS B g q3 q4 v m s1 n w0) (hZ : Zer m s1) (hs0 : s0 ≤ 32768) (hbx : Blk w0 q7 26 #[.int .u8 x.d, .int .i64 x.at_, .int .i64 x.n, .slice x.A x.b.length x.c]) (hd : x.d = 1) (hl : 0 < x.b.length) (hl2 : x.b.length ≤ 2100) (fr : Nat) (hat : x.at_ = fr) (hfr : fr ≤ 32768) (hsz : s1 = max s0 (fr + x.b.length)) (f : Nat → Value) (Q : Exit → Act → World → Prop)
    (hfin : ∀ (tm : Array Value) (w' : World), tm.size = 208 → tm.getD 0 undef = .slice A0 acts.length c0 → tm.getD 3 undef = .pointer (some ⟨q3, 0, none⟩) → tm.getD 4 undef = .pointer (some ⟨q4, 0, none⟩) → tm.getD 5 undef = .func (.func 12) #[] #[.pointer (some ⟨q4, 0, none⟩), .pointer (some ⟨q3, 0, none⟩)] → tm.getD 6 undef = .int .i64 i → Only (fun _ => False) w0 w' → Q .normal ⟨tm, []⟩ w') : Code.wp Try.prog tail34 Q ⟨#[.slice A0 acts.length c0, f 1, f 2, .pointer (some ⟨q3, 0, none⟩), .pointer (some ⟨q4, 0, none⟩), .func (.func 12) #[] #[.pointer (some ⟨q4, 0, none⟩), .pointer (some ⟨q3, 0, none⟩)], .int .i64 i, .pointer (some ⟨q7, 0, none⟩), .slice Aw s0 cw, f 9, f 10, f 11, .slice An s1 cn, f 13, f 14, f 15, f 16, f 17, f 18, f 19, f 20, f 21, f 22, f 23, f 24, f 25, f 26, f 27, f 28, f 29, f 30, f 31, f 32, f 33, f 34, f 35, f 36, f 37, f 38, f 39, f 40, f 41, f 42, f 43, f 44, f 45, f 46, f 47, f 48, f 49, f 50, f 51, f 52, f 53, f 54, f 55, f 56, f 57, f 58, f 59, f 60, f 61, f 62, f 63, f 64, f 65, f 66, f 67, f 68, f 69, f 70, f 71, f 72, f 73, f 74, f 75, f 76, f 77, f 78, f 79, f 80, f 81, f 82, f 83, f 84, f 85, f 86, f 87, f 88, f 89, f 90, f 91, f 92, f 93, f 94, f 95, f 96, f 97, f 98, f 99, f 100, f 101, f 102, f 103, f 104, f 105, f 106, f 107, f 108, f 109, f 110, f 111, f 112, f 113, f 114, f 115, f 116, f 117, f 118, f 119, f 120, f 121, f 122, f 123, f 124, f 125, f 126, f 127, f 128, f 129, f 130, f 131, f 132, f 133, f 134, f 135, f 136, f 137, f 138, f 139, f 140, f 141, f 142, f 143, f 144, f 145, f 146, f 147, f 148, f 149, f 150, f 151, f 152, f 153, f 154, f 155, f 156, f 157, f 158, f 159, f 160, f 161, f 162, f 163, f 164, f 165, f 166, f 167, f 168, f 169, f 170, f 171, f 172, f 173, f 174, f 175, f 176, f 177, f 178, f 179, f 180, f 181, f 182, f 183, f 184, f 185, f 186, f 187, f 188, f 189, f 190, f 191, f 192, f 193, f 194, f 195, f 196, f 197, f 198, f 199, f 200, f 201, f 202, f 203, f 204, f 205, f 206, f 207], []⟩ w0 := by
  have hs1 := hW.sz
  have c4 := hW.b4.cell0
  have d0 := hbx.cell 0
  have d1 := hbx.cell 1
  have d3 := hbx.cell 3
  simp only [List.getElem?_toArray, List.getElem?_cons_zero, List.getElem?_cons_succ] at d0 d1 d3
  have i1 : (s1 : Int) ≤ 32768 := by omega
  have i2 : (s0 : Int) ≤ 32768 := by omega
  rw [hd] at d0
  have c0 : ((1 : Nat) : Int) = 1 := rfl
  simp only [c0] at d0
  clear c0
  rw [hat] at d1
  have i3 : (0 : Int) < (x.b.length : Int) := by omega
  have i4 : (fr : Int) ≤ 32768 := by omega
  have i5 : (0 : Int) ≤ (fr : Int) := by omega
  have i6 : (x.b.length : Int) ≤ 2100 := by omega
  have i7 : max (s0 : Int) ((fr : Int) + (x.b.length : Int)) = (s1 : Int) := by omega
  have i8 : ((x.b.length : Int) == 0) = false := beq_false_of_ne (by omega)
  clear hsz
  replace hW := Lib.hid hW
  conv => arg 2; whnf
  go_wp2
  refine zr_loop A0 acts c0 q3 q4 i B g v m s1 n w0 hW.out hZ _ _ s1 (Nat.le_refl _) ⟨rfl, rfl, rfl, rfl, rfl, rfl, rfl, rfl, hs1, Only.refl _ _⟩ _ ?_
  intro tm w' h0 t0 t3 t4 t5 t6 ho
  exact hfin tm w' h0 t0 t3 t4 t5 t6 ho

set_option maxRecDepth 100000 in
set_option maxHeartbeats 4000000 in
theorem kp34_2 (A0 : Option Addr) (acts : List Ac) (c0 q3 q4 i : Nat) (q7 : Nat) (x : Ac) (Aw An : Option Addr) (cw cn s0 s1 : Nat) (B g : Nat) (v : Nat → Value) (m : Nat → List UInt8) (n : Nat) (w0 : World) (hW : KpS B g q3 q4 v m s1 n w0) (hZ : Zer m s1) (hs0 : s0 ≤ 32768) (hbx : Blk w0 q7 26 #[.int .u8 x.d, .int .i64 x.at_, .int .i64 x.n, .slice x.A x.b.length x.c]) (hd : 1 < x.d) (hat : x.at_ = s1) (f : Nat → Value) (Q : Exit → Act → World → Prop)
    (hfin : ∀ (tm : Array Value) (w' : World), tm.size = 208 → tm.getD 0 undef = .slice A0 acts.length c0 → tm.getD 3 undef = .pointer (some ⟨q3, 0, none⟩) → tm.getD 4 undef = .pointer (some ⟨q4, 0, none⟩) → tm.getD 5 undef = .func (.func 12) #[] #[.pointer (some ⟨q4, 0, none⟩), .pointer (some ⟨q3, 0, none⟩)] → tm.getD 6 undef = .int .i64 i → Only (fun _ => False) w0 w' → Q .normal ⟨tm, []⟩ w') : Code.wp Try.prog tail34 Q ⟨#[.slice A0 acts.length c0, f 1, f 2, .pointer (some ⟨q3, 0, none⟩), .pointer (some ⟨q4, 0, none⟩), .func (.func 12) #[] #[.pointer (some ⟨q4, 0, none⟩), .pointer (some ⟨q3, 0, none⟩)], .int .i64 i, .pointer (some ⟨q7, 0, none⟩), .slice Aw s0 cw, f 9, f 10, f 11, .slice An s1 cn, f 13, f 14, f 15, f 16, f 17, f 18, f 19, f 20, f 21, f 22, f 23, f 24, f 25, f 26, f 27, f 28, f 29, f 30, f 31, f 32, f 33, f 34, f 35, f 36, f 37, f 38, f 39, f 40, f 41, f 42, f 43, f 44, f 45, f 46, f 47, f 48, f 49, f 50, f 51, f 52, f 53, f 54, f 55, f 56, f 57, f 58, f 59, f 60, f 61, f 62, f 63, f 64, f 65, f 66, f 67, f 68, f 69, f 70, f 71, f 72, f 73, f 74, f 75, f 76, f 77, f 78, f 79, f 80, f 81, f 82, f 83, f 84, f 85, f 86, f 87, f 88, f 89, f 90, f 91, f 92, f 93, f 94, f 95, f 96, f 97, f 98, f 99, f 100, f 101, f 102, f 103, f 104, f 105, f 106, f 107, f 108, f 109, f 110, f 111, f 112, f 113, f 114, f 115, f 116, f 117, f 118, f 119, f 120, f 121, f 122, f 123, f 124, f 125, f 126, f 127, f 128, f 129, f 130, f 131, f 132, f 133, f 134, f 135, f 136, f 137, f 138, f 139, f 140, f 141, f 142, f 143, f 144, f 145, f 146, f 147, f 148, f 149, f 150, f 151, f 152, f 153, f 154, f 155, f 156, f 157, f 158, f 159, f 160, f 161, f 162, f 163, f 164, f 165, f 166, f 167, f 168, f 169, f 170, f 171, f 172, f 173, f 174, f 175, f 176, f 177, f 178, f 179, f 180, f 181, f 182, f 183, f 184, f 185, f 186, f 187, f 188, f 189, f 190, f 191, f 192, f 193, f 194, f 195, f 196, f 197, f 198, f 199, f 200, f 201, f 202, f 203, f 204, f 205, f 206, f 207], []⟩ w0 := by
  have hs1 := hW.sz
  have c4 := hW.b4.cell0
  have d0 := hbx.cell 0
  have d1 := hbx.cell 1
  have d3 := hbx.cell 3
  simp only [List.getElem?_toArray, List.getElem?_cons_zero, List.getElem?_cons_succ] at d0 d1 d3
  have i1 : (s1 : Int) ≤ 32768 := by omega
  have i2 : (s0 : Int) ≤ 32768 := by omega
  rw [hat] at d1
  have e1 : ((x.d : Int) == 1) = false := beq_false_of_ne (by omega)
  have e2 : (1 : Int) < (x.d : Int) := by omega
  replace hW := Lib.hid hW
  conv => arg 2; whnf
  go_wp2
  refine zr_loop A0 acts c0 q3 q4 i B g v m s1 n w0 hW.out hZ _ _ s1 (Nat.le_refl _) ⟨rfl, rfl, rfl, rfl, rfl, rfl, rfl, rfl, hs1, Only.refl _ _⟩ _ ?_
  intro tm w' h0 t0 t3 t4 t5 t6 ho
  exact hfin tm w' h0 t0 t3 t4 t5 t6 ho
set_option maxRecDepth 100000 in
theorem frame34 (A0 : Option Addr) (acts : List Ac) (c0 q3 q4 i : Nat) (q7 : Nat) (Aw An : Option Addr) (cw cn s0 s1 : Nat) (tm : Array Value) (hs : tm.size = 208) (f : Nat → Value) (hf : f = fun i => tm.getD i undef) (t0 : f 0 = .slice A0 acts.length c0) (t3 : f 3 = .pointer (some ⟨q3, 0, none⟩)) (t4 : f 4 = .pointer (some ⟨q4, 0, none⟩)) (t5 : f 5 = .func (.func 12) #[] #[.pointer (some ⟨q4, 0, none⟩), .pointer (some ⟨q3, 0, none⟩)]) (t6 : f 6 = .int .i64 i) (t7 : f 7 = .pointer (some ⟨q7, 0, none⟩)) (t8 : f 8 = .slice Aw s0 cw) (t12 : f 12 = .slice An s1 cn) : tm = #[.slice A0 acts.length c0, f 1, f 2, .pointer (some ⟨q3, 0, none⟩), .pointer (some ⟨q4, 0, none⟩), .func (.func 12) #[] #[.pointer (some ⟨q4, 0, none⟩), .pointer (some ⟨q3, 0, none⟩)], .int .i64 i, .pointer (some ⟨q7, 0, none⟩), .slice Aw s0 cw, f 9, f 10, f 11, .slice An s1 cn, f 13, f 14, f 15, f 16, f 17, f 18, f 19, f 20, f 21, f 22, f 23, f 24, f 25, f 26, f 27, f 28, f 29, f 30, f 31, f 32, f 33, f 34, f 35, f 36, f 37, f 38, f 39, f 40, f 41, f 42, f 43, f 44, f 45, f 46, f 47, f 48, f 49, f 50, f 51, f 52, f 53, f 54, f 55, f 56, f 57, f 58, f 59, f 60, f 61, f 62, f 63, f 64, f 65, f 66, f 67, f 68, f 69, f 70, f 71, f 72, f 73, f 74, f 75, f 76, f 77, f 78, f 79, f 80, f 81, f 82, f 83, f 84, f 85, f 86, f 87, f 88, f 89, f 90, f 91, f 92, f 93, f 94, f 95, f 96, f 97, f 98, f 99, f 100, f 101, f 102, f 103, f 104, f 105, f 106, f 107, f 108, f 109, f 110, f 111, f 112, f 113, f 114, f 115, f 116, f 117, f 118, f 119, f 120, f 121, f 122, f 123, f 124, f 125, f 126, f 127, f 128, f 129, f 130, f 131, f 132, f 133, f 134, f 135, f 136, f 137, f 138, f 139, f 140, f 141, f 142, f 143, f 144, f 145, f 146, f 147, f 148, f 149, f 150, f 151, f 152, f 153, f 154, f 155, f 156, f 157, f 158, f 159, f 160, f 161, f 162, f 163, f 164, f 165, f 166, f 167, f 168, f 169, f 170, f 171, f 172, f 173, f 174, f 175, f 176, f 177, f 178, f 179, f 180, f 181, f 182, f 183, f 184, f 185, f 186, f 187, f 188, f 189, f 190, f 191, f 192, f 193, f 194, f 195, f 196, f 197, f 198, f 199, f 200, f 201, f 202, f 203, f 204, f 205, f 206, f 207] := by
  rw [← t5, ← t0, ← t3, ← t4, ← t6, ← t7, ← t8, ← t12, ← lit208 f, hf]
  exact tmps_lit tm 208 hs

theorem kp34T (A0 : Option Addr) (acts : List Ac) (c0 q3 q4 i : Nat) (q7 : Nat) (x : Ac) (Aw An : Option Addr) (cw cn s0 s1 : Nat) (B g : Nat) (v : Nat → Value) (m : Nat → List UInt8) (n : Nat) (w0 : World) (hW : KpS B g q3 q4 v m s1 n w0) (hZ : Zer m s1) (hs0 : s0 ≤ 32768) (hbx : Blk w0 q7 26 #[.int .u8 x.d, .int .i64 x.at_, .int .i64 x.n, .slice x.A x.b.length x.c]) (hl2 : x.b.length ≤ 2100)
    (hL : (x.d = 1 ∧ ((x.b.length = 0 ∧ s1 = s0) ∨ (0 < x.b.length ∧ ∃ fr : Nat, x.at_ = fr ∧ fr ≤ 32768 ∧ s1 = max s0 (fr + x.b.length)))) ∨ (1 < x.d ∧ x.at_ = s1)) (tm : Array Value) (hs : tm.size = 208) (t0 : tm.getD 0 undef = .slice A0 acts.length c0) (t3 : tm.getD 3 undef = .pointer (some ⟨q3, 0, none⟩)) (t4 : tm.getD 4 undef = .pointer (some ⟨q4, 0, none⟩)) (t5 : tm.getD 5 undef = .func (.func 12) #[] #[.pointer (some ⟨q4, 0, none⟩), .pointer (some ⟨q3, 0, none⟩)]) (t6 : tm.getD 6 undef = .int .i64 i) (t7 : tm.getD 7 undef = .pointer (some ⟨q7, 0, none⟩)) (t8 : tm.getD 8 undef = .slice Aw s0 cw) (t12 : tm.getD 12 undef = .slice An s1 cn) (Q : Exit → Act → World → Prop)
    (hfin : ∀ (tm : Array Value) (w' : World), tm.size = 208 → tm.getD 0 undef = .slice A0 acts.length c0 → tm.getD 3 undef = .pointer (some ⟨q3, 0, none⟩) → tm.getD 4 undef = .pointer (some ⟨q4, 0, none⟩) → tm.getD 5 undef = .func (.func 12) #[] #[.pointer (some ⟨q4, 0, none⟩), .pointer (some ⟨q3, 0, none⟩)] → tm.getD 6 undef = .int .i64 i → Only (fun _ => False) w0 w' → Q .normal ⟨tm, []⟩ w') : Code.wp Try.prog tail34 Q ⟨tm, []⟩ w0 := by
  obtain ⟨f, hf⟩ : ∃ f : Nat → Value, f = fun i => tm.getD i undef := ⟨_, rfl⟩
  rw [frame34 A0 acts c0 q3 q4 i q7 Aw An cw cn s0 s1 tm hs f hf (by rw [hf]; exact t0) (by rw [hf]; exact t3) (by rw [hf]; exact t4) (by rw [hf]; exact t5) (by rw [hf]; exact t6) (by rw [hf]; exact t7) (by rw [hf]; exact t8) (by rw [hf]; exact t12)]
  rcases hL with ⟨hd, ⟨hl, he⟩ | ⟨hl, fr, hat, hfr, he⟩⟩ | ⟨hd, hat⟩
  · exact kp34_0 A0 acts c0 q3 q4 i q7 x Aw An cw cn s0 s1 B g v m n w0 hW hZ hs0 hbx hd hl he f Q hfin
  · exact kp34_1 A0 acts c0 q3 q4 i q7 x Aw An cw cn s0 s1 B g v m n w0 hW hZ hs0 hbx hd hl hl2 fr hat hfr he f Q hfin
  · exact kp34_2 A0 acts c0 q3 q4 i q7 x Aw An cw cn s0 s1 B g v m n w0 hW hZ hs0 hbx hd hat f Q hfin
/-- The world behind some acts. -/
structure KpW (w : World) (g q3 q4 i : Nat) (w' : World) : Prop where
  kp : ∃ v m size, KpS w.heap.size g q3 q4 v m size (i * 2300) w' ∧ Zer m size
  tn : Turn w.heap.size w w'
/-- What holds ahead of round i: the slots that stay, and the world. -/
structure KpI (A0 : Option Addr) (acts : List Ac) (c0 q3 q4 : Nat) (g : Nat) (w : World) (i : Nat) (a : Act) (w' : World) : Prop where
  size : a.tmps.size = 208
  defs : a.defers = []
  t0 : a.tmps.getD 0 undef = .slice A0 acts.length c0
  t3 : a.tmps.getD 3 undef = .pointer (some ⟨q3, 0, none⟩)
  t4 : a.tmps.getD 4 undef = .pointer (some ⟨q4, 0, none⟩)
  t5 : a.tmps.getD 5 undef = .func (.func 12) #[] #[.pointer (some ⟨q4, 0, none⟩), .pointer (some ⟨q3, 0, none⟩)]
  t6 : a.tmps.getD 6 undef = .int .i64 i
  le : i ≤ acts.length
  wd : KpW w g q3 q4 i w'
theorem KpS.more {B g q3 q4 : Nat} {v : Nat → Value} {m : Nat → List UInt8} {size n n' : Nat} {w : World} (h : KpS B g q3 q4 v m size n w) (hn : n ≤ n') : KpS B g q3 q4 v m size n' w := by
  obtain ⟨va, ask, hs, hl⟩ := h.sh
  exact ⟨⟨va, ask, hs, by omega⟩, h.x4, h.x5, h.b3, h.sz⟩
theorem RowAc.turn {w w' : World} {A : Option Addr} {l : List Ac} {c : Nat} (h : RowAc w A l c) (ho : Turn w.heap.size w w') : RowAc w' A l c := h.only ho fun k hk x => by have := x.1; omega
theorem Reads.lt {w : World} {B n : Nat} {A : Option Addr} {xs : List Value} (h : Reads w B A n xs) (hn : 0 < n) {a : Addr} (e : A = some a) : a.block < B := by
  obtain ⟨b, o, e2, hb, _⟩ := h.2 hn
  rw [e] at e2
  cases e2
  exact hb
theorem Cg.ok.lower {N M : Nat} {w : World} {c : Cg} (h : c.ok N w) (hM : M ≤ N) : c.ok M w := by
  unfold Cg.ok at h ⊢
  split at h
  · exact h
  · exact ⟨h.1, Nat.le_trans hM h.2.1, h.2.2⟩
set_option maxRecDepth 100000 in
theorem frameKC (A0 : Option Addr) (acts : List Ac) (c0 q3 q4 i : Nat) (tm : Array Value) (hs : tm.size = 208) (f : Nat → Value) (hf : f = fun i => tm.getD i undef) (t0 : f 0 = .slice A0 acts.length c0) (t3 : f 3 = .pointer (some ⟨q3, 0, none⟩)) (t4 : f 4 = .pointer (some ⟨q4, 0, none⟩)) (t5 : f 5 = .func (.func 12) #[] #[.pointer (some ⟨q4, 0, none⟩), .pointer (some ⟨q3, 0, none⟩)]) (t6 : f 6 = .int .i64 i) : tm = #[.slice A0 acts.length c0, f 1, f 2, .pointer (some ⟨q3, 0, none⟩), .pointer (some ⟨q4, 0, none⟩), .func (.func 12) #[] #[.pointer (some ⟨q4, 0, none⟩), .pointer (some ⟨q3, 0, none⟩)], .int .i64 i, f 7, f 8, f 9, f 10, f 11, f 12, f 13, f 14, f 15, f 16, f 17, f 18, f 19, f 20, f 21, f 22, f 23, f 24, f 25, f 26, f 27, f 28, f 29, f 30, f 31, f 32, f 33, f 34, f 35, f 36, f 37, f 38, f 39, f 40, f 41, f 42, f 43, f 44, f 45, f 46, f 47, f 48, f 49, f 50, f 51, f 52, f 53, f 54, f 55, f 56, f 57, f 58, f 59, f 60, f 61, f 62, f 63, f 64, f 65, f 66, f 67, f 68, f 69, f 70, f 71, f 72, f 73, f 74, f 75, f 76, f 77, f 78, f 79, f 80, f 81, f 82, f 83, f 84, f 85, f 86, f 87, f 88, f 89, f 90, f 91, f 92, f 93, f 94, f 95, f 96, f 97, f 98, f 99, f 100, f 101, f 102, f 103, f 104, f 105, f 106, f 107, f 108, f 109, f 110, f 111, f 112, f 113, f 114, f 115, f 116, f 117, f 118, f 119, f 120, f 121, f 122, f 123, f 124, f 125, f 126, f 127, f 128, f 129, f 130, f 131, f 132, f 133, f 134, f 135, f 136, f 137, f 138, f 139, f 140, f 141, f 142, f 143, f 144, f 145, f 146, f 147, f 148, f 149, f 150, f 151, f 152, f 153, f 154, f 155, f 156, f 157, f 158, f 159, f 160, f 161, f 162, f 163, f 164, f 165, f 166, f 167, f 168, f 169, f 170, f 171, f 172, f 173, f 174, f 175, f 176, f 177, f 178, f 179, f 180, f 181, f 182, f 183, f 184, f 185, f 186, f 187, f 188, f 189, f 190, f 191, f 192, f 193, f 194, f 195, f 196, f 197, f 198, f 199, f 200, f 201, f 202, f 203, f 204, f 205, f 206, f 207] := by
  rw [← t5, ← t0, ← t3, ← t4, ← t6, ← lit208 f, hf]
  exact tmps_lit tm 208 hs
end Go.Proofs.Ytpkadhgoaaphkaa
