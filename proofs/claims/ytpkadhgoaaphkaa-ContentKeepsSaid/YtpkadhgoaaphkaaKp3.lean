/-
  The law ContentKeeps (func 5): its second loop, whole; its third loop.
-/
import Derived.Test.YtpkadhgoaaphkaaKp2
namespace Go.Proofs.Ytpkadhgoaaphkaa
open Go Go.RowKit Go.Shelf
set_option linter.unusedVariables false

set_option maxRecDepth 100000 in
theorem lit208 (g : Nat → Value) : ((List.range 208).map g).toArray = #[g 0, g 1, g 2, g 3, g 4, g 5, g 6, g 7, g 8, g 9, g 10, g 11, g 12, g 13, g 14, g 15, g 16, g 17, g 18, g 19, g 20, g 21, g 22, g 23, g 24, g 25, g 26, g 27, g 28, g 29, g 30, g 31, g 32, g 33, g 34, g 35, g 36, g 37, g 38, g 39, g 40, g 41, g 42, g 43, g 44, g 45, g 46, g 47, g 48, g 49, g 50, g 51, g 52, g 53, g 54, g 55, g 56, g 57, g 58, g 59, g 60, g 61, g 62, g 63, g 64, g 65, g 66, g 67, g 68, g 69, g 70, g 71, g 72, g 73, g 74, g 75, g 76, g 77, g 78, g 79, g 80, g 81, g 82, g 83, g 84, g 85, g 86, g 87, g 88, g 89, g 90, g 91, g 92, g 93, g 94, g 95, g 96, g 97, g 98, g 99, g 100, g 101, g 102, g 103, g 104, g 105, g 106, g 107, g 108, g 109, g 110, g 111, g 112, g 113, g 114, g 115, g 116, g 117, g 118, g 119, g 120, g 121, g 122, g 123, g 124, g 125, g 126, g 127, g 128, g 129, g 130, g 131, g 132, g 133, g 134, g 135, g 136, g 137, g 138, g 139, g 140, g 141, g 142, g 143, g 144, g 145, g 146, g 147, g 148, g 149, g 150, g 151, g 152, g 153, g 154, g 155, g 156, g 157, g 158, g 159, g 160, g 161, g 162, g 163, g 164, g 165, g 166, g 167, g 168, g 169, g 170, g 171, g 172, g 173, g 174, g 175, g 176, g 177, g 178, g 179, g 180, g 181, g 182, g 183, g 184, g 185, g 186, g 187, g 188, g 189, g 190, g 191, g 192, g 193, g 194, g 195, g 196, g 197, g 198, g 199, g 200, g 201, g 202, g 203, g 204, g 205, g 206, g 207] := by kernel_rfl
set_option maxRecDepth 100000 in
theorem frameK2 (A0 : Option Addr) (acts : List Ac) (c0 q3 q4 i : Nat) (q7 : Nat) (Aw An : Option Addr) (cw cn s0 s1 : Nat) (k : Nat) (tm : Array Value) (hs : tm.size = 208) (f : Nat → Value) (hf : f = fun i => tm.getD i undef) (t0 : f 0 = .slice A0 acts.length c0) (t3 : f 3 = .pointer (some ⟨q3, 0, none⟩)) (t4 : f 4 = .pointer (some ⟨q4, 0, none⟩)) (t5 : f 5 = .func (.func 12) #[] #[.pointer (some ⟨q4, 0, none⟩), .pointer (some ⟨q3, 0, none⟩)]) (t6 : f 6 = .int .i64 i) (t7 : f 7 = .pointer (some ⟨q7, 0, none⟩)) (t8 : f 8 = .slice Aw s0 cw) (t12 : f 12 = .slice An s1 cn) (t13 : f 13 = .int .i64 k) : tm = #[.slice A0 acts.length c0, f 1, f 2, .pointer (some ⟨q3, 0, none⟩), .pointer (some ⟨q4, 0, none⟩), .func (.func 12) #[] #[.pointer (some ⟨q4, 0, none⟩), .pointer (some ⟨q3, 0, none⟩)], .int .i64 i, .pointer (some ⟨q7, 0, none⟩), .slice Aw s0 cw, f 9, f 10, f 11, .slice An s1 cn, .int .i64 k, f 14, f 15, f 16, f 17, f 18, f 19, f 20, f 21, f 22, f 23, f 24, f 25, f 26, f 27, f 28, f 29, f 30, f 31, f 32, f 33, f 34, f 35, f 36, f 37, f 38, f 39, f 40, f 41, f 42, f 43, f 44, f 45, f 46, f 47, f 48, f 49, f 50, f 51, f 52, f 53, f 54, f 55, f 56, f 57, f 58, f 59, f 60, f 61, f 62, f 63, f 64, f 65, f 66, f 67, f 68, f 69, f 70, f 71, f 72, f 73, f 74, f 75, f 76, f 77, f 78, f 79, f 80, f 81, f 82, f 83, f 84, f 85, f 86, f 87, f 88, f 89, f 90, f 91, f 92, f 93, f 94, f 95, f 96, f 97, f 98, f 99, f 100, f 101, f 102, f 103, f 104, f 105, f 106, f 107, f 108, f 109, f 110, f 111, f 112, f 113, f 114, f 115, f 116, f 117, f 118, f 119, f 120, f 121, f 122, f 123, f 124, f 125, f 126, f 127, f 128, f 129, f 130, f 131, f 132, f 133, f 134, f 135, f 136, f 137, f 138, f 139, f 140, f 141, f 142, f 143, f 144, f 145, f 146, f 147, f 148, f 149, f 150, f 151, f 152, f 153, f 154, f 155, f 156, f 157, f 158, f 159, f 160, f 161, f 162, f 163, f 164, f 165, f 166, f 167, f 168, f 169, f 170, f 171, f 172, f 173, f 174, f 175, f 176, f 177, f 178, f 179, f 180, f 181, f 182, f 183, f 184, f 185, f 186, f 187, f 188, f 189, f 190, f 191, f 192, f 193, f 194, f 195, f 196, f 197, f 198, f 199, f 200, f 201, f 202, f 203, f 204, f 205, f 206, f 207] := by
  rw [← t5, ← t0, ← t3, ← t4, ← t6, ← t7, ← t8, ← t12, ← t13, ← lit208 f, hf]
  exact tmps_lit tm 208 hs

set_option maxRecDepth 100000 in
set_option maxHeartbeats 4000000 in
theorem cm_round (A0 : Option Addr) (acts : List Ac) (c0 q3 q4 i : Nat) (q7 : Nat) (x : Ac) (Aw An : Option Addr) (cw cn s0 s1 : Nat) (m0 m1 : Nat → List UInt8) (w0 : World) (hs0 : s0 ≤ 32768) (hs1 : s1 ≤ 32768) (hat : x.d = 1 → ∃ fr : Nat, x.at_ = fr) (hW0 : CmW q7 x Aw An cw cn s0 s1 m0 m1 w0) (a : Act) (wr : World) (k : Nat) (hI : CmI A0 acts c0 q3 q4 i q7 x Aw An cw cn s0 s1 m0 m1 w0 k a wr)
    (K : Act → World → Prop) (Q : Exit → Act → World → Prop) (hK : ∀ a w', CmI A0 acts c0 q3 q4 i q7 x Aw An cw cn s0 s1 m0 m1 w0 (k + 1) a w' → K a w')
    (hexit : ∀ (tm : Array Value) (w' : World), tm.size = 208 → tm.getD 0 undef = .slice A0 acts.length c0 → tm.getD 3 undef = .pointer (some ⟨q3, 0, none⟩) → tm.getD 4 undef = .pointer (some ⟨q4, 0, none⟩) → tm.getD 5 undef = .func (.func 12) #[] #[.pointer (some ⟨q4, 0, none⟩), .pointer (some ⟨q3, 0, none⟩)] → tm.getD 6 undef = .int .i64 i → tm.getD 7 undef = .pointer (some ⟨q7, 0, none⟩) → tm.getD 8 undef = .slice Aw s0 cw → tm.getD 12 undef = .slice An s1 cn → Only (fun _ => False) w0 w' → Q (.exit 2) ⟨tm, []⟩ w') : Code.wp Try.prog body25 (Exit.then K Q) a wr := by
  obtain ⟨tm, df⟩ := a
  obtain ⟨hsz, hdf, t0, t3, t4, t5, t6, t7, t8, t12, t13, hle, ho⟩ := hI
  simp only at hsz hdf t0 t3 t4 t5 t6 t7 t8 t12 t13
  subst hdf
  obtain ⟨f, hf⟩ : ∃ f : Nat → Value, f = fun i => tm.getD i undef := ⟨_, rfl⟩
  have hfr := frameK2 A0 acts c0 q3 q4 i q7 Aw An cw cn s0 s1 k tm hsz f hf (by rw [hf]; exact t0) (by rw [hf]; exact t3) (by rw [hf]; exact t4) (by rw [hf]; exact t5) (by rw [hf]; exact t6) (by rw [hf]; exact t7) (by rw [hf]; exact t8) (by rw [hf]; exact t12) (by rw [hf]; exact t13)
  rw [hfr]
  clear hfr hf t0 t3 t4 t5 t6 t7 t8 t12 t13 hsz
  have hW := hW0.only ho
  by_cases hk : k < s1
  · clear hexit
    by_cases hd : x.d = 1
    · obtain ⟨fr, hfr⟩ := hat hd
      by_cases hq : k < fr
      · by_cases hw : k < s0
        · exact cm_11 A0 acts c0 q3 q4 i q7 x Aw An cw cn s0 s1 m0 m1 w0 wr k hk hs0 hs1 f hW ho hd fr hfr hq hw K Q hK
        · exact cm_10 A0 acts c0 q3 q4 i q7 x Aw An cw cn s0 s1 m0 m1 w0 wr k hk hs0 hs1 f hW ho hd fr hfr hq hw K Q hK
      · have hq' : fr ≤ k := by omega
        by_cases hq2 : k - fr < x.b.length
        · by_cases hw : k < s0
          · exact cm_31 A0 acts c0 q3 q4 i q7 x Aw An cw cn s0 s1 m0 m1 w0 wr k hk hs0 hs1 f hW ho hd fr hfr hq' hq2 hw K Q hK
          · exact cm_30 A0 acts c0 q3 q4 i q7 x Aw An cw cn s0 s1 m0 m1 w0 wr k hk hs0 hs1 f hW ho hd fr hfr hq' hq2 hw K Q hK
        · by_cases hw : k < s0
          · exact cm_21 A0 acts c0 q3 q4 i q7 x Aw An cw cn s0 s1 m0 m1 w0 wr k hk hs0 hs1 f hW ho hd fr hfr hq' hq2 hw K Q hK
          · exact cm_20 A0 acts c0 q3 q4 i q7 x Aw An cw cn s0 s1 m0 m1 w0 wr k hk hs0 hs1 f hW ho hd fr hfr hq' hq2 hw K Q hK
    · by_cases hw : k < s0
      · exact cm_01 A0 acts c0 q3 q4 i q7 x Aw An cw cn s0 s1 m0 m1 w0 wr k hk hs0 hs1 f hW ho hd hw K Q hK
      · exact cm_00 A0 acts c0 q3 q4 i q7 x Aw An cw cn s0 s1 m0 m1 w0 wr k hk hs0 hs1 f hW ho hd hw K Q hK
  · obtain rfl : k = s1 := by omega
    have i2 : ¬ (k : Int) < (k : Int) := by omega
    clear hK hW hW0 hk
    replace ho := Lib.hid ho
    conv => arg 2; whnf
    go_wp2
    exact hexit _ _ rfl rfl rfl rfl rfl rfl rfl rfl rfl ho.out
theorem cm_loop (A0 : Option Addr) (acts : List Ac) (c0 q3 q4 i : Nat) (q7 : Nat) (x : Ac) (Aw An : Option Addr) (cw cn s0 s1 : Nat) (m0 m1 : Nat → List UInt8) (w0 : World) (hs0 : s0 ≤ 32768) (hs1 : s1 ≤ 32768) (hat : x.d = 1 → ∃ fr : Nat, x.at_ = fr) (hW0 : CmW q7 x Aw An cw cn s0 s1 m0 m1 w0) (a : Act) (wr : World) (hI : CmI A0 acts c0 q3 q4 i q7 x Aw An cw cn s0 s1 m0 m1 w0 0 a wr) (Q : Exit → Act → World → Prop)
    (hexit : ∀ (tm : Array Value) (w' : World), tm.size = 208 → tm.getD 0 undef = .slice A0 acts.length c0 → tm.getD 3 undef = .pointer (some ⟨q3, 0, none⟩) → tm.getD 4 undef = .pointer (some ⟨q4, 0, none⟩) → tm.getD 5 undef = .func (.func 12) #[] #[.pointer (some ⟨q4, 0, none⟩), .pointer (some ⟨q3, 0, none⟩)] → tm.getD 6 undef = .int .i64 i → tm.getD 7 undef = .pointer (some ⟨q7, 0, none⟩) → tm.getD 8 undef = .slice Aw s0 cw → tm.getD 12 undef = .slice An s1 cn → Only (fun _ => False) w0 w' → Q (.exit 2) ⟨tm, []⟩ w') : (Code.loop body25).wp Try.prog Q a wr := by
  refine wp_loop_k (fun a w' => ∃ k, CmI A0 acts c0 q3 q4 i q7 x Aw An cw cn s0 s1 m0 m1 w0 k a w') (fun a _ => s1 - (intOf (a.tmps.getD 13 undef)).toNat) ⟨0, hI⟩ ?_
  rintro a wr ⟨k, hk⟩ K hK
  refine cm_round A0 acts c0 q3 q4 i q7 x Aw An cw cn s0 s1 m0 m1 w0 hs0 hs1 hat hW0 a wr k hk K Q (fun a' w' h => hK a' w' ⟨⟨k + 1, h⟩, ?_⟩) hexit
  rw [h.t13, hk.t13]
  have := h.le
  simp [intOf]; omega
/-- What holds ahead of round k of the look behind the size. -/
structure ZrI (A0 : Option Addr) (acts : List Ac) (c0 q3 q4 i : Nat) (w0 : World) (k : Nat) (a : Act) (w' : World) : Prop where
  size : a.tmps.size = 208
  defs : a.defers = []
  t0 : a.tmps.getD 0 undef = .slice A0 acts.length c0
  t3 : a.tmps.getD 3 undef = .pointer (some ⟨q3, 0, none⟩)
  t4 : a.tmps.getD 4 undef = .pointer (some ⟨q4, 0, none⟩)
  t5 : a.tmps.getD 5 undef = .func (.func 12) #[] #[.pointer (some ⟨q4, 0, none⟩), .pointer (some ⟨q3, 0, none⟩)]
  t6 : a.tmps.getD 6 undef = .int .i64 i
  t15 : a.tmps.getD 15 undef = .int .i64 k
  le : k ≤ 32768
  ho : Only (fun _ => False) w0 w'

set_option maxRecDepth 100000 in
set_option maxHeartbeats 4000000 in
theorem zr_0 (A0 : Option Addr) (acts : List Ac) (c0 q3 q4 i : Nat) (B g : Nat) (v : Nat → Value) (m : Nat → List UInt8) (size n : Nat) (w0 wr : World) (k : Nat) (hk : k < 32768) (hsk : size ≤ k) (f : Nat → Value) (hW : KpS B g q3 q4 v m size n wr) (hZ : Zer m size) (ho : Only (fun _ => False) w0 wr) (hl : (m (k / 512)).length = 0) (K : Act → World → Prop) (Q : Exit → Act → World → Prop) (hK : ∀ a w', ZrI A0 acts c0 q3 q4 i w0 (k + 1) a w' → K a w') :
    Code.wp Try.prog body37 (Exit.then K Q) ⟨#[.slice A0 acts.length c0, f 1, f 2, .pointer (some ⟨q3, 0, none⟩), .pointer (some ⟨q4, 0, none⟩), .func (.func 12) #[] #[.pointer (some ⟨q4, 0, none⟩), .pointer (some ⟨q3, 0, none⟩)], .int .i64 i, f 7, f 8, f 9, f 10, f 11, f 12, f 13, f 14, .int .i64 k, f 16, f 17, f 18, f 19, f 20, f 21, f 22, f 23, f 24, f 25, f 26, f 27, f 28, f 29, f 30, f 31, f 32, f 33, f 34, f 35, f 36, f 37, f 38, f 39, f 40, f 41, f 42, f 43, f 44, f 45, f 46, f 47, f 48, f 49, f 50, f 51, f 52, f 53, f 54, f 55, f 56, f 57, f 58, f 59, f 60, f 61, f 62, f 63, f 64, f 65, f 66, f 67, f 68, f 69, f 70, f 71, f 72, f 73, f 74, f 75, f 76, f 77, f 78, f 79, f 80, f 81, f 82, f 83, f 84, f 85, f 86, f 87, f 88, f 89, f 90, f 91, f 92, f 93, f 94, f 95, f 96, f 97, f 98, f 99, f 100, f 101, f 102, f 103, f 104, f 105, f 106, f 107, f 108, f 109, f 110, f 111, f 112, f 113, f 114, f 115, f 116, f 117, f 118, f 119, f 120, f 121, f 122, f 123, f 124, f 125, f 126, f 127, f 128, f 129, f 130, f 131, f 132, f 133, f 134, f 135, f 136, f 137, f 138, f 139, f 140, f 141, f 142, f 143, f 144, f 145, f 146, f 147, f 148, f 149, f 150, f 151, f 152, f 153, f 154, f 155, f 156, f 157, f 158, f 159, f 160, f 161, f 162, f 163, f 164, f 165, f 166, f 167, f 168, f 169, f 170, f 171, f 172, f 173, f 174, f 175, f 176, f 177, f 178, f 179, f 180, f 181, f 182, f 183, f 184, f 185, f 186, f 187, f 188, f 189, f 190, f 191, f 192, f 193, f 194, f 195, f 196, f 197, f 198, f 199, f 200, f 201, f 202, f 203, f 204, f 205, f 206, f 207], []⟩ wr := by
  obtain ⟨va, ask, hS, _⟩ := hW.sh
  have c3 := hW.b3.cell0
  obtain ⟨A, c, ev, hr, hc⟩ := hS.slice (k := k / 512) (by omega)
  have cg := hS.tb.cell (k / 512) (by omega)
  unfold shf at cg
  rw [if_pos (by omega), ev] at cg
  have hz := hZ k hsk hk
  have i0 : (0 : Int) ≤ (k : Int) := by omega
  have i1 : (k : Int) < 32768 := by omega
  have i2 : (0 : Int) ≤ (k : Int) / 512 := by omega
  have i3 : (k : Int) / 512 < 64 := by omega
  have i4 : ((k : Int) / 512).toNat = k / 512 := by omega
  rw [hl] at cg
  clear hr hc ev hz hS hW hZ hl
  replace ho := Lib.hid ho
  replace hk := Lib.hid hk
  conv => arg 2; whnf
  go_wp2
  exact ⟨rfl, rfl, rfl, rfl, rfl, rfl, rfl, by show Value.int IntKind.i64 _ = _; go_num, hk.out, ho.out⟩

set_option maxRecDepth 100000 in
set_option maxHeartbeats 4000000 in
theorem zr_1 (A0 : Option Addr) (acts : List Ac) (c0 q3 q4 i : Nat) (B g : Nat) (v : Nat → Value) (m : Nat → List UInt8) (size n : Nat) (w0 wr : World) (k : Nat) (hk : k < 32768) (hsk : size ≤ k) (f : Nat → Value) (hW : KpS B g q3 q4 v m size n wr) (hZ : Zer m size) (ho : Only (fun _ => False) w0 wr) (hl : (m (k / 512)).length = 512) (K : Act → World → Prop) (Q : Exit → Act → World → Prop) (hK : ∀ a w', ZrI A0 acts c0 q3 q4 i w0 (k + 1) a w' → K a w') :
    Code.wp Try.prog body37 (Exit.then K Q) ⟨#[.slice A0 acts.length c0, f 1, f 2, .pointer (some ⟨q3, 0, none⟩), .pointer (some ⟨q4, 0, none⟩), .func (.func 12) #[] #[.pointer (some ⟨q4, 0, none⟩), .pointer (some ⟨q3, 0, none⟩)], .int .i64 i, f 7, f 8, f 9, f 10, f 11, f 12, f 13, f 14, .int .i64 k, f 16, f 17, f 18, f 19, f 20, f 21, f 22, f 23, f 24, f 25, f 26, f 27, f 28, f 29, f 30, f 31, f 32, f 33, f 34, f 35, f 36, f 37, f 38, f 39, f 40, f 41, f 42, f 43, f 44, f 45, f 46, f 47, f 48, f 49, f 50, f 51, f 52, f 53, f 54, f 55, f 56, f 57, f 58, f 59, f 60, f 61, f 62, f 63, f 64, f 65, f 66, f 67, f 68, f 69, f 70, f 71, f 72, f 73, f 74, f 75, f 76, f 77, f 78, f 79, f 80, f 81, f 82, f 83, f 84, f 85, f 86, f 87, f 88, f 89, f 90, f 91, f 92, f 93, f 94, f 95, f 96, f 97, f 98, f 99, f 100, f 101, f 102, f 103, f 104, f 105, f 106, f 107, f 108, f 109, f 110, f 111, f 112, f 113, f 114, f 115, f 116, f 117, f 118, f 119, f 120, f 121, f 122, f 123, f 124, f 125, f 126, f 127, f 128, f 129, f 130, f 131, f 132, f 133, f 134, f 135, f 136, f 137, f 138, f 139, f 140, f 141, f 142, f 143, f 144, f 145, f 146, f 147, f 148, f 149, f 150, f 151, f 152, f 153, f 154, f 155, f 156, f 157, f 158, f 159, f 160, f 161, f 162, f 163, f 164, f 165, f 166, f 167, f 168, f 169, f 170, f 171, f 172, f 173, f 174, f 175, f 176, f 177, f 178, f 179, f 180, f 181, f 182, f 183, f 184, f 185, f 186, f 187, f 188, f 189, f 190, f 191, f 192, f 193, f 194, f 195, f 196, f 197, f 198, f 199, f 200, f 201, f 202, f 203, f 204, f 205, f 206, f 207], []⟩ wr := by
  obtain ⟨va, ask, hS, _⟩ := hW.sh
  have c3 := hW.b3.cell0
  obtain ⟨A, c, ev, hr, hc⟩ := hS.slice (k := k / 512) (by omega)
  have cg := hS.tb.cell (k / 512) (by omega)
  unfold shf at cg
  rw [if_pos (by omega), ev] at cg
  have hz := hZ k hsk hk
  have i0 : (0 : Int) ≤ (k : Int) := by omega
  have i1 : (k : Int) < 32768 := by omega
  have i2 : (0 : Int) ≤ (k : Int) / 512 := by omega
  have i3 : (k : Int) / 512 < 64 := by omega
  have i4 : ((k : Int) / 512).toNat = k / 512 := by omega
  unfold byteAt at hz
  rw [leafB_of (by omega)] at hz
  rw [hl] at ev hr hc cg
  have h5 : k % 512 < 512 := by omega
  obtain ⟨b, o, rfl, cb⟩ := reads_at (k := k % 512) hr (by omega) hl
  rw [hz] at cb
  simp only [show ((0 : UInt8).toNat : Int) = 0 from rfl] at cb
  have j2 : (0 : Int) ≤ (k : Int) % 512 := by omega
  have j3 : (k : Int) % 512 < 512 := by omega
  have j4 : ((k : Int) % 512).toNat = k % 512 := by omega
  clear h5
  clear hr hc ev hz hS hW hZ hl
  replace ho := Lib.hid ho
  replace hk := Lib.hid hk
  conv => arg 2; whnf
  go_wp2
  exact ⟨rfl, rfl, rfl, rfl, rfl, rfl, rfl, by show Value.int IntKind.i64 _ = _; go_num, hk.out, ho.out⟩
set_option maxRecDepth 100000 in
theorem frameK3 (A0 : Option Addr) (acts : List Ac) (c0 q3 q4 i : Nat) (k : Nat) (tm : Array Value) (hs : tm.size = 208) (f : Nat → Value) (hf : f = fun i => tm.getD i undef) (t0 : f 0 = .slice A0 acts.length c0) (t3 : f 3 = .pointer (some ⟨q3, 0, none⟩)) (t4 : f 4 = .pointer (some ⟨q4, 0, none⟩)) (t5 : f 5 = .func (.func 12) #[] #[.pointer (some ⟨q4, 0, none⟩), .pointer (some ⟨q3, 0, none⟩)]) (t6 : f 6 = .int .i64 i) (t15 : f 15 = .int .i64 k) : tm = #[.slice A0 acts.length c0, f 1, f 2, .pointer (some ⟨q3, 0, none⟩), .pointer (some ⟨q4, 0, none⟩), .func (.func 12) #[] #[.pointer (some ⟨q4, 0, none⟩), .pointer (some ⟨q3, 0, none⟩)], .int .i64 i, f 7, f 8, f 9, f 10, f 11, f 12, f 13, f 14, .int .i64 k, f 16, f 17, f 18, f 19, f 20, f 21, f 22, f 23, f 24, f 25, f 26, f 27, f 28, f 29, f 30, f 31, f 32, f 33, f 34, f 35, f 36, f 37, f 38, f 39, f 40, f 41, f 42, f 43, f 44, f 45, f 46, f 47, f 48, f 49, f 50, f 51, f 52, f 53, f 54, f 55, f 56, f 57, f 58, f 59, f 60, f 61, f 62, f 63, f 64, f 65, f 66, f 67, f 68, f 69, f 70, f 71, f 72, f 73, f 74, f 75, f 76, f 77, f 78, f 79, f 80, f 81, f 82, f 83, f 84, f 85, f 86, f 87, f 88, f 89, f 90, f 91, f 92, f 93, f 94, f 95, f 96, f 97, f 98, f 99, f 100, f 101, f 102, f 103, f 104, f 105, f 106, f 107, f 108, f 109, f 110, f 111, f 112, f 113, f 114, f 115, f 116, f 117, f 118, f 119, f 120, f 121, f 122, f 123, f 124, f 125, f 126, f 127, f 128, f 129, f 130, f 131, f 132, f 133, f 134, f 135, f 136, f 137, f 138, f 139, f 140, f 141, f 142, f 143, f 144, f 145, f 146, f 147, f 148, f 149, f 150, f 151, f 152, f 153, f 154, f 155, f 156, f 157, f 158, f 159, f 160, f 161, f 162, f 163, f 164, f 165, f 166, f 167, f 168, f 169, f 170, f 171, f 172, f 173, f 174, f 175, f 176, f 177, f 178, f 179, f 180, f 181, f 182, f 183, f 184, f 185, f 186, f 187, f 188, f 189, f 190, f 191, f 192, f 193, f 194, f 195, f 196, f 197, f 198, f 199, f 200, f 201, f 202, f 203, f 204, f 205, f 206, f 207] := by
  rw [← t5, ← t0, ← t3, ← t4, ← t6, ← t15, ← lit208 f, hf]
  exact tmps_lit tm 208 hs

set_option maxRecDepth 100000 in
set_option maxHeartbeats 4000000 in
theorem zr_round (A0 : Option Addr) (acts : List Ac) (c0 q3 q4 i : Nat) (B g : Nat) (v : Nat → Value) (m : Nat → List UInt8) (size n : Nat) (w0 : World) (hW0 : KpS B g q3 q4 v m size n w0) (hZ : Zer m size) (a : Act) (wr : World) (k : Nat) (hsk : size ≤ k) (hI : ZrI A0 acts c0 q3 q4 i w0 k a wr)
    (K : Act → World → Prop) (Q : Exit → Act → World → Prop) (hK : ∀ a w', ZrI A0 acts c0 q3 q4 i w0 (k + 1) a w' → K a w')
    (hexit : ∀ (tm : Array Value) (w' : World), tm.size = 208 → tm.getD 0 undef = .slice A0 acts.length c0 → tm.getD 3 undef = .pointer (some ⟨q3, 0, none⟩) → tm.getD 4 undef = .pointer (some ⟨q4, 0, none⟩) → tm.getD 5 undef = .func (.func 12) #[] #[.pointer (some ⟨q4, 0, none⟩), .pointer (some ⟨q3, 0, none⟩)] → tm.getD 6 undef = .int .i64 i → Only (fun _ => False) w0 w' → Q (.exit 4) ⟨tm, []⟩ w') : Code.wp Try.prog body37 (Exit.then K Q) a wr := by
  obtain ⟨tm, df⟩ := a
  obtain ⟨hsz, hdf, t0, t3, t4, t5, t6, t15, hle, ho⟩ := hI
  simp only at hsz hdf t0 t3 t4 t5 t6 t15
  subst hdf
  obtain ⟨f, hf⟩ : ∃ f : Nat → Value, f = fun i => tm.getD i undef := ⟨_, rfl⟩
  have hfr := frameK3 A0 acts c0 q3 q4 i k tm hsz f hf (by rw [hf]; exact t0) (by rw [hf]; exact t3) (by rw [hf]; exact t4) (by rw [hf]; exact t5) (by rw [hf]; exact t6) (by rw [hf]; exact t15)
  rw [hfr]
  clear hfr hf t0 t3 t4 t5 t6 t15 hsz
  have hW := hW0.only ho
  by_cases hk : k < 32768
  · clear hexit
    obtain ⟨va, ask, hS, _⟩ := hW.sh
    rcases hS.sz (k / 512) (by omega) with hl | hl
    · exact zr_0 A0 acts c0 q3 q4 i B g v m size n w0 wr k hk hsk f hW hZ ho hl K Q hK
    · exact zr_1 A0 acts c0 q3 q4 i B g v m size n w0 wr k hk hsk f hW hZ ho hl K Q hK
  · obtain rfl : k = 32768 := by omega
    clear hK hW hW0 hk hsk hle
    replace ho := Lib.hid ho
    rw [show ((32768 : Nat) : Int) = 32768 from rfl]
    conv => arg 2; whnf
    go_wp2
    exact hexit _ _ rfl rfl rfl rfl rfl rfl ho.out
theorem zr_loop (A0 : Option Addr) (acts : List Ac) (c0 q3 q4 i : Nat) (B g : Nat) (v : Nat → Value) (m : Nat → List UInt8) (size n : Nat) (w0 : World) (hW0 : KpS B g q3 q4 v m size n w0) (hZ : Zer m size) (a : Act) (wr : World) (k0 : Nat) (hsk : size ≤ k0) (hI : ZrI A0 acts c0 q3 q4 i w0 k0 a wr) (Q : Exit → Act → World → Prop)
    (hexit : ∀ (tm : Array Value) (w' : World), tm.size = 208 → tm.getD 0 undef = .slice A0 acts.length c0 → tm.getD 3 undef = .pointer (some ⟨q3, 0, none⟩) → tm.getD 4 undef = .pointer (some ⟨q4, 0, none⟩) → tm.getD 5 undef = .func (.func 12) #[] #[.pointer (some ⟨q4, 0, none⟩), .pointer (some ⟨q3, 0, none⟩)] → tm.getD 6 undef = .int .i64 i → Only (fun _ => False) w0 w' → Q (.exit 4) ⟨tm, []⟩ w') : (Code.loop body37).wp Try.prog Q a wr := by
  refine wp_loop_k (fun a w' => ∃ k, size ≤ k ∧ ZrI A0 acts c0 q3 q4 i w0 k a w') (fun a _ => 32768 - (intOf (a.tmps.getD 15 undef)).toNat) ⟨k0, hsk, hI⟩ ?_
  rintro a wr ⟨k, hsk, hk⟩ K hK
  refine zr_round A0 acts c0 q3 q4 i B g v m size n w0 hW0 hZ a wr k hsk hk K Q (fun a' w' h => hK a' w' ⟨⟨k + 1, by omega, h⟩, ?_⟩) hexit
  rw [h.t15, hk.t15]
  have := h.le
  simp [intOf]; omega
end Go.Proofs.Ytpkadhgoaaphkaa
