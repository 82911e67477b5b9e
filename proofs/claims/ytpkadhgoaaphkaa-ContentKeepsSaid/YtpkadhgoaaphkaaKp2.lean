/-
  The law ContentKeeps (func 5): what holds; its second loop.
-/
import Derived.Test.YtpkadhgoaaphkaaKp1
namespace Go.Proofs.Ytpkadhgoaaphkaa
open Go Go.RowKit Go.Shelf
set_option linter.unusedVariables false

theorem wp_loop_k {P : Program} {Q : Exit → Act → World → Prop} {a : Act} {w : World} {c : Code} (I : Act → World → Prop) (μ : Act → World → Nat) (h0 : I a w)
    (round : ∀ a w, I a w → ∀ K : Act → World → Prop, (∀ a' w', I a' w' ∧ μ a' w' < μ a w → K a' w') → c.wp P (Exit.then K Q) a w) : (Code.loop c).wp P Q a w :=
  wp_loop I μ h0 fun a w h => round a w h _ fun _ _ h => h
theorem tmps_lit (t : Array Value) (n : Nat) (h : t.size = n) : t = ((List.range n).map fun i => t.getD i undef).toArray := by
  subst h
  apply Array.ext_getElem?
  intro i
  by_cases hi : i < t.size
  · simp [hi]
  · simp [hi]
def firstLoop : Code → Option Code
  | .loop c => some c
  | .seq a b => match firstLoop a with
    | some c => some c
    | none => firstLoop b
  | .block _ c => firstLoop c
  | .scope c => firstLoop c
  | .cond _ a b => match firstLoop a with
    | some c => some c
    | none => firstLoop b
  | _ => none
def sndC : Code → Code
  | .seq _ b => b
  | c => c
def fstC : Code → Code
  | .seq a _ => a
  | c => c
def blkC : Code → Code
  | .block _ c => c
  | c => c
noncomputable def code5 : Code := Try.f5.body.getD .skip
noncomputable def body7 : Code := (firstLoop code5).getD .skip
noncomputable def act9 : Code := blkC (fstC (sndC body7))
noncomputable def tail24 : Code := sndC (sndC (sndC (sndC (sndC (sndC (sndC (sndC (sndC (sndC (sndC act9))))))))))
noncomputable def body25 : Code := (firstLoop (fstC tail24)).getD .skip
noncomputable def tail34 : Code := sndC tail24
noncomputable def body37 : Code := (firstLoop tail34).getD .skip
theorem bc_at (l : List UInt8) {i : Nat} (h : i < l.length) : (Lib.byteCells l)[i]? = some (.int .u8 ((l.getD i 0).toNat : Int)) := by
  unfold Lib.byteCells
  rw [List.getElem?_map, List.getD_eq_getElem?_getD, List.getElem?_eq_getElem h]
  rfl
/-- What a byte is to be. -/
def want (x : Ac) (m0 : Nat → List UInt8) (s0 k : Nat) : UInt8 := if x.d = 1 ∧ x.at_ ≤ k ∧ (k : Int) < x.at_ + x.b.length then x.b.getD (k - x.at_.toNat) 0 else if k < s0 then byteAt m0 k else 0
/-- What the comparison looks at. -/
structure CmW (q7 : Nat) (x : Ac) (Aw An : Option Addr) (cw cn s0 s1 : Nat) (m0 m1 : Nat → List UInt8) (w : World) : Prop where
  bx : Blk w q7 26 #[.int .u8 x.d, .int .i64 x.at_, .int .i64 x.n, .slice x.A x.b.length x.c]
  rw0 : Reads w w.heap.size Aw s0 (Lib.byteCells (readB m0 0 s0))
  rn : Reads w w.heap.size An s1 (Lib.byteCells (readB m1 0 s1))
  rb : Reads w w.heap.size x.A x.b.length (Lib.byteCells x.b)
  law : ∀ k, k < s1 → byteAt m1 k = want x m0 s0 k
theorem CmW.only {q7 : Nat} {x : Ac} {Aw An : Option Addr} {cw cn s0 s1 : Nat} {m0 m1 : Nat → List UInt8} {w w' : World} (h : CmW q7 x Aw An cw cn s0 s1 m0 m1 w) (ho : Only (fun _ => False) w w') : CmW q7 x Aw An cw cn s0 s1 m0 m1 w' :=
  ⟨h.bx.only ho (fun x => x), (h.rw0.only (Nat.le_refl _) ho (fun _ _ x => x)).more ho.size, (h.rn.only (Nat.le_refl _) ho (fun _ _ x => x)).more ho.size, (h.rb.only (Nat.le_refl _) ho (fun _ _ x => x)).more ho.size, h.law⟩
theorem reads_at {w : World} {A : Option Addr} {n k : Nat} {l : List UInt8} (h : Reads w w.heap.size A n (Lib.byteCells l)) (hk : k < n) (hl : l.length = n) : ∃ b o, A = some ⟨b, o, none⟩ ∧ w.cell? ⟨b, o + k, none⟩ = some (.int .u8 ((l.getD k 0).toNat : Int)) := by
  obtain ⟨b, o, e, _, hc⟩ := h.2 (by omega)
  exact ⟨b, o, e, hc k _ (bc_at l (by omega))⟩
/-- What holds ahead of round k of the comparison. -/
structure CmI (A0 : Option Addr) (acts : List Ac) (c0 q3 q4 i : Nat) (q7 : Nat) (x : Ac) (Aw An : Option Addr) (cw cn s0 s1 : Nat) (m0 m1 : Nat → List UInt8) (w0 : World) (k : Nat) (a : Act) (w' : World) : Prop where
  size : a.tmps.size = 208
  defs : a.defers = []
  t0 : a.tmps.getD 0 undef = .slice A0 acts.length c0
  t3 : a.tmps.getD 3 undef = .pointer (some ⟨q3, 0, none⟩)
  t4 : a.tmps.getD 4 undef = .pointer (some ⟨q4, 0, none⟩)
  t5 : a.tmps.getD 5 undef = .func (.func 12) #[] #[.pointer (some ⟨q4, 0, none⟩), .pointer (some ⟨q3, 0, none⟩)]
  t6 : a.tmps.getD 6 undef = .int .i64 i
  t7 : a.tmps.getD 7 undef = .pointer (some ⟨q7, 0, none⟩)
  t8 : a.tmps.getD 8 undef = .slice Aw s0 cw
  t12 : a.tmps.getD 12 undef = .slice An s1 cn
  t13 : a.tmps.getD 13 undef = .int .i64 k
  le : k ≤ s1
  ho : Only (fun _ => False) w0 w'

set_option maxRecDepth 100000 in
set_option maxHeartbeats 4000000 in
theorem cm_00 (A0 : Option Addr) (acts : List Ac) (c0 q3 q4 i : Nat) (q7 : Nat) (x : Ac) (Aw An : Option Addr) (cw cn s0 s1 : Nat) (m0 m1 : Nat → List UInt8) (w0 wr : World) (k : Nat) (hk : k < s1) (hs0 : s0 ≤ 32768) (hs1 : s1 ≤ 32768) (f : Nat → Value)
    (hW : CmW q7 x Aw An cw cn s0 s1 m0 m1 wr) (ho : Only (fun _ => False) w0 wr) (hd : ¬ x.d = 1) (hw : ¬ k < s0) (K : Act → World → Prop) (Q : Exit → Act → World → Prop) (hK : ∀ a w', CmI A0 acts c0 q3 q4 i q7 x Aw An cw cn s0 s1 m0 m1 w0 (k + 1) a w' → K a w') :
    Code.wp Try.prog body25 (Exit.then K Q) ⟨#[.slice A0 acts.length c0, f 1, f 2, .pointer (some ⟨q3, 0, none⟩), .pointer (some ⟨q4, 0, none⟩), .func (.func 12) #[] #[.pointer (some ⟨q4, 0, none⟩), .pointer (some ⟨q3, 0, none⟩)], .int .i64 i, .pointer (some ⟨q7, 0, none⟩), .slice Aw s0 cw, f 9, f 10, f 11, .slice An s1 cn, .int .i64 k, f 14, f 15, f 16, f 17, f 18, f 19, f 20, f 21, f 22, f 23, f 24, f 25, f 26, f 27, f 28, f 29, f 30, f 31, f 32, f 33, f 34, f 35, f 36, f 37, f 38, f 39, f 40, f 41, f 42, f 43, f 44, f 45, f 46, f 47, f 48, f 49, f 50, f 51, f 52, f 53, f 54, f 55, f 56, f 57, f 58, f 59, f 60, f 61, f 62, f 63, f 64, f 65, f 66, f 67, f 68, f 69, f 70, f 71, f 72, f 73, f 74, f 75, f 76, f 77, f 78, f 79, f 80, f 81, f 82, f 83, f 84, f 85, f 86, f 87, f 88, f 89, f 90, f 91, f 92, f 93, f 94, f 95, f 96, f 97, f 98, f 99, f 100, f 101, f 102, f 103, f 104, f 105, f 106, f 107, f 108, f 109, f 110, f 111, f 112, f 113, f 114, f 115, f 116, f 117, f 118, f 119, f 120, f 121, f 122, f 123, f 124, f 125, f 126, f 127, f 128, f 129, f 130, f 131, f 132, f 133, f 134, f 135, f 136, f 137, f 138, f 139, f 140, f 141, f 142, f 143, f 144, f 145, f 146, f 147, f 148, f 149, f 150, f 151, f 152, f 153, f 154, f 155, f 156, f 157, f 158, f 159, f 160, f 161, f 162, f 163, f 164, f 165, f 166, f 167, f 168, f 169, f 170, f 171, f 172, f 173, f 174, f 175, f 176, f 177, f 178, f 179, f 180, f 181, f 182, f 183, f 184, f 185, f 186, f 187, f 188, f 189, f 190, f 191, f 192, f 193, f 194, f 195, f 196, f 197, f 198, f 199, f 200, f 201, f 202, f 203, f 204, f 205, f 206, f 207], []⟩ wr := by
  have hlaw := hW.law k hk
  obtain ⟨bn, on, rfl, cn1⟩ := reads_at hW.rn hk (readB_len _ _ _)
  rw [readB_get _ _ _ _ hk, Nat.zero_add, hlaw] at cn1
  have d0 := hW.bx.cell 0
  have d1 := hW.bx.cell 1
  have d3 := hW.bx.cell 3
  simp only [List.getElem?_toArray, List.getElem?_cons_zero, List.getElem?_cons_succ] at d0 d1 d3
  have i0 : (0 : Int) ≤ (k : Int) := by omega
  have i1 : (k : Int) < (s1 : Int) := by omega
  have i2 : (s1 : Int) ≤ 32768 := by omega
  unfold want at cn1
  rw [if_neg (fun h => hd h.1)] at cn1
  have e1 : ((x.d : Int) == 1) = false := beq_false_of_ne (by omega)
  have i3 : ¬ (k : Int) < (s0 : Int) := by omega
  rw [if_neg hw] at cn1
  simp only [show ((0 : UInt8).toNat : Int) = 0 from rfl] at cn1
  clear hlaw hW
  replace ho := Lib.hid ho
  replace hk := Lib.hid hk
  conv => arg 2; whnf
  go_wp2
  exact ⟨rfl, rfl, rfl, rfl, rfl, rfl, rfl, rfl, rfl, rfl, by show Value.int IntKind.i64 _ = _; go_num, hk.out, ho.out⟩

set_option maxRecDepth 100000 in
set_option maxHeartbeats 4000000 in
theorem cm_01 (A0 : Option Addr) (acts : List Ac) (c0 q3 q4 i : Nat) (q7 : Nat) (x : Ac) (Aw An : Option Addr) (cw cn s0 s1 : Nat) (m0 m1 : Nat → List UInt8) (w0 wr : World) (k : Nat) (hk : k < s1) (hs0 : s0 ≤ 32768) (hs1 : s1 ≤ 32768) (f : Nat → Value)
    (hW : CmW q7 x Aw An cw cn s0 s1 m0 m1 wr) (ho : Only (fun _ => False) w0 wr) (hd : ¬ x.d = 1) (hw : k < s0) (K : Act → World → Prop) (Q : Exit → Act → World → Prop) (hK : ∀ a w', CmI A0 acts c0 q3 q4 i q7 x Aw An cw cn s0 s1 m0 m1 w0 (k + 1) a w' → K a w') :
    Code.wp Try.prog body25 (Exit.then K Q) ⟨#[.slice A0 acts.length c0, f 1, f 2, .pointer (some ⟨q3, 0, none⟩), .pointer (some ⟨q4, 0, none⟩), .func (.func 12) #[] #[.pointer (some ⟨q4, 0, none⟩), .pointer (some ⟨q3, 0, none⟩)], .int .i64 i, .pointer (some ⟨q7, 0, none⟩), .slice Aw s0 cw, f 9, f 10, f 11, .slice An s1 cn, .int .i64 k, f 14, f 15, f 16, f 17, f 18, f 19, f 20, f 21, f 22, f 23, f 24, f 25, f 26, f 27, f 28, f 29, f 30, f 31, f 32, f 33, f 34, f 35, f 36, f 37, f 38, f 39, f 40, f 41, f 42, f 43, f 44, f 45, f 46, f 47, f 48, f 49, f 50, f 51, f 52, f 53, f 54, f 55, f 56, f 57, f 58, f 59, f 60, f 61, f 62, f 63, f 64, f 65, f 66, f 67, f 68, f 69, f 70, f 71, f 72, f 73, f 74, f 75, f 76, f 77, f 78, f 79, f 80, f 81, f 82, f 83, f 84, f 85, f 86, f 87, f 88, f 89, f 90, f 91, f 92, f 93, f 94, f 95, f 96, f 97, f 98, f 99, f 100, f 101, f 102, f 103, f 104, f 105, f 106, f 107, f 108, f 109, f 110, f 111, f 112, f 113, f 114, f 115, f 116, f 117, f 118, f 119, f 120, f 121, f 122, f 123, f 124, f 125, f 126, f 127, f 128, f 129, f 130, f 131, f 132, f 133, f 134, f 135, f 136, f 137, f 138, f 139, f 140, f 141, f 142, f 143, f 144, f 145, f 146, f 147, f 148, f 149, f 150, f 151, f 152, f 153, f 154, f 155, f 156, f 157, f 158, f 159, f 160, f 161, f 162, f 163, f 164, f 165, f 166, f 167, f 168, f 169, f 170, f 171, f 172, f 173, f 174, f 175, f 176, f 177, f 178, f 179, f 180, f 181, f 182, f 183, f 184, f 185, f 186, f 187, f 188, f 189, f 190, f 191, f 192, f 193, f 194, f 195, f 196, f 197, f 198, f 199, f 200, f 201, f 202, f 203, f 204, f 205, f 206, f 207], []⟩ wr := by
  have hlaw := hW.law k hk
  obtain ⟨bn, on, rfl, cn1⟩ := reads_at hW.rn hk (readB_len _ _ _)
  rw [readB_get _ _ _ _ hk, Nat.zero_add, hlaw] at cn1
  have d0 := hW.bx.cell 0
  have d1 := hW.bx.cell 1
  have d3 := hW.bx.cell 3
  simp only [List.getElem?_toArray, List.getElem?_cons_zero, List.getElem?_cons_succ] at d0 d1 d3
  have i0 : (0 : Int) ≤ (k : Int) := by omega
  have i1 : (k : Int) < (s1 : Int) := by omega
  have i2 : (s1 : Int) ≤ 32768 := by omega
  unfold want at cn1
  rw [if_neg (fun h => hd h.1)] at cn1
  have e1 : ((x.d : Int) == 1) = false := beq_false_of_ne (by omega)
  obtain ⟨bw, ow, rfl, cw1⟩ := reads_at hW.rw0 hw (readB_len _ _ _)
  rw [readB_get _ _ _ _ hw, Nat.zero_add] at cw1
  have i3 : (k : Int) < (s0 : Int) := by omega
  rw [if_pos hw] at cn1
  generalize (byteAt m0 k).toNat = y9 at *
  clear hlaw hW
  replace ho := Lib.hid ho
  replace hk := Lib.hid hk
  conv => arg 2; whnf
  go_wp2
  exact ⟨rfl, rfl, rfl, rfl, rfl, rfl, rfl, rfl, rfl, rfl, by show Value.int IntKind.i64 _ = _; go_num, hk.out, ho.out⟩

set_option maxRecDepth 100000 in
set_option maxHeartbeats 4000000 in
theorem cm_10 (A0 : Option Addr) (acts : List Ac) (c0 q3 q4 i : Nat) (q7 : Nat) (x : Ac) (Aw An : Option Addr) (cw cn s0 s1 : Nat) (m0 m1 : Nat → List UInt8) (w0 wr : World) (k : Nat) (hk : k < s1) (hs0 : s0 ≤ 32768) (hs1 : s1 ≤ 32768) (f : Nat → Value)
    (hW : CmW q7 x Aw An cw cn s0 s1 m0 m1 wr) (ho : Only (fun _ => False) w0 wr) (hd : x.d = 1) (fr : Nat) (hfr : x.at_ = fr) (hq : k < fr) (hw : ¬ k < s0) (K : Act → World → Prop) (Q : Exit → Act → World → Prop) (hK : ∀ a w', CmI A0 acts c0 q3 q4 i q7 x Aw An cw cn s0 s1 m0 m1 w0 (k + 1) a w' → K a w') :
    Code.wp Try.prog body25 (Exit.then K Q) ⟨#[.slice A0 acts.length c0, f 1, f 2, .pointer (some ⟨q3, 0, none⟩), .pointer (some ⟨q4, 0, none⟩), .func (.func 12) #[] #[.pointer (some ⟨q4, 0, none⟩), .pointer (some ⟨q3, 0, none⟩)], .int .i64 i, .pointer (some ⟨q7, 0, none⟩), .slice Aw s0 cw, f 9, f 10, f 11, .slice An s1 cn, .int .i64 k, f 14, f 15, f 16, f 17, f 18, f 19, f 20, f 21, f 22, f 23, f 24, f 25, f 26, f 27, f 28, f 29, f 30, f 31, f 32, f 33, f 34, f 35, f 36, f 37, f 38, f 39, f 40, f 41, f 42, f 43, f 44, f 45, f 46, f 47, f 48, f 49, f 50, f 51, f 52, f 53, f 54, f 55, f 56, f 57, f 58, f 59, f 60, f 61, f 62, f 63, f 64, f 65, f 66, f 67, f 68, f 69, f 70, f 71, f 72, f 73, f 74, f 75, f 76, f 77, f 78, f 79, f 80, f 81, f 82, f 83, f 84, f 85, f 86, f 87, f 88, f 89, f 90, f 91, f 92, f 93, f 94, f 95, f 96, f 97, f 98, f 99, f 100, f 101, f 102, f 103, f 104, f 105, f 106, f 107, f 108, f 109, f 110, f 111, f 112, f 113, f 114, f 115, f 116, f 117, f 118, f 119, f 120, f 121, f 122, f 123, f 124, f 125, f 126, f 127, f 128, f 129, f 130, f 131, f 132, f 133, f 134, f 135, f 136, f 137, f 138, f 139, f 140, f 141, f 142, f 143, f 144, f 145, f 146, f 147, f 148, f 149, f 150, f 151, f 152, f 153, f 154, f 155, f 156, f 157, f 158, f 159, f 160, f 161, f 162, f 163, f 164, f 165, f 166, f 167, f 168, f 169, f 170, f 171, f 172, f 173, f 174, f 175, f 176, f 177, f 178, f 179, f 180, f 181, f 182, f 183, f 184, f 185, f 186, f 187, f 188, f 189, f 190, f 191, f 192, f 193, f 194, f 195, f 196, f 197, f 198, f 199, f 200, f 201, f 202, f 203, f 204, f 205, f 206, f 207], []⟩ wr := by
  have hlaw := hW.law k hk
  obtain ⟨bn, on, rfl, cn1⟩ := reads_at hW.rn hk (readB_len _ _ _)
  rw [readB_get _ _ _ _ hk, Nat.zero_add, hlaw] at cn1
  have d0 := hW.bx.cell 0
  have d1 := hW.bx.cell 1
  have d3 := hW.bx.cell 3
  simp only [List.getElem?_toArray, List.getElem?_cons_zero, List.getElem?_cons_succ] at d0 d1 d3
  have i0 : (0 : Int) ≤ (k : Int) := by omega
  have i1 : (k : Int) < (s1 : Int) := by omega
  have i2 : (s1 : Int) ≤ 32768 := by omega
  unfold want at cn1
  rw [hd] at d0
  have c0 : ((1 : Nat) : Int) = 1 := rfl
  simp only [c0] at d0
  clear c0
  rw [hfr] at d1
  rw [if_neg (fun h => by rw [hfr] at h; omega)] at cn1
  have e1 : ¬ (fr : Int) ≤ (k : Int) := by omega
  have i3 : ¬ (k : Int) < (s0 : Int) := by omega
  rw [if_neg hw] at cn1
  simp only [show ((0 : UInt8).toNat : Int) = 0 from rfl] at cn1
  clear hlaw hW
  replace ho := Lib.hid ho
  replace hk := Lib.hid hk
  conv => arg 2; whnf
  go_wp2
  exact ⟨rfl, rfl, rfl, rfl, rfl, rfl, rfl, rfl, rfl, rfl, by show Value.int IntKind.i64 _ = _; go_num, hk.out, ho.out⟩

set_option maxRecDepth 100000 in
set_option maxHeartbeats 4000000 in
theorem cm_11 (A0 : Option Addr) (acts : List Ac) (c0 q3 q4 i : Nat) (q7 : Nat) (x : Ac) (Aw An : Option Addr) (cw cn s0 s1 : Nat) (m0 m1 : Nat → List UInt8) (w0 wr : World) (k : Nat) (hk : k < s1) (hs0 : s0 ≤ 32768) (hs1 : s1 ≤ 32768) (f : Nat → Value)
    (hW : CmW q7 x Aw An cw cn s0 s1 m0 m1 wr) (ho : Only (fun _ => False) w0 wr) (hd : x.d = 1) (fr : Nat) (hfr : x.at_ = fr) (hq : k < fr) (hw : k < s0) (K : Act → World → Prop) (Q : Exit → Act → World → Prop) (hK : ∀ a w', CmI A0 acts c0 q3 q4 i q7 x Aw An cw cn s0 s1 m0 m1 w0 (k + 1) a w' → K a w') :
    Code.wp Try.prog body25 (Exit.then K Q) ⟨#[.slice A0 acts.length c0, f 1, f 2, .pointer (some ⟨q3, 0, none⟩), .pointer (some ⟨q4, 0, none⟩), .func (.func 12) #[] #[.pointer (some ⟨q4, 0, none⟩), .pointer (some ⟨q3, 0, none⟩)], .int .i64 i, .pointer (some ⟨q7, 0, none⟩), .slice Aw s0 cw, f 9, f 10, f 11, .slice An s1 cn, .int .i64 k, f 14, f 15, f 16, f 17, f 18, f 19, f 20, f 21, f 22, f 23, f 24, f 25, f 26, f 27, f 28, f 29, f 30, f 31, f 32, f 33, f 34, f 35, f 36, f 37, f 38, f 39, f 40, f 41, f 42, f 43, f 44, f 45, f 46, f 47, f 48, f 49, f 50, f 51, f 52, f 53, f 54, f 55, f 56, f 57, f 58, f 59, f 60, f 61, f 62, f 63, f 64, f 65, f 66, f 67, f 68, f 69, f 70, f 71, f 72, f 73, f 74, f 75, f 76, f 77, f 78, f 79, f 80, f 81, f 82, f 83, f 84, f 85, f 86, f 87, f 88, f 89, f 90, f 91, f 92, f 93, f 94, f 95, f 96, f 97, f 98, f 99, f 100, f 101, f 102, f 103, f 104, f 105, f 106, f 107, f 108, f 109, f 110, f 111, f 112, f 113, f 114, f 115, f 116, f 117, f 118, f 119, f 120, f 121, f 122, f 123, f 124, f 125, f 126, f 127, f 128, f 129, f 130, f 131, f 132, f 133, f 134, f 135, f 136, f 137, f 138, f 139, f 140, f 141, f 142, f 143, f 144, f 145, f 146, f 147, f 148, f 149, f 150, f 151, f 152, f 153, f 154, f 155, f 156, f 157, f 158, f 159, f 160, f 161, f 162, f 163, f 164, f 165, f 166, f 167, f 168, f 169, f 170, f 171, f 172, f 173, f 174, f 175, f 176, f 177, f 178, f 179, f 180, f 181, f 182, f 183, f 184, f 185, f 186, f 187, f 188, f 189, f 190, f 191, f 192, f 193, f 194, f 195, f 196, f 197, f 198, f 199, f 200, f 201, f 202, f 203, f 204, f 205, f 206, f 207], []⟩ wr := by
  have hlaw := hW.law k hk
  obtain ⟨bn, on, rfl, cn1⟩ := reads_at hW.rn hk (readB_len _ _ _)
  rw [readB_get _ _ _ _ hk, Nat.zero_add, hlaw] at cn1
  have d0 := hW.bx.cell 0
  have d1 := hW.bx.cell 1
  have d3 := hW.bx.cell 3
  simp only [List.getElem?_toArray, List.getElem?_cons_zero, List.getElem?_cons_succ] at d0 d1 d3
  have i0 : (0 : Int) ≤ (k : Int) := by omega
  have i1 : (k : Int) < (s1 : Int) := by omega
  have i2 : (s1 : Int) ≤ 32768 := by omega
  unfold want at cn1
  rw [hd] at d0
  have c0 : ((1 : Nat) : Int) = 1 := rfl
  simp only [c0] at d0
  clear c0
  rw [hfr] at d1
  rw [if_neg (fun h => by rw [hfr] at h; omega)] at cn1
  have e1 : ¬ (fr : Int) ≤ (k : Int) := by omega
  obtain ⟨bw, ow, rfl, cw1⟩ := reads_at hW.rw0 hw (readB_len _ _ _)
  rw [readB_get _ _ _ _ hw, Nat.zero_add] at cw1
  have i3 : (k : Int) < (s0 : Int) := by omega
  rw [if_pos hw] at cn1
  generalize (byteAt m0 k).toNat = y9 at *
  clear hlaw hW
  replace ho := Lib.hid ho
  replace hk := Lib.hid hk
  conv => arg 2; whnf
  go_wp2
  exact ⟨rfl, rfl, rfl, rfl, rfl, rfl, rfl, rfl, rfl, rfl, by show Value.int IntKind.i64 _ = _; go_num, hk.out, ho.out⟩

set_option maxRecDepth 100000 in
set_option maxHeartbeats 4000000 in
theorem cm_20 (A0 : Option Addr) (acts : List Ac) (c0 q3 q4 i : Nat) (q7 : Nat) (x : Ac) (Aw An : Option Addr) (cw cn s0 s1 : Nat) (m0 m1 : Nat → List UInt8) (w0 wr : World) (k : Nat) (hk : k < s1) (hs0 : s0 ≤ 32768) (hs1 : s1 ≤ 32768) (f : Nat → Value)
    (hW : CmW q7 x Aw An cw cn s0 s1 m0 m1 wr) (ho : Only (fun _ => False) w0 wr) (hd : x.d = 1) (fr : Nat) (hfr : x.at_ = fr) (hq : fr ≤ k) (hq2 : ¬ k - fr < x.b.length) (hw : ¬ k < s0) (K : Act → World → Prop) (Q : Exit → Act → World → Prop) (hK : ∀ a w', CmI A0 acts c0 q3 q4 i q7 x Aw An cw cn s0 s1 m0 m1 w0 (k + 1) a w' → K a w') :
    Code.wp Try.prog body25 (Exit.then K Q) ⟨#[.slice A0 acts.length c0, f 1, f 2, .pointer (some ⟨q3, 0, none⟩), .pointer (some ⟨q4, 0, none⟩), .func (.func 12) #[] #[.pointer (some ⟨q4, 0, none⟩), .pointer (some ⟨q3, 0, none⟩)], .int .i64 i, .pointer (some ⟨q7, 0, none⟩), .slice Aw s0 cw, f 9, f 10, f 11, .slice An s1 cn, .int .i64 k, f 14, f 15, f 16, f 17, f 18, f 19, f 20, f 21, f 22, f 23, f 24, f 25, f 26, f 27, f 28, f 29, f 30, f 31, f 32, f 33, f 34, f 35, f 36, f 37, f 38, f 39, f 40, f 41, f 42, f 43, f 44, f 45, f 46, f 47, f 48, f 49, f 50, f 51, f 52, f 53, f 54, f 55, f 56, f 57, f 58, f 59, f 60, f 61, f 62, f 63, f 64, f 65, f 66, f 67, f 68, f 69, f 70, f 71, f 72, f 73, f 74, f 75, f 76, f 77, f 78, f 79, f 80, f 81, f 82, f 83, f 84, f 85, f 86, f 87, f 88, f 89, f 90, f 91, f 92, f 93, f 94, f 95, f 96, f 97, f 98, f 99, f 100, f 101, f 102, f 103, f 104, f 105, f 106, f 107, f 108, f 109, f 110, f 111, f 112, f 113, f 114, f 115, f 116, f 117, f 118, f 119, f 120, f 121, f 122, f 123, f 124, f 125, f 126, f 127, f 128, f 129, f 130, f 131, f 132, f 133, f 134, f 135, f 136, f 137, f 138, f 139, f 140, f 141, f 142, f 143, f 144, f 145, f 146, f 147, f 148, f 149, f 150, f 151, f 152, f 153, f 154, f 155, f 156, f 157, f 158, f 159, f 160, f 161, f 162, f 163, f 164, f 165, f 166, f 167, f 168, f 169, f 170, f 171, f 172, f 173, f 174, f 175, f 176, f 177, f 178, f 179, f 180, f 181, f 182, f 183, f 184, f 185, f 186, f 187, f 188, f 189, f 190, f 191, f 192, f 193, f 194, f 195, f 196, f 197, f 198, f 199, f 200, f 201, f 202, f 203, f 204, f 205, f 206, f 207], []⟩ wr := by
  have hlaw := hW.law k hk
  obtain ⟨bn, on, rfl, cn1⟩ := reads_at hW.rn hk (readB_len _ _ _)
  rw [readB_get _ _ _ _ hk, Nat.zero_add, hlaw] at cn1
  have d0 := hW.bx.cell 0
  have d1 := hW.bx.cell 1
  have d3 := hW.bx.cell 3
  simp only [List.getElem?_toArray, List.getElem?_cons_zero, List.getElem?_cons_succ] at d0 d1 d3
  have i0 : (0 : Int) ≤ (k : Int) := by omega
  have i1 : (k : Int) < (s1 : Int) := by omega
  have i2 : (s1 : Int) ≤ 32768 := by omega
  unfold want at cn1
  rw [hd] at d0
  have c0 : ((1 : Nat) : Int) = 1 := rfl
  simp only [c0] at d0
  clear c0
  rw [hfr] at d1
  rw [if_neg (fun h => by rw [hfr] at h; omega)] at cn1
  have e1 : (fr : Int) ≤ (k : Int) := by omega
  have e2 : ¬ (k : Int) - (fr : Int) < (x.b.length : Int) := by omega
  have i3 : ¬ (k : Int) < (s0 : Int) := by omega
  rw [if_neg hw] at cn1
  simp only [show ((0 : UInt8).toNat : Int) = 0 from rfl] at cn1
  clear hlaw hW
  replace ho := Lib.hid ho
  replace hk := Lib.hid hk
  conv => arg 2; whnf
  go_wp2
  exact ⟨rfl, rfl, rfl, rfl, rfl, rfl, rfl, rfl, rfl, rfl, by show Value.int IntKind.i64 _ = _; go_num, hk.out, ho.out⟩

set_option maxRecDepth 100000 in
set_option maxHeartbeats 4000000 in
theorem cm_21 (A0 : Option Addr) (acts : List Ac) (c0 q3 q4 i : Nat) (q7 : Nat) (x : Ac) (Aw An : Option Addr) (cw cn s0 s1 : Nat) (m0 m1 : Nat → List UInt8) (w0 wr : World) (k : Nat) (hk : k < s1) (hs0 : s0 ≤ 32768) (hs1 : s1 ≤ 32768) (f : Nat → Value)
    (hW : CmW q7 x Aw An cw cn s0 s1 m0 m1 wr) (ho : Only (fun _ => False) w0 wr) (hd : x.d = 1) (fr : Nat) (hfr : x.at_ = fr) (hq : fr ≤ k) (hq2 : ¬ k - fr < x.b.length) (hw : k < s0) (K : Act → World → Prop) (Q : Exit → Act → World → Prop) (hK : ∀ a w', CmI A0 acts c0 q3 q4 i q7 x Aw An cw cn s0 s1 m0 m1 w0 (k + 1) a w' → K a w') :
    Code.wp Try.prog body25 (Exit.then K Q) ⟨#[.slice A0 acts.length c0, f 1, f 2, .pointer (some ⟨q3, 0, none⟩), .pointer (some ⟨q4, 0, none⟩), .func (.func 12) #[] #[.pointer (some ⟨q4, 0, none⟩), .pointer (some ⟨q3, 0, none⟩)], .int .i64 i, .pointer (some ⟨q7, 0, none⟩), .slice Aw s0 cw, f 9, f 10, f 11, .slice An s1 cn, .int .i64 k, f 14, f 15, f 16, f 17, f 18, f 19, f 20, f 21, f 22, f 23, f 24, f 25, f 26, f 27, f 28, f 29, f 30, f 31, f 32, f 33, f 34, f 35, f 36, f 37, f 38, f 39, f 40, f 41, f 42, f 43, f 44, f 45, f 46, f 47, f 48, f 49, f 50, f 51, f 52, f 53, f 54, f 55, f 56, f 57, f 58, f 59, f 60, f 61, f 62, f 63, f 64, f 65, f 66, f 67, f 68, f 69, f 70, f 71, f 72, f 73, f 74, f 75, f 76, f 77, f 78, f 79, f 80, f 81, f 82, f 83, f 84, f 85, f 86, f 87, f 88, f 89, f 90, f 91, f 92, f 93, f 94, f 95, f 96, f 97, f 98, f 99, f 100, f 101, f 102, f 103, f 104, f 105, f 106, f 107, f 108, f 109, f 110, f 111, f 112, f 113, f 114, f 115, f 116, f 117, f 118, f 119, f 120, f 121, f 122, f 123, f 124, f 125, f 126, f 127, f 128, f 129, f 130, f 131, f 132, f 133, f 134, f 135, f 136, f 137, f 138, f 139, f 140, f 141, f 142, f 143, f 144, f 145, f 146, f 147, f 148, f 149, f 150, f 151, f 152, f 153, f 154, f 155, f 156, f 157, f 158, f 159, f 160, f 161, f 162, f 163, f 164, f 165, f 166, f 167, f 168, f 169, f 170, f 171, f 172, f 173, f 174, f 175, f 176, f 177, f 178, f 179, f 180, f 181, f 182, f 183, f 184, f 185, f 186, f 187, f 188, f 189, f 190, f 191, f 192, f 193, f 194, f 195, f 196, f 197, f 198, f 199, f 200, f 201, f 202, f 203, f 204, f 205, f 206, f 207], []⟩ wr := by
  have hlaw := hW.law k hk
  obtain ⟨bn, on, rfl, cn1⟩ := reads_at hW.rn hk (readB_len _ _ _)
  rw [readB_get _ _ _ _ hk, Nat.zero_add, hlaw] at cn1
  have d0 := hW.bx.cell 0
  have d1 := hW.bx.cell 1
  have d3 := hW.bx.cell 3
  simp only [List.getElem?_toArray, List.getElem?_cons_zero, List.getElem?_cons_succ] at d0 d1 d3
  have i0 : (0 : Int) ≤ (k : Int) := by omega
  have i1 : (k : Int) < (s1 : Int) := by omega
  have i2 : (s1 : Int) ≤ 32768 := by omega
  unfold want at cn1
  rw [hd] at d0
  have c0 : ((1 : Nat) : Int) = 1 := rfl
  simp only [c0] at d0
  clear c0
  rw [hfr] at d1
  rw [if_neg (fun h => by rw [hfr] at h; omega)] at cn1
  have e1 : (fr : Int) ≤ (k : Int) := by omega
  have e2 : ¬ (k : Int) - (fr : Int) < (x.b.length : Int) := by omega
  obtain ⟨bw, ow, rfl, cw1⟩ := reads_at hW.rw0 hw (readB_len _ _ _)
  rw [readB_get _ _ _ _ hw, Nat.zero_add] at cw1
  have i3 : (k : Int) < (s0 : Int) := by omega
  rw [if_pos hw] at cn1
  generalize (byteAt m0 k).toNat = y9 at *
  clear hlaw hW
  replace ho := Lib.hid ho
  replace hk := Lib.hid hk
  conv => arg 2; whnf
  go_wp2
  exact ⟨rfl, rfl, rfl, rfl, rfl, rfl, rfl, rfl, rfl, rfl, by show Value.int IntKind.i64 _ = _; go_num, hk.out, ho.out⟩

set_option maxRecDepth 100000 in
set_option maxHeartbeats 4000000 in
theorem cm_30 (A0 : Option Addr) (acts : List Ac) (c0 q3 q4 i : Nat) (q7 : Nat) (x : Ac) (Aw An : Option Addr) (cw cn s0 s1 : Nat) (m0 m1 : Nat → List UInt8) (w0 wr : World) (k : Nat) (hk : k < s1) (hs0 : s0 ≤ 32768) (hs1 : s1 ≤ 32768) (f : Nat → Value)
    (hW : CmW q7 x Aw An cw cn s0 s1 m0 m1 wr) (ho : Only (fun _ => False) w0 wr) (hd : x.d = 1) (fr : Nat) (hfr : x.at_ = fr) (hq : fr ≤ k) (hq2 : k - fr < x.b.length) (hw : ¬ k < s0) (K : Act → World → Prop) (Q : Exit → Act → World → Prop) (hK : ∀ a w', CmI A0 acts c0 q3 q4 i q7 x Aw An cw cn s0 s1 m0 m1 w0 (k + 1) a w' → K a w') :
    Code.wp Try.prog body25 (Exit.then K Q) ⟨#[.slice A0 acts.length c0, f 1, f 2, .pointer (some ⟨q3, 0, none⟩), .pointer (some ⟨q4, 0, none⟩), .func (.func 12) #[] #[.pointer (some ⟨q4, 0, none⟩), .pointer (some ⟨q3, 0, none⟩)], .int .i64 i, .pointer (some ⟨q7, 0, none⟩), .slice Aw s0 cw, f 9, f 10, f 11, .slice An s1 cn, .int .i64 k, f 14, f 15, f 16, f 17, f 18, f 19, f 20, f 21, f 22, f 23, f 24, f 25, f 26, f 27, f 28, f 29, f 30, f 31, f 32, f 33, f 34, f 35, f 36, f 37, f 38, f 39, f 40, f 41, f 42, f 43, f 44, f 45, f 46, f 47, f 48, f 49, f 50, f 51, f 52, f 53, f 54, f 55, f 56, f 57, f 58, f 59, f 60, f 61, f 62, f 63, f 64, f 65, f 66, f 67, f 68, f 69, f 70, f 71, f 72, f 73, f 74, f 75, f 76, f 77, f 78, f 79, f 80, f 81, f 82, f 83, f 84, f 85, f 86, f 87, f 88, f 89, f 90, f 91, f 92, f 93, f 94, f 95, f 96, f 97, f 98, f 99, f 100, f 101, f 102, f 103, f 104, f 105, f 106, f 107, f 108, f 109, f 110, f 111, f 112, f 113, f 114, f 115, f 116, f 117, f 118, f 119, f 120, f 121, f 122, f 123, f 124, f 125, f 126, f 127, f 128, f 129, f 130, f 131, f 132, f 133, f 134, f 135, f 136, f 137, f 138, f 139, f 140, f 141, f 142, f 143, f 144, f 145, f 146, f 147, f 148, f 149, f 150, f 151, f 152, f 153, f 154, f 155, f 156, f 157, f 158, f 159, f 160, f 161, f 162, f 163, f 164, f 165, f 166, f 167, f 168, f 169, f 170, f 171, f 172, f 173, f 174, f 175, f 176, f 177, f 178, f 179, f 180, f 181, f 182, f 183, f 184, f 185, f 186, f 187, f 188, f 189, f 190, f 191, f 192, f 193, f 194, f 195, f 196, f 197, f 198, f 199, f 200, f 201, f 202, f 203, f 204, f 205, f 206, f 207], []⟩ wr := by
  have hlaw := hW.law k hk
  obtain ⟨bn, on, rfl, cn1⟩ := reads_at hW.rn hk (readB_len _ _ _)
  rw [readB_get _ _ _ _ hk, Nat.zero_add, hlaw] at cn1
  have d0 := hW.bx.cell 0
  have d1 := hW.bx.cell 1
  have d3 := hW.bx.cell 3
  simp only [List.getElem?_toArray, List.getElem?_cons_zero, List.getElem?_cons_succ] at d0 d1 d3
  have i0 : (0 : Int) ≤ (k : Int) := by omega
  have i1 : (k : Int) < (s1 : Int) := by omega
  have i2 : (s1 : Int) ≤ 32768 := by omega
  unfold want at cn1
  rw [hd] at d0
  have c0 : ((1 : Nat) : Int) = 1 := rfl
  simp only [c0] at d0
  clear c0
  rw [hfr] at d1
  rw [if_pos ⟨hd, by rw [hfr]; omega, by rw [hfr]; omega⟩, hfr, show ((fr : Nat) : Int).toNat = fr by omega] at cn1
  have e1 : (fr : Int) ≤ (k : Int) := by omega
  have e2 : (k : Int) - (fr : Int) < (x.b.length : Int) := by omega
  have e3 : (0 : Int) ≤ (k : Int) - (fr : Int) := by omega
  obtain ⟨bb, ob, eb, cb⟩ := reads_at (k := k - fr) hW.rb (by omega) rfl
  rw [eb] at d3
  have e4 : ((k : Int) - (fr : Int)).toNat = k - fr := by omega
  generalize (x.b.getD (k - fr) 0).toNat = z9 at cn1 cb
  have i3 : ¬ (k : Int) < (s0 : Int) := by omega
  clear hlaw hW
  replace ho := Lib.hid ho
  replace hk := Lib.hid hk
  conv => arg 2; whnf
  go_wp2
  exact ⟨rfl, rfl, rfl, rfl, rfl, rfl, rfl, rfl, rfl, rfl, by show Value.int IntKind.i64 _ = _; go_num, hk.out, ho.out⟩

set_option maxRecDepth 100000 in
set_option maxHeartbeats 4000000 in
theorem cm_31 (A0 : Option Addr) (acts : List Ac) (c0 q3 q4 i : Nat) (q7 : Nat) (x : Ac) (Aw An : Option Addr) (cw cn s0 s1 : Nat) (m0 m1 : Nat → List UInt8) (w0 wr : World) (k : Nat) (hk : k < s1) (hs0 : s0 ≤ 32768) (hs1 : s1 ≤ 32768) (f : Nat → Value)
    (hW : CmW q7 x Aw An cw cn s0 s1 m0 m1 wr) (ho : Only (fun _ => False) w0 wr) (hd : x.d = 1) (fr : Nat) (hfr : x.at_ = fr) (hq : fr ≤ k) (hq2 : k - fr < x.b.length) (hw : k < s0) (K : Act → World → Prop) (Q : Exit → Act → World → Prop) (hK : ∀ a w', CmI A0 acts c0 q3 q4 i q7 x Aw An cw cn s0 s1 m0 m1 w0 (k + 1) a w' → K a w') :
    Code.wp Try.prog body25 (Exit.then K Q) ⟨#[.slice A0 acts.length c0, f 1, f 2, .pointer (some ⟨q3, 0, none⟩), .pointer (some ⟨q4, 0, none⟩), .func (.func 12) #[] #[.pointer (some ⟨q4, 0, none⟩), .pointer (some ⟨q3, 0, none⟩)], .int .i64 i, .pointer (some ⟨q7, 0, none⟩), .slice Aw s0 cw, f 9, f 10, f 11, .slice An s1 cn, .int .i64 k, f 14, f 15, f 16, f 17, f 18, f 19, f 20, f 21, f 22, f 23, f 24, f 25, f 26, f 27, f 28, f 29, f 30, f 31, f 32, f 33, f 34, f 35, f 36, f 37, f 38, f 39, f 40, f 41, f 42, f 43, f 44, f 45, f 46, f 47, f 48, f 49, f 50, f 51, f 52, f 53, f 54, f 55, f 56, f 57, f 58, f 59, f 60, f 61, f 62, f 63, f 64, f 65, f 66, f 67, f 68, f 69, f 70, f 71, f 72, f 73, f 74, f 75, f 76, f 77, f 78, f 79, f 80, f 81, f 82, f 83, f 84, f 85, f 86, f 87, f 88, f 89, f 90, f 91, f 92, f 93, f 94, f 95, f 96, f 97, f 98, f 99, f 100, f 101, f 102, f 103, f 104, f 105, f 106, f 107, f 108, f 109, f 110, f 111, f 112, f 113, f 114, f 115, f 116, f 117, f 118, f 119, f 120, f 121, f 122, f 123, f 124, f 125, f 126, f 127, f 128, f 129, f 130, f 131, f 132, f 133, f 134, f 135, f 136, f 137, f 138, f 139, f 140, f 141, f 142, f 143, f 144, f 145, f 146, f 147, f 148, f 149, f 150, f 151, f 152, f 153, f 154, f 155, f 156, f 157, f 158, f 159, f 160, f 161, f 162, f 163, f 164, f 165, f 166, f 167, f 168, f 169, f 170, f 171, f 172, f 173, f 174, f 175, f 176, f 177, f 178, f 179, f 180, f 181, f 182, f 183, f 184, f 185, f 186, f 187, f 188, f 189, f 190, f 191, f 192, f 193, f 194, f 195, f 196, f 197, f 198, f 199, f 200, f 201, f 202, f 203, f 204, f 205, f 206, f 207], []⟩ wr := by
  have hlaw := hW.law k hk
  obtain ⟨bn, on, rfl, cn1⟩ := reads_at hW.rn hk (readB_len _ _ _)
  rw [readB_get _ _ _ _ hk, Nat.zero_add, hlaw] at cn1
  have d0 := hW.bx.cell 0
  have d1 := hW.bx.cell 1
  have d3 := hW.bx.cell 3
  simp only [List.getElem?_toArray, List.getElem?_cons_zero, List.getElem?_cons_succ] at d0 d1 d3
  have i0 : (0 : Int) ≤ (k : Int) := by omega
  have i1 : (k : Int) < (s1 : Int) := by omega
  have i2 : (s1 : Int) ≤ 32768 := by omega
  unfold want at cn1
  rw [hd] at d0
  have c0 : ((1 : Nat) : Int) = 1 := rfl
  simp only [c0] at d0
  clear c0
  rw [hfr] at d1
  rw [if_pos ⟨hd, by rw [hfr]; omega, by rw [hfr]; omega⟩, hfr, show ((fr : Nat) : Int).toNat = fr by omega] at cn1
  have e1 : (fr : Int) ≤ (k : Int) := by omega
  have e2 : (k : Int) - (fr : Int) < (x.b.length : Int) := by omega
  have e3 : (0 : Int) ≤ (k : Int) - (fr : Int) := by omega
  obtain ⟨bb, ob, eb, cb⟩ := reads_at (k := k - fr) hW.rb (by omega) rfl
  rw [eb] at d3
  have e4 : ((k : Int) - (fr : Int)).toNat = k - fr := by omega
  generalize (x.b.getD (k - fr) 0).toNat = z9 at cn1 cb
  obtain ⟨bw, ow, rfl, cw1⟩ := reads_at hW.rw0 hw (readB_len _ _ _)
  rw [readB_get _ _ _ _ hw, Nat.zero_add] at cw1
  have i3 : (k : Int) < (s0 : Int) := by omega
  generalize (byteAt m0 k).toNat = y9 at *
  clear hlaw hW
  replace ho := Lib.hid ho
  replace hk := Lib.hid hk
  conv => arg 2; whnf
  go_wp2
  exact ⟨rfl, rfl, rfl, rfl, rfl, rfl, rfl, rfl, rfl, rfl, by show Value.int IntKind.i64 _ = _; go_num, hk.out, ho.out⟩
end Go.Proofs.Ytpkadhgoaaphkaa
