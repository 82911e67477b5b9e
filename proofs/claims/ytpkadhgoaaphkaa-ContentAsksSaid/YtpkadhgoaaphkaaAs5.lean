/-
  The law ContentAsks (func 3): its last act.
-/
import Derived.Test.YtpkadhgoaaphkaaAs4
import Derived.StillTailTactics
namespace Go.Proofs.Ytpkadhgoaaphkaa
open Go Go.RowKit Go.Shelf
set_option linter.unusedVariables false

/-- The shelf's bad leaves, and what was asked for, are laid anew. -/
theorem sh_reset {B g : Nat} {v : Nat → Value} {m : Nat → List UInt8} {b0 bad : Nat} {va : Value} {ask : List Nat} {w : World} (h : Sh B g v m b0 va ask w) (hb : bad < 18446744073709551616) :
    Sh B g v m bad (.slice none 0 0) [] ((w.setCell ⟨g, 64, none⟩ (.int .u64 bad)).setCell ⟨g, 65, none⟩ (.slice none 0 0)) := by
  have o := ((Only.refl (fun k => k = g) w).setCell (p := ⟨g, 64, none⟩) (.inl rfl) (.int .u64 bad)).setCell (p := ⟨g, 65, none⟩) (.inl rfl) (.slice none 0 0)
  refine ⟨((h.tb.set_ 64 _).set_ 65 _).congr fun i hi => ?_, fun k hk => row_keep (h.lv k hk) o (fun q hq e => by subst e; have := (row_lt' (h.lv k hk) q hq).2.2.one h.ty; cases this), h.sz, World.ownsRow_nil _ _ _ _, h.gB, hb⟩
  unfold put shf
  by_cases i1 : i = 65
  · subst i1; rfl
  · by_cases i2 : i = 64
    · subst i2; rfl
    · have i3 : i < 64 := by omega
      simp only [i1, i2, i3, if_false, if_true]
theorem turn_reset {B g : Nat} {w : World} (hg : B ≤ g) (ht : tyAt w g 33) (u1 u2 : Value) : Turn B w ((w.setCell ⟨g, 64, none⟩ u1).setCell ⟨g, 65, none⟩ u2) :=
  ((Turn.refl B w).setCell (p := ⟨g, 64, none⟩) (.inl ⟨hg, .inl ht⟩) u1).setCell (p := ⟨g, 65, none⟩) (.inl ⟨hg, .inl ht⟩) u2

set_option maxRecDepth 100000 in
set_option maxHeartbeats 4000000 in
theorem as_r (g q5 bad : Nat) (hbd : bad < 18446744073709551616) (last : Ac) (w wr : World) (hlr : Reads w w.heap.size last.A last.b.length (Lib.byteCells last.b)) (hlc : last.b.length ≤ last.c) (i size : Nat) (f : Nat → Value)
    (hI : AsW w g q5 last i size wr) (hd : last.d = 0) (Q : Exit → Act → World → Prop) (hret : ∀ (tm : Array Value) (w' : World), tm.size = 281 → tm.getD 6 undef = .bool true → Only (fun _ => False) w w' → Q .ret ⟨tm, []⟩ w') :
    Code.wp Try.prog tail18 Q ⟨#[f 0, .int .u64 bad, f 2, f 3, f 4, .pointer (some ⟨q5, 0, none⟩), f 6, .pointer (some ⟨g, 0, none⟩), .int .u32 size, f 9, f 10, f 11, f 12, f 13, f 14, f 15, f 16, f 17, f 18, f 19, f 20, f 21, f 22, f 23, f 24, f 25, f 26, f 27, f 28, f 29, f 30, f 31, f 32, f 33, f 34, f 35, f 36, f 37, f 38, f 39, f 40, f 41, f 42, f 43, f 44, f 45, f 46, f 47, f 48, f 49, f 50, f 51, f 52, f 53, f 54, f 55, f 56, f 57, f 58, f 59, f 60, f 61, f 62, f 63, f 64, f 65, f 66, f 67, f 68, f 69, f 70, f 71, f 72, f 73, f 74, f 75, f 76, f 77, f 78, f 79, f 80, f 81, f 82, f 83, f 84, f 85, f 86, f 87, f 88, f 89, f 90, f 91, f 92, f 93, f 94, f 95, f 96, f 97, f 98, f 99, f 100, f 101, f 102, f 103, f 104, f 105, f 106, f 107, f 108, f 109, f 110, f 111, f 112, f 113, f 114, f 115, f 116, f 117, f 118, f 119, f 120, f 121, f 122, f 123, f 124, f 125, f 126, f 127, f 128, f 129, f 130, f 131, f 132, f 133, f 134, f 135, f 136, f 137, f 138, f 139, f 140, f 141, f 142, f 143, f 144, f 145, f 146, f 147, f 148, f 149, f 150, f 151, f 152, f 153, f 154, f 155, f 156, f 157, f 158, f 159, f 160, f 161, f 162, f 163, f 164, f 165, f 166, f 167, f 168, f 169, f 170, f 171, f 172, f 173, f 174, f 175, f 176, f 177, f 178, f 179, f 180, f 181, f 182, f 183, f 184, f 185, f 186, f 187, f 188, f 189, f 190, f 191, f 192, f 193, f 194, f 195, f 196, f 197, f 198, f 199, f 200, f 201, f 202, f 203, f 204, f 205, f 206, f 207, f 208, f 209, f 210, f 211, f 212, f 213, f 214, f 215, f 216, f 217, f 218, f 219, f 220, f 221, f 222, f 223, f 224, f 225, f 226, f 227, f 228, f 229, f 230, f 231, f 232, f 233, f 234, f 235, f 236, f 237, f 238, f 239, f 240, f 241, f 242, f 243, f 244, f 245, f 246, f 247, f 248, f 249, f 250, f 251, f 252, f 253, f 254, f 255, f 256, f 257, f 258, f 259, f 260, f 261, f 262, f 263, f 264, f 265, f 266, f 267, f 268, f 269, f 270, f 271, f 272, f 273, f 274, f 275, f 276, f 277, f 278, f 279, f 280], []⟩ wr := by
  obtain ⟨v, m, va, ask, hS, hal⟩ := hI.sh
  have hsz := hI.sz
  have hS2 := sh_reset hS hbd
  have hT2 := turn_reset hS.gB hS.ty (.int .u64 bad) (.slice none 0 0)
  have hx2 := hI.bx.turn hT2 (by decide)
  have hT3 := hI.tn.trans hT2
  have g0 := hS.tb.cell 64 (by omega)
  have f0 := hS.tb.frozen 64
  have g1 := (hS.tb.set_ 64 (.int .u64 bad)).cell 65 (by omega)
  have f1 := (hS.tb.set_ 64 (.int .u64 bad)).frozen 65
  simp only [shf, put, show ¬ 64 < 64 by omega, show ¬ 65 < 64 by omega, show ¬ 65 = 64 by omega, if_false, if_true] at g0 g1
  have hd9 : last.d = 0 := hd
  have hB := hT3.size
  obtain ⟨va2, hva2⟩ : ∃ u : Value, u = va := ⟨_, rfl⟩
  rw [← hva2] at g1
  clear hS hI hal hT2 hva2 hd
  conv => arg 2; whnf
  go_upto_region 22 with fail
  clear g0 g1 f0 f1
  generalize (wr.setCell ⟨g, 64, none⟩ (.int .u64 bad)).setCell ⟨g, 65, none⟩ (.slice none 0 0) = w2 at *
  have y0 := hx2.cell 0
  have y1 := hx2.cell 1
  have y2 := hx2.cell 2
  have y3 := hx2.cell 3
  simp only [List.getElem?_toArray, List.getElem?_cons_zero, List.getElem?_cons_succ] at y0 y1 y2 y3
  go_quiet (fail)
  have od : Only (fun _ => False) w2 (w2.drewN nq) := (Only.refl _ _).drewN nq
  have hS3 := hS2.only od
  have hx3 := hx2.only od (fun x => x)
  have hT4 := hT3.only od
  replace y0 : (w2.drewN nq).cell? ⟨q5, 0, none⟩ = _ := y0
  replace y1 : (w2.drewN nq).cell? ⟨q5, 1, none⟩ = _ := y1
  replace y2 : (w2.drewN nq).cell? ⟨q5, 2, none⟩ = _ := y2
  replace y3 : (w2.drewN nq).cell? ⟨q5, 3, none⟩ = _ := y3
  replace hB : w.heap.size ≤ (w2.drewN nq).heap.size := hB
  clear hS2 hx2 hT3 od
  generalize w2.drewN nq = w3 at *
  obtain ⟨ld, la, ln, lA, lc, lb⟩ := last
  simp only at hlr hlc hd9 hx3 y0 y1 y2 y3
  subst hd9
  simp only [show ((0 : Nat) : Int) = 0 from rfl] at y0
  have hC := read_any w.heap.size g v m bad (.slice none 0 0) [] size la ln w3 hS3 hB hsz (by decide)
  replace hC := Lib.hid hC
  replace hS3 := Lib.hid hS3
  replace hx3 := Lib.hid hx3
  replace hT4 := Lib.hid hT4
  go_wp2_with fail
  refine hC.out.mono ?_
  rintro r w4 hr
  rcases hr with ⟨rfl, ho⟩ | ⟨fr, k, rfl, rfl, hk2, ⟨hle, rfl, ho⟩ | ⟨hlt, hr⟩⟩
  · have hk : AkW w.heap.size g q5 bad [] ⟨0, la, ln, lA, lc, lb⟩ w4 := ⟨⟨v, m, _, (hS3.out.only ho)⟩, hx3.out.only ho (fun x => x)⟩
    have hn := only_nil (hT4.out.only ho)
    have z2 := (Blk.cell_only ho (a := ⟨q5, 2, none⟩) hx3.out.lt (fun x => x)).trans y2
    have z3 := (Blk.cell_only ho (a := ⟨q5, 3, none⟩) hx3.out.lt (fun x => x)).trans y3
    replace hk := Lib.hid hk
    replace hn := Lib.hid hn
    clear ho hS3 hx3 hT4 y0 y1 y2 y3 hC
    go_upto_region 35 with fail
    rename_i hK9
    exact as_chk0T w.heap.size g q5 bad _ _ _ _ _ _ _ ⟨0, la, ln, lA, lc, lb⟩ w4 hk.out (.inr ⟨.inl rfl, rfl, rfl⟩) _ rfl rfl rfl rfl rfl rfl _ Q hK9 fun tm w' h1 h2 h3 => hret tm w' h1 h2 (hn.out.trans h3)
  · have hk : AkW w.heap.size g q5 bad [] ⟨0, fr, k, lA, lc, lb⟩ w4 := ⟨⟨v, m, _, (hS3.out.only ho)⟩, hx3.out.only ho (fun x => x)⟩
    have hn := only_nil (hT4.out.only ho)
    have z2 := (Blk.cell_only ho (a := ⟨q5, 2, none⟩) hx3.out.lt (fun x => x)).trans y2
    have z3 := (Blk.cell_only ho (a := ⟨q5, 3, none⟩) hx3.out.lt (fun x => x)).trans y3
    replace hk := Lib.hid hk
    replace hn := Lib.hid hn
    clear ho hS3 hx3 hT4 y0 y1 y2 y3 hC
    go_upto_region 35 with fail
    rename_i hK9
    exact as_chk0T w.heap.size g q5 bad _ _ _ _ _ _ _ ⟨0, fr, k, lA, lc, lb⟩ w4 hk.out (.inl rfl) _ rfl rfl rfl rfl rfl rfl _ Q hK9 fun tm w' h1 h2 h3 => hret tm w' h1 h2 (hn.out.trans h3)
  · have i0 : (fr : Int) < (size : Int) := by omega
    have i1 : (size : Int) ≤ 32768 := by omega
    have i2 : (k : Int) ≤ 2048 := by omega
    have i3 : (0 : Int) ≤ (fr : Int) := by omega
    have i4 : (0 : Int) ≤ (k : Int) := by omega
    have hen : min size (fr + k) ≤ 32768 := by omega
    have hcl := cnt_le (fr := fr) hen
    rcases hr with ⟨A, c9, rfl, hro⟩ | ⟨i9, hi9, rfl, hse, -, ⟨hp9, hb9⟩, hte⟩
    · obtain ⟨va4, hs4⟩ := hro.sh
      rw [List.nil_append] at hs4
      have ht4 := hro.tn
      have hk : AkW w.heap.size g q5 bad (askd fr (cnt fr (min size (fr + k)))) ⟨0, fr, k, lA, lc, lb⟩ w4 := ⟨⟨v, m, va4, hs4⟩, hx3.out.turn ht4 (by decide)⟩
      have hn := only_nil (hT4.out.trans ht4)
      have z0 := hk.bx.cell 0
      have z2 := hk.bx.cell 2
      have z3 := hk.bx.cell 3
      simp only [List.getElem?_toArray, List.getElem?_cons_zero, List.getElem?_cons_succ] at z0 z2 z3
      have hlq : (askd fr (cnt fr (min size (fr + k)))).length ≤ 100 := (by rw [askd_len]; omega)
      have hak : AskN 0 (fr) (min size (fr + k)) (askd fr (cnt fr (min size (fr + k)))) := askd_ok (Nat.le_refl _) hen (by omega)
      have hany : (askd fr (cnt fr (min size (fr + k)))).any (isBad bad) = false := any_false fun j hj => by
          obtain ⟨j9, hj9, rfl, _⟩ := mem_upto (f := askd fr) rfl (askd_step fr) _ j hj
          exact hro.nb j9 hj9
      generalize askd fr (cnt fr (min size (fr + k))) = qs9 at *
      replace hk := Lib.hid hk
      replace hn := Lib.hid hn
      replace hak := Lib.hid hak
      replace hany := Lib.hid hany
      replace hlq := Lib.hid hlq
      clear hro
      clear hen hcl
      clear hs4 ht4 hS3 hx3 hT4 y0 y1 y2 y3 hC
      go_upto_region 35 with fail
      rename_i hK9
      exact as_chkT w.heap.size g q5 bad _ _ _ _ _ _ _ (fr) (min size (fr + k)) qs9 ⟨0, fr, k, lA, lc, lb⟩ w4 hlq.out (fun _ => hak.out) hk.out (.inl ⟨rfl, hany.out⟩) _ rfl rfl rfl rfl rfl rfl rfl rfl (by show Value.int IntKind.i64 (min (size : Int) ((fr : Int) + (k : Int))) = _; congr 1; omega) _ Q hK9 fun tm w' h1 h2 h3 => hret tm w' h1 h2 (hn.out.trans h3)
    · obtain ⟨va4, hs4⟩ := hse
      rw [List.nil_append] at hs4
      have ht4 := hte
      have hk : AkW w.heap.size g q5 bad (askd fr i9) ⟨0, fr, k, lA, lc, lb⟩ w4 := ⟨⟨v, m, va4, hs4⟩, hx3.out.turn ht4 (by decide)⟩
      have hn := only_nil (hT4.out.trans ht4)
      have z0 := hk.bx.cell 0
      have z2 := hk.bx.cell 2
      have z3 := hk.bx.cell 3
      simp only [List.getElem?_toArray, List.getElem?_cons_zero, List.getElem?_cons_succ] at z0 z2 z3
      have hlq : (askd fr i9).length ≤ 100 := (by rw [askd_len]; omega)
      have hak : AskN 0 (fr) (min size (fr + k)) (askd fr i9) := askd_ok hi9 hen (by omega)
      have hany : (askd fr i9).any (isBad bad) = true := any_true (askd_mem (j := i9 - 1) (by omega)) hb9
      generalize askd fr i9 = qs9 at *
      replace hk := Lib.hid hk
      replace hn := Lib.hid hn
      replace hak := Lib.hid hak
      replace hany := Lib.hid hany
      replace hlq := Lib.hid hlq
      clear hen hcl
      clear hs4 ht4 hS3 hx3 hT4 y0 y1 y2 y3 hC
      go_upto_region 35 with fail
      rename_i hK9
      exact as_chkT w.heap.size g q5 bad _ _ _ _ _ _ _ (fr) (min size (fr + k)) qs9 ⟨0, fr, k, lA, lc, lb⟩ w4 hlq.out (fun _ => hak.out) hk.out (.inr ⟨.inl ⟨rfl, hany.out⟩, rfl, rfl⟩) _ rfl rfl rfl rfl rfl rfl rfl rfl (by show Value.int IntKind.i64 (min (size : Int) ((fr : Int) + (k : Int))) = _; congr 1; omega) _ Q hK9 fun tm w' h1 h2 h3 => hret tm w' h1 h2 (hn.out.trans h3)

set_option maxRecDepth 100000 in
set_option maxHeartbeats 4000000 in
theorem as_w9 (g q5 bad : Nat) (hbd : bad < 18446744073709551616) (last : Ac) (w wr : World) (hlr : Reads w w.heap.size last.A last.b.length (Lib.byteCells last.b)) (hlc : last.b.length ≤ last.c) (i size : Nat) (f : Nat → Value)
    (hI : AsW w g q5 last i size wr) (hd : last.d = 1) (Q : Exit → Act → World → Prop) (hret : ∀ (tm : Array Value) (w' : World), tm.size = 281 → tm.getD 6 undef = .bool true → Only (fun _ => False) w w' → Q .ret ⟨tm, []⟩ w') :
    Code.wp Try.prog tail18 Q ⟨#[f 0, .int .u64 bad, f 2, f 3, f 4, .pointer (some ⟨q5, 0, none⟩), f 6, .pointer (some ⟨g, 0, none⟩), .int .u32 size, f 9, f 10, f 11, f 12, f 13, f 14, f 15, f 16, f 17, f 18, f 19, f 20, f 21, f 22, f 23, f 24, f 25, f 26, f 27, f 28, f 29, f 30, f 31, f 32, f 33, f 34, f 35, f 36, f 37, f 38, f 39, f 40, f 41, f 42, f 43, f 44, f 45, f 46, f 47, f 48, f 49, f 50, f 51, f 52, f 53, f 54, f 55, f 56, f 57, f 58, f 59, f 60, f 61, f 62, f 63, f 64, f 65, f 66, f 67, f 68, f 69, f 70, f 71, f 72, f 73, f 74, f 75, f 76, f 77, f 78, f 79, f 80, f 81, f 82, f 83, f 84, f 85, f 86, f 87, f 88, f 89, f 90, f 91, f 92, f 93, f 94, f 95, f 96, f 97, f 98, f 99, f 100, f 101, f 102, f 103, f 104, f 105, f 106, f 107, f 108, f 109, f 110, f 111, f 112, f 113, f 114, f 115, f 116, f 117, f 118, f 119, f 120, f 121, f 122, f 123, f 124, f 125, f 126, f 127, f 128, f 129, f 130, f 131, f 132, f 133, f 134, f 135, f 136, f 137, f 138, f 139, f 140, f 141, f 142, f 143, f 144, f 145, f 146, f 147, f 148, f 149, f 150, f 151, f 152, f 153, f 154, f 155, f 156, f 157, f 158, f 159, f 160, f 161, f 162, f 163, f 164, f 165, f 166, f 167, f 168, f 169, f 170, f 171, f 172, f 173, f 174, f 175, f 176, f 177, f 178, f 179, f 180, f 181, f 182, f 183, f 184, f 185, f 186, f 187, f 188, f 189, f 190, f 191, f 192, f 193, f 194, f 195, f 196, f 197, f 198, f 199, f 200, f 201, f 202, f 203, f 204, f 205, f 206, f 207, f 208, f 209, f 210, f 211, f 212, f 213, f 214, f 215, f 216, f 217, f 218, f 219, f 220, f 221, f 222, f 223, f 224, f 225, f 226, f 227, f 228, f 229, f 230, f 231, f 232, f 233, f 234, f 235, f 236, f 237, f 238, f 239, f 240, f 241, f 242, f 243, f 244, f 245, f 246, f 247, f 248, f 249, f 250, f 251, f 252, f 253, f 254, f 255, f 256, f 257, f 258, f 259, f 260, f 261, f 262, f 263, f 264, f 265, f 266, f 267, f 268, f 269, f 270, f 271, f 272, f 273, f 274, f 275, f 276, f 277, f 278, f 279, f 280], []⟩ wr := by
  obtain ⟨v, m, va, ask, hS, hal⟩ := hI.sh
  have hsz := hI.sz
  have hS2 := sh_reset hS hbd
  have hT2 := turn_reset hS.gB hS.ty (.int .u64 bad) (.slice none 0 0)
  have hx2 := hI.bx.turn hT2 (by decide)
  have hT3 := hI.tn.trans hT2
  have g0 := hS.tb.cell 64 (by omega)
  have f0 := hS.tb.frozen 64
  have g1 := (hS.tb.set_ 64 (.int .u64 bad)).cell 65 (by omega)
  have f1 := (hS.tb.set_ 64 (.int .u64 bad)).frozen 65
  simp only [shf, put, show ¬ 64 < 64 by omega, show ¬ 65 < 64 by omega, show ¬ 65 = 64 by omega, if_false, if_true] at g0 g1
  have hd9 : last.d = 1 := hd
  have hB := hT3.size
  obtain ⟨va2, hva2⟩ : ∃ u : Value, u = va := ⟨_, rfl⟩
  rw [← hva2] at g1
  clear hS hI hal hT2 hva2 hd
  conv => arg 2; whnf
  go_upto_region 22 with fail
  clear g0 g1 f0 f1
  generalize (wr.setCell ⟨g, 64, none⟩ (.int .u64 bad)).setCell ⟨g, 65, none⟩ (.slice none 0 0) = w2 at *
  have y0 := hx2.cell 0
  have y1 := hx2.cell 1
  have y2 := hx2.cell 2
  have y3 := hx2.cell 3
  simp only [List.getElem?_toArray, List.getElem?_cons_zero, List.getElem?_cons_succ] at y0 y1 y2 y3
  go_quiet (fail)
  have od : Only (fun _ => False) w2 (w2.drewN nq) := (Only.refl _ _).drewN nq
  have hS3 := hS2.only od
  have hx3 := hx2.only od (fun x => x)
  have hT4 := hT3.only od
  replace y0 : (w2.drewN nq).cell? ⟨q5, 0, none⟩ = _ := y0
  replace y1 : (w2.drewN nq).cell? ⟨q5, 1, none⟩ = _ := y1
  replace y2 : (w2.drewN nq).cell? ⟨q5, 2, none⟩ = _ := y2
  replace y3 : (w2.drewN nq).cell? ⟨q5, 3, none⟩ = _ := y3
  replace hB : w.heap.size ≤ (w2.drewN nq).heap.size := hB
  clear hS2 hx2 hT3 od
  generalize w2.drewN nq = w3 at *
  obtain ⟨ld, la, ln, lA, lc, lb⟩ := last
  simp only at hlr hlc hd9 hx3 y0 y1 y2 y3
  subst hd9
  simp only [show ((1 : Nat) : Int) = 1 from rfl] at y0
  have hbA : 0 < lb.length → ∀ a, lA = some a → a.block < w.heap.size ∨ tyAt w3 a.block 5 := fun h a e => .inl (hlr.lt h e)
  have hbr : Reads w3 w3.heap.size lA lb.length (Lib.byteCells lb) := (hlr.only (Nat.le_refl _) hT4 (fun k hk x => by have := x.1; omega)).more hT4.size
  have hC := write_any w.heap.size g v m bad (.slice none 0 0) [] size la lb lA lc w3 hS3 hB hsz (by decide) hbr hlc hbA
  replace hC := Lib.hid hC
  replace hS3 := Lib.hid hS3
  replace hx3 := Lib.hid hx3
  replace hT4 := Lib.hid hT4
  clear hbA hbr
  go_wp2_with fail
  refine hC.out.mono ?_
  rintro r w4 hr
  rcases hr with ⟨e, he, rfl, ho⟩ | ⟨fr, rfl, hl2, hen, hr⟩
  · have he0 : (e == 0) = false := by rcases he with rfl | rfl <;> rfl
    have he1 : (e == 21) = false := by rcases he with rfl | rfl <;> rfl
    replace he := Lib.hid he
    have hk : AkW w.heap.size g q5 bad [] ⟨1, la, ln, lA, lc, lb⟩ w4 := ⟨⟨v, m, _, (hS3.out.only ho)⟩, hx3.out.only ho (fun x => x)⟩
    have hn := only_nil (hT4.out.only ho)
    have z2 := (Blk.cell_only ho (a := ⟨q5, 2, none⟩) hx3.out.lt (fun x => x)).trans y2
    have z3 := (Blk.cell_only ho (a := ⟨q5, 3, none⟩) hx3.out.lt (fun x => x)).trans y3
    replace hk := Lib.hid hk
    replace hn := Lib.hid hn
    clear ho hS3 hx3 hT4 y0 y1 y2 y3 hC
    go_upto_region 35 with fail
    rename_i hK9
    exact as_chk0T w.heap.size g q5 bad _ _ _ _ _ _ _ ⟨1, la, ln, lA, lc, lb⟩ w4 hk.out (.inr ⟨he.out, rfl, rfl⟩) _ rfl rfl rfl rfl rfl rfl _ Q hK9 fun tm w' h1 h2 h3 => hret tm w' h1 h2 (hn.out.trans h3)
  · have i0 : (lb.length : Int) ≤ 2048 := by omega
    have i1 : (fr : Int) ≤ 32768 := by omega
    have i3 : (0 : Int) ≤ (fr : Int) := by omega
    have i4 : (0 : Int) ≤ (lb.length : Int) := by omega
    have hcl := cnt_le (fr := fr) hen
    rcases hr with ⟨A, c9, L, rfl, hro⟩ | ⟨i9, hi9, rfl, hse, hd, hte⟩
    · obtain ⟨va4, hs4⟩ := hro.sh
      rw [List.nil_append] at hs4
      have ht4 := hro.tn
      have hk : AkW w.heap.size g q5 bad (wrA fr (fr + lb.length) (cnt fr (fr + lb.length))) ⟨1, fr, ln, lA, lc, lb⟩ w4 := ⟨⟨v, m, va4, hs4⟩, hx3.out.turn ht4 (by decide)⟩
      have hn := only_nil (hT4.out.trans ht4)
      have z0 := hk.bx.cell 0
      have z2 := hk.bx.cell 2
      have z3 := hk.bx.cell 3
      simp only [List.getElem?_toArray, List.getElem?_cons_zero, List.getElem?_cons_succ] at z0 z2 z3
      have hlq : (wrA fr (fr + lb.length) (cnt fr (fr + lb.length))).length ≤ 100 := (by have := wrA_len fr (fr + lb.length) (cnt fr (fr + lb.length)); omega)
      have hak : AskN 1 (fr) (fr + lb.length) (wrA fr (fr + lb.length) (cnt fr (fr + lb.length))) := wrA_ok (Nat.le_refl _) hen (by omega)
      have hany : (wrA fr (fr + lb.length) (cnt fr (fr + lb.length))).any (isBad bad) = false := wr_noBad hro.nb
      generalize wrA fr (fr + lb.length) (cnt fr (fr + lb.length)) = qs9 at *
      replace hk := Lib.hid hk
      replace hn := Lib.hid hn
      replace hak := Lib.hid hak
      replace hany := Lib.hid hany
      replace hlq := Lib.hid hlq
      clear hro
      clear hen hcl
      clear hs4 ht4 hS3 hx3 hT4 y0 y1 y2 y3 hC
      go_upto_region 35 with fail
      rename_i hK9
      exact as_chkT w.heap.size g q5 bad _ _ _ _ _ _ _ (fr) (fr + lb.length) qs9 ⟨1, fr, ln, lA, lc, lb⟩ w4 hlq.out (fun _ => hak.out) hk.out (.inl ⟨rfl, hany.out⟩) _ rfl rfl rfl rfl rfl rfl rfl rfl (by show Value.int IntKind.i64 ((fr : Int) + (lb.length : Int)) = _; congr 1) _ Q hK9 fun tm w' h1 h2 h3 => hret tm w' h1 h2 (hn.out.trans h3)
    · obtain ⟨va4, hs4⟩ := hse
      rw [List.nil_append] at hs4
      have ht4 := hte
      have hk : AkW w.heap.size g q5 bad (wrA fr (fr + lb.length) i9) ⟨1, fr, ln, lA, lc, lb⟩ w4 := ⟨⟨v, m, va4, hs4⟩, hx3.out.turn ht4 (by decide)⟩
      have hn := only_nil (hT4.out.trans ht4)
      have z0 := hk.bx.cell 0
      have z2 := hk.bx.cell 2
      have z3 := hk.bx.cell 3
      simp only [List.getElem?_toArray, List.getElem?_cons_zero, List.getElem?_cons_succ] at z0 z2 z3
      have hlq : (wrA fr (fr + lb.length) i9).length ≤ 100 := (by have := wrA_len fr (fr + lb.length) i9; omega)
      have hak : AskN 1 (fr) (fr + lb.length) (wrA fr (fr + lb.length) i9) := wrA_ok hi9 hen (by omega)
      have hany : (wrA fr (fr + lb.length) i9).any (isBad bad) = true := wr_bad hd
      generalize wrA fr (fr + lb.length) i9 = qs9 at *
      replace hk := Lib.hid hk
      replace hn := Lib.hid hn
      replace hak := Lib.hid hak
      replace hany := Lib.hid hany
      replace hlq := Lib.hid hlq
      clear hd
      clear hen hcl
      clear hs4 ht4 hS3 hx3 hT4 y0 y1 y2 y3 hC
      go_upto_region 35 with fail
      rename_i hK9
      exact as_chkT w.heap.size g q5 bad _ _ _ _ _ _ _ (fr) (fr + lb.length) qs9 ⟨1, fr, ln, lA, lc, lb⟩ w4 hlq.out (fun _ => hak.out) hk.out (.inr ⟨.inl ⟨rfl, hany.out⟩, rfl, rfl⟩) _ rfl rfl rfl rfl rfl rfl rfl rfl (by show Value.int IntKind.i64 ((fr : Int) + (lb.length : Int)) = _; congr 1) _ Q hK9 fun tm w' h1 h2 h3 => hret tm w' h1 h2 (hn.out.trans h3)

set_option maxRecDepth 100000 in
set_option maxHeartbeats 4000000 in
theorem as_t9 (g q5 bad : Nat) (hbd : bad < 18446744073709551616) (last : Ac) (w wr : World) (hlr : Reads w w.heap.size last.A last.b.length (Lib.byteCells last.b)) (hlc : last.b.length ≤ last.c) (i size : Nat) (f : Nat → Value)
    (hI : AsW w g q5 last i size wr) (hd : 1 < last.d) (Q : Exit → Act → World → Prop) (hret : ∀ (tm : Array Value) (w' : World), tm.size = 281 → tm.getD 6 undef = .bool true → Only (fun _ => False) w w' → Q .ret ⟨tm, []⟩ w') :
    Code.wp Try.prog tail18 Q ⟨#[f 0, .int .u64 bad, f 2, f 3, f 4, .pointer (some ⟨q5, 0, none⟩), f 6, .pointer (some ⟨g, 0, none⟩), .int .u32 size, f 9, f 10, f 11, f 12, f 13, f 14, f 15, f 16, f 17, f 18, f 19, f 20, f 21, f 22, f 23, f 24, f 25, f 26, f 27, f 28, f 29, f 30, f 31, f 32, f 33, f 34, f 35, f 36, f 37, f 38, f 39, f 40, f 41, f 42, f 43, f 44, f 45, f 46, f 47, f 48, f 49, f 50, f 51, f 52, f 53, f 54, f 55, f 56, f 57, f 58, f 59, f 60, f 61, f 62, f 63, f 64, f 65, f 66, f 67, f 68, f 69, f 70, f 71, f 72, f 73, f 74, f 75, f 76, f 77, f 78, f 79, f 80, f 81, f 82, f 83, f 84, f 85, f 86, f 87, f 88, f 89, f 90, f 91, f 92, f 93, f 94, f 95, f 96, f 97, f 98, f 99, f 100, f 101, f 102, f 103, f 104, f 105, f 106, f 107, f 108, f 109, f 110, f 111, f 112, f 113, f 114, f 115, f 116, f 117, f 118, f 119, f 120, f 121, f 122, f 123, f 124, f 125, f 126, f 127, f 128, f 129, f 130, f 131, f 132, f 133, f 134, f 135, f 136, f 137, f 138, f 139, f 140, f 141, f 142, f 143, f 144, f 145, f 146, f 147, f 148, f 149, f 150, f 151, f 152, f 153, f 154, f 155, f 156, f 157, f 158, f 159, f 160, f 161, f 162, f 163, f 164, f 165, f 166, f 167, f 168, f 169, f 170, f 171, f 172, f 173, f 174, f 175, f 176, f 177, f 178, f 179, f 180, f 181, f 182, f 183, f 184, f 185, f 186, f 187, f 188, f 189, f 190, f 191, f 192, f 193, f 194, f 195, f 196, f 197, f 198, f 199, f 200, f 201, f 202, f 203, f 204, f 205, f 206, f 207, f 208, f 209, f 210, f 211, f 212, f 213, f 214, f 215, f 216, f 217, f 218, f 219, f 220, f 221, f 222, f 223, f 224, f 225, f 226, f 227, f 228, f 229, f 230, f 231, f 232, f 233, f 234, f 235, f 236, f 237, f 238, f 239, f 240, f 241, f 242, f 243, f 244, f 245, f 246, f 247, f 248, f 249, f 250, f 251, f 252, f 253, f 254, f 255, f 256, f 257, f 258, f 259, f 260, f 261, f 262, f 263, f 264, f 265, f 266, f 267, f 268, f 269, f 270, f 271, f 272, f 273, f 274, f 275, f 276, f 277, f 278, f 279, f 280], []⟩ wr := by
  obtain ⟨v, m, va, ask, hS, hal⟩ := hI.sh
  have hsz := hI.sz
  have hS2 := sh_reset hS hbd
  have hT2 := turn_reset hS.gB hS.ty (.int .u64 bad) (.slice none 0 0)
  have hx2 := hI.bx.turn hT2 (by decide)
  have hT3 := hI.tn.trans hT2
  have g0 := hS.tb.cell 64 (by omega)
  have f0 := hS.tb.frozen 64
  have g1 := (hS.tb.set_ 64 (.int .u64 bad)).cell 65 (by omega)
  have f1 := (hS.tb.set_ 64 (.int .u64 bad)).frozen 65
  simp only [shf, put, show ¬ 64 < 64 by omega, show ¬ 65 < 64 by omega, show ¬ 65 = 64 by omega, if_false, if_true] at g0 g1
  have hd9 : 1 < last.d := hd
  have hB := hT3.size
  obtain ⟨va2, hva2⟩ : ∃ u : Value, u = va := ⟨_, rfl⟩
  rw [← hva2] at g1
  clear hS hI hal hT2 hva2 hd
  conv => arg 2; whnf
  go_upto_region 22 with fail
  clear g0 g1 f0 f1
  generalize (wr.setCell ⟨g, 64, none⟩ (.int .u64 bad)).setCell ⟨g, 65, none⟩ (.slice none 0 0) = w2 at *
  have y0 := hx2.cell 0
  have y1 := hx2.cell 1
  have y2 := hx2.cell 2
  have y3 := hx2.cell 3
  simp only [List.getElem?_toArray, List.getElem?_cons_zero, List.getElem?_cons_succ] at y0 y1 y2 y3
  go_quiet (fail)
  have od : Only (fun _ => False) w2 (w2.drewN nq) := (Only.refl _ _).drewN nq
  have hS3 := hS2.only od
  have hx3 := hx2.only od (fun x => x)
  have hT4 := hT3.only od
  replace y0 : (w2.drewN nq).cell? ⟨q5, 0, none⟩ = _ := y0
  replace y1 : (w2.drewN nq).cell? ⟨q5, 1, none⟩ = _ := y1
  replace y2 : (w2.drewN nq).cell? ⟨q5, 2, none⟩ = _ := y2
  replace y3 : (w2.drewN nq).cell? ⟨q5, 3, none⟩ = _ := y3
  replace hB : w.heap.size ≤ (w2.drewN nq).heap.size := hB
  clear hS2 hx2 hT3 od
  generalize w2.drewN nq = w3 at *
  obtain ⟨ld, la, ln, lA, lc, lb⟩ := last
  simp only at hlr hlc hd9 hx3 y0 y1 y2 y3
  have hb0 : ((ld : Int) == 0) = false := beq_false_of_ne (by omega)
  have hb1 : ((ld : Int) == 1) = false := beq_false_of_ne (by omega)
  have hd1 : ld ≠ 1 := by omega
  have hC := trunc_any w.heap.size g v m bad (.slice none 0 0) [] size la w3 hS3 hB hsz (by decide)
  replace hC := Lib.hid hC
  replace hS3 := Lib.hid hS3
  replace hx3 := Lib.hid hx3
  replace hT4 := Lib.hid hT4
  replace hd1 := Lib.hid hd1
  go_wp2_with fail
  refine hC.out.mono ?_
  rintro r w4 hr
  rcases hr with ⟨e, he, rfl, ho⟩ | ⟨fr, rfl, hen, hr⟩
  · have he0 : (e == 0) = false := by rcases he with rfl | rfl <;> rfl
    have he1 : (e == 21) = false := by rcases he with rfl | rfl <;> rfl
    replace he := Lib.hid he
    have hk : AkW w.heap.size g q5 bad [] ⟨ld, la, ln, lA, lc, lb⟩ w4 := ⟨⟨v, m, _, (hS3.out.only ho)⟩, hx3.out.only ho (fun x => x)⟩
    have hn := only_nil (hT4.out.only ho)
    have z2 := (Blk.cell_only ho (a := ⟨q5, 2, none⟩) hx3.out.lt (fun x => x)).trans y2
    have z3 := (Blk.cell_only ho (a := ⟨q5, 3, none⟩) hx3.out.lt (fun x => x)).trans y3
    replace hk := Lib.hid hk
    replace hn := Lib.hid hn
    clear ho hS3 hx3 hT4 y0 y1 y2 y3 hC
    go_upto_region 35 with fail
    rename_i hK9
    exact as_chk0T w.heap.size g q5 bad _ _ _ _ _ _ _ ⟨ld, la, ln, lA, lc, lb⟩ w4 hk.out (.inr ⟨he.out, rfl, rfl⟩) _ rfl rfl rfl rfl rfl rfl _ Q hK9 fun tm w' h1 h2 h3 => hret tm w' h1 h2 (hn.out.trans h3)
  · have i1 : (fr : Int) ≤ 32768 := by omega
    have i3 : (0 : Int) ≤ (fr : Int) := by omega
    have hcl := cnt_le (fr := fr) hsz
    rcases hr with ⟨A, c9, L, rfl, hro⟩ | ⟨i9, hi9, rfl, hse, hd, hte⟩
    · by_cases hm : fr % 512 = 0
      · have hq0 : trA fr size (cnt fr size) = [] := List.eq_nil_iff_forall_not_mem.2 fun k hk => (trA_some hk (Nat.le_refl _)).1 hm
        have hb5 : ((fr : Int) % 512 == 0) = true := by rw [beq_iff_eq]; omega
        obtain ⟨va4, hs4⟩ := hro.sh
        have hs5 : Sh w.heap.size g v m bad va4 [] w4 := by
          have e : [] ++ (trK m bad fr size).A (cnt fr size) = [] := hq0
          rw [e] at hs4
          exact hs4
        have ht4 := hro.tn
        have hk : AkW w.heap.size g q5 bad [] ⟨ld, fr, ln, lA, lc, lb⟩ w4 := ⟨⟨v, m, va4, hs5⟩, hx3.out.turn ht4 (by decide)⟩
        have hn := only_nil (hT4.out.trans ht4)
        replace hk := Lib.hid hk
        replace hn := Lib.hid hn
        clear hro hs4 hs5 hq0 ht4 hS3 hx3 hT4 y0 y1 y2 y3 hC
        go_upto_region 35 with fail
        rename_i hK9
        exact as_chk0T w.heap.size g q5 bad _ _ _ _ _ _ _ ⟨ld, fr, ln, lA, lc, lb⟩ w4 hk.out (.inl rfl) _ rfl rfl rfl rfl rfl rfl _ Q hK9 fun tm w' h1 h2 h3 => hret tm w' h1 h2 (hn.out.trans h3)
      · have hb5 : ((fr : Int) % 512 == 0) = false := beq_false_of_ne (by omega)
        by_cases hm2 : fr < size
        · have i5 : (fr : Int) < (size : Int) := by omega
          obtain ⟨va4, hs4⟩ := hro.sh
          rw [List.nil_append] at hs4
          have ht4 := hro.tn
          have hk : AkW w.heap.size g q5 bad (trA fr size (cnt fr size)) ⟨ld, fr, ln, lA, lc, lb⟩ w4 := ⟨⟨v, m, va4, hs4⟩, hx3.out.turn ht4 (by decide)⟩
          have hn := only_nil (hT4.out.trans ht4)
          have z0 := hk.bx.cell 0
          have z2 := hk.bx.cell 2
          have z3 := hk.bx.cell 3
          simp only [List.getElem?_toArray, List.getElem?_cons_zero, List.getElem?_cons_succ] at z0 z2 z3
          have hlq : (trA fr size (cnt fr size)).length ≤ 100 := (by have := trA_len fr size (cnt fr size); omega)
          have hak : AskN ld (fr) (fr + 1) (trA fr size (cnt fr size)) := trA_ok hd1.out (Nat.le_refl _) hsz hen
          have hany : (trA fr size (cnt fr size)).any (isBad bad) = false := tr_noBad hro.nb
          generalize trA fr size (cnt fr size) = qs9 at *
          replace hk := Lib.hid hk
          replace hn := Lib.hid hn
          replace hak := Lib.hid hak
          replace hany := Lib.hid hany
          replace hlq := Lib.hid hlq
          clear hro
          clear hs4 ht4 hS3 hx3 hT4 y0 y1 y2 y3 hC
          go_upto_region 35 with fail
          rename_i hK9
          exact as_chkT w.heap.size g q5 bad _ _ _ _ _ _ _ (fr) (fr + 1) qs9 ⟨ld, fr, ln, lA, lc, lb⟩ w4 hlq.out (fun _ => hak.out) hk.out (.inl ⟨rfl, hany.out⟩) _ rfl rfl rfl rfl rfl rfl rfl rfl (by show Value.int IntKind.i64 ((fr : Int) + 1) = _; congr 1) _ Q hK9 fun tm w' h1 h2 h3 => hret tm w' h1 h2 (hn.out.trans h3)
        · have i5 : ¬ (fr : Int) < (size : Int) := by omega
          have hq0 : trA fr size (cnt fr size) = [] := List.eq_nil_iff_forall_not_mem.2 fun k hk => hm2 (trA_some hk (Nat.le_refl _)).2
          obtain ⟨va4, hs4⟩ := hro.sh
          have hs5 : Sh w.heap.size g v m bad va4 [] w4 := by
            have e : [] ++ (trK m bad fr size).A (cnt fr size) = [] := hq0
            rw [e] at hs4
            exact hs4
          have ht4 := hro.tn
          have hk : AkW w.heap.size g q5 bad [] ⟨ld, fr, ln, lA, lc, lb⟩ w4 := ⟨⟨v, m, va4, hs5⟩, hx3.out.turn ht4 (by decide)⟩
          have hn := only_nil (hT4.out.trans ht4)
          replace hk := Lib.hid hk
          replace hn := Lib.hid hn
          clear hro hs4 hs5 hq0 ht4 hS3 hx3 hT4 y0 y1 y2 y3 hC
          go_upto_region 35 with fail
          rename_i hK9
          exact as_chk0T w.heap.size g q5 bad _ _ _ _ _ _ _ ⟨ld, fr, ln, lA, lc, lb⟩ w4 hk.out (.inl rfl) _ rfl rfl rfl rfl rfl rfl _ Q hK9 fun tm w' h1 h2 h3 => hret tm w' h1 h2 (hn.out.trans h3)
    · obtain ⟨va4, hs4⟩ := hse
      rw [List.nil_append] at hs4
      have ht4 := hte
      have hk : AkW w.heap.size g q5 bad (trA fr size i9) ⟨ld, fr, ln, lA, lc, lb⟩ w4 := ⟨⟨v, m, va4, hs4⟩, hx3.out.turn ht4 (by decide)⟩
      have hn := only_nil (hT4.out.trans ht4)
      have z0 := hk.bx.cell 0
      have z2 := hk.bx.cell 2
      have z3 := hk.bx.cell 3
      simp only [List.getElem?_toArray, List.getElem?_cons_zero, List.getElem?_cons_succ] at z0 z2 z3
      have hlq : (trA fr size i9).length ≤ 100 := (by have := trA_len fr size i9; omega)
      have hak : AskN ld (fr) (fr + 1) (trA fr size i9) := trA_ok hd1.out hi9 hsz hen
      have hany : (trA fr size i9).any (isBad bad) = true := tr_bad hd
      generalize trA fr size i9 = qs9 at *
      replace hk := Lib.hid hk
      replace hn := Lib.hid hn
      replace hak := Lib.hid hak
      replace hany := Lib.hid hany
      replace hlq := Lib.hid hlq
      clear hd
      clear hs4 ht4 hS3 hx3 hT4 y0 y1 y2 y3 hC
      go_upto_region 35 with fail
      rename_i hK9
      exact as_chkT w.heap.size g q5 bad _ _ _ _ _ _ _ (fr) (fr + 1) qs9 ⟨ld, fr, ln, lA, lc, lb⟩ w4 hlq.out (fun _ => hak.out) hk.out (.inr ⟨.inl ⟨rfl, hany.out⟩, rfl, rfl⟩) _ rfl rfl rfl rfl rfl rfl rfl rfl (by show Value.int IntKind.i64 ((fr : Int) + 1) = _; congr 1) _ Q hK9 fun tm w' h1 h2 h3 => hret tm w' h1 h2 (hn.out.trans h3)
end Go.Proofs.Ytpkadhgoaaphkaa
