/-
  The law ContentAsks (func 3): what holds ahead of a round of its second loop; the rounds.
-/
import Derived.Test.YtpkadhgoaaphkaaAs1
import Derived.StillTailTactics
namespace Go.Proofs.Ytpkadhgoaaphkaa
open Go Go.RowKit Go.Shelf
set_option linter.unusedVariables false

/-- What holds ahead of round i of the check. -/
structure AkI (B g q5 bad : Nat) (A13 A14 : Option Addr) (n13 c13 n14 c14 : Nat) (e : Int) (fr t : Nat) (qs : List Nat) (last : Ac) (w0 : World) (i : Nat) (a : Act) (w' : World) : Prop where
  size : a.tmps.size = 281
  defs : a.defers = []
  s1 : a.tmps.getD 1 undef = .int .u64 bad
  s5 : a.tmps.getD 5 undef = .pointer (some ⟨q5, 0, none⟩)
  s7 : a.tmps.getD 7 undef = .pointer (some ⟨g, 0, none⟩)
  s13 : a.tmps.getD 13 undef = .slice A13 n13 c13
  s14 : a.tmps.getD 14 undef = .slice A14 n14 c14
  s15 : a.tmps.getD 15 undef = .int .i64 e
  s16 : a.tmps.getD 16 undef = .int .i64 fr
  s17 : a.tmps.getD 17 undef = .int .i64 t
  s18 : a.tmps.getD 18 undef = .bool ((qs.take i).any (isBad bad))
  s19 : a.tmps.getD 19 undef = .int .i64 i
  le : i ≤ qs.length
  ho : Only (fun _ => False) w0 w'
/-- What the check looks at. -/
structure AkW (B g q5 bad : Nat) (qs : List Nat) (last : Ac) (w : World) : Prop where
  sh : ∃ v m va, Sh B g v m bad va qs w
  bx : Blk w q5 26 #[.int .u8 last.d, .int .i64 last.at_, .int .i64 last.n, .slice last.A last.b.length last.c]
theorem AkW.only {B g q5 bad : Nat} {qs : List Nat} {last : Ac} {w w' : World} (h : AkW B g q5 bad qs last w) (ho : Only (fun _ => False) w w') : AkW B g q5 bad qs last w' := by
  obtain ⟨v, m, va, hs⟩ := h.sh
  exact ⟨⟨v, m, va, hs.only ho⟩, h.bx.only ho (fun x => x)⟩
/-- The row of what was asked for. -/
theorem AkW.row {B g q5 bad : Nat} {qs : List Nat} {last : Ac} {w : World} (h : AkW B g q5 bad qs last w) : ∃ (A : Option Addr) (c : Nat), w.cell? ⟨g, 65, none⟩ = some (.slice A qs.length c) ∧ (∀ (i k : Nat), qs[i]? = some k → ∃ b o, A = some ⟨b, o, none⟩ ∧ b < w.heap.size ∧ ∀ (j l : Nat), qs[j]? = some l → w.cell? ⟨b, o + j, none⟩ = some (.int .u32 (l : Int))) := by
  obtain ⟨v, m, va, hs⟩ := h.sh
  obtain ⟨A, c, rfl, hr, _⟩ := row_form1 hs.ak
  refine ⟨A, c, by rw [hs.tb.cell 65 (by omega)]; rfl, fun i k hk => ?_⟩
  have hlt := (List.getElem?_eq_some_iff.1 hk).1
  obtain ⟨b, o, e, hb, hc⟩ := hr.2 (by omega)
  refine ⟨b, o, e, hb, fun j l hl => hc j _ ?_⟩
  unfold u32s
  rw [List.getElem?_map, hl]
  rfl
theorem any_take (qs : List Nat) (p : Nat → Bool) {i k : Nat} (h : qs[i]? = some k) : (qs.take (i + 1)).any p = ((qs.take i).any p || p k) := by
  rw [List.take_add_one, h, List.any_append]
  simp

set_option maxRecDepth 100000 in
set_option maxHeartbeats 4000000 in
theorem ak_00 (B g q5 bad : Nat) (A13 A14 : Option Addr) (n13 c13 n14 c14 : Nat) (e : Int) (fr t : Nat) (qs : List Nat) (last : Ac) (w0 : World) (wr : World) (i k : Nat) (hik : qs[i]? = some k) (hlen : qs.length ≤ 100) (hA : AskN last.d fr t qs) (f : Nat → Value) (fl : Bool) (hfl : (qs.take i).any (isBad bad) = fl)
    (hW : AkW B g q5 bad qs last wr) (ho : Only (fun _ => False) w0 wr) (hd : last.d ≠ 1) (hp : i = 0) (K : Act → World → Prop) (Q : Exit → Act → World → Prop) (hK : ∀ a w', AkI B g q5 bad A13 A14 n13 c13 n14 c14 e fr t qs last w0 (i + 1) a w' → K a w') :
    Code.wp Try.prog body37 (Exit.then K Q) ⟨#[f 0, .int .u64 bad, f 2, f 3, f 4, .pointer (some ⟨q5, 0, none⟩), f 6, .pointer (some ⟨g, 0, none⟩), f 8, f 9, f 10, f 11, f 12, .slice A13 n13 c13, .slice A14 n14 c14, .int .i64 e, .int .i64 fr, .int .i64 t, .bool fl, .int .i64 i, f 20, f 21, f 22, f 23, f 24, f 25, f 26, f 27, f 28, f 29, f 30, f 31, f 32, f 33, f 34, f 35, f 36, f 37, f 38, f 39, f 40, f 41, f 42, f 43, f 44, f 45, f 46, f 47, f 48, f 49, f 50, f 51, f 52, f 53, f 54, f 55, f 56, f 57, f 58, f 59, f 60, f 61, f 62, f 63, f 64, f 65, f 66, f 67, f 68, f 69, f 70, f 71, f 72, f 73, f 74, f 75, f 76, f 77, f 78, f 79, f 80, f 81, f 82, f 83, f 84, f 85, f 86, f 87, f 88, f 89, f 90, f 91, f 92, f 93, f 94, f 95, f 96, f 97, f 98, f 99, f 100, f 101, f 102, f 103, f 104, f 105, f 106, f 107, f 108, f 109, f 110, f 111, f 112, f 113, f 114, f 115, f 116, f 117, f 118, f 119, f 120, f 121, f 122, f 123, f 124, f 125, f 126, f 127, f 128, f 129, f 130, f 131, f 132, f 133, f 134, f 135, f 136, f 137, f 138, f 139, f 140, f 141, f 142, f 143, f 144, f 145, f 146, f 147, f 148, f 149, f 150, f 151, f 152, f 153, f 154, f 155, f 156, f 157, f 158, f 159, f 160, f 161, f 162, f 163, f 164, f 165, f 166, f 167, f 168, f 169, f 170, f 171, f 172, f 173, f 174, f 175, f 176, f 177, f 178, f 179, f 180, f 181, f 182, f 183, f 184, f 185, f 186, f 187, f 188, f 189, f 190, f 191, f 192, f 193, f 194, f 195, f 196, f 197, f 198, f 199, f 200, f 201, f 202, f 203, f 204, f 205, f 206, f 207, f 208, f 209, f 210, f 211, f 212, f 213, f 214, f 215, f 216, f 217, f 218, f 219, f 220, f 221, f 222, f 223, f 224, f 225, f 226, f 227, f 228, f 229, f 230, f 231, f 232, f 233, f 234, f 235, f 236, f 237, f 238, f 239, f 240, f 241, f 242, f 243, f 244, f 245, f 246, f 247, f 248, f 249, f 250, f 251, f 252, f 253, f 254, f 255, f 256, f 257, f 258, f 259, f 260, f 261, f 262, f 263, f 264, f 265, f 266, f 267, f 268, f 269, f 270, f 271, f 272, f 273, f 274, f 275, f 276, f 277, f 278, f 279, f 280], []⟩ wr := by
  have hlt := (List.getElem?_eq_some_iff.1 hik).1
  obtain ⟨z1, z2, z3, z4⟩ := hA.each k (List.mem_of_getElem? hik)
  have z5 := hA.lt
  obtain ⟨Ar, cr, c65, hrow⟩ := hW.row
  obtain ⟨b, o, rfl, hb, hc⟩ := hrow i k hik
  have ck := hc i k hik
  have d0 := hW.bx.cell 0
  simp only [List.getElem?_toArray, List.getElem?_cons_zero] at d0
  have i0 : (0 : Int) ≤ (i : Int) := by omega
  have i1 : (i : Int) < (qs.length : Int) := by omega
  have i2 : (i : Int) ≤ 100 := by omega
  have k0 : (0 : Int) ≤ (k : Int) := by omega
  have k1 : (k : Int) < 64 := by omega
  have k2 : ¬ (k : Int) < (fr : Int) / 512 := by omega
  have k3 : ¬ (t : Int) ≤ 512 * (k : Int) := by omega
  have k4 : (0 : Int) ≤ (fr : Int) := by omega
  have hany := any_take qs (isBad bad) hik
  rw [hfl] at hany
  have e1 : ((last.d : Int) == 1) = false := beq_false_of_ne (by omega)
  subst hp
  have i3 : ((0 : Nat) : Int) = 0 := rfl
  simp only [i3, Nat.add_zero] at *
  clear i3
  clear hc hrow hW hA hik z1 z2 z3 z4 z5
  replace ho := Lib.hid ho
  replace hany := Lib.hid hany
  replace hlt := Lib.hid hlt
  conv => arg 2; whnf
  go_upto_region 41 with fail
  go_quiet (fail)
  have ho2 : Only (fun _ => False) w0 (wr.drewN nq) := ho.out.drewN nq
  generalize wr.drewN nq = w2 at *
  replace ho2 := Lib.hid ho2
  cases fl with
  | true =>
    go_wp2
    exact ⟨rfl, rfl, rfl, rfl, rfl, rfl, rfl, rfl, rfl, rfl, by rw [hany.out]; rfl, by show Value.int IntKind.i64 _ = _; go_num, hlt.out, ho2.out⟩
  | false =>
    cases hb9 : isBad bad k with
    | true =>
      rw [hb9] at hany
      have hb2 : (bits BinOp.and IntKind.u64 ((bad : Int) / 2 ^ k) 1 == 1) = true := hb9
      clear hb9
      go_wp2
      exact ⟨rfl, rfl, rfl, rfl, rfl, rfl, rfl, rfl, rfl, rfl, by rw [hany.out]; rfl, by show Value.int IntKind.i64 _ = _; go_num, hlt.out, ho2.out⟩
    | false =>
      rw [hb9] at hany
      have hb2 : (bits BinOp.and IntKind.u64 ((bad : Int) / 2 ^ k) 1 == 1) = false := hb9
      clear hb9
      go_wp2
      exact ⟨rfl, rfl, rfl, rfl, rfl, rfl, rfl, rfl, rfl, rfl, by rw [hany.out]; rfl, by show Value.int IntKind.i64 _ = _; go_num, hlt.out, ho2.out⟩

set_option maxRecDepth 100000 in
set_option maxHeartbeats 4000000 in
theorem ak_01 (B g q5 bad : Nat) (A13 A14 : Option Addr) (n13 c13 n14 c14 : Nat) (e : Int) (fr t : Nat) (qs : List Nat) (last : Ac) (w0 : World) (wr : World) (i k : Nat) (hik : qs[i]? = some k) (hlen : qs.length ≤ 100) (hA : AskN last.d fr t qs) (f : Nat → Value) (fl : Bool) (hfl : (qs.take i).any (isBad bad) = fl)
    (hW : AkW B g q5 bad qs last wr) (ho : Only (fun _ => False) w0 wr) (hd : last.d ≠ 1) (hp : 0 < i) (K : Act → World → Prop) (Q : Exit → Act → World → Prop) (hK : ∀ a w', AkI B g q5 bad A13 A14 n13 c13 n14 c14 e fr t qs last w0 (i + 1) a w' → K a w') :
    Code.wp Try.prog body37 (Exit.then K Q) ⟨#[f 0, .int .u64 bad, f 2, f 3, f 4, .pointer (some ⟨q5, 0, none⟩), f 6, .pointer (some ⟨g, 0, none⟩), f 8, f 9, f 10, f 11, f 12, .slice A13 n13 c13, .slice A14 n14 c14, .int .i64 e, .int .i64 fr, .int .i64 t, .bool fl, .int .i64 i, f 20, f 21, f 22, f 23, f 24, f 25, f 26, f 27, f 28, f 29, f 30, f 31, f 32, f 33, f 34, f 35, f 36, f 37, f 38, f 39, f 40, f 41, f 42, f 43, f 44, f 45, f 46, f 47, f 48, f 49, f 50, f 51, f 52, f 53, f 54, f 55, f 56, f 57, f 58, f 59, f 60, f 61, f 62, f 63, f 64, f 65, f 66, f 67, f 68, f 69, f 70, f 71, f 72, f 73, f 74, f 75, f 76, f 77, f 78, f 79, f 80, f 81, f 82, f 83, f 84, f 85, f 86, f 87, f 88, f 89, f 90, f 91, f 92, f 93, f 94, f 95, f 96, f 97, f 98, f 99, f 100, f 101, f 102, f 103, f 104, f 105, f 106, f 107, f 108, f 109, f 110, f 111, f 112, f 113, f 114, f 115, f 116, f 117, f 118, f 119, f 120, f 121, f 122, f 123, f 124, f 125, f 126, f 127, f 128, f 129, f 130, f 131, f 132, f 133, f 134, f 135, f 136, f 137, f 138, f 139, f 140, f 141, f 142, f 143, f 144, f 145, f 146, f 147, f 148, f 149, f 150, f 151, f 152, f 153, f 154, f 155, f 156, f 157, f 158, f 159, f 160, f 161, f 162, f 163, f 164, f 165, f 166, f 167, f 168, f 169, f 170, f 171, f 172, f 173, f 174, f 175, f 176, f 177, f 178, f 179, f 180, f 181, f 182, f 183, f 184, f 185, f 186, f 187, f 188, f 189, f 190, f 191, f 192, f 193, f 194, f 195, f 196, f 197, f 198, f 199, f 200, f 201, f 202, f 203, f 204, f 205, f 206, f 207, f 208, f 209, f 210, f 211, f 212, f 213, f 214, f 215, f 216, f 217, f 218, f 219, f 220, f 221, f 222, f 223, f 224, f 225, f 226, f 227, f 228, f 229, f 230, f 231, f 232, f 233, f 234, f 235, f 236, f 237, f 238, f 239, f 240, f 241, f 242, f 243, f 244, f 245, f 246, f 247, f 248, f 249, f 250, f 251, f 252, f 253, f 254, f 255, f 256, f 257, f 258, f 259, f 260, f 261, f 262, f 263, f 264, f 265, f 266, f 267, f 268, f 269, f 270, f 271, f 272, f 273, f 274, f 275, f 276, f 277, f 278, f 279, f 280], []⟩ wr := by
  have hlt := (List.getElem?_eq_some_iff.1 hik).1
  obtain ⟨z1, z2, z3, z4⟩ := hA.each k (List.mem_of_getElem? hik)
  have z5 := hA.lt
  obtain ⟨Ar, cr, c65, hrow⟩ := hW.row
  obtain ⟨b, o, rfl, hb, hc⟩ := hrow i k hik
  have ck := hc i k hik
  have d0 := hW.bx.cell 0
  simp only [List.getElem?_toArray, List.getElem?_cons_zero] at d0
  have i0 : (0 : Int) ≤ (i : Int) := by omega
  have i1 : (i : Int) < (qs.length : Int) := by omega
  have i2 : (i : Int) ≤ 100 := by omega
  have k0 : (0 : Int) ≤ (k : Int) := by omega
  have k1 : (k : Int) < 64 := by omega
  have k2 : ¬ (k : Int) < (fr : Int) / 512 := by omega
  have k3 : ¬ (t : Int) ≤ 512 * (k : Int) := by omega
  have k4 : (0 : Int) ≤ (fr : Int) := by omega
  have hany := any_take qs (isBad bad) hik
  rw [hfl] at hany
  have e1 : ((last.d : Int) == 1) = false := beq_false_of_ne (by omega)
  obtain ⟨p, hp⟩ : ∃ p, qs[i - 1]? = some p := ⟨_, List.getElem?_eq_getElem (by omega)⟩
  have hpk := ris_at hA.ris hp (by rw [show i - 1 + 1 = i by omega]; exact hik)
  have cp := hc (i - 1) p hp
  have i3 : (0 : Int) < (i : Int) := by omega
  have i4 : (0 : Int) ≤ (i : Int) - 1 := by omega
  have i5 : (i : Int) - 1 < (qs.length : Int) := by omega
  have i6 : ((i : Int) - 1).toNat = i - 1 := by omega
  have i7 : ¬ (k : Int) ≤ (p : Int) := by omega
  clear hpk hp
  clear hc hrow hW hA hik z1 z2 z3 z4 z5
  replace ho := Lib.hid ho
  replace hany := Lib.hid hany
  replace hlt := Lib.hid hlt
  conv => arg 2; whnf
  go_upto_region 41 with fail
  go_quiet (fail)
  have ho2 : Only (fun _ => False) w0 (wr.drewN nq) := ho.out.drewN nq
  generalize wr.drewN nq = w2 at *
  replace ho2 := Lib.hid ho2
  cases fl with
  | true =>
    go_wp2
    exact ⟨rfl, rfl, rfl, rfl, rfl, rfl, rfl, rfl, rfl, rfl, by rw [hany.out]; rfl, by show Value.int IntKind.i64 _ = _; go_num, hlt.out, ho2.out⟩
  | false =>
    cases hb9 : isBad bad k with
    | true =>
      rw [hb9] at hany
      have hb2 : (bits BinOp.and IntKind.u64 ((bad : Int) / 2 ^ k) 1 == 1) = true := hb9
      clear hb9
      go_wp2
      exact ⟨rfl, rfl, rfl, rfl, rfl, rfl, rfl, rfl, rfl, rfl, by rw [hany.out]; rfl, by show Value.int IntKind.i64 _ = _; go_num, hlt.out, ho2.out⟩
    | false =>
      rw [hb9] at hany
      have hb2 : (bits BinOp.and IntKind.u64 ((bad : Int) / 2 ^ k) 1 == 1) = false := hb9
      clear hb9
      go_wp2
      exact ⟨rfl, rfl, rfl, rfl, rfl, rfl, rfl, rfl, rfl, rfl, by rw [hany.out]; rfl, by show Value.int IntKind.i64 _ = _; go_num, hlt.out, ho2.out⟩

set_option maxRecDepth 100000 in
set_option maxHeartbeats 4000000 in
theorem ak_10 (B g q5 bad : Nat) (A13 A14 : Option Addr) (n13 c13 n14 c14 : Nat) (e : Int) (fr t : Nat) (qs : List Nat) (last : Ac) (w0 : World) (wr : World) (i k : Nat) (hik : qs[i]? = some k) (hlen : qs.length ≤ 100) (hA : AskN last.d fr t qs) (f : Nat → Value) (fl : Bool) (hfl : (qs.take i).any (isBad bad) = fl)
    (hW : AkW B g q5 bad qs last wr) (ho : Only (fun _ => False) w0 wr) (hd : last.d = 1) (hq : ¬ fr ≤ 512 * k) (hp : i = 0) (K : Act → World → Prop) (Q : Exit → Act → World → Prop) (hK : ∀ a w', AkI B g q5 bad A13 A14 n13 c13 n14 c14 e fr t qs last w0 (i + 1) a w' → K a w') :
    Code.wp Try.prog body37 (Exit.then K Q) ⟨#[f 0, .int .u64 bad, f 2, f 3, f 4, .pointer (some ⟨q5, 0, none⟩), f 6, .pointer (some ⟨g, 0, none⟩), f 8, f 9, f 10, f 11, f 12, .slice A13 n13 c13, .slice A14 n14 c14, .int .i64 e, .int .i64 fr, .int .i64 t, .bool fl, .int .i64 i, f 20, f 21, f 22, f 23, f 24, f 25, f 26, f 27, f 28, f 29, f 30, f 31, f 32, f 33, f 34, f 35, f 36, f 37, f 38, f 39, f 40, f 41, f 42, f 43, f 44, f 45, f 46, f 47, f 48, f 49, f 50, f 51, f 52, f 53, f 54, f 55, f 56, f 57, f 58, f 59, f 60, f 61, f 62, f 63, f 64, f 65, f 66, f 67, f 68, f 69, f 70, f 71, f 72, f 73, f 74, f 75, f 76, f 77, f 78, f 79, f 80, f 81, f 82, f 83, f 84, f 85, f 86, f 87, f 88, f 89, f 90, f 91, f 92, f 93, f 94, f 95, f 96, f 97, f 98, f 99, f 100, f 101, f 102, f 103, f 104, f 105, f 106, f 107, f 108, f 109, f 110, f 111, f 112, f 113, f 114, f 115, f 116, f 117, f 118, f 119, f 120, f 121, f 122, f 123, f 124, f 125, f 126, f 127, f 128, f 129, f 130, f 131, f 132, f 133, f 134, f 135, f 136, f 137, f 138, f 139, f 140, f 141, f 142, f 143, f 144, f 145, f 146, f 147, f 148, f 149, f 150, f 151, f 152, f 153, f 154, f 155, f 156, f 157, f 158, f 159, f 160, f 161, f 162, f 163, f 164, f 165, f 166, f 167, f 168, f 169, f 170, f 171, f 172, f 173, f 174, f 175, f 176, f 177, f 178, f 179, f 180, f 181, f 182, f 183, f 184, f 185, f 186, f 187, f 188, f 189, f 190, f 191, f 192, f 193, f 194, f 195, f 196, f 197, f 198, f 199, f 200, f 201, f 202, f 203, f 204, f 205, f 206, f 207, f 208, f 209, f 210, f 211, f 212, f 213, f 214, f 215, f 216, f 217, f 218, f 219, f 220, f 221, f 222, f 223, f 224, f 225, f 226, f 227, f 228, f 229, f 230, f 231, f 232, f 233, f 234, f 235, f 236, f 237, f 238, f 239, f 240, f 241, f 242, f 243, f 244, f 245, f 246, f 247, f 248, f 249, f 250, f 251, f 252, f 253, f 254, f 255, f 256, f 257, f 258, f 259, f 260, f 261, f 262, f 263, f 264, f 265, f 266, f 267, f 268, f 269, f 270, f 271, f 272, f 273, f 274, f 275, f 276, f 277, f 278, f 279, f 280], []⟩ wr := by
  have hlt := (List.getElem?_eq_some_iff.1 hik).1
  obtain ⟨z1, z2, z3, z4⟩ := hA.each k (List.mem_of_getElem? hik)
  have z5 := hA.lt
  obtain ⟨Ar, cr, c65, hrow⟩ := hW.row
  obtain ⟨b, o, rfl, hb, hc⟩ := hrow i k hik
  have ck := hc i k hik
  have d0 := hW.bx.cell 0
  simp only [List.getElem?_toArray, List.getElem?_cons_zero] at d0
  have i0 : (0 : Int) ≤ (i : Int) := by omega
  have i1 : (i : Int) < (qs.length : Int) := by omega
  have i2 : (i : Int) ≤ 100 := by omega
  have k0 : (0 : Int) ≤ (k : Int) := by omega
  have k1 : (k : Int) < 64 := by omega
  have k2 : ¬ (k : Int) < (fr : Int) / 512 := by omega
  have k3 : ¬ (t : Int) ≤ 512 * (k : Int) := by omega
  have k4 : (0 : Int) ≤ (fr : Int) := by omega
  have hany := any_take qs (isBad bad) hik
  rw [hfl] at hany
  rw [hd] at d0
  have c0 : ((1 : Nat) : Int) = 1 := rfl
  simp only [c0] at d0
  clear c0
  have e1 : ¬ (fr : Int) ≤ 512 * (k : Int) := by omega
  subst hp
  have i3 : ((0 : Nat) : Int) = 0 := rfl
  simp only [i3, Nat.add_zero] at *
  clear i3
  clear hc hrow hW hA hik z1 z2 z3 z4 z5
  replace ho := Lib.hid ho
  replace hany := Lib.hid hany
  replace hlt := Lib.hid hlt
  conv => arg 2; whnf
  go_upto_region 41 with fail
  go_quiet (fail)
  have ho2 : Only (fun _ => False) w0 (wr.drewN nq) := ho.out.drewN nq
  generalize wr.drewN nq = w2 at *
  replace ho2 := Lib.hid ho2
  cases fl with
  | true =>
    go_wp2
    exact ⟨rfl, rfl, rfl, rfl, rfl, rfl, rfl, rfl, rfl, rfl, by rw [hany.out]; rfl, by show Value.int IntKind.i64 _ = _; go_num, hlt.out, ho2.out⟩
  | false =>
    cases hb9 : isBad bad k with
    | true =>
      rw [hb9] at hany
      have hb2 : (bits BinOp.and IntKind.u64 ((bad : Int) / 2 ^ k) 1 == 1) = true := hb9
      clear hb9
      go_wp2
      exact ⟨rfl, rfl, rfl, rfl, rfl, rfl, rfl, rfl, rfl, rfl, by rw [hany.out]; rfl, by show Value.int IntKind.i64 _ = _; go_num, hlt.out, ho2.out⟩
    | false =>
      rw [hb9] at hany
      have hb2 : (bits BinOp.and IntKind.u64 ((bad : Int) / 2 ^ k) 1 == 1) = false := hb9
      clear hb9
      go_wp2
      exact ⟨rfl, rfl, rfl, rfl, rfl, rfl, rfl, rfl, rfl, rfl, by rw [hany.out]; rfl, by show Value.int IntKind.i64 _ = _; go_num, hlt.out, ho2.out⟩

set_option maxRecDepth 100000 in
set_option maxHeartbeats 4000000 in
theorem ak_11 (B g q5 bad : Nat) (A13 A14 : Option Addr) (n13 c13 n14 c14 : Nat) (e : Int) (fr t : Nat) (qs : List Nat) (last : Ac) (w0 : World) (wr : World) (i k : Nat) (hik : qs[i]? = some k) (hlen : qs.length ≤ 100) (hA : AskN last.d fr t qs) (f : Nat → Value) (fl : Bool) (hfl : (qs.take i).any (isBad bad) = fl)
    (hW : AkW B g q5 bad qs last wr) (ho : Only (fun _ => False) w0 wr) (hd : last.d = 1) (hq : ¬ fr ≤ 512 * k) (hp : 0 < i) (K : Act → World → Prop) (Q : Exit → Act → World → Prop) (hK : ∀ a w', AkI B g q5 bad A13 A14 n13 c13 n14 c14 e fr t qs last w0 (i + 1) a w' → K a w') :
    Code.wp Try.prog body37 (Exit.then K Q) ⟨#[f 0, .int .u64 bad, f 2, f 3, f 4, .pointer (some ⟨q5, 0, none⟩), f 6, .pointer (some ⟨g, 0, none⟩), f 8, f 9, f 10, f 11, f 12, .slice A13 n13 c13, .slice A14 n14 c14, .int .i64 e, .int .i64 fr, .int .i64 t, .bool fl, .int .i64 i, f 20, f 21, f 22, f 23, f 24, f 25, f 26, f 27, f 28, f 29, f 30, f 31, f 32, f 33, f 34, f 35, f 36, f 37, f 38, f 39, f 40, f 41, f 42, f 43, f 44, f 45, f 46, f 47, f 48, f 49, f 50, f 51, f 52, f 53, f 54, f 55, f 56, f 57, f 58, f 59, f 60, f 61, f 62, f 63, f 64, f 65, f 66, f 67, f 68, f 69, f 70, f 71, f 72, f 73, f 74, f 75, f 76, f 77, f 78, f 79, f 80, f 81, f 82, f 83, f 84, f 85, f 86, f 87, f 88, f 89, f 90, f 91, f 92, f 93, f 94, f 95, f 96, f 97, f 98, f 99, f 100, f 101, f 102, f 103, f 104, f 105, f 106, f 107, f 108, f 109, f 110, f 111, f 112, f 113, f 114, f 115, f 116, f 117, f 118, f 119, f 120, f 121, f 122, f 123, f 124, f 125, f 126, f 127, f 128, f 129, f 130, f 131, f 132, f 133, f 134, f 135, f 136, f 137, f 138, f 139, f 140, f 141, f 142, f 143, f 144, f 145, f 146, f 147, f 148, f 149, f 150, f 151, f 152, f 153, f 154, f 155, f 156, f 157, f 158, f 159, f 160, f 161, f 162, f 163, f 164, f 165, f 166, f 167, f 168, f 169, f 170, f 171, f 172, f 173, f 174, f 175, f 176, f 177, f 178, f 179, f 180, f 181, f 182, f 183, f 184, f 185, f 186, f 187, f 188, f 189, f 190, f 191, f 192, f 193, f 194, f 195, f 196, f 197, f 198, f 199, f 200, f 201, f 202, f 203, f 204, f 205, f 206, f 207, f 208, f 209, f 210, f 211, f 212, f 213, f 214, f 215, f 216, f 217, f 218, f 219, f 220, f 221, f 222, f 223, f 224, f 225, f 226, f 227, f 228, f 229, f 230, f 231, f 232, f 233, f 234, f 235, f 236, f 237, f 238, f 239, f 240, f 241, f 242, f 243, f 244, f 245, f 246, f 247, f 248, f 249, f 250, f 251, f 252, f 253, f 254, f 255, f 256, f 257, f 258, f 259, f 260, f 261, f 262, f 263, f 264, f 265, f 266, f 267, f 268, f 269, f 270, f 271, f 272, f 273, f 274, f 275, f 276, f 277, f 278, f 279, f 280], []⟩ wr := by
  have hlt := (List.getElem?_eq_some_iff.1 hik).1
  obtain ⟨z1, z2, z3, z4⟩ := hA.each k (List.mem_of_getElem? hik)
  have z5 := hA.lt
  obtain ⟨Ar, cr, c65, hrow⟩ := hW.row
  obtain ⟨b, o, rfl, hb, hc⟩ := hrow i k hik
  have ck := hc i k hik
  have d0 := hW.bx.cell 0
  simp only [List.getElem?_toArray, List.getElem?_cons_zero] at d0
  have i0 : (0 : Int) ≤ (i : Int) := by omega
  have i1 : (i : Int) < (qs.length : Int) := by omega
  have i2 : (i : Int) ≤ 100 := by omega
  have k0 : (0 : Int) ≤ (k : Int) := by omega
  have k1 : (k : Int) < 64 := by omega
  have k2 : ¬ (k : Int) < (fr : Int) / 512 := by omega
  have k3 : ¬ (t : Int) ≤ 512 * (k : Int) := by omega
  have k4 : (0 : Int) ≤ (fr : Int) := by omega
  have hany := any_take qs (isBad bad) hik
  rw [hfl] at hany
  rw [hd] at d0
  have c0 : ((1 : Nat) : Int) = 1 := rfl
  simp only [c0] at d0
  clear c0
  have e1 : ¬ (fr : Int) ≤ 512 * (k : Int) := by omega
  obtain ⟨p, hp⟩ : ∃ p, qs[i - 1]? = some p := ⟨_, List.getElem?_eq_getElem (by omega)⟩
  have hpk := ris_at hA.ris hp (by rw [show i - 1 + 1 = i by omega]; exact hik)
  have cp := hc (i - 1) p hp
  have i3 : (0 : Int) < (i : Int) := by omega
  have i4 : (0 : Int) ≤ (i : Int) - 1 := by omega
  have i5 : (i : Int) - 1 < (qs.length : Int) := by omega
  have i6 : ((i : Int) - 1).toNat = i - 1 := by omega
  have i7 : ¬ (k : Int) ≤ (p : Int) := by omega
  clear hpk hp
  clear hc hrow hW hA hik z1 z2 z3 z4 z5
  replace ho := Lib.hid ho
  replace hany := Lib.hid hany
  replace hlt := Lib.hid hlt
  conv => arg 2; whnf
  go_upto_region 41 with fail
  go_quiet (fail)
  have ho2 : Only (fun _ => False) w0 (wr.drewN nq) := ho.out.drewN nq
  generalize wr.drewN nq = w2 at *
  replace ho2 := Lib.hid ho2
  cases fl with
  | true =>
    go_wp2
    exact ⟨rfl, rfl, rfl, rfl, rfl, rfl, rfl, rfl, rfl, rfl, by rw [hany.out]; rfl, by show Value.int IntKind.i64 _ = _; go_num, hlt.out, ho2.out⟩
  | false =>
    cases hb9 : isBad bad k with
    | true =>
      rw [hb9] at hany
      have hb2 : (bits BinOp.and IntKind.u64 ((bad : Int) / 2 ^ k) 1 == 1) = true := hb9
      clear hb9
      go_wp2
      exact ⟨rfl, rfl, rfl, rfl, rfl, rfl, rfl, rfl, rfl, rfl, by rw [hany.out]; rfl, by show Value.int IntKind.i64 _ = _; go_num, hlt.out, ho2.out⟩
    | false =>
      rw [hb9] at hany
      have hb2 : (bits BinOp.and IntKind.u64 ((bad : Int) / 2 ^ k) 1 == 1) = false := hb9
      clear hb9
      go_wp2
      exact ⟨rfl, rfl, rfl, rfl, rfl, rfl, rfl, rfl, rfl, rfl, by rw [hany.out]; rfl, by show Value.int IntKind.i64 _ = _; go_num, hlt.out, ho2.out⟩

set_option maxRecDepth 100000 in
set_option maxHeartbeats 4000000 in
theorem ak_20 (B g q5 bad : Nat) (A13 A14 : Option Addr) (n13 c13 n14 c14 : Nat) (e : Int) (fr t : Nat) (qs : List Nat) (last : Ac) (w0 : World) (wr : World) (i k : Nat) (hik : qs[i]? = some k) (hlen : qs.length ≤ 100) (hA : AskN last.d fr t qs) (f : Nat → Value) (fl : Bool) (hfl : (qs.take i).any (isBad bad) = fl)
    (hW : AkW B g q5 bad qs last wr) (ho : Only (fun _ => False) w0 wr) (hd : last.d = 1) (hq : fr ≤ 512 * k) (hp : i = 0) (K : Act → World → Prop) (Q : Exit → Act → World → Prop) (hK : ∀ a w', AkI B g q5 bad A13 A14 n13 c13 n14 c14 e fr t qs last w0 (i + 1) a w' → K a w') :
    Code.wp Try.prog body37 (Exit.then K Q) ⟨#[f 0, .int .u64 bad, f 2, f 3, f 4, .pointer (some ⟨q5, 0, none⟩), f 6, .pointer (some ⟨g, 0, none⟩), f 8, f 9, f 10, f 11, f 12, .slice A13 n13 c13, .slice A14 n14 c14, .int .i64 e, .int .i64 fr, .int .i64 t, .bool fl, .int .i64 i, f 20, f 21, f 22, f 23, f 24, f 25, f 26, f 27, f 28, f 29, f 30, f 31, f 32, f 33, f 34, f 35, f 36, f 37, f 38, f 39, f 40, f 41, f 42, f 43, f 44, f 45, f 46, f 47, f 48, f 49, f 50, f 51, f 52, f 53, f 54, f 55, f 56, f 57, f 58, f 59, f 60, f 61, f 62, f 63, f 64, f 65, f 66, f 67, f 68, f 69, f 70, f 71, f 72, f 73, f 74, f 75, f 76, f 77, f 78, f 79, f 80, f 81, f 82, f 83, f 84, f 85, f 86, f 87, f 88, f 89, f 90, f 91, f 92, f 93, f 94, f 95, f 96, f 97, f 98, f 99, f 100, f 101, f 102, f 103, f 104, f 105, f 106, f 107, f 108, f 109, f 110, f 111, f 112, f 113, f 114, f 115, f 116, f 117, f 118, f 119, f 120, f 121, f 122, f 123, f 124, f 125, f 126, f 127, f 128, f 129, f 130, f 131, f 132, f 133, f 134, f 135, f 136, f 137, f 138, f 139, f 140, f 141, f 142, f 143, f 144, f 145, f 146, f 147, f 148, f 149, f 150, f 151, f 152, f 153, f 154, f 155, f 156, f 157, f 158, f 159, f 160, f 161, f 162, f 163, f 164, f 165, f 166, f 167, f 168, f 169, f 170, f 171, f 172, f 173, f 174, f 175, f 176, f 177, f 178, f 179, f 180, f 181, f 182, f 183, f 184, f 185, f 186, f 187, f 188, f 189, f 190, f 191, f 192, f 193, f 194, f 195, f 196, f 197, f 198, f 199, f 200, f 201, f 202, f 203, f 204, f 205, f 206, f 207, f 208, f 209, f 210, f 211, f 212, f 213, f 214, f 215, f 216, f 217, f 218, f 219, f 220, f 221, f 222, f 223, f 224, f 225, f 226, f 227, f 228, f 229, f 230, f 231, f 232, f 233, f 234, f 235, f 236, f 237, f 238, f 239, f 240, f 241, f 242, f 243, f 244, f 245, f 246, f 247, f 248, f 249, f 250, f 251, f 252, f 253, f 254, f 255, f 256, f 257, f 258, f 259, f 260, f 261, f 262, f 263, f 264, f 265, f 266, f 267, f 268, f 269, f 270, f 271, f 272, f 273, f 274, f 275, f 276, f 277, f 278, f 279, f 280], []⟩ wr := by
  have hlt := (List.getElem?_eq_some_iff.1 hik).1
  obtain ⟨z1, z2, z3, z4⟩ := hA.each k (List.mem_of_getElem? hik)
  have z5 := hA.lt
  obtain ⟨Ar, cr, c65, hrow⟩ := hW.row
  obtain ⟨b, o, rfl, hb, hc⟩ := hrow i k hik
  have ck := hc i k hik
  have d0 := hW.bx.cell 0
  simp only [List.getElem?_toArray, List.getElem?_cons_zero] at d0
  have i0 : (0 : Int) ≤ (i : Int) := by omega
  have i1 : (i : Int) < (qs.length : Int) := by omega
  have i2 : (i : Int) ≤ 100 := by omega
  have k0 : (0 : Int) ≤ (k : Int) := by omega
  have k1 : (k : Int) < 64 := by omega
  have k2 : ¬ (k : Int) < (fr : Int) / 512 := by omega
  have k3 : ¬ (t : Int) ≤ 512 * (k : Int) := by omega
  have k4 : (0 : Int) ≤ (fr : Int) := by omega
  have hany := any_take qs (isBad bad) hik
  rw [hfl] at hany
  rw [hd] at d0
  have c0 : ((1 : Nat) : Int) = 1 := rfl
  simp only [c0] at d0
  clear c0
  have e1 : (fr : Int) ≤ 512 * (k : Int) := by omega
  have e2 : ¬ 512 * (k : Int) + 512 ≤ (t : Int) := fun h => z3 ⟨hd, by omega, by omega⟩
  subst hp
  have i3 : ((0 : Nat) : Int) = 0 := rfl
  simp only [i3, Nat.add_zero] at *
  clear i3
  clear hc hrow hW hA hik z1 z2 z3 z4 z5
  replace ho := Lib.hid ho
  replace hany := Lib.hid hany
  replace hlt := Lib.hid hlt
  conv => arg 2; whnf
  go_upto_region 41 with fail
  go_quiet (fail)
  have ho2 : Only (fun _ => False) w0 (wr.drewN nq) := ho.out.drewN nq
  generalize wr.drewN nq = w2 at *
  replace ho2 := Lib.hid ho2
  cases fl with
  | true =>
    go_wp2
    exact ⟨rfl, rfl, rfl, rfl, rfl, rfl, rfl, rfl, rfl, rfl, by rw [hany.out]; rfl, by show Value.int IntKind.i64 _ = _; go_num, hlt.out, ho2.out⟩
  | false =>
    cases hb9 : isBad bad k with
    | true =>
      rw [hb9] at hany
      have hb2 : (bits BinOp.and IntKind.u64 ((bad : Int) / 2 ^ k) 1 == 1) = true := hb9
      clear hb9
      go_wp2
      exact ⟨rfl, rfl, rfl, rfl, rfl, rfl, rfl, rfl, rfl, rfl, by rw [hany.out]; rfl, by show Value.int IntKind.i64 _ = _; go_num, hlt.out, ho2.out⟩
    | false =>
      rw [hb9] at hany
      have hb2 : (bits BinOp.and IntKind.u64 ((bad : Int) / 2 ^ k) 1 == 1) = false := hb9
      clear hb9
      go_wp2
      exact ⟨rfl, rfl, rfl, rfl, rfl, rfl, rfl, rfl, rfl, rfl, by rw [hany.out]; rfl, by show Value.int IntKind.i64 _ = _; go_num, hlt.out, ho2.out⟩

set_option maxRecDepth 100000 in
set_option maxHeartbeats 4000000 in
theorem ak_21 (B g q5 bad : Nat) (A13 A14 : Option Addr) (n13 c13 n14 c14 : Nat) (e : Int) (fr t : Nat) (qs : List Nat) (last : Ac) (w0 : World) (wr : World) (i k : Nat) (hik : qs[i]? = some k) (hlen : qs.length ≤ 100) (hA : AskN last.d fr t qs) (f : Nat → Value) (fl : Bool) (hfl : (qs.take i).any (isBad bad) = fl)
    (hW : AkW B g q5 bad qs last wr) (ho : Only (fun _ => False) w0 wr) (hd : last.d = 1) (hq : fr ≤ 512 * k) (hp : 0 < i) (K : Act → World → Prop) (Q : Exit → Act → World → Prop) (hK : ∀ a w', AkI B g q5 bad A13 A14 n13 c13 n14 c14 e fr t qs last w0 (i + 1) a w' → K a w') :
    Code.wp Try.prog body37 (Exit.then K Q) ⟨#[f 0, .int .u64 bad, f 2, f 3, f 4, .pointer (some ⟨q5, 0, none⟩), f 6, .pointer (some ⟨g, 0, none⟩), f 8, f 9, f 10, f 11, f 12, .slice A13 n13 c13, .slice A14 n14 c14, .int .i64 e, .int .i64 fr, .int .i64 t, .bool fl, .int .i64 i, f 20, f 21, f 22, f 23, f 24, f 25, f 26, f 27, f 28, f 29, f 30, f 31, f 32, f 33, f 34, f 35, f 36, f 37, f 38, f 39, f 40, f 41, f 42, f 43, f 44, f 45, f 46, f 47, f 48, f 49, f 50, f 51, f 52, f 53, f 54, f 55, f 56, f 57, f 58, f 59, f 60, f 61, f 62, f 63, f 64, f 65, f 66, f 67, f 68, f 69, f 70, f 71, f 72, f 73, f 74, f 75, f 76, f 77, f 78, f 79, f 80, f 81, f 82, f 83, f 84, f 85, f 86, f 87, f 88, f 89, f 90, f 91, f 92, f 93, f 94, f 95, f 96, f 97, f 98, f 99, f 100, f 101, f 102, f 103, f 104, f 105, f 106, f 107, f 108, f 109, f 110, f 111, f 112, f 113, f 114, f 115, f 116, f 117, f 118, f 119, f 120, f 121, f 122, f 123, f 124, f 125, f 126, f 127, f 128, f 129, f 130, f 131, f 132, f 133, f 134, f 135, f 136, f 137, f 138, f 139, f 140, f 141, f 142, f 143, f 144, f 145, f 146, f 147, f 148, f 149, f 150, f 151, f 152, f 153, f 154, f 155, f 156, f 157, f 158, f 159, f 160, f 161, f 162, f 163, f 164, f 165, f 166, f 167, f 168, f 169, f 170, f 171, f 172, f 173, f 174, f 175, f 176, f 177, f 178, f 179, f 180, f 181, f 182, f 183, f 184, f 185, f 186, f 187, f 188, f 189, f 190, f 191, f 192, f 193, f 194, f 195, f 196, f 197, f 198, f 199, f 200, f 201, f 202, f 203, f 204, f 205, f 206, f 207, f 208, f 209, f 210, f 211, f 212, f 213, f 214, f 215, f 216, f 217, f 218, f 219, f 220, f 221, f 222, f 223, f 224, f 225, f 226, f 227, f 228, f 229, f 230, f 231, f 232, f 233, f 234, f 235, f 236, f 237, f 238, f 239, f 240, f 241, f 242, f 243, f 244, f 245, f 246, f 247, f 248, f 249, f 250, f 251, f 252, f 253, f 254, f 255, f 256, f 257, f 258, f 259, f 260, f 261, f 262, f 263, f 264, f 265, f 266, f 267, f 268, f 269, f 270, f 271, f 272, f 273, f 274, f 275, f 276, f 277, f 278, f 279, f 280], []⟩ wr := by
  have hlt := (List.getElem?_eq_some_iff.1 hik).1
  obtain ⟨z1, z2, z3, z4⟩ := hA.each k (List.mem_of_getElem? hik)
  have z5 := hA.lt
  obtain ⟨Ar, cr, c65, hrow⟩ := hW.row
  obtain ⟨b, o, rfl, hb, hc⟩ := hrow i k hik
  have ck := hc i k hik
  have d0 := hW.bx.cell 0
  simp only [List.getElem?_toArray, List.getElem?_cons_zero] at d0
  have i0 : (0 : Int) ≤ (i : Int) := by omega
  have i1 : (i : Int) < (qs.length : Int) := by omega
  have i2 : (i : Int) ≤ 100 := by omega
  have k0 : (0 : Int) ≤ (k : Int) := by omega
  have k1 : (k : Int) < 64 := by omega
  have k2 : ¬ (k : Int) < (fr : Int) / 512 := by omega
  have k3 : ¬ (t : Int) ≤ 512 * (k : Int) := by omega
  have k4 : (0 : Int) ≤ (fr : Int) := by omega
  have hany := any_take qs (isBad bad) hik
  rw [hfl] at hany
  rw [hd] at d0
  have c0 : ((1 : Nat) : Int) = 1 := rfl
  simp only [c0] at d0
  clear c0
  have e1 : (fr : Int) ≤ 512 * (k : Int) := by omega
  have e2 : ¬ 512 * (k : Int) + 512 ≤ (t : Int) := fun h => z3 ⟨hd, by omega, by omega⟩
  obtain ⟨p, hp⟩ : ∃ p, qs[i - 1]? = some p := ⟨_, List.getElem?_eq_getElem (by omega)⟩
  have hpk := ris_at hA.ris hp (by rw [show i - 1 + 1 = i by omega]; exact hik)
  have cp := hc (i - 1) p hp
  have i3 : (0 : Int) < (i : Int) := by omega
  have i4 : (0 : Int) ≤ (i : Int) - 1 := by omega
  have i5 : (i : Int) - 1 < (qs.length : Int) := by omega
  have i6 : ((i : Int) - 1).toNat = i - 1 := by omega
  have i7 : ¬ (k : Int) ≤ (p : Int) := by omega
  clear hpk hp
  clear hc hrow hW hA hik z1 z2 z3 z4 z5
  replace ho := Lib.hid ho
  replace hany := Lib.hid hany
  replace hlt := Lib.hid hlt
  conv => arg 2; whnf
  go_upto_region 41 with fail
  go_quiet (fail)
  have ho2 : Only (fun _ => False) w0 (wr.drewN nq) := ho.out.drewN nq
  generalize wr.drewN nq = w2 at *
  replace ho2 := Lib.hid ho2
  cases fl with
  | true =>
    go_wp2
    exact ⟨rfl, rfl, rfl, rfl, rfl, rfl, rfl, rfl, rfl, rfl, by rw [hany.out]; rfl, by show Value.int IntKind.i64 _ = _; go_num, hlt.out, ho2.out⟩
  | false =>
    cases hb9 : isBad bad k with
    | true =>
      rw [hb9] at hany
      have hb2 : (bits BinOp.and IntKind.u64 ((bad : Int) / 2 ^ k) 1 == 1) = true := hb9
      clear hb9
      go_wp2
      exact ⟨rfl, rfl, rfl, rfl, rfl, rfl, rfl, rfl, rfl, rfl, by rw [hany.out]; rfl, by show Value.int IntKind.i64 _ = _; go_num, hlt.out, ho2.out⟩
    | false =>
      rw [hb9] at hany
      have hb2 : (bits BinOp.and IntKind.u64 ((bad : Int) / 2 ^ k) 1 == 1) = false := hb9
      clear hb9
      go_wp2
      exact ⟨rfl, rfl, rfl, rfl, rfl, rfl, rfl, rfl, rfl, rfl, by rw [hany.out]; rfl, by show Value.int IntKind.i64 _ = _; go_num, hlt.out, ho2.out⟩
end Go.Proofs.Ytpkadhgoaaphkaa
