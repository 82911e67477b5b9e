/-
  The reference walk by steps (func 58): what all its ways share.
  Ways of the reference walk (func 58).
  Ways of the reference walk (func 58).
  Ways of the reference walk (func 58).
  The reference walk (func 58), by its ways.
-/
import Derived.Test.YtnclappdokhciaaK6
import Derived.Test.YtnclappdokhciaaD10
import Derived.Test.YtnclappdokhciaaHeld
section
namespace Go.Proofs.Ytnclappdokhciaa
open Go Go.RowKit
set_option linter.unusedVariables false
/-- What goes tells. -/
def GoesPost (Ap : Option Addr) (R : Fnd × Int) (w : World) (r : Ending) (w' : World) : Prop :=
  ∃ Au cu, r = .returned (.tuple #[.agg (R.1.cells Au cu), .int .i64 R.2]) ∧ RowU w' Au R.1.up cu ∧ (∀ a, Au = some a → w.heap.size ≤ a.block ∨ ∃ b, Ap = some b ∧ a.block = b.block) ∧ Only (fun _ => False) w w'
def GoesAt (ts : List Thg) (A : Option Addr) (c : Nat) (follow : Bool) (f : Nat) : Prop :=
  ∀ (pl : List Nat) (ps : List ByteArray) (must : Bool) (links : Nat) (Ap : Option Addr) (cp : Nat) (Aq : Option Addr) (cq : Nat) (w : World), RowT w A ts c → RowU w Ap pl cp → RowS w Aq ps cq → 0 < pl.length → (∀ n ∈ pl, 1 ≤ n ∧ n < 65536) → pl.length + todo ps links ≤ 9900 → links ≤ 8 → todo ps links < f →
    Calls Try.prog 58 #[.slice A ts.length c, .slice Ap pl.length cp, .slice Aq ps.length cq, .bool must, .bool follow, .int .i64 links] w fun r w' => GoesPost Ap (goesF ts follow f pl ps must links) w r w'
/-- Where all lies under way. -/
structure GInv (ts : List Thg) (A : Option Addr) (c g0 : Nat) (w0 W : World) (pl : List Nat) (ps : List ByteArray) (Ap : Option Addr) (cp : Nat) (Aq : Option Addr) (cq : Nat) : Prop where
  bf : Blk W g0 52 #[.int .u16 0, .string ⟨#[]⟩, .int .u16 0, .int .u8 0, .bool false, .slice none 0 0]
  rt : RowT W A ts c
  rp : RowU W Ap pl cp
  rq : RowS W Aq ps cq
  ho : Only (fun _ => False) w0 W
  nw : g0 = w0.heap.size
  np : ∀ a, Ap = some a → ¬ a.block = g0 ∧ a.block < W.heap.size
section
variable {ts : List Thg} {A : Option Addr} {c g0 : Nat} {w0 W W' : World} {pl : List Nat} {ps : List ByteArray} {Ap : Option Addr} {cp : Nat} {Aq : Option Addr} {cq : Nat}
theorem RowU.blt (h : RowU W Ap pl cp) (h0 : 0 < pl.length) : ∀ a, Ap = some a → a.block < W.heap.size := fun a e => by
  obtain ⟨b, o, e1, hb, _⟩ := h.1.2 h0
  rw [e] at e1; cases e1; exact hb
theorem GInv.start (ht : RowT w0 A ts c) (hp : RowU w0 Ap pl cp) (hq : RowS w0 Aq ps cq) (h0 : 0 < pl.length) : GInv ts A c w0.heap.size w0 (w0.alloc (.cells #[.int .u16 0, .string ⟨#[]⟩, .int .u16 0, .int .u8 0, .bool false, .slice none 0 0] 52)) pl ps Ap cp Aq cq := by
  have oa := (Only.refl (fun _ => False) w0).alloc (.cells #[.int .u16 0, .string ⟨#[]⟩, .int .u16 0, .int .u8 0, .bool false, .slice none 0 0] 52)
  refine ⟨Blk.new _ _ _, ht.only oa (fun _ _ x => x), hp.only oa (fun _ _ x => x), hq.only oa (fun _ _ _ x => x), oa, rfl, fun a e => ?_⟩
  have := hp.blt h0 a e
  have := oa.size
  omega
theorem GInv.only (h : GInv ts A c g0 w0 W pl ps Ap cp Aq cq) (ho : Only (fun _ => False) W W') : GInv ts A c g0 w0 W' pl ps Ap cp Aq cq :=
  ⟨h.bf.only ho (fun x => x), h.rt.only ho (fun _ _ x => x), h.rp.only ho (fun _ _ x => x), h.rq.only ho (fun _ _ _ x => x), h.ho.trans ho, h.nw, fun a e => ⟨(h.np a e).1, by have := (h.np a e).2; have := ho.size; omega⟩⟩
end
theorem res58 (tm : Array Value) (W : World) (g : Nat) (cs : Array Value) (hcs : cs.size = 6) (e : Int) (h2 : tm.getD 12 undef = .pointer (some ⟨g, 0, none⟩)) (h3 : tm.getD 13 undef = .int .i64 e) (hb : Blk W g 52 cs) :
    (results Try.f58 tm).run Try.prog W = .ok (.tuple #[.agg cs, .int .i64 e]) W := by
  have hl := run_loadVar_row (P := Try.prog) W g 52 52 cs (0, 0) _ hb Try.underlying52 rfl (by rw [hcs]; kernel_rfl)
  unfold results
  rw [Try.results58]
  simp only [List.mapM_toArray, List.mapM_cons, List.mapM_nil, h2, h3]
  simp [asAddr, hl]
theorem RowS.rest8 {W : World} {b o cq : Nat} {part : ByteArray} {rest : List ByteArray} (h : RowS W (some ⟨b, o, none⟩) (part :: rest) cq) : RowS W (if cq = 1 then some ⟨b, o, none⟩ else some ⟨b, o + 1, none⟩) rest (cq - 1) := by
  have h1 := h.1.drop (k := 1) (cap := cq) (by simp) h.2.1
  have h2 := h.2.1
  simp only [List.length_cons] at h2
  simp only [List.length_cons, Nat.add_sub_cancel, strs, List.map_cons, List.drop_succ_cons, List.drop_zero, Option.map_some, add_lit] at h1
  refine ⟨h1, by omega, fun e => ?_⟩
  split at e <;> cases e
/-- Two appends to none. -/
theorem cat_s {w : World} {A1 A2 : Option Addr} {l1 l2 : List ByteArray} {c1 c2 : Nat} (h1 : RowS w A1 l1 c1) (h2 : RowS w A2 l2 c2) (hl : l1.length + l2.length ≤ 100000) :
    ∃ v1 w1 A9 c9 w2, (Builtin.append_ #[23, 23] 23 #[.slice none 0 0, .slice A1 l1.length c1]).run Try.prog w = .ok v1 w1 ∧ (Builtin.append_ #[23, 23] 23 #[v1, .slice A2 l2.length c2]).run Try.prog w1 = .ok (.slice A9 (l1 ++ l2).length c9) w2 ∧ RowS w2 A9 (l1 ++ l2) c9 ∧ Only (fun _ => False) w w1 ∧ Only (fun _ => False) w w2 := by
  obtain ⟨i, hi, hi0, hi1, hi2⟩ := info9
  obtain ⟨v1, w1, hr1, hown1, ho1⟩ := app_part (P := Try.prog) (t := 23) (e := 9) (size := 1) (bytes := 16) (World.ownsRow_nil w w.heap.size 9 1) (Only.refl _ _) und23 hi hi0 hi1 hi2 rfl (by omega) (by omega) ⟨A1, l1.length, c1, strs l1⟩ ⟨by rw [Nat.mul_one]; exact h1.1, h1.2.1, h1.2.2, strs_one _⟩ (by simp only; omega)
  have h3 := h2.only ho1 (fun _ _ _ x => x)
  rw [List.nil_append, Nat.zero_add] at hown1
  obtain ⟨v2, w2, hr2, hown2, ho2⟩ := app_part (P := Try.prog) (t := 23) (e := 9) (size := 1) (bytes := 16) hown1 ho1 und23 hi hi0 hi1 hi2 rfl (by omega) (by omega) ⟨A2, l2.length, c2, strs l2⟩ ⟨by rw [Nat.mul_one]; exact h3.1, h3.2.1, h3.2.2, strs_one _⟩ (by simp only; omega)
  obtain ⟨A9, c9, e, hr, hc, hA⟩ := row_form hown2
  subst e
  have e1 : strs l1 ++ strs l2 = strs (l1 ++ l2) := by simp [strs]
  simp only at hr hc hA hr1 hr2
  rw [e1] at hr
  rw [← List.length_append] at hr2 hr hc hA
  exact ⟨v1, w1, A9, c9, w2, hr1, hr2, ⟨hr, hc, hA⟩, ho1, ho2⟩
def upart (A : Option Addr) (c : Nat) (l : List Nat) : Part := ⟨A, l.length, c, u16s l⟩
theorem upart_ok {w : World} {A : Option Addr} {l : List Nat} {c : Nat} (h : RowU w A l c) : (upart A c l).ok w 1 := ⟨by simp only [upart, Nat.mul_one]; exact h.1, h.2.1, h.2.2, u16s_one l⟩
theorem push_a {w : World} {A : Option Addr} {l : List Nat} {c n : Nat} (h : RowU w A l c) (hl : l.length ≤ 10000) :
    ∃ v1 w1 A9 c9 w2, (Builtin.append_ #[47, 47] 47 #[.slice none 0 0, .slice A l.length c]).run Try.prog w = .ok v1 w1 ∧ (Builtin.append_ #[47, 47] 47 #[v1, .slice (some ⟨w1.heap.size, 0, none⟩) 1 1]).run Try.prog (w1.alloc (.cells #[.int .u16 n] 46)) = .ok (.slice A9 (l ++ [n]).length c9) w2 ∧ RowU w2 A9 (l ++ [n]) c9 ∧ Only (fun _ => False) w w1 ∧ Only (fun _ => False) w (w1.alloc (.cells #[.int .u16 n] 46)) ∧ Only (fun _ => False) w w2 ∧ Fr w.heap.size A9 := by
  obtain ⟨i, hi, hi0, hi1, hi2⟩ := info_of info46k
  obtain ⟨v1, w1, hr1, hown1, ho1⟩ := app_part (P := Try.prog) (t := 47) (e := 46) (size := 1) (bytes := 2) (World.ownsRow_nil w w.heap.size 46 1) (Only.refl _ _) und47 hi hi0 hi1 hi2 rfl (by omega) (by omega) (upart A c l) (upart_ok h) (by simp only [upart]; omega)
  have oa := (Only.refl (fun _ => False) w1).alloc (.cells #[.int .u16 (n : Int)] 46)
  have h3 := rowU_one (Blk.new w1 46 #[.int .u16 (n : Int)])
  have ho3 := ho1.trans oa
  obtain ⟨v2, w2, hr2, hown2, ho2⟩ := app_part (P := Try.prog) (t := 47) (e := 46) (size := 1) (bytes := 2) (row_only hown1 oa (fun _ _ x => x)) ho3 und47 hi hi0 hi1 hi2 rfl (by omega) (by omega) (upart (some ⟨w1.heap.size, 0, none⟩) 1 [n]) (upart_ok h3) (by simp only [upart, List.length_singleton]; omega)
  have e1 : [] ++ (upart A c l).xs ++ (upart (some ⟨w1.heap.size, 0, none⟩) 1 [n]).xs = u16s (l ++ [n]) := by rw [u16s_app]; rfl
  rw [e1] at hown2
  obtain ⟨e2, A9, c9, e, hr, hf⟩ := rowU_of hown2
  rw [e2] at e
  subst e
  exact ⟨v1, w1, A9, c9, w2, hr1, hr2, hr, ho1, ho3, ho2, hf⟩
theorem push_b {w : World} {A : Option Addr} {l : List Nat} {c n : Nat} (h : RowU w A l c) (hl : l.length ≤ 10000) :
    ∃ v1 w1 A9 c9 w2, (Builtin.append_ #[47, 47] 47 #[.slice none 0 0, .slice A l.length c]).run Try.prog (w.alloc (.cells #[.int .u16 n] 46)) = .ok v1 w1 ∧ (Builtin.append_ #[47, 47] 47 #[v1, .slice (some ⟨w.heap.size, 0, none⟩) 1 1]).run Try.prog w1 = .ok (.slice A9 (l ++ [n]).length c9) w2 ∧ RowU w2 A9 (l ++ [n]) c9 ∧ Only (fun _ => False) w (w.alloc (.cells #[.int .u16 n] 46)) ∧ Only (fun _ => False) w w1 ∧ Only (fun _ => False) w w2 ∧ Fr w.heap.size A9 := by
  obtain ⟨i, hi, hi0, hi1, hi2⟩ := info_of info46k
  have oa := (Only.refl (fun _ => False) w).alloc (.cells #[.int .u16 (n : Int)] 46)
  have h3 := rowU_one (Blk.new w 46 #[.int .u16 (n : Int)])
  obtain ⟨v1, w1, hr1, hown1, ho1⟩ := app_part (P := Try.prog) (t := 47) (e := 46) (size := 1) (bytes := 2) (w0 := w) (World.ownsRow_nil (w.alloc (.cells #[.int .u16 (n : Int)] 46)) w.heap.size 46 1) oa und47 hi hi0 hi1 hi2 rfl (by omega) (by omega) (upart A c l) (upart_ok (h.only oa (fun _ _ x => x))) (by simp only [upart]; omega)
  have o1 : Only (fun _ => False) (w.alloc (.cells #[.int .u16 (n : Int)] 46)) w1 := by
    obtain ⟨v', w', hr', _, ho'⟩ := app_part (P := Try.prog) (t := 47) (e := 46) (size := 1) (bytes := 2) (World.ownsRow_nil (w.alloc (.cells #[.int .u16 (n : Int)] 46)) _ 46 1) (Only.refl _ _) und47 hi hi0 hi1 hi2 rfl (by omega) (by omega) (upart A c l) (upart_ok (h.only oa (fun _ _ x => x))) (by simp only [upart]; omega)
    rw [hr1] at hr'
    cases hr'
    exact ho'
  obtain ⟨v2, w2, hr2, hown2, ho2⟩ := app_part (P := Try.prog) (t := 47) (e := 46) (size := 1) (bytes := 2) hown1 ho1 und47 hi hi0 hi1 hi2 rfl (by omega) (by omega) (upart (some ⟨w.heap.size, 0, none⟩) 1 [n]) (upart_ok (h3.only o1 (fun _ _ x => x))) (by simp only [upart, List.length_singleton]; omega)
  have e1 : [] ++ (upart A c l).xs ++ (upart (some ⟨w.heap.size, 0, none⟩) 1 [n]).xs = u16s (l ++ [n]) := by rw [u16s_app]; rfl
  rw [e1] at hown2
  obtain ⟨e2, A9, c9, e, hr, hf⟩ := rowU_of hown2
  rw [e2] at e
  subst e
  exact ⟨v1, w1, A9, c9, w2, hr1, hr2, hr, oa, ho1, ho2, hf⟩
/-- The store of a result into the result's cell. -/
theorem GInv.put {ts : List Thg} {A : Option Addr} {c g0 : Nat} {w0 W : World} {pl : List Nat} {ps : List ByteArray} {Ap : Option Addr} {cp : Nat} {Aq : Option Addr} {cq : Nat}
    (h : GInv ts A c g0 w0 W pl ps Ap cp Aq cq) {B : Option Addr} {d n k : Int} {s : ByteArray} {m : Bool} {l : List Nat} {cu : Nat} (hr : RowU W B l cu) (hB : ∀ a, B = some a → ¬ a.block = g0) :
    Blk ((((((W.setCell ⟨g0, 0, none⟩ (.int .u16 d)).setCell ⟨g0, 1, none⟩ (.string s)).setCell ⟨g0, 2, none⟩ (.int .u16 n)).setCell ⟨g0, 3, none⟩ (.int .u8 k)).setCell ⟨g0, 4, none⟩ (.bool m)).setCell ⟨g0, 5, none⟩ (.slice B l.length cu)) g0 52 #[.int .u16 d, .string s, .int .u16 n, .int .u8 k, .bool m, .slice B l.length cu] ∧
    RowU ((((((W.setCell ⟨g0, 0, none⟩ (.int .u16 d)).setCell ⟨g0, 1, none⟩ (.string s)).setCell ⟨g0, 2, none⟩ (.int .u16 n)).setCell ⟨g0, 3, none⟩ (.int .u8 k)).setCell ⟨g0, 4, none⟩ (.bool m)).setCell ⟨g0, 5, none⟩ (.slice B l.length cu)) B l cu ∧
    Only (fun _ => False) w0 ((((((W.setCell ⟨g0, 0, none⟩ (.int .u16 d)).setCell ⟨g0, 1, none⟩ (.string s)).setCell ⟨g0, 2, none⟩ (.int .u16 n)).setCell ⟨g0, 3, none⟩ (.int .u8 k)).setCell ⟨g0, 4, none⟩ (.bool m)).setCell ⟨g0, 5, none⟩ (.slice B l.length cu)) := by
  have hzo := (Only.refl (fun k => k = g0) W).set6 (.int .u16 d) (.string s) (.int .u16 n) (.int .u8 k) (.bool m) (.slice B l.length cu)
  exact ⟨h.bf.set6, hr.fresh hzo hB, h.ho.trans_of hzo (fun k hk e => by have := h.nw; omega)⟩
end Go.Proofs.Ytnclappdokhciaa
end

section
namespace Go.Proofs.Ytnclappdokhciaa
open Go Go.RowKit
set_option linter.unusedVariables false
set_option maxRecDepth 100000 in
set_option maxHeartbeats 8000000 in
theorem goesW_nil (ts : List Thg) (A : Option Addr) (c : Nat) (follow : Bool) (pl : List Nat) (must : Bool) (links : Nat) (Ap : Option Addr) (cp : Nat) (Aq : Option Addr) (cq : Nat) (w : World)
    (ht : RowT w A ts c) (hp : RowU w Ap pl cp) (hq : RowS w Aq [] cq) (p0 : 0 < pl.length) (p2 : pl.length ≤ 9900) {R : Fnd × Int} (hgo : R = (⟨0, ⟨#[]⟩, lastU pl, 2, must, pl⟩, 0)) :
    Calls Try.prog 58 #[.slice A ts.length c, .slice Ap pl.length cp, .slice Aq ([] : List ByteArray).length cq, .bool must, .bool follow, .int .i64 links] w fun r w' => GoesPost Ap R w r w' := by
  have hI := GInv.start ht hp hq p0
  obtain ⟨m, hm⟩ : ∃ m, pl.length = m + 1 := ⟨pl.length - 1, by omega⟩
  have hla := lastU_at hm
  obtain ⟨bp, op, eAp, _, c1⟩ := hI.rp.lit hla
  subst eAp
  have k1 : (0 : Int) ≤ (m : Int) := by omega
  have k2 : (m : Int) < (m : Int) + 1 := by omega
  have hcp := hI.rp.2.1
  rw [hm] at hcp
  have k3 : IntKind.i64.wrap ((m : Int) + 1 - 1) = (m : Int) := by rw [IntKind.wrap_i64]; omega
  replace hgo := Lib.hid hgo
  simp only [List.length_nil]
  rw [hm]
  clear hla
  go_enter Try.func58, Try.ntmps58
  go_upto_region 1 with fail
  generalize World.alloc _ _ = w1 at *
  generalize w.heap.size = g0 at *
  go_upto_region 3 with fail
  have q0 := hI.bf.cell 0
  have qf0 := hI.bf.frozen 0
  have q1 := hI.bf.cell 1
  have qf1 := hI.bf.frozen 1
  have q2 := hI.bf.cell 2
  have qf2 := hI.bf.frozen 2
  have q3 := hI.bf.cell 3
  have qf3 := hI.bf.frozen 3
  have q4 := hI.bf.cell 4
  have qf4 := hI.bf.frozen 4
  have q5 := hI.bf.cell 5
  have qf5 := hI.bf.frozen 5
  simp only [List.getElem?_toArray, List.getElem?_cons_zero, List.getElem?_cons_succ] at q0 q1 q2 q3 q4 q5
  obtain ⟨hz, hu, ho⟩ := hI.put (B := (some ⟨bp, op, none⟩)) (d := (0 : Int)) (n := (lastU pl : Int)) (k := (2 : Int)) (s := (⟨#[]⟩ : ByteArray)) (m := must) (l := pl) (cu := cp) hI.rp (fun a ea => (hI.np a ea).1)
  rw [hm] at hz ho hu
  replace hz := Lib.hid hz
  replace hu := Lib.hid hu
  replace ho := Lib.hid ho
  replace hm := Lib.hid hm
  clear hI
  try clear hcp
  try clear hcq
  try clear hlt
  try clear hl64
  try clear hrq
  try clear p2
  try clear hn
  try clear hp
  try clear hq
  try clear ht
  try clear hG
  go_wp2
  try rw [Exit.noGoto_ret]
  refine bodyPost_ret (res58 _ _ _ _ rfl _ rfl rfl hz.out) rfl ?_
  exact ⟨_, cp, by rw [hgo.out]; simp only [Fnd.cells, hm.out] <;> rfl, by rw [hgo.out]; exact hu.out, fun a e => .inr ⟨a, e, rfl⟩, ho.out⟩
set_option maxRecDepth 100000 in
set_option maxHeartbeats 8000000 in
theorem goesW_dots1 (ts : List Thg) (A : Option Addr) (c : Nat) (follow : Bool) (f : Nat) (pl : List Nat) (part : ByteArray) (rest : List ByteArray) (must : Bool) (links : Nat) (Ap : Option Addr) (cp : Nat) (Aq : Option Addr) (cq : Nat) (w : World)
    (hG : Good ts) (ht : RowT w A ts c) (hp : RowU w Ap pl cp) (hq : RowS w Aq (part :: rest) cq) (p0 : 0 < pl.length) (p1 : ∀ n ∈ pl, 1 ≤ n ∧ n < 65536) (p2 : pl.length + todo (part :: rest) links ≤ 9900) (l8 : links ≤ 8)
    (hrec : GoesAt ts A c follow f) (hd : part.toList = [46, 46]) (hl : pl.length = 1) (htd : todo (part :: rest) links < f + 1) {R : Fnd × Int} (hgo : R = goesF ts follow f pl rest must links) :
    Calls Try.prog 58 #[.slice A ts.length c, .slice Ap pl.length cp, .slice Aq (part :: rest).length cq, .bool must, .bool follow, .int .i64 links] w fun r w' => GoesPost Ap R w r w' := by
  have hI := GInv.start ht hp hq p0
  obtain ⟨m, hm⟩ : ∃ m, pl.length = m + 1 := ⟨pl.length - 1, by omega⟩
  have hla := lastU_at hm
  have hl1 := p1 _ (lastU_mem p0)
  have hlt : rest.length + 1 ≤ 9900 := by have := todo_le (part :: rest) links; simp only [List.length_cons] at this; omega
  obtain ⟨bp, op, eAp, _, c1⟩ := hI.rp.lit hla
  obtain ⟨bq, oq, eAq, _, hcell⟩ := hI.rq.1.2 (by simp)
  have c2 := hcell 0 (.string part) rfl
  have hcq := hI.rq.2.1
  have hcp := hI.rp.2.1
  simp only [List.length_cons] at hcq
  rw [hm] at hcp
  subst eAp
  subst eAq
  have k0 : ((rest.length : Int) + 1 == 0) = false := by simp; omega
  have k1 : (0 : Int) ≤ (m : Int) := by omega
  have k2 : (m : Int) < (m : Int) + 1 := by omega
  have k3 : IntKind.i64.wrap ((m : Int) + 1 - 1) = (m : Int) := by rw [IntKind.wrap_i64]; omega
  have k8 : (0 : Int) < (rest.length : Int) + 1 := by omega
  have k9 : (1 : Int) ≤ (rest.length : Int) + 1 := by omega
  simp only [Nat.add_zero] at c2
  replace hgo := Lib.hid hgo
  simp only [List.length_cons]
  rw [hm]
  clear hcell hla
  go_enter Try.func58, Try.ntmps58
  go_wp2
  generalize World.alloc _ _ = w1 at *
  generalize w.heap.size = g0 at *
  go_quiet (fail)
  have hI := hI.only (Only.drewN (Only.refl _ _) nq)
  have hrq := hI.rq.rest8
  generalize (if cq = 1 then some (⟨bq, oq, none⟩ : Addr) else some ⟨bq, oq + 1, none⟩) = Ar at *
  generalize w1.drewN nq = w2 at *
  clear c1 c2 k0 k1 k2 k3 k8 k9
  generalize hn : rest.length = n at *
  replace hn := Lib.hid hn
  have hdb : (part.toList == [46, 46]) = true := by rw [hd]; rfl
  replace hd := Lib.hid hd
  obtain rfl : m = 0 := by omega
  have ktd : todo rest links + 1 = todo (part :: rest) links := by unfold todo; simp only [List.length_cons]; omega
  have hC := hrec pl rest must links (some ⟨bp, op, none⟩) cp Ar (cq - 1) w2 hI.rt hI.rp hrq p0 p1 (by omega) l8 (by omega)
  rw [hl, hn.out] at hC
  go_wp2_with fail
  refine hC.mono ?_
  rintro r w9 ⟨Au, cu, rfl, hu9, hA9, ho9⟩
  have hI9 := hI.only ho9
  have hgW := hI.bf.lt
  have hnw := hI.nw
  have hAw : ∀ a, Au = some a → ¬ a.block = g0 ∧ (w.heap.size ≤ a.block ∨ ∃ b, (some ⟨bp, op, none⟩ : Option Addr) = some b ∧ a.block = b.block) := fun a ea => by
    rcases hA9 a ea with h2 | ⟨b, eb, h2⟩
    · exact ⟨by omega, .inl (by omega)⟩
    · exact ⟨by rw [h2]; exact (hI.np b eb).1, .inr ⟨b, eb, h2⟩⟩
  rw [← hgo.out] at hu9 ⊢
  clear hI
  obtain ⟨⟨d0, nm0, n0, kd0, mu0, up0⟩, ee⟩ := R
  simp only [Fnd.cells] at hu9 ⊢
  have q0 := hI9.bf.cell 0
  have qf0 := hI9.bf.frozen 0
  have q1 := hI9.bf.cell 1
  have qf1 := hI9.bf.frozen 1
  have q2 := hI9.bf.cell 2
  have qf2 := hI9.bf.frozen 2
  have q3 := hI9.bf.cell 3
  have qf3 := hI9.bf.frozen 3
  have q4 := hI9.bf.cell 4
  have qf4 := hI9.bf.frozen 4
  have q5 := hI9.bf.cell 5
  have qf5 := hI9.bf.frozen 5
  simp only [List.getElem?_toArray, List.getElem?_cons_zero, List.getElem?_cons_succ] at q0 q1 q2 q3 q4 q5
  obtain ⟨hz, hu, ho⟩ := hI9.put (B := Au) (d := (d0 : Int)) (n := (n0 : Int)) (k := (kd0 : Int)) (s := nm0) (m := mu0) (l := up0) (cu := cu) hu9 (fun a ea => (hAw a ea).1)
  replace hz := Lib.hid hz
  replace hu := Lib.hid hu
  replace ho := Lib.hid ho
  replace hAw := Lib.hid hAw
  clear hI9 hu9 hA9 ho9 hgo
  try clear hC
  try clear hrec
  try clear htd
  try clear ktd
  try clear hrq
  try clear hcp
  try clear hl
  try clear hm
  try clear hl1
  try clear hlt
  try clear hcq
  try clear hG
  try clear p1
  try clear p2
  try clear p0
  try clear hgW
  try clear hnw
  try clear hp
  try clear hq
  try clear ht
  go_wp2
  try rw [Exit.noGoto_ret]
  refine bodyPost_ret (res58 _ _ _ _ rfl _ rfl rfl hz.out) rfl ?_
  exact ⟨Au, cu, rfl, hu.out, fun a ea => (hAw.out a ea).2, ho.out⟩
set_option maxRecDepth 100000 in
set_option maxHeartbeats 8000000 in
theorem goesW_dots2 (ts : List Thg) (A : Option Addr) (c : Nat) (follow : Bool) (f : Nat) (pl : List Nat) (part : ByteArray) (rest : List ByteArray) (must : Bool) (links : Nat) (Ap : Option Addr) (cp : Nat) (Aq : Option Addr) (cq : Nat) (w : World)
    (hG : Good ts) (ht : RowT w A ts c) (hp : RowU w Ap pl cp) (hq : RowS w Aq (part :: rest) cq) (p0 : 0 < pl.length) (p1 : ∀ n ∈ pl, 1 ≤ n ∧ n < 65536) (p2 : pl.length + todo (part :: rest) links ≤ 9900) (l8 : links ≤ 8)
    (hrec : GoesAt ts A c follow f) (hd : part.toList = [46, 46]) (hl : 1 < pl.length) (htd : todo (part :: rest) links < f + 1) {R : Fnd × Int} (hgo : R = goesF ts follow f (pl.take (pl.length - 1)) rest must links) :
    Calls Try.prog 58 #[.slice A ts.length c, .slice Ap pl.length cp, .slice Aq (part :: rest).length cq, .bool must, .bool follow, .int .i64 links] w fun r w' => GoesPost Ap R w r w' := by
  have hI := GInv.start ht hp hq p0
  obtain ⟨m, hm⟩ : ∃ m, pl.length = m + 1 := ⟨pl.length - 1, by omega⟩
  have hla := lastU_at hm
  have hl1 := p1 _ (lastU_mem p0)
  have hlt : rest.length + 1 ≤ 9900 := by have := todo_le (part :: rest) links; simp only [List.length_cons] at this; omega
  obtain ⟨bp, op, eAp, _, c1⟩ := hI.rp.lit hla
  obtain ⟨bq, oq, eAq, _, hcell⟩ := hI.rq.1.2 (by simp)
  have c2 := hcell 0 (.string part) rfl
  have hcq := hI.rq.2.1
  have hcp := hI.rp.2.1
  simp only [List.length_cons] at hcq
  rw [hm] at hcp
  subst eAp
  subst eAq
  have k0 : ((rest.length : Int) + 1 == 0) = false := by simp; omega
  have k1 : (0 : Int) ≤ (m : Int) := by omega
  have k2 : (m : Int) < (m : Int) + 1 := by omega
  have k3 : IntKind.i64.wrap ((m : Int) + 1 - 1) = (m : Int) := by rw [IntKind.wrap_i64]; omega
  have k8 : (0 : Int) < (rest.length : Int) + 1 := by omega
  have k9 : (1 : Int) ≤ (rest.length : Int) + 1 := by omega
  simp only [Nat.add_zero] at c2
  replace hgo := Lib.hid hgo
  simp only [List.length_cons]
  rw [hm]
  clear hcell hla
  go_enter Try.func58, Try.ntmps58
  go_wp2
  generalize World.alloc _ _ = w1 at *
  generalize w.heap.size = g0 at *
  go_quiet (fail)
  have hI := hI.only (Only.drewN (Only.refl _ _) nq)
  have hrq := hI.rq.rest8
  generalize (if cq = 1 then some (⟨bq, oq, none⟩ : Addr) else some ⟨bq, oq + 1, none⟩) = Ar at *
  generalize w1.drewN nq = w2 at *
  clear c1 c2 k0 k1 k2 k3 k8 k9
  generalize hn : rest.length = n at *
  replace hn := Lib.hid hn
  have hdb : (part.toList == [46, 46]) = true := by rw [hd]; rfl
  replace hd := Lib.hid hd
  have j0 : (1 : Int) < (m : Int) + 1 := by omega
  have j1 : (0 : Int) ≤ (m : Int) := by omega
  have j2 : (m : Int) ≤ (cp : Int) := by omega
  have j3 : IntKind.i64.wrap ((m : Int) + 1 - 1) = (m : Int) := by rw [IntKind.wrap_i64]; omega
  have ktd : todo rest links + 1 = todo (part :: rest) links := by unfold todo; simp only [List.length_cons]; omega
  have hlen : (pl.take m).length = m := by rw [List.length_take]; omega
  have hC := hrec (pl.take m) rest must links (some ⟨bp, op, none⟩) cp Ar (cq - 1) w2 hI.rt (hI.rp.take (by omega)) hrq (by omega) (fun n hn => p1 n (List.mem_of_mem_take hn)) (by omega) l8 (by omega)
  rw [hlen, hn.out] at hC
  rw [hm, Nat.add_sub_cancel] at hgo
  go_wp2_with fail
  refine hC.mono ?_
  rintro r w9 ⟨Au, cu, rfl, hu9, hA9, ho9⟩
  have hI9 := hI.only ho9
  have hgW := hI.bf.lt
  have hnw := hI.nw
  have hAw : ∀ a, Au = some a → ¬ a.block = g0 ∧ (w.heap.size ≤ a.block ∨ ∃ b, (some ⟨bp, op, none⟩ : Option Addr) = some b ∧ a.block = b.block) := fun a ea => by
    rcases hA9 a ea with h2 | ⟨b, eb, h2⟩
    · exact ⟨by omega, .inl (by omega)⟩
    · exact ⟨by rw [h2]; exact (hI.np b eb).1, .inr ⟨b, eb, h2⟩⟩
  rw [← hgo.out] at hu9 ⊢
  clear hI
  obtain ⟨⟨d0, nm0, n0, kd0, mu0, up0⟩, ee⟩ := R
  simp only [Fnd.cells] at hu9 ⊢
  have q0 := hI9.bf.cell 0
  have qf0 := hI9.bf.frozen 0
  have q1 := hI9.bf.cell 1
  have qf1 := hI9.bf.frozen 1
  have q2 := hI9.bf.cell 2
  have qf2 := hI9.bf.frozen 2
  have q3 := hI9.bf.cell 3
  have qf3 := hI9.bf.frozen 3
  have q4 := hI9.bf.cell 4
  have qf4 := hI9.bf.frozen 4
  have q5 := hI9.bf.cell 5
  have qf5 := hI9.bf.frozen 5
  simp only [List.getElem?_toArray, List.getElem?_cons_zero, List.getElem?_cons_succ] at q0 q1 q2 q3 q4 q5
  obtain ⟨hz, hu, ho⟩ := hI9.put (B := Au) (d := (d0 : Int)) (n := (n0 : Int)) (k := (kd0 : Int)) (s := nm0) (m := mu0) (l := up0) (cu := cu) hu9 (fun a ea => (hAw a ea).1)
  replace hz := Lib.hid hz
  replace hu := Lib.hid hu
  replace ho := Lib.hid ho
  replace hAw := Lib.hid hAw
  clear hI9 hu9 hA9 ho9 hgo
  try clear hC
  try clear hrec
  try clear htd
  try clear ktd
  try clear hrq
  try clear hcp
  try clear hl
  try clear hm
  try clear hl1
  try clear hlt
  try clear hcq
  try clear hG
  try clear p1
  try clear p2
  try clear p0
  try clear hgW
  try clear hnw
  try clear hp
  try clear hq
  try clear ht
  go_wp2
  try rw [Exit.noGoto_ret]
  refine bodyPost_ret (res58 _ _ _ _ rfl _ rfl rfl hz.out) rfl ?_
  exact ⟨Au, cu, rfl, hu.out, fun a ea => (hAw.out a ea).2, ho.out⟩
set_option maxRecDepth 100000 in
set_option maxHeartbeats 8000000 in
theorem goesW_err (ts : List Thg) (A : Option Addr) (c : Nat) (follow : Bool) (f : Nat) (pl : List Nat) (part : ByteArray) (rest : List ByteArray) (must : Bool) (links : Nat) (Ap : Option Addr) (cp : Nat) (Aq : Option Addr) (cq : Nat) (w : World)
    (hG : Good ts) (ht : RowT w A ts c) (hp : RowU w Ap pl cp) (hq : RowS w Aq (part :: rest) cq) (p0 : 0 < pl.length) (p1 : ∀ n ∈ pl, 1 ≤ n ∧ n < 65536) (p2 : pl.length + todo (part :: rest) links ≤ 9900) (l8 : links ≤ 8)
    (hd : ¬ part.toList = [46, 46]) (ee : Int) (l : List Ent) (hes : entsS ts (lastU pl) = (l, ee)) (he : ¬ ee = 0) {R : Fnd × Int} (hgo : R = (noF, ee)) :
    Calls Try.prog 58 #[.slice A ts.length c, .slice Ap pl.length cp, .slice Aq (part :: rest).length cq, .bool must, .bool follow, .int .i64 links] w fun r w' => GoesPost Ap R w r w' := by
  have hI := GInv.start ht hp hq p0
  obtain ⟨m, hm⟩ : ∃ m, pl.length = m + 1 := ⟨pl.length - 1, by omega⟩
  have hla := lastU_at hm
  have hl1 := p1 _ (lastU_mem p0)
  have hlt : rest.length + 1 ≤ 9900 := by have := todo_le (part :: rest) links; simp only [List.length_cons] at this; omega
  obtain ⟨bp, op, eAp, _, c1⟩ := hI.rp.lit hla
  obtain ⟨bq, oq, eAq, _, hcell⟩ := hI.rq.1.2 (by simp)
  have c2 := hcell 0 (.string part) rfl
  have hcq := hI.rq.2.1
  have hcp := hI.rp.2.1
  simp only [List.length_cons] at hcq
  rw [hm] at hcp
  subst eAp
  subst eAq
  have k0 : ((rest.length : Int) + 1 == 0) = false := by simp; omega
  have k1 : (0 : Int) ≤ (m : Int) := by omega
  have k2 : (m : Int) < (m : Int) + 1 := by omega
  have k3 : IntKind.i64.wrap ((m : Int) + 1 - 1) = (m : Int) := by rw [IntKind.wrap_i64]; omega
  have k8 : (0 : Int) < (rest.length : Int) + 1 := by omega
  have k9 : (1 : Int) ≤ (rest.length : Int) + 1 := by omega
  simp only [Nat.add_zero] at c2
  replace hgo := Lib.hid hgo
  simp only [List.length_cons]
  rw [hm]
  clear hcell hla
  go_enter Try.func58, Try.ntmps58
  go_wp2
  generalize World.alloc _ _ = w1 at *
  generalize w.heap.size = g0 at *
  go_quiet (fail)
  have hI := hI.only (Only.drewN (Only.refl _ _) nq)
  have hrq := hI.rq.rest8
  generalize (if cq = 1 then some (⟨bq, oq, none⟩ : Addr) else some ⟨bq, oq + 1, none⟩) = Ar at *
  generalize w1.drewN nq = w2 at *
  clear c1 c2 k0 k1 k2 k3 k8 k9
  generalize hn : rest.length = n at *
  replace hn := Lib.hid hn
  have hdb : (part.toList == [46, 46]) = false := by rw [beq_eq_false_iff_ne]; exact hd
  replace hd := Lib.hid hd
  have hE := entriesR_any ts _ c (lastU pl) w2 hI.rt hl1.2 hG.1 (fun t ht => (hG.2 t ht).2.1)
  rw [hes] at hE
  simp only at hE
  have heb : (ee != 0) = true := by rw [bne, beq_false_of_ne he]; rfl
  replace he := Lib.hid he
  go_wp2_with fail
  refine hE.mono ?_
  rintro r w3 ⟨A5, c5, rfl, h5, ho3⟩
  have hI := hI.only ho3
  have hrq := hrq.only ho3 (fun _ _ _ x => x)
  clear hE
  clear h5
  try clear hcp hm hcq hlt
  go_upto_region 11 with fail
  have q0 := hI.bf.cell 0
  have qf0 := hI.bf.frozen 0
  have q1 := hI.bf.cell 1
  have qf1 := hI.bf.frozen 1
  have q2 := hI.bf.cell 2
  have qf2 := hI.bf.frozen 2
  have q3 := hI.bf.cell 3
  have qf3 := hI.bf.frozen 3
  have q4 := hI.bf.cell 4
  have qf4 := hI.bf.frozen 4
  have q5 := hI.bf.cell 5
  have qf5 := hI.bf.frozen 5
  simp only [List.getElem?_toArray, List.getElem?_cons_zero, List.getElem?_cons_succ] at q0 q1 q2 q3 q4 q5
  obtain ⟨hz, hu, ho⟩ := hI.put (B := none) (d := (0 : Int)) (n := (0 : Int)) (k := (0 : Int)) (s := ⟨#[]⟩) (m := false) (l := ([] : List Nat)) (cu := 0) (RowU.nil _) (fun a e => by cases e)
  replace hz := Lib.hid hz
  replace hu := Lib.hid hu
  replace ho := Lib.hid ho
  simp only [List.length_nil] at hz hu ho
  clear hI
  go_wp2
  try rw [Exit.noGoto_ret]
  refine bodyPost_ret (res58 _ _ _ _ rfl _ rfl rfl hz.out) rfl ?_
  exact ⟨none, 0, by rw [hgo.out]; rfl, by rw [hgo.out]; exact hu.out, fun a e => (by cases e), ho.out⟩
set_option maxRecDepth 100000 in
set_option maxHeartbeats 8000000 in
theorem goesW_none_more (ts : List Thg) (A : Option Addr) (c : Nat) (follow : Bool) (f : Nat) (pl : List Nat) (part : ByteArray) (rest : List ByteArray) (must : Bool) (links : Nat) (Ap : Option Addr) (cp : Nat) (Aq : Option Addr) (cq : Nat) (w : World)
    (hG : Good ts) (ht : RowT w A ts c) (hp : RowU w Ap pl cp) (hq : RowS w Aq (part :: rest) cq) (p0 : 0 < pl.length) (p1 : ∀ n ∈ pl, 1 ≤ n ∧ n < 65536) (p2 : pl.length + todo (part :: rest) links ≤ 9900) (l8 : links ≤ 8)
    (l : List Ent) (hes : entsS ts (lastU pl) = (l, 0)) (hd : ¬ part.toList = [46, 46]) (hfe : findE l part = none) (hr : Hid (0 < rest.length)) {R : Fnd × Int} (hgo : R = (noF, 20)) :
    Calls Try.prog 58 #[.slice A ts.length c, .slice Ap pl.length cp, .slice Aq (part :: rest).length cq, .bool must, .bool follow, .int .i64 links] w fun r w' => GoesPost Ap R w r w' := by
  have hI := GInv.start ht hp hq p0
  obtain ⟨m, hm⟩ : ∃ m, pl.length = m + 1 := ⟨pl.length - 1, by omega⟩
  have hla := lastU_at hm
  have hl1 := p1 _ (lastU_mem p0)
  have hlt : rest.length + 1 ≤ 9900 := by have := todo_le (part :: rest) links; simp only [List.length_cons] at this; omega
  obtain ⟨bp, op, eAp, _, c1⟩ := hI.rp.lit hla
  obtain ⟨bq, oq, eAq, _, hcell⟩ := hI.rq.1.2 (by simp)
  have c2 := hcell 0 (.string part) rfl
  have hcq := hI.rq.2.1
  have hcp := hI.rp.2.1
  simp only [List.length_cons] at hcq
  rw [hm] at hcp
  subst eAp
  subst eAq
  have k0 : ((rest.length : Int) + 1 == 0) = false := by simp; omega
  have k1 : (0 : Int) ≤ (m : Int) := by omega
  have k2 : (m : Int) < (m : Int) + 1 := by omega
  have k3 : IntKind.i64.wrap ((m : Int) + 1 - 1) = (m : Int) := by rw [IntKind.wrap_i64]; omega
  have k8 : (0 : Int) < (rest.length : Int) + 1 := by omega
  have k9 : (1 : Int) ≤ (rest.length : Int) + 1 := by omega
  simp only [Nat.add_zero] at c2
  replace hgo := Lib.hid hgo
  simp only [List.length_cons]
  rw [hm]
  clear hcell hla
  go_enter Try.func58, Try.ntmps58
  go_wp2
  generalize World.alloc _ _ = w1 at *
  generalize w.heap.size = g0 at *
  go_quiet (fail)
  have hI := hI.only (Only.drewN (Only.refl _ _) nq)
  have hrq := hI.rq.rest8
  generalize (if cq = 1 then some (⟨bq, oq, none⟩ : Addr) else some ⟨bq, oq + 1, none⟩) = Ar at *
  generalize w1.drewN nq = w2 at *
  clear c1 c2 k0 k1 k2 k3 k8 k9
  generalize hn : rest.length = n at *
  replace hn := Lib.hid hn
  have hdb : (part.toList == [46, 46]) = false := by rw [beq_eq_false_iff_ne]; exact hd
  replace hd := Lib.hid hd
  have hE := entriesR_any ts _ c (lastU pl) w2 hI.rt hl1.2 hG.1 (fun t ht => (hG.2 t ht).2.1)
  rw [hes] at hE
  simp only at hE
  have hgd := ents_good hG (lastU pl)
  rw [hes] at hgd
  have hl64 := (are_ok hgd).1
  simp only at hl64
  go_wp2_with fail
  refine hE.mono ?_
  rintro r w3 ⟨A5, c5, rfl, h5, ho3⟩
  have hI := hI.only ho3
  have hrq := hrq.only ho3 (fun _ _ _ x => x)
  clear hE
  have hF := findR_any l A5 c5 part w3 h5 (by omega)
  rw [hfe] at hF
  have hFn : Calls Try.prog 43 #[.slice A5 l.length c5, .string part] w3 fun r w' => r = .returned (.tuple #[.agg #[.string ⟨#[]⟩, .int .u16 0, .int .u8 0], .bool false]) ∧ Only (fun _ => False) w3 w' := hF
  clear hF hgd h5
  go_wp2_with fail
  refine hFn.mono ?_
  rintro r w4 ⟨rfl, ho4⟩
  have oa := (Only.refl (fun _ => False) w4).alloc (.cells #[.string ⟨#[]⟩, .int .u16 0, .int .u8 0] 79)
  have hI := (hI.only ho4).only oa
  clear hFn ho4 oa
  go_upto_region 13 with fail
  generalize w4.alloc _ = w5 at *
  have j0 : (0 : Int) < (n : Int) := by have := hr.out; omega
  clear hm hr
  try clear hcp
  try clear hcq
  try clear hlt
  try clear hl64
  try clear hrq
  try clear p2
  try clear hn
  try clear hp
  try clear hq
  try clear ht
  try clear hG
  go_upto_region 15 with fail
  have q0 := hI.bf.cell 0
  have qf0 := hI.bf.frozen 0
  have q1 := hI.bf.cell 1
  have qf1 := hI.bf.frozen 1
  have q2 := hI.bf.cell 2
  have qf2 := hI.bf.frozen 2
  have q3 := hI.bf.cell 3
  have qf3 := hI.bf.frozen 3
  have q4 := hI.bf.cell 4
  have qf4 := hI.bf.frozen 4
  have q5 := hI.bf.cell 5
  have qf5 := hI.bf.frozen 5
  simp only [List.getElem?_toArray, List.getElem?_cons_zero, List.getElem?_cons_succ] at q0 q1 q2 q3 q4 q5
  obtain ⟨hz, hu, ho⟩ := hI.put (B := none) (d := (0 : Int)) (n := (0 : Int)) (k := (0 : Int)) (s := ⟨#[]⟩) (m := false) (l := ([] : List Nat)) (cu := 0) (RowU.nil _) (fun a e => by cases e)
  replace hz := Lib.hid hz
  replace hu := Lib.hid hu
  replace ho := Lib.hid ho
  simp only [List.length_nil] at hz hu ho
  clear hI
  go_wp2
  try rw [Exit.noGoto_ret]
  refine bodyPost_ret (res58 _ _ _ _ rfl _ rfl rfl hz.out) rfl ?_
  exact ⟨none, 0, by rw [hgo.out]; rfl, by rw [hgo.out]; exact hu.out, fun a e => (by cases e), ho.out⟩
set_option maxRecDepth 100000 in
set_option maxHeartbeats 8000000 in
theorem goesW_none_end (ts : List Thg) (A : Option Addr) (c : Nat) (follow : Bool) (f : Nat) (pl : List Nat) (part : ByteArray) (rest : List ByteArray) (must : Bool) (links : Nat) (Ap : Option Addr) (cp : Nat) (Aq : Option Addr) (cq : Nat) (w : World)
    (hG : Good ts) (ht : RowT w A ts c) (hp : RowU w Ap pl cp) (hq : RowS w Aq (part :: rest) cq) (p0 : 0 < pl.length) (p1 : ∀ n ∈ pl, 1 ≤ n ∧ n < 65536) (p2 : pl.length + todo (part :: rest) links ≤ 9900) (l8 : links ≤ 8)
    (l : List Ent) (hes : entsS ts (lastU pl) = (l, 0)) (hd : ¬ part.toList = [46, 46]) (hfe : findE l part = none) (hr : Hid (rest.length = 0)) {R : Fnd × Int} (hgo : R = (⟨lastU pl, part, 0, 0, must, pl⟩, 0)) :
    Calls Try.prog 58 #[.slice A ts.length c, .slice Ap pl.length cp, .slice Aq (part :: rest).length cq, .bool must, .bool follow, .int .i64 links] w fun r w' => GoesPost Ap R w r w' := by
  have hI := GInv.start ht hp hq p0
  obtain ⟨m, hm⟩ : ∃ m, pl.length = m + 1 := ⟨pl.length - 1, by omega⟩
  have hla := lastU_at hm
  have hl1 := p1 _ (lastU_mem p0)
  have hlt : rest.length + 1 ≤ 9900 := by have := todo_le (part :: rest) links; simp only [List.length_cons] at this; omega
  obtain ⟨bp, op, eAp, _, c1⟩ := hI.rp.lit hla
  obtain ⟨bq, oq, eAq, _, hcell⟩ := hI.rq.1.2 (by simp)
  have c2 := hcell 0 (.string part) rfl
  have hcq := hI.rq.2.1
  have hcp := hI.rp.2.1
  simp only [List.length_cons] at hcq
  rw [hm] at hcp
  subst eAp
  subst eAq
  have k0 : ((rest.length : Int) + 1 == 0) = false := by simp; omega
  have k1 : (0 : Int) ≤ (m : Int) := by omega
  have k2 : (m : Int) < (m : Int) + 1 := by omega
  have k3 : IntKind.i64.wrap ((m : Int) + 1 - 1) = (m : Int) := by rw [IntKind.wrap_i64]; omega
  have k8 : (0 : Int) < (rest.length : Int) + 1 := by omega
  have k9 : (1 : Int) ≤ (rest.length : Int) + 1 := by omega
  simp only [Nat.add_zero] at c2
  replace hgo := Lib.hid hgo
  simp only [List.length_cons]
  rw [hm]
  clear hcell hla
  go_enter Try.func58, Try.ntmps58
  go_wp2
  generalize World.alloc _ _ = w1 at *
  generalize w.heap.size = g0 at *
  go_quiet (fail)
  have hI := hI.only (Only.drewN (Only.refl _ _) nq)
  have hrq := hI.rq.rest8
  generalize (if cq = 1 then some (⟨bq, oq, none⟩ : Addr) else some ⟨bq, oq + 1, none⟩) = Ar at *
  generalize w1.drewN nq = w2 at *
  clear c1 c2 k0 k1 k2 k3 k8 k9
  generalize hn : rest.length = n at *
  replace hn := Lib.hid hn
  have hdb : (part.toList == [46, 46]) = false := by rw [beq_eq_false_iff_ne]; exact hd
  replace hd := Lib.hid hd
  have hE := entriesR_any ts _ c (lastU pl) w2 hI.rt hl1.2 hG.1 (fun t ht => (hG.2 t ht).2.1)
  rw [hes] at hE
  simp only at hE
  have hgd := ents_good hG (lastU pl)
  rw [hes] at hgd
  have hl64 := (are_ok hgd).1
  simp only at hl64
  go_wp2_with fail
  refine hE.mono ?_
  rintro r w3 ⟨A5, c5, rfl, h5, ho3⟩
  have hI := hI.only ho3
  have hrq := hrq.only ho3 (fun _ _ _ x => x)
  clear hE
  have hF := findR_any l A5 c5 part w3 h5 (by omega)
  rw [hfe] at hF
  have hFn : Calls Try.prog 43 #[.slice A5 l.length c5, .string part] w3 fun r w' => r = .returned (.tuple #[.agg #[.string ⟨#[]⟩, .int .u16 0, .int .u8 0], .bool false]) ∧ Only (fun _ => False) w3 w' := hF
  clear hF hgd h5
  go_wp2_with fail
  refine hFn.mono ?_
  rintro r w4 ⟨rfl, ho4⟩
  have oa := (Only.refl (fun _ => False) w4).alloc (.cells #[.string ⟨#[]⟩, .int .u16 0, .int .u8 0] 79)
  have hI := (hI.only ho4).only oa
  clear hFn ho4 oa
  go_upto_region 13 with fail
  generalize w4.alloc _ = w5 at *
  have j0 : ¬ (0 : Int) < (n : Int) := by have := hr.out; omega
  clear hr
  go_upto_region 16 with fail
  have q0 := hI.bf.cell 0
  have qf0 := hI.bf.frozen 0
  have q1 := hI.bf.cell 1
  have qf1 := hI.bf.frozen 1
  have q2 := hI.bf.cell 2
  have qf2 := hI.bf.frozen 2
  have q3 := hI.bf.cell 3
  have qf3 := hI.bf.frozen 3
  have q4 := hI.bf.cell 4
  have qf4 := hI.bf.frozen 4
  have q5 := hI.bf.cell 5
  have qf5 := hI.bf.frozen 5
  simp only [List.getElem?_toArray, List.getElem?_cons_zero, List.getElem?_cons_succ] at q0 q1 q2 q3 q4 q5
  obtain ⟨hz, hu, ho⟩ := hI.put (B := (some ⟨bp, op, none⟩)) (d := (lastU pl : Int)) (n := (0 : Int)) (k := (0 : Int)) (s := part) (m := must) (l := pl) (cu := cp) hI.rp (fun a ea => (hI.np a ea).1)
  rw [hm] at hz ho hu
  replace hz := Lib.hid hz
  replace hu := Lib.hid hu
  replace ho := Lib.hid ho
  replace hm := Lib.hid hm
  clear hI
  try clear hcp
  try clear hcq
  try clear hlt
  try clear hl64
  try clear hrq
  try clear p2
  try clear hn
  try clear hp
  try clear hq
  try clear ht
  try clear hG
  go_wp2
  try rw [Exit.noGoto_ret]
  refine bodyPost_ret (res58 _ _ _ _ rfl _ rfl rfl hz.out) rfl ?_
  exact ⟨_, cp, by rw [hgo.out]; simp only [Fnd.cells, hm.out] <;> rfl, by rw [hgo.out]; exact hu.out, fun a e => .inr ⟨a, e, rfl⟩, ho.out⟩
set_option maxRecDepth 100000 in
set_option maxHeartbeats 8000000 in
theorem goesW_eloop (ts : List Thg) (A : Option Addr) (c : Nat) (follow : Bool) (f : Nat) (pl : List Nat) (part : ByteArray) (rest : List ByteArray) (must : Bool) (links : Nat) (Ap : Option Addr) (cp : Nat) (Aq : Option Addr) (cq : Nat) (w : World)
    (hG : Good ts) (ht : RowT w A ts c) (hp : RowU w Ap pl cp) (hq : RowS w Aq (part :: rest) cq) (p0 : 0 < pl.length) (p1 : ∀ n ∈ pl, 1 ≤ n ∧ n < 65536) (p2 : pl.length + todo (part :: rest) links ≤ 9900) (l8 : links ≤ 8)
    (l : List Ent) (hes : entsS ts (lastU pl) = (l, 0)) (hd : ¬ part.toList = [46, 46]) (x : Ent) (hfe : findE l part = some x) (hP : Hid (x.kind = 3 ∧ (0 < rest.length ∨ must = true ∨ follow = true))) (h8 : 8 ≤ links) {R : Fnd × Int} (hgo : R = (noF, 35)) :
    Calls Try.prog 58 #[.slice A ts.length c, .slice Ap pl.length cp, .slice Aq (part :: rest).length cq, .bool must, .bool follow, .int .i64 links] w fun r w' => GoesPost Ap R w r w' := by
  have hI := GInv.start ht hp hq p0
  obtain ⟨m, hm⟩ : ∃ m, pl.length = m + 1 := ⟨pl.length - 1, by omega⟩
  have hla := lastU_at hm
  have hl1 := p1 _ (lastU_mem p0)
  have hlt : rest.length + 1 ≤ 9900 := by have := todo_le (part :: rest) links; simp only [List.length_cons] at this; omega
  obtain ⟨bp, op, eAp, _, c1⟩ := hI.rp.lit hla
  obtain ⟨bq, oq, eAq, _, hcell⟩ := hI.rq.1.2 (by simp)
  have c2 := hcell 0 (.string part) rfl
  have hcq := hI.rq.2.1
  have hcp := hI.rp.2.1
  simp only [List.length_cons] at hcq
  rw [hm] at hcp
  subst eAp
  subst eAq
  have k0 : ((rest.length : Int) + 1 == 0) = false := by simp; omega
  have k1 : (0 : Int) ≤ (m : Int) := by omega
  have k2 : (m : Int) < (m : Int) + 1 := by omega
  have k3 : IntKind.i64.wrap ((m : Int) + 1 - 1) = (m : Int) := by rw [IntKind.wrap_i64]; omega
  have k8 : (0 : Int) < (rest.length : Int) + 1 := by omega
  have k9 : (1 : Int) ≤ (rest.length : Int) + 1 := by omega
  simp only [Nat.add_zero] at c2
  replace hgo := Lib.hid hgo
  simp only [List.length_cons]
  rw [hm]
  clear hcell hla
  go_enter Try.func58, Try.ntmps58
  go_wp2
  generalize World.alloc _ _ = w1 at *
  generalize w.heap.size = g0 at *
  go_quiet (fail)
  have hI := hI.only (Only.drewN (Only.refl _ _) nq)
  have hrq := hI.rq.rest8
  generalize (if cq = 1 then some (⟨bq, oq, none⟩ : Addr) else some ⟨bq, oq + 1, none⟩) = Ar at *
  generalize w1.drewN nq = w2 at *
  clear c1 c2 k0 k1 k2 k3 k8 k9
  generalize hn : rest.length = n at *
  replace hn := Lib.hid hn
  have hdb : (part.toList == [46, 46]) = false := by rw [beq_eq_false_iff_ne]; exact hd
  replace hd := Lib.hid hd
  have hE := entriesR_any ts _ c (lastU pl) w2 hI.rt hl1.2 hG.1 (fun t ht => (hG.2 t ht).2.1)
  rw [hes] at hE
  simp only at hE
  have hgd := ents_good hG (lastU pl)
  rw [hes] at hgd
  have hl64 := (are_ok hgd).1
  simp only at hl64
  go_wp2_with fail
  refine hE.mono ?_
  rintro r w3 ⟨A5, c5, rfl, h5, ho3⟩
  have hI := hI.only ho3
  have hrq := hrq.only ho3 (fun _ _ _ x => x)
  clear hE
  have hF := findR_any l A5 c5 part w3 h5 (by omega)
  rw [hfe] at hF
  have hFn : Calls Try.prog 43 #[.slice A5 l.length c5, .string part] w3 fun r w' => r = .returned (.tuple #[.agg #[.string x.nm, .int .u16 x.num, .int .u8 x.kind], .bool true]) ∧ Only (fun _ => False) w3 w' := hF
  have hxm : x ∈ l := List.mem_of_find?_eq_some hfe
  obtain ⟨_, hn1, hn2, hk1, hk2⟩ := may_ok (are_may hgd x hxm)
  clear hF hgd h5 hxm
  go_wp2_with fail
  refine hFn.mono ?_
  rintro r w4 ⟨rfl, ho4⟩
  have oa := (Only.refl (fun _ => False) w4).alloc (.cells #[.string x.nm, .int .u16 x.num, .int .u8 x.kind] 79)
  have hI := (hI.only ho4).only oa
  have hrq := (hrq.only ho4 (fun _ _ _ x => x)).only oa (fun _ _ _ x => x)
  have hbx := Blk.new w4 79 #[.string x.nm, .int .u16 x.num, .int .u8 x.kind]
  clear hFn ho4 oa
  have x1 := hbx.cell 1
  have x2 := hbx.cell 2
  simp only [List.getElem?_toArray, List.getElem?_cons_zero, List.getElem?_cons_succ] at x1 x2
  go_upto_region 17 with fail
  generalize w4.alloc (.cells #[.string x.nm, .int .u16 x.num, .int .u8 x.kind] 79) = w5 at *
  generalize w4.heap.size = gx at *
  go_cut [102] (fun s102 W => s102 = .bool (decide (x.kind = 3 ∧ (0 < n ∨ must = true ∨ follow = true))) ∧ W = w5)
  case first =>
    clear hm hcp hcq
    by_cases k3 : x.kind = 3
    · have k3b : ((x.kind : Int) == 3) = true := by rw [k3]; rfl
      by_cases hr0 : 0 < n
      · have j0 : (0 : Int) < (n : Int) := by omega
        go_wp2_with fail
        go_meet
        exact ⟨by simp [k3, hr0], rfl⟩
      · have j0 : ¬ (0 : Int) < (n : Int) := by omega
        cases must with
        | true =>
          go_wp2_with fail
          go_meet
          exact ⟨by simp [k3], rfl⟩
        | false =>
          cases follow with
          | true =>
            go_wp2_with fail
            go_meet
            exact ⟨by simp [k3], rfl⟩
          | false =>
            go_wp2_with fail
            go_meet
            exact ⟨by simp [k3]; omega, rfl⟩
    · have k3b : ((x.kind : Int) == 3) = false := by simp; omega
      go_wp2_with fail
      go_meet
      exact ⟨by simp [k3], rfl⟩
  case rest =>
    obtain ⟨rfl, rfl⟩ := hcut
    rw [decide_eq_true hP.out]
    clear hP
    have j8 : (8 : Int) ≤ (links : Int) := by omega
    clear hm hbx x1 x2
    try clear hcp
    try clear hcq
    try clear hlt
    try clear hl64
    try clear hrq
    try clear p2
    try clear hn
    try clear hp
    try clear hq
    try clear ht
    try clear hG
    go_upto_region 19 with fail
    have q0 := hI.bf.cell 0
    have qf0 := hI.bf.frozen 0
    have q1 := hI.bf.cell 1
    have qf1 := hI.bf.frozen 1
    have q2 := hI.bf.cell 2
    have qf2 := hI.bf.frozen 2
    have q3 := hI.bf.cell 3
    have qf3 := hI.bf.frozen 3
    have q4 := hI.bf.cell 4
    have qf4 := hI.bf.frozen 4
    have q5 := hI.bf.cell 5
    have qf5 := hI.bf.frozen 5
    simp only [List.getElem?_toArray, List.getElem?_cons_zero, List.getElem?_cons_succ] at q0 q1 q2 q3 q4 q5
    obtain ⟨hz, hu, ho⟩ := hI.put (B := none) (d := (0 : Int)) (n := (0 : Int)) (k := (0 : Int)) (s := ⟨#[]⟩) (m := false) (l := ([] : List Nat)) (cu := 0) (RowU.nil _) (fun a e => by cases e)
    replace hz := Lib.hid hz
    replace hu := Lib.hid hu
    replace ho := Lib.hid ho
    simp only [List.length_nil] at hz hu ho
    clear hI
    go_wp2
    try rw [Exit.noGoto_ret]
    refine bodyPost_ret (res58 _ _ _ _ rfl _ rfl rfl hz.out) rfl ?_
    exact ⟨none, 0, by rw [hgo.out]; rfl, by rw [hgo.out]; exact hu.out, fun a e => (by cases e), ho.out⟩
end Go.Proofs.Ytnclappdokhciaa
end

section
namespace Go.Proofs.Ytnclappdokhciaa
open Go Go.RowKit
set_option linter.unusedVariables false
set_option maxRecDepth 100000 in
set_option maxHeartbeats 8000000 in
theorem goesW_terr (ts : List Thg) (A : Option Addr) (c : Nat) (follow : Bool) (f : Nat) (pl : List Nat) (part : ByteArray) (rest : List ByteArray) (must : Bool) (links : Nat) (Ap : Option Addr) (cp : Nat) (Aq : Option Addr) (cq : Nat) (w : World)
    (hG : Good ts) (ht : RowT w A ts c) (hp : RowU w Ap pl cp) (hq : RowS w Aq (part :: rest) cq) (p0 : 0 < pl.length) (p1 : ∀ n ∈ pl, 1 ≤ n ∧ n < 65536) (p2 : pl.length + todo (part :: rest) links ≤ 9900) (l8 : links ≤ 8)
    (l : List Ent) (hes : entsS ts (lastU pl) = (l, 0)) (hd : ¬ part.toList = [46, 46]) (x : Ent) (hfe : findE l part = some x) (hP : Hid (x.kind = 3 ∧ (0 < rest.length ∨ must = true ∨ follow = true))) (h8 : ¬ 8 ≤ links) (tg : ByteArray) (te : Int) (hts : targS ts x.num = (tg, te)) (he : ¬ te = 0) {R : Fnd × Int} (hgo : R = (noF, te)) :
    Calls Try.prog 58 #[.slice A ts.length c, .slice Ap pl.length cp, .slice Aq (part :: rest).length cq, .bool must, .bool follow, .int .i64 links] w fun r w' => GoesPost Ap R w r w' := by
  have hI := GInv.start ht hp hq p0
  obtain ⟨m, hm⟩ : ∃ m, pl.length = m + 1 := ⟨pl.length - 1, by omega⟩
  have hla := lastU_at hm
  have hl1 := p1 _ (lastU_mem p0)
  have hlt : rest.length + 1 ≤ 9900 := by have := todo_le (part :: rest) links; simp only [List.length_cons] at this; omega
  obtain ⟨bp, op, eAp, _, c1⟩ := hI.rp.lit hla
  obtain ⟨bq, oq, eAq, _, hcell⟩ := hI.rq.1.2 (by simp)
  have c2 := hcell 0 (.string part) rfl
  have hcq := hI.rq.2.1
  have hcp := hI.rp.2.1
  simp only [List.length_cons] at hcq
  rw [hm] at hcp
  subst eAp
  subst eAq
  have k0 : ((rest.length : Int) + 1 == 0) = false := by simp; omega
  have k1 : (0 : Int) ≤ (m : Int) := by omega
  have k2 : (m : Int) < (m : Int) + 1 := by omega
  have k3 : IntKind.i64.wrap ((m : Int) + 1 - 1) = (m : Int) := by rw [IntKind.wrap_i64]; omega
  have k8 : (0 : Int) < (rest.length : Int) + 1 := by omega
  have k9 : (1 : Int) ≤ (rest.length : Int) + 1 := by omega
  simp only [Nat.add_zero] at c2
  replace hgo := Lib.hid hgo
  simp only [List.length_cons]
  rw [hm]
  clear hcell hla
  go_enter Try.func58, Try.ntmps58
  go_wp2
  generalize World.alloc _ _ = w1 at *
  generalize w.heap.size = g0 at *
  go_quiet (fail)
  have hI := hI.only (Only.drewN (Only.refl _ _) nq)
  have hrq := hI.rq.rest8
  generalize (if cq = 1 then some (⟨bq, oq, none⟩ : Addr) else some ⟨bq, oq + 1, none⟩) = Ar at *
  generalize w1.drewN nq = w2 at *
  clear c1 c2 k0 k1 k2 k3 k8 k9
  generalize hn : rest.length = n at *
  replace hn := Lib.hid hn
  have hdb : (part.toList == [46, 46]) = false := by rw [beq_eq_false_iff_ne]; exact hd
  replace hd := Lib.hid hd
  have hE := entriesR_any ts _ c (lastU pl) w2 hI.rt hl1.2 hG.1 (fun t ht => (hG.2 t ht).2.1)
  rw [hes] at hE
  simp only at hE
  have hgd := ents_good hG (lastU pl)
  rw [hes] at hgd
  have hl64 := (are_ok hgd).1
  simp only at hl64
  go_wp2_with fail
  refine hE.mono ?_
  rintro r w3 ⟨A5, c5, rfl, h5, ho3⟩
  have hI := hI.only ho3
  have hrq := hrq.only ho3 (fun _ _ _ x => x)
  clear hE
  have hF := findR_any l A5 c5 part w3 h5 (by omega)
  rw [hfe] at hF
  have hFn : Calls Try.prog 43 #[.slice A5 l.length c5, .string part] w3 fun r w' => r = .returned (.tuple #[.agg #[.string x.nm, .int .u16 x.num, .int .u8 x.kind], .bool true]) ∧ Only (fun _ => False) w3 w' := hF
  have hxm : x ∈ l := List.mem_of_find?_eq_some hfe
  obtain ⟨_, hn1, hn2, hk1, hk2⟩ := may_ok (are_may hgd x hxm)
  clear hF hgd h5 hxm
  go_wp2_with fail
  refine hFn.mono ?_
  rintro r w4 ⟨rfl, ho4⟩
  have oa := (Only.refl (fun _ => False) w4).alloc (.cells #[.string x.nm, .int .u16 x.num, .int .u8 x.kind] 79)
  have hI := (hI.only ho4).only oa
  have hrq := (hrq.only ho4 (fun _ _ _ x => x)).only oa (fun _ _ _ x => x)
  have hbx := Blk.new w4 79 #[.string x.nm, .int .u16 x.num, .int .u8 x.kind]
  clear hFn ho4 oa
  have x1 := hbx.cell 1
  have x2 := hbx.cell 2
  simp only [List.getElem?_toArray, List.getElem?_cons_zero, List.getElem?_cons_succ] at x1 x2
  go_upto_region 17 with fail
  generalize w4.alloc (.cells #[.string x.nm, .int .u16 x.num, .int .u8 x.kind] 79) = w5 at *
  generalize w4.heap.size = gx at *
  go_cut [102] (fun s102 W => s102 = .bool (decide (x.kind = 3 ∧ (0 < n ∨ must = true ∨ follow = true))) ∧ W = w5)
  case first =>
    clear hm hcp hcq
    by_cases k3 : x.kind = 3
    · have k3b : ((x.kind : Int) == 3) = true := by rw [k3]; rfl
      by_cases hr0 : 0 < n
      · have j0 : (0 : Int) < (n : Int) := by omega
        go_wp2_with fail
        go_meet
        exact ⟨by simp [k3, hr0], rfl⟩
      · have j0 : ¬ (0 : Int) < (n : Int) := by omega
        cases must with
        | true =>
          go_wp2_with fail
          go_meet
          exact ⟨by simp [k3], rfl⟩
        | false =>
          cases follow with
          | true =>
            go_wp2_with fail
            go_meet
            exact ⟨by simp [k3], rfl⟩
          | false =>
            go_wp2_with fail
            go_meet
            exact ⟨by simp [k3]; omega, rfl⟩
    · have k3b : ((x.kind : Int) == 3) = false := by simp; omega
      go_wp2_with fail
      go_meet
      exact ⟨by simp [k3], rfl⟩
  case rest =>
    obtain ⟨rfl, rfl⟩ := hcut
    rw [decide_eq_true hP.out]
    clear hP
    have j8 : ¬ (8 : Int) ≤ (links : Int) := by omega
    have hT := targetR_any ts _ c x.num _ hI.rt (by omega) hG.1
    rw [hts] at hT
    simp only at hT
    go_wp2_with fail
    refine hT.mono ?_
    rintro r w6 ⟨s6, rfl, hs6, ho6⟩
    have hI := hI.only ho6
    have hrq := hrq.only ho6 (fun _ _ _ x => x)
    clear hT x1 x2 hbx
    have heb : (te != 0) = true := by rw [bne, beq_false_of_ne he]; rfl
    replace he := Lib.hid he
    clear hm hs6 hts
    try clear hcp
    try clear hcq
    try clear hlt
    try clear hl64
    try clear hrq
    try clear p2
    try clear hn
    try clear hp
    try clear hq
    try clear ht
    try clear hG
    go_upto_region 22 with fail
    have q0 := hI.bf.cell 0
    have qf0 := hI.bf.frozen 0
    have q1 := hI.bf.cell 1
    have qf1 := hI.bf.frozen 1
    have q2 := hI.bf.cell 2
    have qf2 := hI.bf.frozen 2
    have q3 := hI.bf.cell 3
    have qf3 := hI.bf.frozen 3
    have q4 := hI.bf.cell 4
    have qf4 := hI.bf.frozen 4
    have q5 := hI.bf.cell 5
    have qf5 := hI.bf.frozen 5
    simp only [List.getElem?_toArray, List.getElem?_cons_zero, List.getElem?_cons_succ] at q0 q1 q2 q3 q4 q5
    obtain ⟨hz, hu, ho⟩ := hI.put (B := none) (d := (0 : Int)) (n := (0 : Int)) (k := (0 : Int)) (s := ⟨#[]⟩) (m := false) (l := ([] : List Nat)) (cu := 0) (RowU.nil _) (fun a e => by cases e)
    replace hz := Lib.hid hz
    replace hu := Lib.hid hu
    replace ho := Lib.hid ho
    simp only [List.length_nil] at hz hu ho
    clear hI
    go_wp2
    try rw [Exit.noGoto_ret]
    refine bodyPost_ret (res58 _ _ _ _ rfl _ rfl rfl hz.out) rfl ?_
    exact ⟨none, 0, by rw [hgo.out]; rfl, by rw [hgo.out]; exact hu.out, fun a e => (by cases e), ho.out⟩
set_option maxRecDepth 100000 in
set_option maxHeartbeats 8000000 in
theorem goesW_serr (ts : List Thg) (A : Option Addr) (c : Nat) (follow : Bool) (f : Nat) (pl : List Nat) (part : ByteArray) (rest : List ByteArray) (must : Bool) (links : Nat) (Ap : Option Addr) (cp : Nat) (Aq : Option Addr) (cq : Nat) (w : World)
    (hG : Good ts) (ht : RowT w A ts c) (hp : RowU w Ap pl cp) (hq : RowS w Aq (part :: rest) cq) (p0 : 0 < pl.length) (p1 : ∀ n ∈ pl, 1 ≤ n ∧ n < 65536) (p2 : pl.length + todo (part :: rest) links ≤ 9900) (l8 : links ≤ 8)
    (l : List Ent) (hes : entsS ts (lastU pl) = (l, 0)) (hd : ¬ part.toList = [46, 46]) (x : Ent) (hfe : findE l part = some x) (hP : Hid (x.kind = 3 ∧ (0 < rest.length ∨ must = true ∨ follow = true))) (h8 : ¬ 8 ≤ links) (tg : ByteArray) (hts : targS ts x.num = (tg, 0)) (ab sl : Bool) (parts : List ByteArray) (se : Int) (hsp : split tg = ⟨ab, parts, sl, se⟩) (he : ¬ se = 0) {R : Fnd × Int} (hgo : R = (noF, se)) :
    Calls Try.prog 58 #[.slice A ts.length c, .slice Ap pl.length cp, .slice Aq (part :: rest).length cq, .bool must, .bool follow, .int .i64 links] w fun r w' => GoesPost Ap R w r w' := by
  have hI := GInv.start ht hp hq p0
  obtain ⟨m, hm⟩ : ∃ m, pl.length = m + 1 := ⟨pl.length - 1, by omega⟩
  have hla := lastU_at hm
  have hl1 := p1 _ (lastU_mem p0)
  have hlt : rest.length + 1 ≤ 9900 := by have := todo_le (part :: rest) links; simp only [List.length_cons] at this; omega
  obtain ⟨bp, op, eAp, _, c1⟩ := hI.rp.lit hla
  obtain ⟨bq, oq, eAq, _, hcell⟩ := hI.rq.1.2 (by simp)
  have c2 := hcell 0 (.string part) rfl
  have hcq := hI.rq.2.1
  have hcp := hI.rp.2.1
  simp only [List.length_cons] at hcq
  rw [hm] at hcp
  subst eAp
  subst eAq
  have k0 : ((rest.length : Int) + 1 == 0) = false := by simp; omega
  have k1 : (0 : Int) ≤ (m : Int) := by omega
  have k2 : (m : Int) < (m : Int) + 1 := by omega
  have k3 : IntKind.i64.wrap ((m : Int) + 1 - 1) = (m : Int) := by rw [IntKind.wrap_i64]; omega
  have k8 : (0 : Int) < (rest.length : Int) + 1 := by omega
  have k9 : (1 : Int) ≤ (rest.length : Int) + 1 := by omega
  simp only [Nat.add_zero] at c2
  replace hgo := Lib.hid hgo
  simp only [List.length_cons]
  rw [hm]
  clear hcell hla
  go_enter Try.func58, Try.ntmps58
  go_wp2
  generalize World.alloc _ _ = w1 at *
  generalize w.heap.size = g0 at *
  go_quiet (fail)
  have hI := hI.only (Only.drewN (Only.refl _ _) nq)
  have hrq := hI.rq.rest8
  generalize (if cq = 1 then some (⟨bq, oq, none⟩ : Addr) else some ⟨bq, oq + 1, none⟩) = Ar at *
  generalize w1.drewN nq = w2 at *
  clear c1 c2 k0 k1 k2 k3 k8 k9
  generalize hn : rest.length = n at *
  replace hn := Lib.hid hn
  have hdb : (part.toList == [46, 46]) = false := by rw [beq_eq_false_iff_ne]; exact hd
  replace hd := Lib.hid hd
  have hE := entriesR_any ts _ c (lastU pl) w2 hI.rt hl1.2 hG.1 (fun t ht => (hG.2 t ht).2.1)
  rw [hes] at hE
  simp only at hE
  have hgd := ents_good hG (lastU pl)
  rw [hes] at hgd
  have hl64 := (are_ok hgd).1
  simp only at hl64
  go_wp2_with fail
  refine hE.mono ?_
  rintro r w3 ⟨A5, c5, rfl, h5, ho3⟩
  have hI := hI.only ho3
  have hrq := hrq.only ho3 (fun _ _ _ x => x)
  clear hE
  have hF := findR_any l A5 c5 part w3 h5 (by omega)
  rw [hfe] at hF
  have hFn : Calls Try.prog 43 #[.slice A5 l.length c5, .string part] w3 fun r w' => r = .returned (.tuple #[.agg #[.string x.nm, .int .u16 x.num, .int .u8 x.kind], .bool true]) ∧ Only (fun _ => False) w3 w' := hF
  have hxm : x ∈ l := List.mem_of_find?_eq_some hfe
  obtain ⟨_, hn1, hn2, hk1, hk2⟩ := may_ok (are_may hgd x hxm)
  clear hF hgd h5 hxm
  go_wp2_with fail
  refine hFn.mono ?_
  rintro r w4 ⟨rfl, ho4⟩
  have oa := (Only.refl (fun _ => False) w4).alloc (.cells #[.string x.nm, .int .u16 x.num, .int .u8 x.kind] 79)
  have hI := (hI.only ho4).only oa
  have hrq := (hrq.only ho4 (fun _ _ _ x => x)).only oa (fun _ _ _ x => x)
  have hbx := Blk.new w4 79 #[.string x.nm, .int .u16 x.num, .int .u8 x.kind]
  clear hFn ho4 oa
  have x1 := hbx.cell 1
  have x2 := hbx.cell 2
  simp only [List.getElem?_toArray, List.getElem?_cons_zero, List.getElem?_cons_succ] at x1 x2
  go_upto_region 17 with fail
  generalize w4.alloc (.cells #[.string x.nm, .int .u16 x.num, .int .u8 x.kind] 79) = w5 at *
  generalize w4.heap.size = gx at *
  go_cut [102] (fun s102 W => s102 = .bool (decide (x.kind = 3 ∧ (0 < n ∨ must = true ∨ follow = true))) ∧ W = w5)
  case first =>
    clear hm hcp hcq
    by_cases k3 : x.kind = 3
    · have k3b : ((x.kind : Int) == 3) = true := by rw [k3]; rfl
      by_cases hr0 : 0 < n
      · have j0 : (0 : Int) < (n : Int) := by omega
        go_wp2_with fail
        go_meet
        exact ⟨by simp [k3, hr0], rfl⟩
      · have j0 : ¬ (0 : Int) < (n : Int) := by omega
        cases must with
        | true =>
          go_wp2_with fail
          go_meet
          exact ⟨by simp [k3], rfl⟩
        | false =>
          cases follow with
          | true =>
            go_wp2_with fail
            go_meet
            exact ⟨by simp [k3], rfl⟩
          | false =>
            go_wp2_with fail
            go_meet
            exact ⟨by simp [k3]; omega, rfl⟩
    · have k3b : ((x.kind : Int) == 3) = false := by simp; omega
      go_wp2_with fail
      go_meet
      exact ⟨by simp [k3], rfl⟩
  case rest =>
    obtain ⟨rfl, rfl⟩ := hcut
    rw [decide_eq_true hP.out]
    clear hP
    have j8 : ¬ (8 : Int) ≤ (links : Int) := by omega
    have hT := targetR_any ts _ c x.num _ hI.rt (by omega) hG.1
    rw [hts] at hT
    simp only at hT
    go_wp2_with fail
    refine hT.mono ?_
    rintro r w6 ⟨s6, rfl, hs6, ho6⟩
    have hI := hI.only ho6
    have hrq := hrq.only ho6 (fun _ _ _ x => x)
    clear hT x1 x2 hbx
    obtain rfl := hs6 trivial
    have hS := splitR_any s6 w6
    rw [hsp] at hS
    simp only at hS
    go_wp2_with fail
    refine hS.mono ?_
    rintro r w7 ⟨Ax, cx, rfl, hx, ho7⟩
    have oa7 := (Only.refl (fun _ => False) w7).alloc (.cells #[.bool ab, .slice Ax parts.length cx, .bool sl] 29)
    have hI := (hI.only ho7).only oa7
    have hrq := (hrq.only ho7 (fun _ _ _ x => x)).only oa7 (fun _ _ _ x => x)
    have hx := hx.only oa7 (fun _ _ _ x => x)
    have hbp := Blk.new w7 29 #[.bool ab, .slice Ax parts.length cx, .bool sl]
    clear hS ho7 oa7
    have heb : (se != 0) = true := by rw [bne, beq_false_of_ne he]; rfl
    replace he := Lib.hid he
    clear hm hts hsp hx hbp
    try clear hcp
    try clear hcq
    try clear hlt
    try clear hl64
    try clear hrq
    try clear p2
    try clear hn
    try clear hp
    try clear hq
    try clear ht
    try clear hG
    go_upto_region 25 with fail
    have q0 := hI.bf.cell 0
    have qf0 := hI.bf.frozen 0
    have q1 := hI.bf.cell 1
    have qf1 := hI.bf.frozen 1
    have q2 := hI.bf.cell 2
    have qf2 := hI.bf.frozen 2
    have q3 := hI.bf.cell 3
    have qf3 := hI.bf.frozen 3
    have q4 := hI.bf.cell 4
    have qf4 := hI.bf.frozen 4
    have q5 := hI.bf.cell 5
    have qf5 := hI.bf.frozen 5
    simp only [List.getElem?_toArray, List.getElem?_cons_zero, List.getElem?_cons_succ] at q0 q1 q2 q3 q4 q5
    obtain ⟨hz, hu, ho⟩ := hI.put (B := none) (d := (0 : Int)) (n := (0 : Int)) (k := (0 : Int)) (s := ⟨#[]⟩) (m := false) (l := ([] : List Nat)) (cu := 0) (RowU.nil _) (fun a e => by cases e)
    replace hz := Lib.hid hz
    replace hu := Lib.hid hu
    replace ho := Lib.hid ho
    simp only [List.length_nil] at hz hu ho
    clear hI
    go_wp2
    try rw [Exit.noGoto_ret]
    refine bodyPost_ret (res58 _ _ _ _ rfl _ rfl rfl hz.out) rfl ?_
    exact ⟨none, 0, by rw [hgo.out]; rfl, by rw [hgo.out]; exact hu.out, fun a e => (by cases e), ho.out⟩
set_option maxRecDepth 100000 in
set_option maxHeartbeats 8000000 in
theorem goesW_notdir_end (ts : List Thg) (A : Option Addr) (c : Nat) (follow : Bool) (f : Nat) (pl : List Nat) (part : ByteArray) (rest : List ByteArray) (must : Bool) (links : Nat) (Ap : Option Addr) (cp : Nat) (Aq : Option Addr) (cq : Nat) (w : World)
    (hG : Good ts) (ht : RowT w A ts c) (hp : RowU w Ap pl cp) (hq : RowS w Aq (part :: rest) cq) (p0 : 0 < pl.length) (p1 : ∀ n ∈ pl, 1 ≤ n ∧ n < 65536) (p2 : pl.length + todo (part :: rest) links ≤ 9900) (l8 : links ≤ 8)
    (l : List Ent) (hes : entsS ts (lastU pl) = (l, 0)) (hd : ¬ part.toList = [46, 46]) (x : Ent) (hfe : findE l part = some x) (hP : Hid (¬ (x.kind = 3 ∧ (0 < rest.length ∨ must = true ∨ follow = true)))) (hr : Hid (rest.length = 0)) (hm1 : Hid (must = true)) (h2 : Hid (¬ x.kind = 2)) {R : Fnd × Int} (hgo : R = (noF, 24)) :
    Calls Try.prog 58 #[.slice A ts.length c, .slice Ap pl.length cp, .slice Aq (part :: rest).length cq, .bool must, .bool follow, .int .i64 links] w fun r w' => GoesPost Ap R w r w' := by
  have hI := GInv.start ht hp hq p0
  obtain ⟨m, hm⟩ : ∃ m, pl.length = m + 1 := ⟨pl.length - 1, by omega⟩
  have hla := lastU_at hm
  have hl1 := p1 _ (lastU_mem p0)
  have hlt : rest.length + 1 ≤ 9900 := by have := todo_le (part :: rest) links; simp only [List.length_cons] at this; omega
  obtain ⟨bp, op, eAp, _, c1⟩ := hI.rp.lit hla
  obtain ⟨bq, oq, eAq, _, hcell⟩ := hI.rq.1.2 (by simp)
  have c2 := hcell 0 (.string part) rfl
  have hcq := hI.rq.2.1
  have hcp := hI.rp.2.1
  simp only [List.length_cons] at hcq
  rw [hm] at hcp
  subst eAp
  subst eAq
  have k0 : ((rest.length : Int) + 1 == 0) = false := by simp; omega
  have k1 : (0 : Int) ≤ (m : Int) := by omega
  have k2 : (m : Int) < (m : Int) + 1 := by omega
  have k3 : IntKind.i64.wrap ((m : Int) + 1 - 1) = (m : Int) := by rw [IntKind.wrap_i64]; omega
  have k8 : (0 : Int) < (rest.length : Int) + 1 := by omega
  have k9 : (1 : Int) ≤ (rest.length : Int) + 1 := by omega
  simp only [Nat.add_zero] at c2
  replace hgo := Lib.hid hgo
  simp only [List.length_cons]
  rw [hm]
  clear hcell hla
  go_enter Try.func58, Try.ntmps58
  go_wp2
  generalize World.alloc _ _ = w1 at *
  generalize w.heap.size = g0 at *
  go_quiet (fail)
  have hI := hI.only (Only.drewN (Only.refl _ _) nq)
  have hrq := hI.rq.rest8
  generalize (if cq = 1 then some (⟨bq, oq, none⟩ : Addr) else some ⟨bq, oq + 1, none⟩) = Ar at *
  generalize w1.drewN nq = w2 at *
  clear c1 c2 k0 k1 k2 k3 k8 k9
  generalize hn : rest.length = n at *
  replace hn := Lib.hid hn
  have hdb : (part.toList == [46, 46]) = false := by rw [beq_eq_false_iff_ne]; exact hd
  replace hd := Lib.hid hd
  have hE := entriesR_any ts _ c (lastU pl) w2 hI.rt hl1.2 hG.1 (fun t ht => (hG.2 t ht).2.1)
  rw [hes] at hE
  simp only at hE
  have hgd := ents_good hG (lastU pl)
  rw [hes] at hgd
  have hl64 := (are_ok hgd).1
  simp only at hl64
  go_wp2_with fail
  refine hE.mono ?_
  rintro r w3 ⟨A5, c5, rfl, h5, ho3⟩
  have hI := hI.only ho3
  have hrq := hrq.only ho3 (fun _ _ _ x => x)
  clear hE
  have hF := findR_any l A5 c5 part w3 h5 (by omega)
  rw [hfe] at hF
  have hFn : Calls Try.prog 43 #[.slice A5 l.length c5, .string part] w3 fun r w' => r = .returned (.tuple #[.agg #[.string x.nm, .int .u16 x.num, .int .u8 x.kind], .bool true]) ∧ Only (fun _ => False) w3 w' := hF
  have hxm : x ∈ l := List.mem_of_find?_eq_some hfe
  obtain ⟨_, hn1, hn2, hk1, hk2⟩ := may_ok (are_may hgd x hxm)
  clear hF hgd h5 hxm
  go_wp2_with fail
  refine hFn.mono ?_
  rintro r w4 ⟨rfl, ho4⟩
  have oa := (Only.refl (fun _ => False) w4).alloc (.cells #[.string x.nm, .int .u16 x.num, .int .u8 x.kind] 79)
  have hI := (hI.only ho4).only oa
  have hrq := (hrq.only ho4 (fun _ _ _ x => x)).only oa (fun _ _ _ x => x)
  have hbx := Blk.new w4 79 #[.string x.nm, .int .u16 x.num, .int .u8 x.kind]
  clear hFn ho4 oa
  have x1 := hbx.cell 1
  have x2 := hbx.cell 2
  simp only [List.getElem?_toArray, List.getElem?_cons_zero, List.getElem?_cons_succ] at x1 x2
  go_upto_region 17 with fail
  generalize w4.alloc (.cells #[.string x.nm, .int .u16 x.num, .int .u8 x.kind] 79) = w5 at *
  generalize w4.heap.size = gx at *
  go_cut [102] (fun s102 W => s102 = .bool (decide (x.kind = 3 ∧ (0 < n ∨ must = true ∨ follow = true))) ∧ W = w5)
  case first =>
    clear hm hcp hcq
    by_cases k3 : x.kind = 3
    · have k3b : ((x.kind : Int) == 3) = true := by rw [k3]; rfl
      by_cases hr0 : 0 < n
      · have j0 : (0 : Int) < (n : Int) := by omega
        go_wp2_with fail
        go_meet
        exact ⟨by simp [k3, hr0], rfl⟩
      · have j0 : ¬ (0 : Int) < (n : Int) := by omega
        cases must with
        | true =>
          go_wp2_with fail
          go_meet
          exact ⟨by simp [k3], rfl⟩
        | false =>
          cases follow with
          | true =>
            go_wp2_with fail
            go_meet
            exact ⟨by simp [k3], rfl⟩
          | false =>
            go_wp2_with fail
            go_meet
            exact ⟨by simp [k3]; omega, rfl⟩
    · have k3b : ((x.kind : Int) == 3) = false := by simp; omega
      go_wp2_with fail
      go_meet
      exact ⟨by simp [k3], rfl⟩
  case rest =>
    obtain ⟨rfl, rfl⟩ := hcut
    rw [decide_eq_false hP.out]
    clear hP
    have j0 : ((n : Int) == 0) = true := by have := hr.out; have := hn.out; simp; omega
    have j2 : ((x.kind : Int) != 2) = true := by have := h2.out; simp; omega
    obtain rfl := hm1.out
    clear hm hr h2 hm1
    try clear hcp
    try clear hcq
    try clear hlt
    try clear hl64
    try clear hrq
    try clear p2
    try clear hn
    try clear hp
    try clear hq
    try clear ht
    try clear hG
    go_upto_region 33 with fail
    have q0 := hI.bf.cell 0
    have qf0 := hI.bf.frozen 0
    have q1 := hI.bf.cell 1
    have qf1 := hI.bf.frozen 1
    have q2 := hI.bf.cell 2
    have qf2 := hI.bf.frozen 2
    have q3 := hI.bf.cell 3
    have qf3 := hI.bf.frozen 3
    have q4 := hI.bf.cell 4
    have qf4 := hI.bf.frozen 4
    have q5 := hI.bf.cell 5
    have qf5 := hI.bf.frozen 5
    simp only [List.getElem?_toArray, List.getElem?_cons_zero, List.getElem?_cons_succ] at q0 q1 q2 q3 q4 q5
    obtain ⟨hz, hu, ho⟩ := hI.put (B := none) (d := (0 : Int)) (n := (0 : Int)) (k := (0 : Int)) (s := ⟨#[]⟩) (m := false) (l := ([] : List Nat)) (cu := 0) (RowU.nil _) (fun a e => by cases e)
    replace hz := Lib.hid hz
    replace hu := Lib.hid hu
    replace ho := Lib.hid ho
    simp only [List.length_nil] at hz hu ho
    clear hI
    go_wp2
    try rw [Exit.noGoto_ret]
    refine bodyPost_ret (res58 _ _ _ _ rfl _ rfl rfl hz.out) rfl ?_
    exact ⟨none, 0, by rw [hgo.out]; rfl, by rw [hgo.out]; exact hu.out, fun a e => (by cases e), ho.out⟩
set_option maxRecDepth 100000 in
set_option maxHeartbeats 8000000 in
theorem goesW_notdir (ts : List Thg) (A : Option Addr) (c : Nat) (follow : Bool) (f : Nat) (pl : List Nat) (part : ByteArray) (rest : List ByteArray) (must : Bool) (links : Nat) (Ap : Option Addr) (cp : Nat) (Aq : Option Addr) (cq : Nat) (w : World)
    (hG : Good ts) (ht : RowT w A ts c) (hp : RowU w Ap pl cp) (hq : RowS w Aq (part :: rest) cq) (p0 : 0 < pl.length) (p1 : ∀ n ∈ pl, 1 ≤ n ∧ n < 65536) (p2 : pl.length + todo (part :: rest) links ≤ 9900) (l8 : links ≤ 8)
    (l : List Ent) (hes : entsS ts (lastU pl) = (l, 0)) (hd : ¬ part.toList = [46, 46]) (x : Ent) (hfe : findE l part = some x) (hP : Hid (¬ (x.kind = 3 ∧ (0 < rest.length ∨ must = true ∨ follow = true)))) (hr : Hid (0 < rest.length)) (h2 : Hid (¬ x.kind = 2)) {R : Fnd × Int} (hgo : R = (noF, 24)) :
    Calls Try.prog 58 #[.slice A ts.length c, .slice Ap pl.length cp, .slice Aq (part :: rest).length cq, .bool must, .bool follow, .int .i64 links] w fun r w' => GoesPost Ap R w r w' := by
  have hI := GInv.start ht hp hq p0
  obtain ⟨m, hm⟩ : ∃ m, pl.length = m + 1 := ⟨pl.length - 1, by omega⟩
  have hla := lastU_at hm
  have hl1 := p1 _ (lastU_mem p0)
  have hlt : rest.length + 1 ≤ 9900 := by have := todo_le (part :: rest) links; simp only [List.length_cons] at this; omega
  obtain ⟨bp, op, eAp, _, c1⟩ := hI.rp.lit hla
  obtain ⟨bq, oq, eAq, _, hcell⟩ := hI.rq.1.2 (by simp)
  have c2 := hcell 0 (.string part) rfl
  have hcq := hI.rq.2.1
  have hcp := hI.rp.2.1
  simp only [List.length_cons] at hcq
  rw [hm] at hcp
  subst eAp
  subst eAq
  have k0 : ((rest.length : Int) + 1 == 0) = false := by simp; omega
  have k1 : (0 : Int) ≤ (m : Int) := by omega
  have k2 : (m : Int) < (m : Int) + 1 := by omega
  have k3 : IntKind.i64.wrap ((m : Int) + 1 - 1) = (m : Int) := by rw [IntKind.wrap_i64]; omega
  have k8 : (0 : Int) < (rest.length : Int) + 1 := by omega
  have k9 : (1 : Int) ≤ (rest.length : Int) + 1 := by omega
  simp only [Nat.add_zero] at c2
  replace hgo := Lib.hid hgo
  simp only [List.length_cons]
  rw [hm]
  clear hcell hla
  go_enter Try.func58, Try.ntmps58
  go_wp2
  generalize World.alloc _ _ = w1 at *
  generalize w.heap.size = g0 at *
  go_quiet (fail)
  have hI := hI.only (Only.drewN (Only.refl _ _) nq)
  have hrq := hI.rq.rest8
  generalize (if cq = 1 then some (⟨bq, oq, none⟩ : Addr) else some ⟨bq, oq + 1, none⟩) = Ar at *
  generalize w1.drewN nq = w2 at *
  clear c1 c2 k0 k1 k2 k3 k8 k9
  generalize hn : rest.length = n at *
  replace hn := Lib.hid hn
  have hdb : (part.toList == [46, 46]) = false := by rw [beq_eq_false_iff_ne]; exact hd
  replace hd := Lib.hid hd
  have hE := entriesR_any ts _ c (lastU pl) w2 hI.rt hl1.2 hG.1 (fun t ht => (hG.2 t ht).2.1)
  rw [hes] at hE
  simp only at hE
  have hgd := ents_good hG (lastU pl)
  rw [hes] at hgd
  have hl64 := (are_ok hgd).1
  simp only at hl64
  go_wp2_with fail
  refine hE.mono ?_
  rintro r w3 ⟨A5, c5, rfl, h5, ho3⟩
  have hI := hI.only ho3
  have hrq := hrq.only ho3 (fun _ _ _ x => x)
  clear hE
  have hF := findR_any l A5 c5 part w3 h5 (by omega)
  rw [hfe] at hF
  have hFn : Calls Try.prog 43 #[.slice A5 l.length c5, .string part] w3 fun r w' => r = .returned (.tuple #[.agg #[.string x.nm, .int .u16 x.num, .int .u8 x.kind], .bool true]) ∧ Only (fun _ => False) w3 w' := hF
  have hxm : x ∈ l := List.mem_of_find?_eq_some hfe
  obtain ⟨_, hn1, hn2, hk1, hk2⟩ := may_ok (are_may hgd x hxm)
  clear hF hgd h5 hxm
  go_wp2_with fail
  refine hFn.mono ?_
  rintro r w4 ⟨rfl, ho4⟩
  have oa := (Only.refl (fun _ => False) w4).alloc (.cells #[.string x.nm, .int .u16 x.num, .int .u8 x.kind] 79)
  have hI := (hI.only ho4).only oa
  have hrq := (hrq.only ho4 (fun _ _ _ x => x)).only oa (fun _ _ _ x => x)
  have hbx := Blk.new w4 79 #[.string x.nm, .int .u16 x.num, .int .u8 x.kind]
  clear hFn ho4 oa
  have x1 := hbx.cell 1
  have x2 := hbx.cell 2
  simp only [List.getElem?_toArray, List.getElem?_cons_zero, List.getElem?_cons_succ] at x1 x2
  go_upto_region 17 with fail
  generalize w4.alloc (.cells #[.string x.nm, .int .u16 x.num, .int .u8 x.kind] 79) = w5 at *
  generalize w4.heap.size = gx at *
  go_cut [102] (fun s102 W => s102 = .bool (decide (x.kind = 3 ∧ (0 < n ∨ must = true ∨ follow = true))) ∧ W = w5)
  case first =>
    clear hm hcp hcq
    by_cases k3 : x.kind = 3
    · have k3b : ((x.kind : Int) == 3) = true := by rw [k3]; rfl
      by_cases hr0 : 0 < n
      · have j0 : (0 : Int) < (n : Int) := by omega
        go_wp2_with fail
        go_meet
        exact ⟨by simp [k3, hr0], rfl⟩
      · have j0 : ¬ (0 : Int) < (n : Int) := by omega
        cases must with
        | true =>
          go_wp2_with fail
          go_meet
          exact ⟨by simp [k3], rfl⟩
        | false =>
          cases follow with
          | true =>
            go_wp2_with fail
            go_meet
            exact ⟨by simp [k3], rfl⟩
          | false =>
            go_wp2_with fail
            go_meet
            exact ⟨by simp [k3]; omega, rfl⟩
    · have k3b : ((x.kind : Int) == 3) = false := by simp; omega
      go_wp2_with fail
      go_meet
      exact ⟨by simp [k3], rfl⟩
  case rest =>
    obtain ⟨rfl, rfl⟩ := hcut
    rw [decide_eq_false hP.out]
    clear hP
    have j0 : ((n : Int) == 0) = false := by have := hr.out; have := hn.out; simp; omega
    have j2 : ((x.kind : Int) != 2) = true := by have := h2.out; simp; omega
    clear hm hr h2
    try clear hcp
    try clear hcq
    try clear hlt
    try clear hl64
    try clear hrq
    try clear p2
    try clear hn
    try clear hp
    try clear hq
    try clear ht
    try clear hG
    go_upto_region 36 with fail
    have q0 := hI.bf.cell 0
    have qf0 := hI.bf.frozen 0
    have q1 := hI.bf.cell 1
    have qf1 := hI.bf.frozen 1
    have q2 := hI.bf.cell 2
    have qf2 := hI.bf.frozen 2
    have q3 := hI.bf.cell 3
    have qf3 := hI.bf.frozen 3
    have q4 := hI.bf.cell 4
    have qf4 := hI.bf.frozen 4
    have q5 := hI.bf.cell 5
    have qf5 := hI.bf.frozen 5
    simp only [List.getElem?_toArray, List.getElem?_cons_zero, List.getElem?_cons_succ] at q0 q1 q2 q3 q4 q5
    obtain ⟨hz, hu, ho⟩ := hI.put (B := none) (d := (0 : Int)) (n := (0 : Int)) (k := (0 : Int)) (s := ⟨#[]⟩) (m := false) (l := ([] : List Nat)) (cu := 0) (RowU.nil _) (fun a e => by cases e)
    replace hz := Lib.hid hz
    replace hu := Lib.hid hu
    replace ho := Lib.hid ho
    simp only [List.length_nil] at hz hu ho
    clear hI
    go_wp2
    try rw [Exit.noGoto_ret]
    refine bodyPost_ret (res58 _ _ _ _ rfl _ rfl rfl hz.out) rfl ?_
    exact ⟨none, 0, by rw [hgo.out]; rfl, by rw [hgo.out]; exact hu.out, fun a e => (by cases e), ho.out⟩
set_option maxRecDepth 100000 in
set_option maxHeartbeats 8000000 in
theorem goesW_found (ts : List Thg) (A : Option Addr) (c : Nat) (follow : Bool) (f : Nat) (pl : List Nat) (part : ByteArray) (rest : List ByteArray) (must : Bool) (links : Nat) (Ap : Option Addr) (cp : Nat) (Aq : Option Addr) (cq : Nat) (w : World)
    (hG : Good ts) (ht : RowT w A ts c) (hp : RowU w Ap pl cp) (hq : RowS w Aq (part :: rest) cq) (p0 : 0 < pl.length) (p1 : ∀ n ∈ pl, 1 ≤ n ∧ n < 65536) (p2 : pl.length + todo (part :: rest) links ≤ 9900) (l8 : links ≤ 8)
    (l : List Ent) (hes : entsS ts (lastU pl) = (l, 0)) (hd : ¬ part.toList = [46, 46]) (x : Ent) (hfe : findE l part = some x) (hP : Hid (¬ (x.kind = 3 ∧ (0 < rest.length ∨ must = true ∨ follow = true)))) (hr : Hid (rest.length = 0)) (hk : Hid (must = false ∨ x.kind = 2)) {R : Fnd × Int} (hgo : R = (⟨lastU pl, part, x.num, x.kind, must, pl⟩, 0)) :
    Calls Try.prog 58 #[.slice A ts.length c, .slice Ap pl.length cp, .slice Aq (part :: rest).length cq, .bool must, .bool follow, .int .i64 links] w fun r w' => GoesPost Ap R w r w' := by
  have hI := GInv.start ht hp hq p0
  obtain ⟨m, hm⟩ : ∃ m, pl.length = m + 1 := ⟨pl.length - 1, by omega⟩
  have hla := lastU_at hm
  have hl1 := p1 _ (lastU_mem p0)
  have hlt : rest.length + 1 ≤ 9900 := by have := todo_le (part :: rest) links; simp only [List.length_cons] at this; omega
  obtain ⟨bp, op, eAp, _, c1⟩ := hI.rp.lit hla
  obtain ⟨bq, oq, eAq, _, hcell⟩ := hI.rq.1.2 (by simp)
  have c2 := hcell 0 (.string part) rfl
  have hcq := hI.rq.2.1
  have hcp := hI.rp.2.1
  simp only [List.length_cons] at hcq
  rw [hm] at hcp
  subst eAp
  subst eAq
  have k0 : ((rest.length : Int) + 1 == 0) = false := by simp; omega
  have k1 : (0 : Int) ≤ (m : Int) := by omega
  have k2 : (m : Int) < (m : Int) + 1 := by omega
  have k3 : IntKind.i64.wrap ((m : Int) + 1 - 1) = (m : Int) := by rw [IntKind.wrap_i64]; omega
  have k8 : (0 : Int) < (rest.length : Int) + 1 := by omega
  have k9 : (1 : Int) ≤ (rest.length : Int) + 1 := by omega
  simp only [Nat.add_zero] at c2
  replace hgo := Lib.hid hgo
  simp only [List.length_cons]
  rw [hm]
  clear hcell hla
  go_enter Try.func58, Try.ntmps58
  go_wp2
  generalize World.alloc _ _ = w1 at *
  generalize w.heap.size = g0 at *
  go_quiet (fail)
  have hI := hI.only (Only.drewN (Only.refl _ _) nq)
  have hrq := hI.rq.rest8
  generalize (if cq = 1 then some (⟨bq, oq, none⟩ : Addr) else some ⟨bq, oq + 1, none⟩) = Ar at *
  generalize w1.drewN nq = w2 at *
  clear c1 c2 k0 k1 k2 k3 k8 k9
  generalize hn : rest.length = n at *
  replace hn := Lib.hid hn
  have hdb : (part.toList == [46, 46]) = false := by rw [beq_eq_false_iff_ne]; exact hd
  replace hd := Lib.hid hd
  have hE := entriesR_any ts _ c (lastU pl) w2 hI.rt hl1.2 hG.1 (fun t ht => (hG.2 t ht).2.1)
  rw [hes] at hE
  simp only at hE
  have hgd := ents_good hG (lastU pl)
  rw [hes] at hgd
  have hl64 := (are_ok hgd).1
  simp only at hl64
  go_wp2_with fail
  refine hE.mono ?_
  rintro r w3 ⟨A5, c5, rfl, h5, ho3⟩
  have hI := hI.only ho3
  have hrq := hrq.only ho3 (fun _ _ _ x => x)
  clear hE
  have hF := findR_any l A5 c5 part w3 h5 (by omega)
  rw [hfe] at hF
  have hFn : Calls Try.prog 43 #[.slice A5 l.length c5, .string part] w3 fun r w' => r = .returned (.tuple #[.agg #[.string x.nm, .int .u16 x.num, .int .u8 x.kind], .bool true]) ∧ Only (fun _ => False) w3 w' := hF
  have hxm : x ∈ l := List.mem_of_find?_eq_some hfe
  obtain ⟨_, hn1, hn2, hk1, hk2⟩ := may_ok (are_may hgd x hxm)
  clear hF hgd h5 hxm
  go_wp2_with fail
  refine hFn.mono ?_
  rintro r w4 ⟨rfl, ho4⟩
  have oa := (Only.refl (fun _ => False) w4).alloc (.cells #[.string x.nm, .int .u16 x.num, .int .u8 x.kind] 79)
  have hI := (hI.only ho4).only oa
  have hrq := (hrq.only ho4 (fun _ _ _ x => x)).only oa (fun _ _ _ x => x)
  have hbx := Blk.new w4 79 #[.string x.nm, .int .u16 x.num, .int .u8 x.kind]
  clear hFn ho4 oa
  have x1 := hbx.cell 1
  have x2 := hbx.cell 2
  simp only [List.getElem?_toArray, List.getElem?_cons_zero, List.getElem?_cons_succ] at x1 x2
  go_upto_region 17 with fail
  generalize w4.alloc (.cells #[.string x.nm, .int .u16 x.num, .int .u8 x.kind] 79) = w5 at *
  generalize w4.heap.size = gx at *
  go_cut [102] (fun s102 W => s102 = .bool (decide (x.kind = 3 ∧ (0 < n ∨ must = true ∨ follow = true))) ∧ W = w5)
  case first =>
    clear hm hcp hcq
    by_cases k3 : x.kind = 3
    · have k3b : ((x.kind : Int) == 3) = true := by rw [k3]; rfl
      by_cases hr0 : 0 < n
      · have j0 : (0 : Int) < (n : Int) := by omega
        go_wp2_with fail
        go_meet
        exact ⟨by simp [k3, hr0], rfl⟩
      · have j0 : ¬ (0 : Int) < (n : Int) := by omega
        cases must with
        | true =>
          go_wp2_with fail
          go_meet
          exact ⟨by simp [k3], rfl⟩
        | false =>
          cases follow with
          | true =>
            go_wp2_with fail
            go_meet
            exact ⟨by simp [k3], rfl⟩
          | false =>
            go_wp2_with fail
            go_meet
            exact ⟨by simp [k3]; omega, rfl⟩
    · have k3b : ((x.kind : Int) == 3) = false := by simp; omega
      go_wp2_with fail
      go_meet
      exact ⟨by simp [k3], rfl⟩
  case rest =>
    obtain ⟨rfl, rfl⟩ := hcut
    rw [decide_eq_false hP.out]
    clear hP
    have j0 : ((n : Int) == 0) = true := by have := hr.out; have := hn.out; simp; omega
    clear hr
    have hbx' := Lib.hid hbx
    have x1' := Lib.hid x1
    clear hbx x1
    cases must with
    | true =>
      have j2 : ((x.kind : Int) != 2) = false := by have := hk.out; simp at this; rw [this]; rfl
      clear hk
      go_upto_region 34 with fail
      have x1 := x1'.out
      try clear hcp
      try clear hcq
      try clear hlt
      try clear hl64
      try clear hrq
      try clear p2
      try clear hn
      try clear hp
      try clear hq
      try clear ht
      try clear hG
      have q0 := hI.bf.cell 0
      have qf0 := hI.bf.frozen 0
      have q1 := hI.bf.cell 1
      have qf1 := hI.bf.frozen 1
      have q2 := hI.bf.cell 2
      have qf2 := hI.bf.frozen 2
      have q3 := hI.bf.cell 3
      have qf3 := hI.bf.frozen 3
      have q4 := hI.bf.cell 4
      have qf4 := hI.bf.frozen 4
      have q5 := hI.bf.cell 5
      have qf5 := hI.bf.frozen 5
      simp only [List.getElem?_toArray, List.getElem?_cons_zero, List.getElem?_cons_succ] at q0 q1 q2 q3 q4 q5
      obtain ⟨hz, hu, ho⟩ := hI.put (B := (some ⟨bp, op, none⟩)) (d := (lastU pl : Int)) (n := (x.num : Int)) (k := (x.kind : Int)) (s := part) (m := true) (l := pl) (cu := cp) hI.rp (fun a ea => (hI.np a ea).1)
      rw [hm] at hz ho hu
      replace hz := Lib.hid hz
      replace hu := Lib.hid hu
      replace ho := Lib.hid ho
      replace hm := Lib.hid hm
      clear hI
      try clear hcp
      try clear hcq
      try clear hlt
      try clear hl64
      try clear hrq
      try clear p2
      try clear hn
      try clear hp
      try clear hq
      try clear ht
      try clear hG
      go_wp2
      try rw [Exit.noGoto_ret]
      refine bodyPost_ret (res58 _ _ _ _ rfl _ rfl rfl hz.out) rfl ?_
      exact ⟨_, cp, by rw [hgo.out]; simp only [Fnd.cells, hm.out] <;> rfl, by rw [hgo.out]; exact hu.out, fun a e => .inr ⟨a, e, rfl⟩, ho.out⟩
    | false =>
      clear hk
      go_upto_region 34 with fail
      have x1 := x1'.out
      try clear hcp
      try clear hcq
      try clear hlt
      try clear hl64
      try clear hrq
      try clear p2
      try clear hn
      try clear hp
      try clear hq
      try clear ht
      try clear hG
      have q0 := hI.bf.cell 0
      have qf0 := hI.bf.frozen 0
      have q1 := hI.bf.cell 1
      have qf1 := hI.bf.frozen 1
      have q2 := hI.bf.cell 2
      have qf2 := hI.bf.frozen 2
      have q3 := hI.bf.cell 3
      have qf3 := hI.bf.frozen 3
      have q4 := hI.bf.cell 4
      have qf4 := hI.bf.frozen 4
      have q5 := hI.bf.cell 5
      have qf5 := hI.bf.frozen 5
      simp only [List.getElem?_toArray, List.getElem?_cons_zero, List.getElem?_cons_succ] at q0 q1 q2 q3 q4 q5
      obtain ⟨hz, hu, ho⟩ := hI.put (B := (some ⟨bp, op, none⟩)) (d := (lastU pl : Int)) (n := (x.num : Int)) (k := (x.kind : Int)) (s := part) (m := false) (l := pl) (cu := cp) hI.rp (fun a ea => (hI.np a ea).1)
      rw [hm] at hz ho hu
      replace hz := Lib.hid hz
      replace hu := Lib.hid hu
      replace ho := Lib.hid ho
      replace hm := Lib.hid hm
      clear hI
      try clear hcp
      try clear hcq
      try clear hlt
      try clear hl64
      try clear hrq
      try clear p2
      try clear hn
      try clear hp
      try clear hq
      try clear ht
      try clear hG
      go_wp2
      try rw [Exit.noGoto_ret]
      refine bodyPost_ret (res58 _ _ _ _ rfl _ rfl rfl hz.out) rfl ?_
      exact ⟨_, cp, by rw [hgo.out]; simp only [Fnd.cells, hm.out] <;> rfl, by rw [hgo.out]; exact hu.out, fun a e => .inr ⟨a, e, rfl⟩, ho.out⟩
set_option maxRecDepth 100000 in
set_option maxHeartbeats 8000000 in
theorem goesW_push (ts : List Thg) (A : Option Addr) (c : Nat) (follow : Bool) (f : Nat) (pl : List Nat) (part : ByteArray) (rest : List ByteArray) (must : Bool) (links : Nat) (Ap : Option Addr) (cp : Nat) (Aq : Option Addr) (cq : Nat) (w : World)
    (hG : Good ts) (ht : RowT w A ts c) (hp : RowU w Ap pl cp) (hq : RowS w Aq (part :: rest) cq) (p0 : 0 < pl.length) (p1 : ∀ n ∈ pl, 1 ≤ n ∧ n < 65536) (p2 : pl.length + todo (part :: rest) links ≤ 9900) (l8 : links ≤ 8)
    (hrec : GoesAt ts A c follow f) (htd : todo (part :: rest) links < f + 1) (l : List Ent) (hes : entsS ts (lastU pl) = (l, 0)) (hd : ¬ part.toList = [46, 46]) (x : Ent) (hfe : findE l part = some x) (hP : Hid (¬ (x.kind = 3 ∧ (0 < rest.length ∨ must = true ∨ follow = true)))) (hr : Hid (0 < rest.length)) (h2 : Hid (x.kind = 2)) {R : Fnd × Int} (hgo : R = goesF ts follow f (pl ++ [x.num]) rest must links) :
    Calls Try.prog 58 #[.slice A ts.length c, .slice Ap pl.length cp, .slice Aq (part :: rest).length cq, .bool must, .bool follow, .int .i64 links] w fun r w' => GoesPost Ap R w r w' := by
  have hI := GInv.start ht hp hq p0
  obtain ⟨m, hm⟩ : ∃ m, pl.length = m + 1 := ⟨pl.length - 1, by omega⟩
  have hla := lastU_at hm
  have hl1 := p1 _ (lastU_mem p0)
  have hlt : rest.length + 1 ≤ 9900 := by have := todo_le (part :: rest) links; simp only [List.length_cons] at this; omega
  obtain ⟨bp, op, eAp, _, c1⟩ := hI.rp.lit hla
  obtain ⟨bq, oq, eAq, _, hcell⟩ := hI.rq.1.2 (by simp)
  have c2 := hcell 0 (.string part) rfl
  have hcq := hI.rq.2.1
  have hcp := hI.rp.2.1
  simp only [List.length_cons] at hcq
  rw [hm] at hcp
  subst eAp
  subst eAq
  have k0 : ((rest.length : Int) + 1 == 0) = false := by simp; omega
  have k1 : (0 : Int) ≤ (m : Int) := by omega
  have k2 : (m : Int) < (m : Int) + 1 := by omega
  have k3 : IntKind.i64.wrap ((m : Int) + 1 - 1) = (m : Int) := by rw [IntKind.wrap_i64]; omega
  have k8 : (0 : Int) < (rest.length : Int) + 1 := by omega
  have k9 : (1 : Int) ≤ (rest.length : Int) + 1 := by omega
  simp only [Nat.add_zero] at c2
  replace hgo := Lib.hid hgo
  simp only [List.length_cons]
  rw [hm]
  clear hcell hla
  go_enter Try.func58, Try.ntmps58
  go_wp2
  generalize World.alloc _ _ = w1 at *
  generalize w.heap.size = g0 at *
  go_quiet (fail)
  have hI := hI.only (Only.drewN (Only.refl _ _) nq)
  have hrq := hI.rq.rest8
  generalize (if cq = 1 then some (⟨bq, oq, none⟩ : Addr) else some ⟨bq, oq + 1, none⟩) = Ar at *
  generalize w1.drewN nq = w2 at *
  clear c1 c2 k0 k1 k2 k3 k8 k9
  generalize hn : rest.length = n at *
  replace hn := Lib.hid hn
  have hdb : (part.toList == [46, 46]) = false := by rw [beq_eq_false_iff_ne]; exact hd
  replace hd := Lib.hid hd
  have hE := entriesR_any ts _ c (lastU pl) w2 hI.rt hl1.2 hG.1 (fun t ht => (hG.2 t ht).2.1)
  rw [hes] at hE
  simp only at hE
  have hgd := ents_good hG (lastU pl)
  rw [hes] at hgd
  have hl64 := (are_ok hgd).1
  simp only at hl64
  go_wp2_with fail
  refine hE.mono ?_
  rintro r w3 ⟨A5, c5, rfl, h5, ho3⟩
  have hI := hI.only ho3
  have hrq := hrq.only ho3 (fun _ _ _ x => x)
  clear hE
  have hF := findR_any l A5 c5 part w3 h5 (by omega)
  rw [hfe] at hF
  have hFn : Calls Try.prog 43 #[.slice A5 l.length c5, .string part] w3 fun r w' => r = .returned (.tuple #[.agg #[.string x.nm, .int .u16 x.num, .int .u8 x.kind], .bool true]) ∧ Only (fun _ => False) w3 w' := hF
  have hxm : x ∈ l := List.mem_of_find?_eq_some hfe
  obtain ⟨_, hn1, hn2, hk1, hk2⟩ := may_ok (are_may hgd x hxm)
  clear hF hgd h5 hxm
  go_wp2_with fail
  refine hFn.mono ?_
  rintro r w4 ⟨rfl, ho4⟩
  have oa := (Only.refl (fun _ => False) w4).alloc (.cells #[.string x.nm, .int .u16 x.num, .int .u8 x.kind] 79)
  have hI := (hI.only ho4).only oa
  have hrq := (hrq.only ho4 (fun _ _ _ x => x)).only oa (fun _ _ _ x => x)
  have hbx := Blk.new w4 79 #[.string x.nm, .int .u16 x.num, .int .u8 x.kind]
  clear hFn ho4 oa
  have x1 := hbx.cell 1
  have x2 := hbx.cell 2
  simp only [List.getElem?_toArray, List.getElem?_cons_zero, List.getElem?_cons_succ] at x1 x2
  go_upto_region 17 with fail
  generalize w4.alloc (.cells #[.string x.nm, .int .u16 x.num, .int .u8 x.kind] 79) = w5 at *
  generalize w4.heap.size = gx at *
  go_cut [102] (fun s102 W => s102 = .bool (decide (x.kind = 3 ∧ (0 < n ∨ must = true ∨ follow = true))) ∧ W = w5)
  case first =>
    clear hm hcp hcq
    by_cases k3 : x.kind = 3
    · have k3b : ((x.kind : Int) == 3) = true := by rw [k3]; rfl
      by_cases hr0 : 0 < n
      · have j0 : (0 : Int) < (n : Int) := by omega
        go_wp2_with fail
        go_meet
        exact ⟨by simp [k3, hr0], rfl⟩
      · have j0 : ¬ (0 : Int) < (n : Int) := by omega
        cases must with
        | true =>
          go_wp2_with fail
          go_meet
          exact ⟨by simp [k3], rfl⟩
        | false =>
          cases follow with
          | true =>
            go_wp2_with fail
            go_meet
            exact ⟨by simp [k3], rfl⟩
          | false =>
            go_wp2_with fail
            go_meet
            exact ⟨by simp [k3]; omega, rfl⟩
    · have k3b : ((x.kind : Int) == 3) = false := by simp; omega
      go_wp2_with fail
      go_meet
      exact ⟨by simp [k3], rfl⟩
  case rest =>
    obtain ⟨rfl, rfl⟩ := hcut
    rw [decide_eq_false hP.out]
    clear hP
    have j0 : ((n : Int) == 0) = false := by have := hr.out; have := hn.out; simp; omega
    have j2 : ((x.kind : Int) != 2) = false := by have := h2.out; rw [this]; rfl
    have hr1 := hr
    clear hr h2
    go_upto_region 37 with fail
    clear j0 j2 x2
    have od := (Only.refl (fun _ => False) wc).drew
    have hI := hI.only od
    have hrq := hrq.only od (fun _ _ _ x => x)
    have x1 : wc.drew.cell? ⟨gx, 1, none⟩ = some (.int .u16 x.num) := x1
    clear od hbx
    try clear k3 k8 k9 hes hfe hl64 hlt hcp hcq hq hp ht hl1
    generalize hwd : wc.drew = wd at *
    replace hwd := Lib.hid hwd
    have hltx : gx < wd.heap.size := World.block_lt_of_cell? _ _ x1
    have F : ∀ W, Only (fun _ => False) wd W → W.cell? ⟨gx, 1, none⟩ = some (.int .u16 x.num) := fun W hW => (Blk.cell_only hW (a := ⟨gx, 1, none⟩) hltx (fun x => x)).trans x1
    replace F := Lib.hid F
    have hC : ∀ (A9 : Option Addr) (c9 : Nat) (W : World), Only (fun _ => False) wd W → RowU W A9 (pl ++ [x.num]) c9 → Calls Try.prog 58 #[.slice A ts.length c, .slice A9 (pl.length + 1) c9, .slice Ar n (cq - 1 : Nat), .bool must, .bool follow, .int .i64 links] W fun r w' => GoesPost A9 R W r w' := fun A9 c9 W hW hu => by
      have ktd : todo rest links + 1 = todo (part :: rest) links := by unfold todo; simp only [List.length_cons]; omega
      have h1 := hrec (pl ++ [x.num]) rest must links A9 c9 Ar (cq - 1) W (hI.rt.only hW (fun _ _ x => x)) hu (hrq.only hW (fun _ _ _ x => x)) (by simp) (fun k hk => by
        rcases List.mem_append.1 hk with h | h
        · exact p1 k h
        · rw [List.mem_singleton.1 h]; omega) (by rw [List.length_append, List.length_singleton]; omega) l8 (by omega)
      rw [hn.out, List.length_append, List.length_singleton] at h1
      rw [hgo.out]
      exact h1
    replace hC := Lib.hid hC
    have hpl : pl.length ≤ 10000 := by omega
    have hA := push_a (n := x.num) hI.rp hpl
    have hB := push_b (n := x.num) hI.rp hpl
    rw [hm] at hA hB
    replace hA := Lib.hid hA
    replace hB := Lib.hid hB
    have hgW : g0 < wd.heap.size := hI.bf.lt
    have hnwH := Lib.hid hI.nw
    clear hrec htd hgo hrq p0 p1 p2 l8 hpl hn1 hn2 hk1 hk2 hm hG hr1 x1 hltx
    have hS0 := Only.refl (fun _ => False) wd
    refine wp_region_noPanic ?_
    refine wp_region_E 14 (fun W => Only (fun _ => False) wd W) (by kernel_rfl) ?_
    rw [hwd.out]
    refine E_take (v := ?v0) 0 rfl (by kernel_rfl) (by kernel_rfl) (by kernel_rfl) (by kernel_rfl) (by kernel_rfl) (by kernel_rfl) (fun _ _ _ h => h) rfl hS0 ?vh0 ?_
    case vh0 => intro W hW; have t0 := F.out W hW; go_simp; try with_reducible rfl
    simp only [Act.put, List.setIfInBounds_toArray, List.set_cons_zero, List.set_cons_succ]
    refine E_take (v := ?v1) 1 rfl (by kernel_rfl) (by kernel_rfl) (by kernel_rfl) (by kernel_rfl) (by kernel_rfl) (by kernel_rfl) (fun _ _ _ h => h) rfl hS0 ?vh1 ?_
    case vh1 => intro W hW; have t0 := F.out W hW; go_simp; try with_reducible rfl
    simp only [Act.put, List.setIfInBounds_toArray, List.set_cons_zero, List.set_cons_succ]
    refine E_take (v := ?v3) 3 rfl (by kernel_rfl) (by kernel_rfl) (by kernel_rfl) (by kernel_rfl) (by kernel_rfl) (by kernel_rfl) (fun _ _ _ h => h) rfl hS0 ?vh3 ?_
    case vh3 => intro W hW; have t0 := F.out W hW; go_simp; try with_reducible rfl
    simp only [Act.put, List.setIfInBounds_toArray, List.set_cons_zero, List.set_cons_succ]
    refine E_take (v := ?v4) 4 rfl (by kernel_rfl) (by kernel_rfl) (by kernel_rfl) (by kernel_rfl) (by kernel_rfl) (by kernel_rfl) (fun _ _ _ h => h) rfl hS0 ?vh4 ?_
    case vh4 => intro W hW; have t0 := F.out W hW; go_simp; try with_reducible rfl
    simp only [Act.put, List.setIfInBounds_toArray, List.set_cons_zero, List.set_cons_succ]
    refine E_take (v := ?v7) 7 rfl (by kernel_rfl) (by kernel_rfl) (by kernel_rfl) (by kernel_rfl) (by kernel_rfl) (by kernel_rfl) (fun _ _ _ h => h) rfl hS0 ?vh7 ?_
    case vh7 => intro W hW; have t0 := F.out W hW; go_simp; try with_reducible rfl
    simp only [Act.put, List.setIfInBounds_toArray, List.set_cons_zero, List.set_cons_succ]
    refine E_take (v := ?v8) 8 rfl (by kernel_rfl) (by kernel_rfl) (by kernel_rfl) (by kernel_rfl) (by kernel_rfl) (by kernel_rfl) (fun _ _ _ h => h) rfl hS0 ?vh8 ?_
    case vh8 => intro W hW; have t0 := F.out W hW; go_simp; try with_reducible rfl
    simp only [Act.put, List.setIfInBounds_toArray, List.set_cons_zero, List.set_cons_succ]
    refine E_take (v := ?v9) 9 rfl (by kernel_rfl) (by kernel_rfl) (by kernel_rfl) (by kernel_rfl) (by kernel_rfl) (by kernel_rfl) (fun _ _ _ h => h) rfl hS0 ?vh9 ?_
    case vh9 => intro W hW; have t0 := F.out W hW; go_simp; try with_reducible rfl
    simp only [Act.put, List.setIfInBounds_toArray, List.set_cons_zero, List.set_cons_succ]
    refine E_take (v := ?v10) 10 rfl (by kernel_rfl) (by kernel_rfl) (by kernel_rfl) (by kernel_rfl) (by kernel_rfl) (by kernel_rfl) (fun _ _ _ h => h) rfl hS0 ?vh10 ?_
    case vh10 => intro W hW; have t0 := F.out W hW; go_simp; try with_reducible rfl
    simp only [Act.put, List.setIfInBounds_toArray, List.set_cons_zero, List.set_cons_succ]
    refine E_two 2 5 (by kernel_rfl) rfl rfl (fun K hK => ?_) (fun K hK => ?_)
    · obtain ⟨v1, w10, A9, c9, w11, hp1, hp2, hq9, ho10, ho10a, ho11, hfr⟩ := hA.out
      clear hA hB
      refine step_append_eq1 rfl (.const (.slice none 0 0)) (.tmp 174) 47 rfl _ _ _ _ (by simp [Act.eval]) (by simp [Act.eval]) hp1 ?_
      refine hK.out _ _ (fun _ => ho10) ?_
      clear hK K
      try simp only [Act.put, List.setIfInBounds_toArray, List.set_cons_zero, List.set_cons_succ]
      refine E_one 5 (by kernel_rfl) rfl (fun K hK => ?_)
      go_simp
      refine hK.out _ _ (fun _ => ho10a) ?_
      clear hK K
      try simp only [Act.put, List.setIfInBounds_toArray, List.set_cons_zero, List.set_cons_succ]
      refine E_one 6 (by kernel_rfl) rfl (fun K hK => ?_)
      refine step_append_eq1 rfl (.tmp 175) (.tmp 178) 47 rfl _ _ _ _ (by simp [Act.eval]) (by simp [Act.eval]) hp2 ?_
      refine hK.out _ _ (fun _ => ho11) ?_
      clear hK K
      try simp only [Act.put, List.setIfInBounds_toArray, List.set_cons_zero, List.set_cons_succ]
      clear hp1 hp2 ho10 ho10a
      refine E_one 11 (by kernel_rfl) rfl (fun K hK => ?_)
      go_simp
      refine (hC.out A9 c9 w11 ho11 hq9).mono ?_
      rintro r w9 ⟨Au, cu, rfl, hu9, hA9, ho9⟩
      have ho9w := ho11.trans ho9
      refine hK.out _ _ (fun _ => ho9w) ?_
      clear hK K
      try simp only [Act.put, List.setIfInBounds_toArray, List.set_cons_zero, List.set_cons_succ]
      have hI9 := hI.only ho9w
      have hAw : ∀ a, Au = some a → ¬ a.block = g0 ∧ (w.heap.size ≤ a.block ∨ ∃ b, (some ⟨bp, op, none⟩ : Option Addr) = some b ∧ a.block = b.block) := fun a ea => by
        have := ho11.size
        have hnw := hnwH.out
        rcases hA9 a ea with h2 | ⟨b, eb, h2⟩
        · exact ⟨by omega, .inl (by omega)⟩
        · have h3 := hfr b eb
          exact ⟨by omega, .inl (by omega)⟩
      clear hI ho11 ho9 hA9 hq9 hfr hgW hnwH hC F
      obtain ⟨⟨d0, nm0, n0, kd0, mu0, up0⟩, ee⟩ := R
      simp only [Fnd.cells] at hu9 ⊢
      refine E_take (v := ?y12) 12 rfl (by kernel_rfl) (by kernel_rfl) (by kernel_rfl) (by kernel_rfl) (by kernel_rfl) (by kernel_rfl) (fun _ _ _ h => h) rfl ho9w ?yh12 ?_
      case yh12 => intro W hW; skip; go_simp; try with_reducible rfl
      simp only [Act.put, List.setIfInBounds_toArray, List.set_cons_zero, List.set_cons_succ]
      refine E_take (v := ?y13) 13 rfl (by kernel_rfl) (by kernel_rfl) (by kernel_rfl) (by kernel_rfl) (by kernel_rfl) (by kernel_rfl) (fun _ _ _ h => h) rfl ho9w ?yh13 ?_
      case yh13 => intro W hW; skip; go_simp; try with_reducible rfl
      simp only [Act.put, List.setIfInBounds_toArray, List.set_cons_zero, List.set_cons_succ]
      have q0 := hI9.bf.cell 0
      have qf0 := hI9.bf.frozen 0
      have q1 := hI9.bf.cell 1
      have qf1 := hI9.bf.frozen 1
      have q2 := hI9.bf.cell 2
      have qf2 := hI9.bf.frozen 2
      have q3 := hI9.bf.cell 3
      have qf3 := hI9.bf.frozen 3
      have q4 := hI9.bf.cell 4
      have qf4 := hI9.bf.frozen 4
      have q5 := hI9.bf.cell 5
      have qf5 := hI9.bf.frozen 5
      simp only [List.getElem?_toArray, List.getElem?_cons_zero, List.getElem?_cons_succ] at q0 q1 q2 q3 q4 q5
      obtain ⟨hz, hu, ho⟩ := hI9.put (B := Au) (d := (d0 : Int)) (n := (n0 : Int)) (k := (kd0 : Int)) (s := nm0) (m := mu0) (l := up0) (cu := cu) hu9 (fun a ea => (hAw a ea).1)
      replace hz := Lib.hid hz
      replace hu := Lib.hid hu
      replace ho := Lib.hid ho
      replace hAw := Lib.hid hAw
      clear hI9 hu9
      refine E_one 14 (by kernel_rfl) rfl (fun K hK => ?_)
      go_simp
      refine hK.out _ _ (fun h => absurd h (by decide)) ?_
      clear hK K
      try simp only [Act.put, List.setIfInBounds_toArray, List.set_cons_zero, List.set_cons_succ]
      refine E_one 15 (by kernel_rfl) rfl (fun K hK => ?_)
      go_simp
      refine hK.out _ _ (fun h => absurd h (by decide)) ?_
      clear hK K
      try simp only [Act.put, List.setIfInBounds_toArray, List.set_cons_zero, List.set_cons_succ]
      clear q0 q1 q2 q3 q4 q5 qf0 qf1 qf2 qf3 qf4 qf5
      refine E_done (by kernel_rfl) (NoPanic.normal ?_)
      go_wp2
      try rw [Exit.noGoto_ret]
      refine bodyPost_ret (res58 _ _ _ _ rfl _ rfl rfl hz.out) rfl ?_
      exact ⟨Au, cu, rfl, hu.out, fun a ea => (hAw.out a ea).2, ho.out⟩
    · obtain ⟨v1, w10, A9, c9, w11, hp1, hp2, hq9, ho10, ho10a, ho11, hfr⟩ := hB.out
      clear hA hB
      go_simp
      refine hK.out _ _ (fun _ => ho10) ?_
      clear hK K
      try simp only [Act.put, List.setIfInBounds_toArray, List.set_cons_zero, List.set_cons_succ]
      refine E_one 2 (by kernel_rfl) rfl (fun K hK => ?_)
      refine step_append_eq1 rfl (.const (.slice none 0 0)) (.tmp 174) 47 rfl _ _ _ _ (by simp [Act.eval]) (by simp [Act.eval]) hp1 ?_
      refine hK.out _ _ (fun _ => ho10a) ?_
      clear hK K
      try simp only [Act.put, List.setIfInBounds_toArray, List.set_cons_zero, List.set_cons_succ]
      refine E_one 6 (by kernel_rfl) rfl (fun K hK => ?_)
      refine step_append_eq1 rfl (.tmp 175) (.tmp 178) 47 rfl _ _ _ _ (by simp [Act.eval]) (by simp [Act.eval]) hp2 ?_
      refine hK.out _ _ (fun _ => ho11) ?_
      clear hK K
      try simp only [Act.put, List.setIfInBounds_toArray, List.set_cons_zero, List.set_cons_succ]
      clear hp1 hp2 ho10 ho10a
      refine E_one 11 (by kernel_rfl) rfl (fun K hK => ?_)
      go_simp
      refine (hC.out A9 c9 w11 ho11 hq9).mono ?_
      rintro r w9 ⟨Au, cu, rfl, hu9, hA9, ho9⟩
      have ho9w := ho11.trans ho9
      refine hK.out _ _ (fun _ => ho9w) ?_
      clear hK K
      try simp only [Act.put, List.setIfInBounds_toArray, List.set_cons_zero, List.set_cons_succ]
      have hI9 := hI.only ho9w
      have hAw : ∀ a, Au = some a → ¬ a.block = g0 ∧ (w.heap.size ≤ a.block ∨ ∃ b, (some ⟨bp, op, none⟩ : Option Addr) = some b ∧ a.block = b.block) := fun a ea => by
        have := ho11.size
        have hnw := hnwH.out
        rcases hA9 a ea with h2 | ⟨b, eb, h2⟩
        · exact ⟨by omega, .inl (by omega)⟩
        · have h3 := hfr b eb
          exact ⟨by omega, .inl (by omega)⟩
      clear hI ho11 ho9 hA9 hq9 hfr hgW hnwH hC F
      obtain ⟨⟨d0, nm0, n0, kd0, mu0, up0⟩, ee⟩ := R
      simp only [Fnd.cells] at hu9 ⊢
      refine E_take (v := ?z12) 12 rfl (by kernel_rfl) (by kernel_rfl) (by kernel_rfl) (by kernel_rfl) (by kernel_rfl) (by kernel_rfl) (fun _ _ _ h => h) rfl ho9w ?zh12 ?_
      case zh12 => intro W hW; skip; go_simp; try with_reducible rfl
      simp only [Act.put, List.setIfInBounds_toArray, List.set_cons_zero, List.set_cons_succ]
      refine E_take (v := ?z13) 13 rfl (by kernel_rfl) (by kernel_rfl) (by kernel_rfl) (by kernel_rfl) (by kernel_rfl) (by kernel_rfl) (fun _ _ _ h => h) rfl ho9w ?zh13 ?_
      case zh13 => intro W hW; skip; go_simp; try with_reducible rfl
      simp only [Act.put, List.setIfInBounds_toArray, List.set_cons_zero, List.set_cons_succ]
      have q0 := hI9.bf.cell 0
      have qf0 := hI9.bf.frozen 0
      have q1 := hI9.bf.cell 1
      have qf1 := hI9.bf.frozen 1
      have q2 := hI9.bf.cell 2
      have qf2 := hI9.bf.frozen 2
      have q3 := hI9.bf.cell 3
      have qf3 := hI9.bf.frozen 3
      have q4 := hI9.bf.cell 4
      have qf4 := hI9.bf.frozen 4
      have q5 := hI9.bf.cell 5
      have qf5 := hI9.bf.frozen 5
      simp only [List.getElem?_toArray, List.getElem?_cons_zero, List.getElem?_cons_succ] at q0 q1 q2 q3 q4 q5
      obtain ⟨hz, hu, ho⟩ := hI9.put (B := Au) (d := (d0 : Int)) (n := (n0 : Int)) (k := (kd0 : Int)) (s := nm0) (m := mu0) (l := up0) (cu := cu) hu9 (fun a ea => (hAw a ea).1)
      replace hz := Lib.hid hz
      replace hu := Lib.hid hu
      replace ho := Lib.hid ho
      replace hAw := Lib.hid hAw
      clear hI9 hu9
      refine E_one 14 (by kernel_rfl) rfl (fun K hK => ?_)
      go_simp
      refine hK.out _ _ (fun h => absurd h (by decide)) ?_
      clear hK K
      try simp only [Act.put, List.setIfInBounds_toArray, List.set_cons_zero, List.set_cons_succ]
      refine E_one 15 (by kernel_rfl) rfl (fun K hK => ?_)
      go_simp
      refine hK.out _ _ (fun h => absurd h (by decide)) ?_
      clear hK K
      try simp only [Act.put, List.setIfInBounds_toArray, List.set_cons_zero, List.set_cons_succ]
      clear q0 q1 q2 q3 q4 q5 qf0 qf1 qf2 qf3 qf4 qf5
      refine E_done (by kernel_rfl) (NoPanic.normal ?_)
      go_wp2
      try rw [Exit.noGoto_ret]
      refine bodyPost_ret (res58 _ _ _ _ rfl _ rfl rfl hz.out) rfl ?_
      exact ⟨Au, cu, rfl, hu.out, fun a ea => (hAw.out a ea).2, ho.out⟩
end Go.Proofs.Ytnclappdokhciaa
end

section
namespace Go.Proofs.Ytnclappdokhciaa
open Go Go.RowKit
set_option linter.unusedVariables false
set_option maxRecDepth 100000 in
set_option maxHeartbeats 8000000 in
theorem goesW_go00 (ts : List Thg) (A : Option Addr) (c : Nat) (follow : Bool) (f : Nat) (pl : List Nat) (part : ByteArray) (rest : List ByteArray) (must : Bool) (links : Nat) (Ap : Option Addr) (cp : Nat) (Aq : Option Addr) (cq : Nat) (w : World)
    (hG : Good ts) (ht : RowT w A ts c) (hp : RowU w Ap pl cp) (hq : RowS w Aq (part :: rest) cq) (p0 : 0 < pl.length) (p1 : ∀ n ∈ pl, 1 ≤ n ∧ n < 65536) (p2 : pl.length + todo (part :: rest) links ≤ 9900) (l8 : links ≤ 8)
    (hrec : GoesAt ts A c follow f) (htd : todo (part :: rest) links < f + 1) (l : List Ent) (hes : entsS ts (lastU pl) = (l, 0)) (hd : ¬ part.toList = [46, 46]) (x : Ent) (hfe : findE l part = some x) (hP : Hid (x.kind = 3 ∧ (0 < rest.length ∨ must = true ∨ follow = true))) (h8 : ¬ 8 ≤ links) (tg : ByteArray) (hts : targS ts x.num = (tg, 0)) (ab sl : Bool) (parts : List ByteArray) (hab : ab = false) (hsp : split tg = ⟨ab, parts, sl, 0⟩) (hb : Hid (¬ (rest.length = 0 ∧ sl = true))) {R : Fnd × Int} (hgo : R = goesF ts follow f pl (parts ++ rest) must (links + 1)) :
    Calls Try.prog 58 #[.slice A ts.length c, .slice Ap pl.length cp, .slice Aq (part :: rest).length cq, .bool must, .bool follow, .int .i64 links] w fun r w' => GoesPost Ap R w r w' := by
  have hI := GInv.start ht hp hq p0
  obtain ⟨m, hm⟩ : ∃ m, pl.length = m + 1 := ⟨pl.length - 1, by omega⟩
  have hla := lastU_at hm
  have hl1 := p1 _ (lastU_mem p0)
  have hlt : rest.length + 1 ≤ 9900 := by have := todo_le (part :: rest) links; simp only [List.length_cons] at this; omega
  obtain ⟨bp, op, eAp, _, c1⟩ := hI.rp.lit hla
  obtain ⟨bq, oq, eAq, _, hcell⟩ := hI.rq.1.2 (by simp)
  have c2 := hcell 0 (.string part) rfl
  have hcq := hI.rq.2.1
  have hcp := hI.rp.2.1
  simp only [List.length_cons] at hcq
  rw [hm] at hcp
  subst eAp
  subst eAq
  have k0 : ((rest.length : Int) + 1 == 0) = false := by simp; omega
  have k1 : (0 : Int) ≤ (m : Int) := by omega
  have k2 : (m : Int) < (m : Int) + 1 := by omega
  have k3 : IntKind.i64.wrap ((m : Int) + 1 - 1) = (m : Int) := by rw [IntKind.wrap_i64]; omega
  have k8 : (0 : Int) < (rest.length : Int) + 1 := by omega
  have k9 : (1 : Int) ≤ (rest.length : Int) + 1 := by omega
  simp only [Nat.add_zero] at c2
  replace hgo := Lib.hid hgo
  simp only [List.length_cons]
  rw [hm]
  clear hcell hla
  go_enter Try.func58, Try.ntmps58
  go_wp2
  generalize World.alloc _ _ = w1 at *
  generalize w.heap.size = g0 at *
  go_quiet (fail)
  have hI := hI.only (Only.drewN (Only.refl _ _) nq)
  have hrq := hI.rq.rest8
  generalize (if cq = 1 then some (⟨bq, oq, none⟩ : Addr) else some ⟨bq, oq + 1, none⟩) = Ar at *
  generalize w1.drewN nq = w2 at *
  clear c1 c2 k0 k1 k2 k3 k8 k9
  generalize hn : rest.length = n at *
  replace hn := Lib.hid hn
  have hdb : (part.toList == [46, 46]) = false := by rw [beq_eq_false_iff_ne]; exact hd
  replace hd := Lib.hid hd
  have hE := entriesR_any ts _ c (lastU pl) w2 hI.rt hl1.2 hG.1 (fun t ht => (hG.2 t ht).2.1)
  rw [hes] at hE
  simp only at hE
  have hgd := ents_good hG (lastU pl)
  rw [hes] at hgd
  have hl64 := (are_ok hgd).1
  simp only at hl64
  go_wp2_with fail
  refine hE.mono ?_
  rintro r w3 ⟨A5, c5, rfl, h5, ho3⟩
  have hI := hI.only ho3
  have hrq := hrq.only ho3 (fun _ _ _ x => x)
  clear hE
  have hF := findR_any l A5 c5 part w3 h5 (by omega)
  rw [hfe] at hF
  have hFn : Calls Try.prog 43 #[.slice A5 l.length c5, .string part] w3 fun r w' => r = .returned (.tuple #[.agg #[.string x.nm, .int .u16 x.num, .int .u8 x.kind], .bool true]) ∧ Only (fun _ => False) w3 w' := hF
  have hxm : x ∈ l := List.mem_of_find?_eq_some hfe
  obtain ⟨_, hn1, hn2, hk1, hk2⟩ := may_ok (are_may hgd x hxm)
  clear hF hgd h5 hxm
  go_wp2_with fail
  refine hFn.mono ?_
  rintro r w4 ⟨rfl, ho4⟩
  have oa := (Only.refl (fun _ => False) w4).alloc (.cells #[.string x.nm, .int .u16 x.num, .int .u8 x.kind] 79)
  have hI := (hI.only ho4).only oa
  have hrq := (hrq.only ho4 (fun _ _ _ x => x)).only oa (fun _ _ _ x => x)
  have hbx := Blk.new w4 79 #[.string x.nm, .int .u16 x.num, .int .u8 x.kind]
  clear hFn ho4 oa
  have x1 := hbx.cell 1
  have x2 := hbx.cell 2
  simp only [List.getElem?_toArray, List.getElem?_cons_zero, List.getElem?_cons_succ] at x1 x2
  go_upto_region 17 with fail
  generalize w4.alloc (.cells #[.string x.nm, .int .u16 x.num, .int .u8 x.kind] 79) = w5 at *
  generalize w4.heap.size = gx at *
  go_cut [102] (fun s102 W => s102 = .bool (decide (x.kind = 3 ∧ (0 < n ∨ must = true ∨ follow = true))) ∧ W = w5)
  case first =>
    clear hm hcp hcq
    by_cases k3 : x.kind = 3
    · have k3b : ((x.kind : Int) == 3) = true := by rw [k3]; rfl
      by_cases hr0 : 0 < n
      · have j0 : (0 : Int) < (n : Int) := by omega
        go_wp2_with fail
        go_meet
        exact ⟨by simp [k3, hr0], rfl⟩
      · have j0 : ¬ (0 : Int) < (n : Int) := by omega
        cases must with
        | true =>
          go_wp2_with fail
          go_meet
          exact ⟨by simp [k3], rfl⟩
        | false =>
          cases follow with
          | true =>
            go_wp2_with fail
            go_meet
            exact ⟨by simp [k3], rfl⟩
          | false =>
            go_wp2_with fail
            go_meet
            exact ⟨by simp [k3]; omega, rfl⟩
    · have k3b : ((x.kind : Int) == 3) = false := by simp; omega
      go_wp2_with fail
      go_meet
      exact ⟨by simp [k3], rfl⟩
  case rest =>
    obtain ⟨rfl, rfl⟩ := hcut
    rw [decide_eq_true hP.out]
    clear hP
    have j8 : ¬ (8 : Int) ≤ (links : Int) := by omega
    have hT := targetR_any ts _ c x.num _ hI.rt (by omega) hG.1
    rw [hts] at hT
    simp only at hT
    go_wp2_with fail
    refine hT.mono ?_
    rintro r w6 ⟨s6, rfl, hs6, ho6⟩
    have hI := hI.only ho6
    have hrq := hrq.only ho6 (fun _ _ _ x => x)
    clear hT x1 x2 hbx
    obtain rfl := hs6 trivial
    have hS := splitR_any s6 w6
    rw [hsp] at hS
    simp only at hS
    go_wp2_with fail
    refine hS.mono ?_
    rintro r w7 ⟨Ax, cx, rfl, hx, ho7⟩
    have oa7 := (Only.refl (fun _ => False) w7).alloc (.cells #[.bool ab, .slice Ax parts.length cx, .bool sl] 29)
    have hI := (hI.only ho7).only oa7
    have hrq := (hrq.only ho7 (fun _ _ _ x => x)).only oa7 (fun _ _ _ x => x)
    have hx := hx.only oa7 (fun _ _ _ x => x)
    have hbp := Blk.new w7 29 #[.bool ab, .slice Ax parts.length cx, .bool sl]
    clear hS ho7 oa7
    subst hab
    have b0 := hbp.cell 0
    have b1 := hbp.cell 1
    have b2 := hbp.cell 2
    simp only [List.getElem?_toArray, List.getElem?_cons_zero, List.getElem?_cons_succ] at b0 b1 b2
    clear hbp
    have hll := split_len s6
    have htl := targ_good hG x.num
    rw [hts] at htl
    rw [hsp] at hll
    simp only at hll htl
    clear hts hsp
    go_upto_region 26 with fail
    generalize w7.alloc _ = w8 at *
    generalize w7.heap.size = gp at *
    go_upto_region 28 with fail
    have s1 := b1
    have s2 := b2
    clear b0 b1 b2
    go_cut [135] (fun s135 W => s135 = .bool (decide (n = 0 ∧ sl = true)) ∧ W = w8)
    case first =>
      clear hm hcp hcq
      by_cases hr0 : n = 0
      · have j0 : ((n : Int) == 0) = true := by rw [hr0]; rfl
        go_wp2_with fail
        go_meet
        exact ⟨by simp [hr0], rfl⟩
      · have j0 : ((n : Int) == 0) = false := by simp; omega
        go_wp2_with fail
        go_meet
        exact ⟨by simp [hr0], rfl⟩
    case rest =>
      obtain ⟨rfl, rfl⟩ := hcut
      rw [decide_eq_false hb.out]
      clear hb
      obtain ⟨v1, w10, A9, c9, w11, hp1, hp2, hq9, ho10, ho11⟩ := cat_s hx hrq (by have := hn.out; omega)
      have hI11 := hI.only ho11
      have htd3 : todo (parts ++ rest) (links + 1) + 500 ≤ todo (part :: rest) links := by
        unfold todo
        rw [List.length_append, List.length_cons]
        omega
      have hC := hrec pl (parts ++ rest) must (links + 1) (some ⟨bp, op, none⟩) cp A9 c9 w11 hI11.rt hI11.rp hq9 p0 p1 (by omega) (by omega) (by omega)
      rw [hm] at hC
      rw [show ((links + 1 : Nat) : Int) = (links : Int) + 1 from rfl, List.length_append] at hC
      have kl : IntKind.i64.wrap ((links : Int) + 1) = (links : Int) + 1 := by rw [IntKind.wrap_i64]; omega
      have hn0 := hn.out
      rw [hn0] at hp2
      replace hC := Lib.hid hC
      clear hI hx hrq hq9 hn0 ho10 ho11 htd3 hll htl 
      go_wp2_with (at_builtin; first | (refine wpList_append_eq1 rfl (.const (.slice none 0 0)) (.tmp 139) 23 rfl _ _ _ _ (by simp [Act.eval]) (by simp [Act.eval]) hp1 ?_) | (refine wpList_append_eq1 rfl (.tmp 140) (.tmp 141) 23 rfl _ _ _ _ (by simp [Act.eval]) (by simp [Act.eval]) hp2 ?_))
      refine hC.out.mono ?_
      clear hC hp1 hp2 s1 s2 kl
      have hI := hI11
      clear hI11
      rintro r w9 ⟨Au, cu, rfl, hu9, hA9, ho9⟩
      have hI9 := hI.only ho9
      have hgW := hI.bf.lt
      have hnw := hI.nw
      have hAw : ∀ a, Au = some a → ¬ a.block = g0 ∧ (w.heap.size ≤ a.block ∨ ∃ b, (some ⟨bp, op, none⟩ : Option Addr) = some b ∧ a.block = b.block) := fun a ea => by
        rcases hA9 a ea with h2 | ⟨b, eb, h2⟩
        · exact ⟨by omega, .inl (by omega)⟩
        · exact ⟨by rw [h2]; exact (hI.np b eb).1, .inr ⟨b, eb, h2⟩⟩
      rw [← hgo.out] at hu9 ⊢
      clear hI
      obtain ⟨⟨d0, nm0, n0, kd0, mu0, up0⟩, ee⟩ := R
      simp only [Fnd.cells] at hu9 ⊢
      have q0 := hI9.bf.cell 0
      have qf0 := hI9.bf.frozen 0
      have q1 := hI9.bf.cell 1
      have qf1 := hI9.bf.frozen 1
      have q2 := hI9.bf.cell 2
      have qf2 := hI9.bf.frozen 2
      have q3 := hI9.bf.cell 3
      have qf3 := hI9.bf.frozen 3
      have q4 := hI9.bf.cell 4
      have qf4 := hI9.bf.frozen 4
      have q5 := hI9.bf.cell 5
      have qf5 := hI9.bf.frozen 5
      simp only [List.getElem?_toArray, List.getElem?_cons_zero, List.getElem?_cons_succ] at q0 q1 q2 q3 q4 q5
      obtain ⟨hz, hu, ho⟩ := hI9.put (B := Au) (d := (d0 : Int)) (n := (n0 : Int)) (k := (kd0 : Int)) (s := nm0) (m := mu0) (l := up0) (cu := cu) hu9 (fun a ea => (hAw a ea).1)
      replace hz := Lib.hid hz
      replace hu := Lib.hid hu
      replace ho := Lib.hid ho
      replace hAw := Lib.hid hAw
      clear hI9 hu9 hA9 ho9 hgo
      try clear hC
      try clear hrec
      try clear htd
      try clear ktd
      try clear hrq
      try clear hcp
      try clear hl
      try clear hm
      try clear hl1
      try clear hlt
      try clear hcq
      try clear hG
      try clear p1
      try clear p2
      try clear p0
      try clear hgW
      try clear hnw
      try clear hp
      try clear hq
      try clear ht
      go_wp2
      try rw [Exit.noGoto_ret]
      refine bodyPost_ret (res58 _ _ _ _ rfl _ rfl rfl hz.out) rfl ?_
      exact ⟨Au, cu, rfl, hu.out, fun a ea => (hAw.out a ea).2, ho.out⟩
set_option maxRecDepth 100000 in
set_option maxHeartbeats 8000000 in
theorem goesW_go01 (ts : List Thg) (A : Option Addr) (c : Nat) (follow : Bool) (f : Nat) (pl : List Nat) (part : ByteArray) (rest : List ByteArray) (must : Bool) (links : Nat) (Ap : Option Addr) (cp : Nat) (Aq : Option Addr) (cq : Nat) (w : World)
    (hG : Good ts) (ht : RowT w A ts c) (hp : RowU w Ap pl cp) (hq : RowS w Aq (part :: rest) cq) (p0 : 0 < pl.length) (p1 : ∀ n ∈ pl, 1 ≤ n ∧ n < 65536) (p2 : pl.length + todo (part :: rest) links ≤ 9900) (l8 : links ≤ 8)
    (hrec : GoesAt ts A c follow f) (htd : todo (part :: rest) links < f + 1) (l : List Ent) (hes : entsS ts (lastU pl) = (l, 0)) (hd : ¬ part.toList = [46, 46]) (x : Ent) (hfe : findE l part = some x) (hP : Hid (x.kind = 3 ∧ (0 < rest.length ∨ must = true ∨ follow = true))) (h8 : ¬ 8 ≤ links) (tg : ByteArray) (hts : targS ts x.num = (tg, 0)) (ab sl : Bool) (parts : List ByteArray) (hab : ab = false) (hsp : split tg = ⟨ab, parts, sl, 0⟩) (hb : Hid (rest.length = 0 ∧ sl = true)) {R : Fnd × Int} (hgo : R = goesF ts follow f pl (parts ++ rest) true (links + 1)) :
    Calls Try.prog 58 #[.slice A ts.length c, .slice Ap pl.length cp, .slice Aq (part :: rest).length cq, .bool must, .bool follow, .int .i64 links] w fun r w' => GoesPost Ap R w r w' := by
  have hI := GInv.start ht hp hq p0
  obtain ⟨m, hm⟩ : ∃ m, pl.length = m + 1 := ⟨pl.length - 1, by omega⟩
  have hla := lastU_at hm
  have hl1 := p1 _ (lastU_mem p0)
  have hlt : rest.length + 1 ≤ 9900 := by have := todo_le (part :: rest) links; simp only [List.length_cons] at this; omega
  obtain ⟨bp, op, eAp, _, c1⟩ := hI.rp.lit hla
  obtain ⟨bq, oq, eAq, _, hcell⟩ := hI.rq.1.2 (by simp)
  have c2 := hcell 0 (.string part) rfl
  have hcq := hI.rq.2.1
  have hcp := hI.rp.2.1
  simp only [List.length_cons] at hcq
  rw [hm] at hcp
  subst eAp
  subst eAq
  have k0 : ((rest.length : Int) + 1 == 0) = false := by simp; omega
  have k1 : (0 : Int) ≤ (m : Int) := by omega
  have k2 : (m : Int) < (m : Int) + 1 := by omega
  have k3 : IntKind.i64.wrap ((m : Int) + 1 - 1) = (m : Int) := by rw [IntKind.wrap_i64]; omega
  have k8 : (0 : Int) < (rest.length : Int) + 1 := by omega
  have k9 : (1 : Int) ≤ (rest.length : Int) + 1 := by omega
  simp only [Nat.add_zero] at c2
  replace hgo := Lib.hid hgo
  simp only [List.length_cons]
  rw [hm]
  clear hcell hla
  go_enter Try.func58, Try.ntmps58
  go_wp2
  generalize World.alloc _ _ = w1 at *
  generalize w.heap.size = g0 at *
  go_quiet (fail)
  have hI := hI.only (Only.drewN (Only.refl _ _) nq)
  have hrq := hI.rq.rest8
  generalize (if cq = 1 then some (⟨bq, oq, none⟩ : Addr) else some ⟨bq, oq + 1, none⟩) = Ar at *
  generalize w1.drewN nq = w2 at *
  clear c1 c2 k0 k1 k2 k3 k8 k9
  generalize hn : rest.length = n at *
  replace hn := Lib.hid hn
  have hdb : (part.toList == [46, 46]) = false := by rw [beq_eq_false_iff_ne]; exact hd
  replace hd := Lib.hid hd
  have hE := entriesR_any ts _ c (lastU pl) w2 hI.rt hl1.2 hG.1 (fun t ht => (hG.2 t ht).2.1)
  rw [hes] at hE
  simp only at hE
  have hgd := ents_good hG (lastU pl)
  rw [hes] at hgd
  have hl64 := (are_ok hgd).1
  simp only at hl64
  go_wp2_with fail
  refine hE.mono ?_
  rintro r w3 ⟨A5, c5, rfl, h5, ho3⟩
  have hI := hI.only ho3
  have hrq := hrq.only ho3 (fun _ _ _ x => x)
  clear hE
  have hF := findR_any l A5 c5 part w3 h5 (by omega)
  rw [hfe] at hF
  have hFn : Calls Try.prog 43 #[.slice A5 l.length c5, .string part] w3 fun r w' => r = .returned (.tuple #[.agg #[.string x.nm, .int .u16 x.num, .int .u8 x.kind], .bool true]) ∧ Only (fun _ => False) w3 w' := hF
  have hxm : x ∈ l := List.mem_of_find?_eq_some hfe
  obtain ⟨_, hn1, hn2, hk1, hk2⟩ := may_ok (are_may hgd x hxm)
  clear hF hgd h5 hxm
  go_wp2_with fail
  refine hFn.mono ?_
  rintro r w4 ⟨rfl, ho4⟩
  have oa := (Only.refl (fun _ => False) w4).alloc (.cells #[.string x.nm, .int .u16 x.num, .int .u8 x.kind] 79)
  have hI := (hI.only ho4).only oa
  have hrq := (hrq.only ho4 (fun _ _ _ x => x)).only oa (fun _ _ _ x => x)
  have hbx := Blk.new w4 79 #[.string x.nm, .int .u16 x.num, .int .u8 x.kind]
  clear hFn ho4 oa
  have x1 := hbx.cell 1
  have x2 := hbx.cell 2
  simp only [List.getElem?_toArray, List.getElem?_cons_zero, List.getElem?_cons_succ] at x1 x2
  go_upto_region 17 with fail
  generalize w4.alloc (.cells #[.string x.nm, .int .u16 x.num, .int .u8 x.kind] 79) = w5 at *
  generalize w4.heap.size = gx at *
  go_cut [102] (fun s102 W => s102 = .bool (decide (x.kind = 3 ∧ (0 < n ∨ must = true ∨ follow = true))) ∧ W = w5)
  case first =>
    clear hm hcp hcq
    by_cases k3 : x.kind = 3
    · have k3b : ((x.kind : Int) == 3) = true := by rw [k3]; rfl
      by_cases hr0 : 0 < n
      · have j0 : (0 : Int) < (n : Int) := by omega
        go_wp2_with fail
        go_meet
        exact ⟨by simp [k3, hr0], rfl⟩
      · have j0 : ¬ (0 : Int) < (n : Int) := by omega
        cases must with
        | true =>
          go_wp2_with fail
          go_meet
          exact ⟨by simp [k3], rfl⟩
        | false =>
          cases follow with
          | true =>
            go_wp2_with fail
            go_meet
            exact ⟨by simp [k3], rfl⟩
          | false =>
            go_wp2_with fail
            go_meet
            exact ⟨by simp [k3]; omega, rfl⟩
    · have k3b : ((x.kind : Int) == 3) = false := by simp; omega
      go_wp2_with fail
      go_meet
      exact ⟨by simp [k3], rfl⟩
  case rest =>
    obtain ⟨rfl, rfl⟩ := hcut
    rw [decide_eq_true hP.out]
    clear hP
    have j8 : ¬ (8 : Int) ≤ (links : Int) := by omega
    have hT := targetR_any ts _ c x.num _ hI.rt (by omega) hG.1
    rw [hts] at hT
    simp only at hT
    go_wp2_with fail
    refine hT.mono ?_
    rintro r w6 ⟨s6, rfl, hs6, ho6⟩
    have hI := hI.only ho6
    have hrq := hrq.only ho6 (fun _ _ _ x => x)
    clear hT x1 x2 hbx
    obtain rfl := hs6 trivial
    have hS := splitR_any s6 w6
    rw [hsp] at hS
    simp only at hS
    go_wp2_with fail
    refine hS.mono ?_
    rintro r w7 ⟨Ax, cx, rfl, hx, ho7⟩
    have oa7 := (Only.refl (fun _ => False) w7).alloc (.cells #[.bool ab, .slice Ax parts.length cx, .bool sl] 29)
    have hI := (hI.only ho7).only oa7
    have hrq := (hrq.only ho7 (fun _ _ _ x => x)).only oa7 (fun _ _ _ x => x)
    have hx := hx.only oa7 (fun _ _ _ x => x)
    have hbp := Blk.new w7 29 #[.bool ab, .slice Ax parts.length cx, .bool sl]
    clear hS ho7 oa7
    subst hab
    have b0 := hbp.cell 0
    have b1 := hbp.cell 1
    have b2 := hbp.cell 2
    simp only [List.getElem?_toArray, List.getElem?_cons_zero, List.getElem?_cons_succ] at b0 b1 b2
    clear hbp
    have hll := split_len s6
    have htl := targ_good hG x.num
    rw [hts] at htl
    rw [hsp] at hll
    simp only at hll htl
    clear hts hsp
    go_upto_region 26 with fail
    generalize w7.alloc _ = w8 at *
    generalize w7.heap.size = gp at *
    go_upto_region 28 with fail
    have s1 := b1
    have s2 := b2
    clear b0 b1 b2
    go_cut [135] (fun s135 W => s135 = .bool (decide (n = 0 ∧ sl = true)) ∧ W = w8)
    case first =>
      clear hm hcp hcq
      by_cases hr0 : n = 0
      · have j0 : ((n : Int) == 0) = true := by rw [hr0]; rfl
        go_wp2_with fail
        go_meet
        exact ⟨by simp [hr0], rfl⟩
      · have j0 : ((n : Int) == 0) = false := by simp; omega
        go_wp2_with fail
        go_meet
        exact ⟨by simp [hr0], rfl⟩
    case rest =>
      obtain ⟨rfl, rfl⟩ := hcut
      rw [decide_eq_true hb.out]
      clear hb
      obtain ⟨v1, w10, A9, c9, w11, hp1, hp2, hq9, ho10, ho11⟩ := cat_s hx hrq (by have := hn.out; omega)
      have hI11 := hI.only ho11
      have htd3 : todo (parts ++ rest) (links + 1) + 500 ≤ todo (part :: rest) links := by
        unfold todo
        rw [List.length_append, List.length_cons]
        omega
      have hC := hrec pl (parts ++ rest) true (links + 1) (some ⟨bp, op, none⟩) cp A9 c9 w11 hI11.rt hI11.rp hq9 p0 p1 (by omega) (by omega) (by omega)
      rw [hm] at hC
      rw [show ((links + 1 : Nat) : Int) = (links : Int) + 1 from rfl, List.length_append] at hC
      have kl : IntKind.i64.wrap ((links : Int) + 1) = (links : Int) + 1 := by rw [IntKind.wrap_i64]; omega
      have hn0 := hn.out
      rw [hn0] at hp2
      replace hC := Lib.hid hC
      clear hI hx hrq hq9 hn0 ho10 ho11 htd3 hll htl 
      go_wp2_with (at_builtin; first | (refine wpList_append_eq1 rfl (.const (.slice none 0 0)) (.tmp 139) 23 rfl _ _ _ _ (by simp [Act.eval]) (by simp [Act.eval]) hp1 ?_) | (refine wpList_append_eq1 rfl (.tmp 140) (.tmp 141) 23 rfl _ _ _ _ (by simp [Act.eval]) (by simp [Act.eval]) hp2 ?_))
      refine hC.out.mono ?_
      clear hC hp1 hp2 s1 s2 kl
      have hI := hI11
      clear hI11
      rintro r w9 ⟨Au, cu, rfl, hu9, hA9, ho9⟩
      have hI9 := hI.only ho9
      have hgW := hI.bf.lt
      have hnw := hI.nw
      have hAw : ∀ a, Au = some a → ¬ a.block = g0 ∧ (w.heap.size ≤ a.block ∨ ∃ b, (some ⟨bp, op, none⟩ : Option Addr) = some b ∧ a.block = b.block) := fun a ea => by
        rcases hA9 a ea with h2 | ⟨b, eb, h2⟩
        · exact ⟨by omega, .inl (by omega)⟩
        · exact ⟨by rw [h2]; exact (hI.np b eb).1, .inr ⟨b, eb, h2⟩⟩
      rw [← hgo.out] at hu9 ⊢
      clear hI
      obtain ⟨⟨d0, nm0, n0, kd0, mu0, up0⟩, ee⟩ := R
      simp only [Fnd.cells] at hu9 ⊢
      have q0 := hI9.bf.cell 0
      have qf0 := hI9.bf.frozen 0
      have q1 := hI9.bf.cell 1
      have qf1 := hI9.bf.frozen 1
      have q2 := hI9.bf.cell 2
      have qf2 := hI9.bf.frozen 2
      have q3 := hI9.bf.cell 3
      have qf3 := hI9.bf.frozen 3
      have q4 := hI9.bf.cell 4
      have qf4 := hI9.bf.frozen 4
      have q5 := hI9.bf.cell 5
      have qf5 := hI9.bf.frozen 5
      simp only [List.getElem?_toArray, List.getElem?_cons_zero, List.getElem?_cons_succ] at q0 q1 q2 q3 q4 q5
      obtain ⟨hz, hu, ho⟩ := hI9.put (B := Au) (d := (d0 : Int)) (n := (n0 : Int)) (k := (kd0 : Int)) (s := nm0) (m := mu0) (l := up0) (cu := cu) hu9 (fun a ea => (hAw a ea).1)
      replace hz := Lib.hid hz
      replace hu := Lib.hid hu
      replace ho := Lib.hid ho
      replace hAw := Lib.hid hAw
      clear hI9 hu9 hA9 ho9 hgo
      try clear hC
      try clear hrec
      try clear htd
      try clear ktd
      try clear hrq
      try clear hcp
      try clear hl
      try clear hm
      try clear hl1
      try clear hlt
      try clear hcq
      try clear hG
      try clear p1
      try clear p2
      try clear p0
      try clear hgW
      try clear hnw
      try clear hp
      try clear hq
      try clear ht
      go_wp2
      try rw [Exit.noGoto_ret]
      refine bodyPost_ret (res58 _ _ _ _ rfl _ rfl rfl hz.out) rfl ?_
      exact ⟨Au, cu, rfl, hu.out, fun a ea => (hAw.out a ea).2, ho.out⟩
set_option maxRecDepth 100000 in
set_option maxHeartbeats 8000000 in
theorem goesW_go10 (ts : List Thg) (A : Option Addr) (c : Nat) (follow : Bool) (f : Nat) (pl : List Nat) (part : ByteArray) (rest : List ByteArray) (must : Bool) (links : Nat) (Ap : Option Addr) (cp : Nat) (Aq : Option Addr) (cq : Nat) (w : World)
    (hG : Good ts) (ht : RowT w A ts c) (hp : RowU w Ap pl cp) (hq : RowS w Aq (part :: rest) cq) (p0 : 0 < pl.length) (p1 : ∀ n ∈ pl, 1 ≤ n ∧ n < 65536) (p2 : pl.length + todo (part :: rest) links ≤ 9900) (l8 : links ≤ 8)
    (hrec : GoesAt ts A c follow f) (htd : todo (part :: rest) links < f + 1) (l : List Ent) (hes : entsS ts (lastU pl) = (l, 0)) (hd : ¬ part.toList = [46, 46]) (x : Ent) (hfe : findE l part = some x) (hP : Hid (x.kind = 3 ∧ (0 < rest.length ∨ must = true ∨ follow = true))) (h8 : ¬ 8 ≤ links) (tg : ByteArray) (hts : targS ts x.num = (tg, 0)) (ab sl : Bool) (parts : List ByteArray) (hab : ab = true) (hsp : split tg = ⟨ab, parts, sl, 0⟩) (hb : Hid (¬ (rest.length = 0 ∧ sl = true))) {R : Fnd × Int} (hgo : R = goesF ts follow f [1] (parts ++ rest) must (links + 1)) :
    Calls Try.prog 58 #[.slice A ts.length c, .slice Ap pl.length cp, .slice Aq (part :: rest).length cq, .bool must, .bool follow, .int .i64 links] w fun r w' => GoesPost Ap R w r w' := by
  have hI := GInv.start ht hp hq p0
  obtain ⟨m, hm⟩ : ∃ m, pl.length = m + 1 := ⟨pl.length - 1, by omega⟩
  have hla := lastU_at hm
  have hl1 := p1 _ (lastU_mem p0)
  have hlt : rest.length + 1 ≤ 9900 := by have := todo_le (part :: rest) links; simp only [List.length_cons] at this; omega
  obtain ⟨bp, op, eAp, _, c1⟩ := hI.rp.lit hla
  obtain ⟨bq, oq, eAq, _, hcell⟩ := hI.rq.1.2 (by simp)
  have c2 := hcell 0 (.string part) rfl
  have hcq := hI.rq.2.1
  have hcp := hI.rp.2.1
  simp only [List.length_cons] at hcq
  rw [hm] at hcp
  subst eAp
  subst eAq
  have k0 : ((rest.length : Int) + 1 == 0) = false := by simp; omega
  have k1 : (0 : Int) ≤ (m : Int) := by omega
  have k2 : (m : Int) < (m : Int) + 1 := by omega
  have k3 : IntKind.i64.wrap ((m : Int) + 1 - 1) = (m : Int) := by rw [IntKind.wrap_i64]; omega
  have k8 : (0 : Int) < (rest.length : Int) + 1 := by omega
  have k9 : (1 : Int) ≤ (rest.length : Int) + 1 := by omega
  simp only [Nat.add_zero] at c2
  replace hgo := Lib.hid hgo
  simp only [List.length_cons]
  rw [hm]
  clear hcell hla
  go_enter Try.func58, Try.ntmps58
  go_wp2
  generalize World.alloc _ _ = w1 at *
  generalize w.heap.size = g0 at *
  go_quiet (fail)
  have hI := hI.only (Only.drewN (Only.refl _ _) nq)
  have hrq := hI.rq.rest8
  generalize (if cq = 1 then some (⟨bq, oq, none⟩ : Addr) else some ⟨bq, oq + 1, none⟩) = Ar at *
  generalize w1.drewN nq = w2 at *
  clear c1 c2 k0 k1 k2 k3 k8 k9
  generalize hn : rest.length = n at *
  replace hn := Lib.hid hn
  have hdb : (part.toList == [46, 46]) = false := by rw [beq_eq_false_iff_ne]; exact hd
  replace hd := Lib.hid hd
  have hE := entriesR_any ts _ c (lastU pl) w2 hI.rt hl1.2 hG.1 (fun t ht => (hG.2 t ht).2.1)
  rw [hes] at hE
  simp only at hE
  have hgd := ents_good hG (lastU pl)
  rw [hes] at hgd
  have hl64 := (are_ok hgd).1
  simp only at hl64
  go_wp2_with fail
  refine hE.mono ?_
  rintro r w3 ⟨A5, c5, rfl, h5, ho3⟩
  have hI := hI.only ho3
  have hrq := hrq.only ho3 (fun _ _ _ x => x)
  clear hE
  have hF := findR_any l A5 c5 part w3 h5 (by omega)
  rw [hfe] at hF
  have hFn : Calls Try.prog 43 #[.slice A5 l.length c5, .string part] w3 fun r w' => r = .returned (.tuple #[.agg #[.string x.nm, .int .u16 x.num, .int .u8 x.kind], .bool true]) ∧ Only (fun _ => False) w3 w' := hF
  have hxm : x ∈ l := List.mem_of_find?_eq_some hfe
  obtain ⟨_, hn1, hn2, hk1, hk2⟩ := may_ok (are_may hgd x hxm)
  clear hF hgd h5 hxm
  go_wp2_with fail
  refine hFn.mono ?_
  rintro r w4 ⟨rfl, ho4⟩
  have oa := (Only.refl (fun _ => False) w4).alloc (.cells #[.string x.nm, .int .u16 x.num, .int .u8 x.kind] 79)
  have hI := (hI.only ho4).only oa
  have hrq := (hrq.only ho4 (fun _ _ _ x => x)).only oa (fun _ _ _ x => x)
  have hbx := Blk.new w4 79 #[.string x.nm, .int .u16 x.num, .int .u8 x.kind]
  clear hFn ho4 oa
  have x1 := hbx.cell 1
  have x2 := hbx.cell 2
  simp only [List.getElem?_toArray, List.getElem?_cons_zero, List.getElem?_cons_succ] at x1 x2
  go_upto_region 17 with fail
  generalize w4.alloc (.cells #[.string x.nm, .int .u16 x.num, .int .u8 x.kind] 79) = w5 at *
  generalize w4.heap.size = gx at *
  go_cut [102] (fun s102 W => s102 = .bool (decide (x.kind = 3 ∧ (0 < n ∨ must = true ∨ follow = true))) ∧ W = w5)
  case first =>
    clear hm hcp hcq
    by_cases k3 : x.kind = 3
    · have k3b : ((x.kind : Int) == 3) = true := by rw [k3]; rfl
      by_cases hr0 : 0 < n
      · have j0 : (0 : Int) < (n : Int) := by omega
        go_wp2_with fail
        go_meet
        exact ⟨by simp [k3, hr0], rfl⟩
      · have j0 : ¬ (0 : Int) < (n : Int) := by omega
        cases must with
        | true =>
          go_wp2_with fail
          go_meet
          exact ⟨by simp [k3], rfl⟩
        | false =>
          cases follow with
          | true =>
            go_wp2_with fail
            go_meet
            exact ⟨by simp [k3], rfl⟩
          | false =>
            go_wp2_with fail
            go_meet
            exact ⟨by simp [k3]; omega, rfl⟩
    · have k3b : ((x.kind : Int) == 3) = false := by simp; omega
      go_wp2_with fail
      go_meet
      exact ⟨by simp [k3], rfl⟩
  case rest =>
    obtain ⟨rfl, rfl⟩ := hcut
    rw [decide_eq_true hP.out]
    clear hP
    have j8 : ¬ (8 : Int) ≤ (links : Int) := by omega
    have hT := targetR_any ts _ c x.num _ hI.rt (by omega) hG.1
    rw [hts] at hT
    simp only at hT
    go_wp2_with fail
    refine hT.mono ?_
    rintro r w6 ⟨s6, rfl, hs6, ho6⟩
    have hI := hI.only ho6
    have hrq := hrq.only ho6 (fun _ _ _ x => x)
    clear hT x1 x2 hbx
    obtain rfl := hs6 trivial
    have hS := splitR_any s6 w6
    rw [hsp] at hS
    simp only at hS
    go_wp2_with fail
    refine hS.mono ?_
    rintro r w7 ⟨Ax, cx, rfl, hx, ho7⟩
    have oa7 := (Only.refl (fun _ => False) w7).alloc (.cells #[.bool ab, .slice Ax parts.length cx, .bool sl] 29)
    have hI := (hI.only ho7).only oa7
    have hrq := (hrq.only ho7 (fun _ _ _ x => x)).only oa7 (fun _ _ _ x => x)
    have hx := hx.only oa7 (fun _ _ _ x => x)
    have hbp := Blk.new w7 29 #[.bool ab, .slice Ax parts.length cx, .bool sl]
    clear hS ho7 oa7
    subst hab
    have b0 := hbp.cell 0
    have b1 := hbp.cell 1
    have b2 := hbp.cell 2
    simp only [List.getElem?_toArray, List.getElem?_cons_zero, List.getElem?_cons_succ] at b0 b1 b2
    clear hbp
    have hll := split_len s6
    have htl := targ_good hG x.num
    rw [hts] at htl
    rw [hsp] at hll
    simp only at hll htl
    clear hts hsp
    go_upto_region 26 with fail
    generalize w7.alloc _ = w8 at *
    generalize w7.heap.size = gp at *
    go_upto_region 28 with fail
    have hu1 := rowU_one (Blk.new w8 46 #[.int .u16 ((1 : Nat) : Int)])
    have oa8 := (Only.refl (fun _ => False) w8).alloc (.cells #[.int .u16 ((1 : Nat) : Int)] 46)
    have hg8 := hI.bf.lt
    have hI := hI.only oa8
    have hrq := hrq.only oa8 (fun _ _ _ x => x)
    have hx := hx.only oa8 (fun _ _ _ x => x)
    have hFr : ∀ b, (some ⟨w8.heap.size, 0, none⟩ : Option Addr) = some b → g0 < b.block := fun b e => by
      cases e
      exact hg8
    have s1 : (w8.alloc (.cells #[.int .u16 ((1 : Nat) : Int)] 46)).cell? ⟨gp, 1, none⟩ = some (.slice Ax parts.length cx) := by
      rw [← b1]; exact (Blk.cell_only oa8 (World.block_lt_of_cell? _ _ b1) (fun x => x))
    have s2 : (w8.alloc (.cells #[.int .u16 ((1 : Nat) : Int)] 46)).cell? ⟨gp, 2, none⟩ = some (.bool sl) := by
      rw [← b2]; exact (Blk.cell_only oa8 (World.block_lt_of_cell? _ _ b2) (fun x => x))
    simp only [show ((1 : Nat) : Int) = 1 from rfl] at hI hrq hx s1 s2 hu1
    clear b0 b1 b2 oa8
    generalize w8.alloc _ = w9 at *
    generalize hgu : w8.heap.size = gu at *
    clear hgu
    go_cut [135] (fun s135 W => s135 = .bool (decide (n = 0 ∧ sl = true)) ∧ W = w9)
    case first =>
      clear hm hcp hcq
      by_cases hr0 : n = 0
      · have j0 : ((n : Int) == 0) = true := by rw [hr0]; rfl
        go_wp2_with fail
        go_meet
        exact ⟨by simp [hr0], rfl⟩
      · have j0 : ((n : Int) == 0) = false := by simp; omega
        go_wp2_with fail
        go_meet
        exact ⟨by simp [hr0], rfl⟩
    case rest =>
      obtain ⟨rfl, rfl⟩ := hcut
      rw [decide_eq_false hb.out]
      clear hb
      obtain ⟨v1, w10, A9, c9, w11, hp1, hp2, hq9, ho10, ho11⟩ := cat_s hx hrq (by have := hn.out; omega)
      have hI11 := hI.only ho11
      have htd3 : todo (parts ++ rest) (links + 1) + 500 ≤ todo (part :: rest) links := by
        unfold todo
        rw [List.length_append, List.length_cons]
        omega
      have hC := hrec [1] (parts ++ rest) must (links + 1) (some ⟨gu, 0, none⟩) 1 A9 c9 w11 hI11.rt (hu1.only ho11 (fun _ _ x => x)) hq9 (by simp) (by simp) (by simp only [List.length_singleton]; omega) (by omega) (by omega)
      simp only [List.length_singleton] at hC
      rw [show ((links + 1 : Nat) : Int) = (links : Int) + 1 from rfl, List.length_append] at hC
      have kl : IntKind.i64.wrap ((links : Int) + 1) = (links : Int) + 1 := by rw [IntKind.wrap_i64]; omega
      have hn0 := hn.out
      rw [hn0] at hp2
      replace hC := Lib.hid hC
      clear hI hx hrq hq9 hn0 ho10 ho11 htd3 hll htl hu1
      go_wp2_with (at_builtin; first | (refine wpList_append_eq1 rfl (.const (.slice none 0 0)) (.tmp 139) 23 rfl _ _ _ _ (by simp [Act.eval]) (by simp [Act.eval]) hp1 ?_) | (refine wpList_append_eq1 rfl (.tmp 140) (.tmp 141) 23 rfl _ _ _ _ (by simp [Act.eval]) (by simp [Act.eval]) hp2 ?_))
      refine hC.out.mono ?_
      clear hC hp1 hp2 s1 s2 kl
      have hI := hI11
      clear hI11
      rintro r w9 ⟨Au, cu, rfl, hu9, hA9, ho9⟩
      have hI9 := hI.only ho9
      have hgW := hI.bf.lt
      have hnw := hI.nw
      have hAw : ∀ a, Au = some a → ¬ a.block = g0 ∧ (w.heap.size ≤ a.block ∨ ∃ b, (some ⟨bp, op, none⟩ : Option Addr) = some b ∧ a.block = b.block) := fun a ea => by
        rcases hA9 a ea with h2 | ⟨b, eb, h2⟩
        · exact ⟨by omega, .inl (by omega)⟩
        · have h3 := hFr b eb
          exact ⟨by omega, .inl (by omega)⟩
      rw [← hgo.out] at hu9 ⊢
      clear hI
      obtain ⟨⟨d0, nm0, n0, kd0, mu0, up0⟩, ee⟩ := R
      simp only [Fnd.cells] at hu9 ⊢
      have q0 := hI9.bf.cell 0
      have qf0 := hI9.bf.frozen 0
      have q1 := hI9.bf.cell 1
      have qf1 := hI9.bf.frozen 1
      have q2 := hI9.bf.cell 2
      have qf2 := hI9.bf.frozen 2
      have q3 := hI9.bf.cell 3
      have qf3 := hI9.bf.frozen 3
      have q4 := hI9.bf.cell 4
      have qf4 := hI9.bf.frozen 4
      have q5 := hI9.bf.cell 5
      have qf5 := hI9.bf.frozen 5
      simp only [List.getElem?_toArray, List.getElem?_cons_zero, List.getElem?_cons_succ] at q0 q1 q2 q3 q4 q5
      obtain ⟨hz, hu, ho⟩ := hI9.put (B := Au) (d := (d0 : Int)) (n := (n0 : Int)) (k := (kd0 : Int)) (s := nm0) (m := mu0) (l := up0) (cu := cu) hu9 (fun a ea => (hAw a ea).1)
      replace hz := Lib.hid hz
      replace hu := Lib.hid hu
      replace ho := Lib.hid ho
      replace hAw := Lib.hid hAw
      clear hI9 hu9 hA9 ho9 hgo
      try clear hC
      try clear hrec
      try clear htd
      try clear ktd
      try clear hrq
      try clear hcp
      try clear hl
      try clear hm
      try clear hl1
      try clear hlt
      try clear hcq
      try clear hG
      try clear p1
      try clear p2
      try clear p0
      try clear hgW
      try clear hnw
      try clear hp
      try clear hq
      try clear ht
      go_wp2
      try rw [Exit.noGoto_ret]
      refine bodyPost_ret (res58 _ _ _ _ rfl _ rfl rfl hz.out) rfl ?_
      exact ⟨Au, cu, rfl, hu.out, fun a ea => (hAw.out a ea).2, ho.out⟩
set_option maxRecDepth 100000 in
set_option maxHeartbeats 8000000 in
theorem goesW_go11 (ts : List Thg) (A : Option Addr) (c : Nat) (follow : Bool) (f : Nat) (pl : List Nat) (part : ByteArray) (rest : List ByteArray) (must : Bool) (links : Nat) (Ap : Option Addr) (cp : Nat) (Aq : Option Addr) (cq : Nat) (w : World)
    (hG : Good ts) (ht : RowT w A ts c) (hp : RowU w Ap pl cp) (hq : RowS w Aq (part :: rest) cq) (p0 : 0 < pl.length) (p1 : ∀ n ∈ pl, 1 ≤ n ∧ n < 65536) (p2 : pl.length + todo (part :: rest) links ≤ 9900) (l8 : links ≤ 8)
    (hrec : GoesAt ts A c follow f) (htd : todo (part :: rest) links < f + 1) (l : List Ent) (hes : entsS ts (lastU pl) = (l, 0)) (hd : ¬ part.toList = [46, 46]) (x : Ent) (hfe : findE l part = some x) (hP : Hid (x.kind = 3 ∧ (0 < rest.length ∨ must = true ∨ follow = true))) (h8 : ¬ 8 ≤ links) (tg : ByteArray) (hts : targS ts x.num = (tg, 0)) (ab sl : Bool) (parts : List ByteArray) (hab : ab = true) (hsp : split tg = ⟨ab, parts, sl, 0⟩) (hb : Hid (rest.length = 0 ∧ sl = true)) {R : Fnd × Int} (hgo : R = goesF ts follow f [1] (parts ++ rest) true (links + 1)) :
    Calls Try.prog 58 #[.slice A ts.length c, .slice Ap pl.length cp, .slice Aq (part :: rest).length cq, .bool must, .bool follow, .int .i64 links] w fun r w' => GoesPost Ap R w r w' := by
  have hI := GInv.start ht hp hq p0
  obtain ⟨m, hm⟩ : ∃ m, pl.length = m + 1 := ⟨pl.length - 1, by omega⟩
  have hla := lastU_at hm
  have hl1 := p1 _ (lastU_mem p0)
  have hlt : rest.length + 1 ≤ 9900 := by have := todo_le (part :: rest) links; simp only [List.length_cons] at this; omega
  obtain ⟨bp, op, eAp, _, c1⟩ := hI.rp.lit hla
  obtain ⟨bq, oq, eAq, _, hcell⟩ := hI.rq.1.2 (by simp)
  have c2 := hcell 0 (.string part) rfl
  have hcq := hI.rq.2.1
  have hcp := hI.rp.2.1
  simp only [List.length_cons] at hcq
  rw [hm] at hcp
  subst eAp
  subst eAq
  have k0 : ((rest.length : Int) + 1 == 0) = false := by simp; omega
  have k1 : (0 : Int) ≤ (m : Int) := by omega
  have k2 : (m : Int) < (m : Int) + 1 := by omega
  have k3 : IntKind.i64.wrap ((m : Int) + 1 - 1) = (m : Int) := by rw [IntKind.wrap_i64]; omega
  have k8 : (0 : Int) < (rest.length : Int) + 1 := by omega
  have k9 : (1 : Int) ≤ (rest.length : Int) + 1 := by omega
  simp only [Nat.add_zero] at c2
  replace hgo := Lib.hid hgo
  simp only [List.length_cons]
  rw [hm]
  clear hcell hla
  go_enter Try.func58, Try.ntmps58
  go_wp2
  generalize World.alloc _ _ = w1 at *
  generalize w.heap.size = g0 at *
  go_quiet (fail)
  have hI := hI.only (Only.drewN (Only.refl _ _) nq)
  have hrq := hI.rq.rest8
  generalize (if cq = 1 then some (⟨bq, oq, none⟩ : Addr) else some ⟨bq, oq + 1, none⟩) = Ar at *
  generalize w1.drewN nq = w2 at *
  clear c1 c2 k0 k1 k2 k3 k8 k9
  generalize hn : rest.length = n at *
  replace hn := Lib.hid hn
  have hdb : (part.toList == [46, 46]) = false := by rw [beq_eq_false_iff_ne]; exact hd
  replace hd := Lib.hid hd
  have hE := entriesR_any ts _ c (lastU pl) w2 hI.rt hl1.2 hG.1 (fun t ht => (hG.2 t ht).2.1)
  rw [hes] at hE
  simp only at hE
  have hgd := ents_good hG (lastU pl)
  rw [hes] at hgd
  have hl64 := (are_ok hgd).1
  simp only at hl64
  go_wp2_with fail
  refine hE.mono ?_
  rintro r w3 ⟨A5, c5, rfl, h5, ho3⟩
  have hI := hI.only ho3
  have hrq := hrq.only ho3 (fun _ _ _ x => x)
  clear hE
  have hF := findR_any l A5 c5 part w3 h5 (by omega)
  rw [hfe] at hF
  have hFn : Calls Try.prog 43 #[.slice A5 l.length c5, .string part] w3 fun r w' => r = .returned (.tuple #[.agg #[.string x.nm, .int .u16 x.num, .int .u8 x.kind], .bool true]) ∧ Only (fun _ => False) w3 w' := hF
  have hxm : x ∈ l := List.mem_of_find?_eq_some hfe
  obtain ⟨_, hn1, hn2, hk1, hk2⟩ := may_ok (are_may hgd x hxm)
  clear hF hgd h5 hxm
  go_wp2_with fail
  refine hFn.mono ?_
  rintro r w4 ⟨rfl, ho4⟩
  have oa := (Only.refl (fun _ => False) w4).alloc (.cells #[.string x.nm, .int .u16 x.num, .int .u8 x.kind] 79)
  have hI := (hI.only ho4).only oa
  have hrq := (hrq.only ho4 (fun _ _ _ x => x)).only oa (fun _ _ _ x => x)
  have hbx := Blk.new w4 79 #[.string x.nm, .int .u16 x.num, .int .u8 x.kind]
  clear hFn ho4 oa
  have x1 := hbx.cell 1
  have x2 := hbx.cell 2
  simp only [List.getElem?_toArray, List.getElem?_cons_zero, List.getElem?_cons_succ] at x1 x2
  go_upto_region 17 with fail
  generalize w4.alloc (.cells #[.string x.nm, .int .u16 x.num, .int .u8 x.kind] 79) = w5 at *
  generalize w4.heap.size = gx at *
  go_cut [102] (fun s102 W => s102 = .bool (decide (x.kind = 3 ∧ (0 < n ∨ must = true ∨ follow = true))) ∧ W = w5)
  case first =>
    clear hm hcp hcq
    by_cases k3 : x.kind = 3
    · have k3b : ((x.kind : Int) == 3) = true := by rw [k3]; rfl
      by_cases hr0 : 0 < n
      · have j0 : (0 : Int) < (n : Int) := by omega
        go_wp2_with fail
        go_meet
        exact ⟨by simp [k3, hr0], rfl⟩
      · have j0 : ¬ (0 : Int) < (n : Int) := by omega
        cases must with
        | true =>
          go_wp2_with fail
          go_meet
          exact ⟨by simp [k3], rfl⟩
        | false =>
          cases follow with
          | true =>
            go_wp2_with fail
            go_meet
            exact ⟨by simp [k3], rfl⟩
          | false =>
            go_wp2_with fail
            go_meet
            exact ⟨by simp [k3]; omega, rfl⟩
    · have k3b : ((x.kind : Int) == 3) = false := by simp; omega
      go_wp2_with fail
      go_meet
      exact ⟨by simp [k3], rfl⟩
  case rest =>
    obtain ⟨rfl, rfl⟩ := hcut
    rw [decide_eq_true hP.out]
    clear hP
    have j8 : ¬ (8 : Int) ≤ (links : Int) := by omega
    have hT := targetR_any ts _ c x.num _ hI.rt (by omega) hG.1
    rw [hts] at hT
    simp only at hT
    go_wp2_with fail
    refine hT.mono ?_
    rintro r w6 ⟨s6, rfl, hs6, ho6⟩
    have hI := hI.only ho6
    have hrq := hrq.only ho6 (fun _ _ _ x => x)
    clear hT x1 x2 hbx
    obtain rfl := hs6 trivial
    have hS := splitR_any s6 w6
    rw [hsp] at hS
    simp only at hS
    go_wp2_with fail
    refine hS.mono ?_
    rintro r w7 ⟨Ax, cx, rfl, hx, ho7⟩
    have oa7 := (Only.refl (fun _ => False) w7).alloc (.cells #[.bool ab, .slice Ax parts.length cx, .bool sl] 29)
    have hI := (hI.only ho7).only oa7
    have hrq := (hrq.only ho7 (fun _ _ _ x => x)).only oa7 (fun _ _ _ x => x)
    have hx := hx.only oa7 (fun _ _ _ x => x)
    have hbp := Blk.new w7 29 #[.bool ab, .slice Ax parts.length cx, .bool sl]
    clear hS ho7 oa7
    subst hab
    have b0 := hbp.cell 0
    have b1 := hbp.cell 1
    have b2 := hbp.cell 2
    simp only [List.getElem?_toArray, List.getElem?_cons_zero, List.getElem?_cons_succ] at b0 b1 b2
    clear hbp
    have hll := split_len s6
    have htl := targ_good hG x.num
    rw [hts] at htl
    rw [hsp] at hll
    simp only at hll htl
    clear hts hsp
    go_upto_region 26 with fail
    generalize w7.alloc _ = w8 at *
    generalize w7.heap.size = gp at *
    go_upto_region 28 with fail
    have hu1 := rowU_one (Blk.new w8 46 #[.int .u16 ((1 : Nat) : Int)])
    have oa8 := (Only.refl (fun _ => False) w8).alloc (.cells #[.int .u16 ((1 : Nat) : Int)] 46)
    have hg8 := hI.bf.lt
    have hI := hI.only oa8
    have hrq := hrq.only oa8 (fun _ _ _ x => x)
    have hx := hx.only oa8 (fun _ _ _ x => x)
    have hFr : ∀ b, (some ⟨w8.heap.size, 0, none⟩ : Option Addr) = some b → g0 < b.block := fun b e => by
      cases e
      exact hg8
    have s1 : (w8.alloc (.cells #[.int .u16 ((1 : Nat) : Int)] 46)).cell? ⟨gp, 1, none⟩ = some (.slice Ax parts.length cx) := by
      rw [← b1]; exact (Blk.cell_only oa8 (World.block_lt_of_cell? _ _ b1) (fun x => x))
    have s2 : (w8.alloc (.cells #[.int .u16 ((1 : Nat) : Int)] 46)).cell? ⟨gp, 2, none⟩ = some (.bool sl) := by
      rw [← b2]; exact (Blk.cell_only oa8 (World.block_lt_of_cell? _ _ b2) (fun x => x))
    simp only [show ((1 : Nat) : Int) = 1 from rfl] at hI hrq hx s1 s2 hu1
    clear b0 b1 b2 oa8
    generalize w8.alloc _ = w9 at *
    generalize hgu : w8.heap.size = gu at *
    clear hgu
    go_cut [135] (fun s135 W => s135 = .bool (decide (n = 0 ∧ sl = true)) ∧ W = w9)
    case first =>
      clear hm hcp hcq
      by_cases hr0 : n = 0
      · have j0 : ((n : Int) == 0) = true := by rw [hr0]; rfl
        go_wp2_with fail
        go_meet
        exact ⟨by simp [hr0], rfl⟩
      · have j0 : ((n : Int) == 0) = false := by simp; omega
        go_wp2_with fail
        go_meet
        exact ⟨by simp [hr0], rfl⟩
    case rest =>
      obtain ⟨rfl, rfl⟩ := hcut
      rw [decide_eq_true hb.out]
      clear hb
      obtain ⟨v1, w10, A9, c9, w11, hp1, hp2, hq9, ho10, ho11⟩ := cat_s hx hrq (by have := hn.out; omega)
      have hI11 := hI.only ho11
      have htd3 : todo (parts ++ rest) (links + 1) + 500 ≤ todo (part :: rest) links := by
        unfold todo
        rw [List.length_append, List.length_cons]
        omega
      have hC := hrec [1] (parts ++ rest) true (links + 1) (some ⟨gu, 0, none⟩) 1 A9 c9 w11 hI11.rt (hu1.only ho11 (fun _ _ x => x)) hq9 (by simp) (by simp) (by simp only [List.length_singleton]; omega) (by omega) (by omega)
      simp only [List.length_singleton] at hC
      rw [show ((links + 1 : Nat) : Int) = (links : Int) + 1 from rfl, List.length_append] at hC
      have kl : IntKind.i64.wrap ((links : Int) + 1) = (links : Int) + 1 := by rw [IntKind.wrap_i64]; omega
      have hn0 := hn.out
      rw [hn0] at hp2
      replace hC := Lib.hid hC
      clear hI hx hrq hq9 hn0 ho10 ho11 htd3 hll htl hu1
      go_wp2_with (at_builtin; first | (refine wpList_append_eq1 rfl (.const (.slice none 0 0)) (.tmp 139) 23 rfl _ _ _ _ (by simp [Act.eval]) (by simp [Act.eval]) hp1 ?_) | (refine wpList_append_eq1 rfl (.tmp 140) (.tmp 141) 23 rfl _ _ _ _ (by simp [Act.eval]) (by simp [Act.eval]) hp2 ?_))
      refine hC.out.mono ?_
      clear hC hp1 hp2 s1 s2 kl
      have hI := hI11
      clear hI11
      rintro r w9 ⟨Au, cu, rfl, hu9, hA9, ho9⟩
      have hI9 := hI.only ho9
      have hgW := hI.bf.lt
      have hnw := hI.nw
      have hAw : ∀ a, Au = some a → ¬ a.block = g0 ∧ (w.heap.size ≤ a.block ∨ ∃ b, (some ⟨bp, op, none⟩ : Option Addr) = some b ∧ a.block = b.block) := fun a ea => by
        rcases hA9 a ea with h2 | ⟨b, eb, h2⟩
        · exact ⟨by omega, .inl (by omega)⟩
        · have h3 := hFr b eb
          exact ⟨by omega, .inl (by omega)⟩
      rw [← hgo.out] at hu9 ⊢
      clear hI
      obtain ⟨⟨d0, nm0, n0, kd0, mu0, up0⟩, ee⟩ := R
      simp only [Fnd.cells] at hu9 ⊢
      have q0 := hI9.bf.cell 0
      have qf0 := hI9.bf.frozen 0
      have q1 := hI9.bf.cell 1
      have qf1 := hI9.bf.frozen 1
      have q2 := hI9.bf.cell 2
      have qf2 := hI9.bf.frozen 2
      have q3 := hI9.bf.cell 3
      have qf3 := hI9.bf.frozen 3
      have q4 := hI9.bf.cell 4
      have qf4 := hI9.bf.frozen 4
      have q5 := hI9.bf.cell 5
      have qf5 := hI9.bf.frozen 5
      simp only [List.getElem?_toArray, List.getElem?_cons_zero, List.getElem?_cons_succ] at q0 q1 q2 q3 q4 q5
      obtain ⟨hz, hu, ho⟩ := hI9.put (B := Au) (d := (d0 : Int)) (n := (n0 : Int)) (k := (kd0 : Int)) (s := nm0) (m := mu0) (l := up0) (cu := cu) hu9 (fun a ea => (hAw a ea).1)
      replace hz := Lib.hid hz
      replace hu := Lib.hid hu
      replace ho := Lib.hid ho
      replace hAw := Lib.hid hAw
      clear hI9 hu9 hA9 ho9 hgo
      try clear hC
      try clear hrec
      try clear htd
      try clear ktd
      try clear hrq
      try clear hcp
      try clear hl
      try clear hm
      try clear hl1
      try clear hlt
      try clear hcq
      try clear hG
      try clear p1
      try clear p2
      try clear p0
      try clear hgW
      try clear hnw
      try clear hp
      try clear hq
      try clear ht
      go_wp2
      try rw [Exit.noGoto_ret]
      refine bodyPost_ret (res58 _ _ _ _ rfl _ rfl rfl hz.out) rfl ?_
      exact ⟨Au, cu, rfl, hu.out, fun a ea => (hAw.out a ea).2, ho.out⟩
end Go.Proofs.Ytnclappdokhciaa
end

section
namespace Go.Proofs.Ytnclappdokhciaa
open Go Go.RowKit
set_option linter.unusedVariables false
theorem goes_step {ts : List Thg} {A : Option Addr} {c : Nat} {follow : Bool} {f : Nat} (hG : Good ts) (hrec : GoesAt ts A c follow f) : GoesAt ts A c follow (f + 1) := by
  intro pl ps must links Ap cp Aq cq w ht hp hq p0 p1 p2 l8 htd
  cases ps with
  | nil => exact goesW_nil ts A c follow pl must links Ap cp Aq cq w ht hp hq p0 (by omega) rfl
  | cons part rest =>
    have hne : rest ≠ [] ↔ 0 < rest.length := by rw [List.length_pos_iff]
    by_cases hd : part.toList = [46, 46]
    · rw [goes_dots hd]
      by_cases hl : pl.length = 1
      · refine goesW_dots1 ts A c follow f pl part rest must links Ap cp Aq cq w hG ht hp hq p0 p1 p2 l8 hrec hd hl htd ?_
        rw [hl]
        have : pl.take (max 1 (1 - 1)) = pl := List.take_of_length_le (by rw [hl]; decide)
        rw [this]
      · refine goesW_dots2 ts A c follow f pl part rest must links Ap cp Aq cq w hG ht hp hq p0 p1 p2 l8 hrec hd (by omega) htd ?_
        rw [Nat.max_eq_right (by omega)]
    cases hes : entsS ts (lastU pl) with
    | mk l ee =>
    by_cases he : ee = 0
    · subst he
      have he' : (entsS ts (lastU pl)).2 = 0 := by rw [hes]
      cases hfe : findE l part with
      | none =>
        have hf' : findE (entsS ts (lastU pl)).1 part = none := by rw [hes]; exact hfe
        rw [goes_none hd he' hf']
        by_cases hr : 0 < rest.length
        · exact goesW_none_more ts A c follow f pl part rest must links Ap cp Aq cq w hG ht hp hq p0 p1 p2 l8 l hes hd hfe (Lib.hid hr) (by rw [if_pos (hne.2 hr)])
        · exact goesW_none_end ts A c follow f pl part rest must links Ap cp Aq cq w hG ht hp hq p0 p1 p2 l8 l hes hd hfe (Lib.hid (by omega)) (by rw [if_neg (fun h => hr (hne.1 h))])
      | some x =>
        have hf' : findE (entsS ts (lastU pl)).1 part = some x := by rw [hes]; exact hfe
        rw [goes_some hd he' hf']
        by_cases hP : x.kind = 3 ∧ (0 < rest.length ∨ must = true ∨ follow = true)
        · rw [if_pos (by rw [hne]; exact hP)]
          by_cases h8 : 8 ≤ links
          · exact goesW_eloop ts A c follow f pl part rest must links Ap cp Aq cq w hG ht hp hq p0 p1 p2 l8 l hes hd x hfe (Lib.hid hP) h8 (by
              have : linkS ts x.num links = 35 := by unfold linkS; rw [if_pos h8]
              rw [this]; rfl)
          cases hts : targS ts x.num with
          | mk tg te =>
          by_cases hte : te = 0
          · subst hte
            cases hsp : split tg with
            | mk ab parts sl se =>
            have hls : linkS ts x.num links = se := by unfold linkS; rw [if_neg h8, hts]; simp only [ne_eq, not_true_eq_false, if_false, hsp]
            by_cases hse : se = 0
            · subst hse
              rw [if_neg (fun h => h hls)]
              simp only [hsp]
              have hse : rest.isEmpty = decide (rest.length = 0) := by cases rest <;> rfl
              cases ab with
              | true =>
                rw [if_pos rfl]
                by_cases hb : rest.length = 0 ∧ sl = true
                · exact goesW_go11 ts A c follow f pl part rest must links Ap cp Aq cq w hG ht hp hq p0 p1 p2 l8 hrec htd l hes hd x hfe (Lib.hid hP) h8 tg hts true sl parts rfl hsp (Lib.hid hb) (by rw [hse, decide_eq_true hb.1, hb.2]; simp)
                · refine goesW_go10 ts A c follow f pl part rest must links Ap cp Aq cq w hG ht hp hq p0 p1 p2 l8 hrec htd l hes hd x hfe (Lib.hid hP) h8 tg hts true sl parts rfl hsp (Lib.hid hb) ?_
                  have : (rest.isEmpty && sl) = false := by rw [hse]; simpa using hb
                  rw [this, Bool.or_false]
              | false =>
                rw [if_neg (by decide)]
                by_cases hb : rest.length = 0 ∧ sl = true
                · exact goesW_go01 ts A c follow f pl part rest must links Ap cp Aq cq w hG ht hp hq p0 p1 p2 l8 hrec htd l hes hd x hfe (Lib.hid hP) h8 tg hts false sl parts rfl hsp (Lib.hid hb) (by rw [hse, decide_eq_true hb.1, hb.2]; simp)
                · refine goesW_go00 ts A c follow f pl part rest must links Ap cp Aq cq w hG ht hp hq p0 p1 p2 l8 hrec htd l hes hd x hfe (Lib.hid hP) h8 tg hts false sl parts rfl hsp (Lib.hid hb) ?_
                  have : (rest.isEmpty && sl) = false := by rw [hse]; simpa using hb
                  rw [this, Bool.or_false]
            · exact goesW_serr ts A c follow f pl part rest must links Ap cp Aq cq w hG ht hp hq p0 p1 p2 l8 l hes hd x hfe (Lib.hid hP) h8 tg hts ab sl parts se hsp hse (by rw [hls, if_pos hse])
          · have hls : linkS ts x.num links = te := by unfold linkS; rw [if_neg h8, hts, if_pos hte]
            exact goesW_terr ts A c follow f pl part rest must links Ap cp Aq cq w hG ht hp hq p0 p1 p2 l8 l hes hd x hfe (Lib.hid hP) h8 tg te hts hte (by rw [hls, if_pos hte])
        · rw [if_neg (by rw [hne]; exact hP)]
          by_cases hr : 0 < rest.length
          · by_cases h2 : x.kind = 2
            · exact goesW_push ts A c follow f pl part rest must links Ap cp Aq cq w hG ht hp hq p0 p1 p2 l8 hrec htd l hes hd x hfe (Lib.hid hP) (Lib.hid hr) (Lib.hid h2) (by rw [if_neg (fun h => h.1 h2), if_neg (hne.2 hr)])
            · exact goesW_notdir ts A c follow f pl part rest must links Ap cp Aq cq w hG ht hp hq p0 p1 p2 l8 l hes hd x hfe (Lib.hid hP) (Lib.hid hr) (Lib.hid h2) (by rw [if_pos ⟨h2, .inl (hne.2 hr)⟩])
          · have hr0 : rest.length = 0 := by omega
            have hre : rest = [] := List.eq_nil_of_length_eq_zero hr0
            by_cases hk : must = false ∨ x.kind = 2
            · exact goesW_found ts A c follow f pl part rest must links Ap cp Aq cq w hG ht hp hq p0 p1 p2 l8 l hes hd x hfe (Lib.hid hP) (Lib.hid hr0) (Lib.hid hk) (by
                rw [if_neg (fun h => by
                  rcases hk with hk | hk
                  · rcases h.2 with h3 | h3
                    · exact h3 hre
                    · rw [hk] at h3; cases h3
                  · exact h.1 hk), if_pos hre])
            · have hm : must = true := by cases must with
                | true => rfl
                | false => exact absurd (.inl rfl) hk
              have h2 : ¬ x.kind = 2 := fun h => hk (.inr h)
              exact goesW_notdir_end ts A c follow f pl part rest must links Ap cp Aq cq w hG ht hp hq p0 p1 p2 l8 l hes hd x hfe (Lib.hid hP) (Lib.hid hr0) (Lib.hid hm) (Lib.hid h2) (by rw [if_pos ⟨h2, .inr hm⟩])
    · have he' : ¬ (entsS ts (lastU pl)).2 = 0 := by rw [hes]; exact he
      exact goesW_err ts A c follow f pl part rest must links Ap cp Aq cq w hG ht hp hq p0 p1 p2 l8 hd ee l hes he (by rw [goes_err hd he', hes])
theorem goes_any {ts : List Thg} {A : Option Addr} {c : Nat} {follow : Bool} (hG : Good ts) : ∀ f, GoesAt ts A c follow f
  | 0 => fun pl ps must links Ap cp Aq cq w _ _ _ _ _ _ _ h => absurd h (Nat.not_lt_zero _)
  | f + 1 => goes_step hG (goes_any hG f)
end Go.Proofs.Ytnclappdokhciaa
end
