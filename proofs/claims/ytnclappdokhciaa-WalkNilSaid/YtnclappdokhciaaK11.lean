/-
  The reference's Walk (func 28); the law's alike (func 30).
-/
import Derived.Test.YtnclappdokhciaaK8m
import Derived.Test.YtnclappdokhciaaK9b
namespace Go.Proofs.Ytnclappdokhciaa
open Go Go.RowKit
set_option linter.unusedVariables false
def RefPost (R : Fnd × Int) (w : World) (r : Ending) (w' : World) : Prop :=
  ∃ Au cu, r = .returned (.tuple #[.agg (R.1.cells Au cu), .int .i64 R.2]) ∧ RowU w' Au R.1.up cu ∧ Only (fun _ => False) w w'
theorem res28 (tm : Array Value) (W : World) (g : Nat) (cs : Array Value) (hcs : cs.size = 6) (e : Int) (h2 : tm.getD 6 undef = .pointer (some ⟨g, 0, none⟩)) (h3 : tm.getD 7 undef = .int .i64 e) (hb : Blk W g 52 cs) :
    (results Try.f28 tm).run Try.prog W = .ok (.tuple #[.agg cs, .int .i64 e]) W := by
  have hl := run_loadVar_row (P := Try.prog) W g 52 52 cs (0, 0) _ hb Try.underlying52 rfl (by rw [hcs]; kernel_rfl)
  unfold results
  rw [Try.results28]
  simp only [List.mapM_toArray, List.mapM_cons, List.mapM_nil, h2, h3]
  simp [asAddr, hl]
theorem put6 {w0 W : World} {g0 : Nat} {a b c d e f : Value} (h : Blk W g0 52 #[a, b, c, d, e, f]) (h0 : w0.heap.size ≤ g0) (ho : Only (fun _ => False) w0 W) {B : Option Addr} {dd n k : Int} {s : ByteArray} {m : Bool} {l : List Nat} {cu : Nat} (hr : RowU W B l cu) (hB : ∀ a, B = some a → ¬ a.block = g0) :
    Blk ((((((W.setCell ⟨g0, 0, none⟩ (.int .u16 dd)).setCell ⟨g0, 1, none⟩ (.string s)).setCell ⟨g0, 2, none⟩ (.int .u16 n)).setCell ⟨g0, 3, none⟩ (.int .u8 k)).setCell ⟨g0, 4, none⟩ (.bool m)).setCell ⟨g0, 5, none⟩ (.slice B l.length cu)) g0 52 #[.int .u16 dd, .string s, .int .u16 n, .int .u8 k, .bool m, .slice B l.length cu] ∧
    RowU ((((((W.setCell ⟨g0, 0, none⟩ (.int .u16 dd)).setCell ⟨g0, 1, none⟩ (.string s)).setCell ⟨g0, 2, none⟩ (.int .u16 n)).setCell ⟨g0, 3, none⟩ (.int .u8 k)).setCell ⟨g0, 4, none⟩ (.bool m)).setCell ⟨g0, 5, none⟩ (.slice B l.length cu)) B l cu ∧
    Only (fun _ => False) w0 ((((((W.setCell ⟨g0, 0, none⟩ (.int .u16 dd)).setCell ⟨g0, 1, none⟩ (.string s)).setCell ⟨g0, 2, none⟩ (.int .u16 n)).setCell ⟨g0, 3, none⟩ (.int .u8 k)).setCell ⟨g0, 4, none⟩ (.bool m)).setCell ⟨g0, 5, none⟩ (.slice B l.length cu)) := by
  have hzo := (Only.refl (fun k => k = g0) W).set6 (.int .u16 dd) (.string s) (.int .u16 n) (.int .u8 k) (.bool m) (.slice B l.length cu)
  exact ⟨h.set6, hr.fresh hzo hB, ho.trans_of hzo (fun k hk e => by omega)⟩
set_option maxRecDepth 100000 in
set_option maxHeartbeats 8000000 in
theorem refWalk_any (ts : List Thg) (A : Option Addr) (c : Nat) (path : ByteArray) (follow : Bool) (w : World) (h : RowT w A ts c) (hG : Good ts) (hp : path.size ≤ 800) :
    Calls Try.prog 28 #[.slice A ts.length c, .string path, .bool follow] w fun r w' => RefPost (walkS ts path follow) w r w' := by
  have hf0 := Blk.new w 52 #[.int .u16 0, .string ⟨#[]⟩, .int .u16 0, .int .u8 0, .bool false, .slice none 0 0]
  have oa := (Only.refl (fun _ => False) w).alloc (.cells #[.int .u16 0, .string ⟨#[]⟩, .int .u16 0, .int .u8 0, .bool false, .slice none 0 0] 52)
  have ht1 := h.only oa (fun _ _ x => x)
  have hpln := split_len path
  have hwalk : walkS ts path follow = if (split path).err ≠ 0 then (noF, (split path).err) else goesF ts follow 10000 [1] (split path).parts (split path).sl 0 := rfl
  have hS := splitR_any path (w.alloc (.cells #[.int .u16 0, .string ⟨#[]⟩, .int .u16 0, .int .u8 0, .bool false, .slice none 0 0] 52))
  generalize hsp : split path = sp at *
  obtain ⟨ab, parts, sl, err⟩ := sp
  simp only at hS hwalk hpln
  generalize hR : walkS ts path follow = R at *
  replace hsp := Lib.hid hsp
  replace hR := Lib.hid hR
  replace hS := Lib.hid hS
  go_enter Try.func28, Try.ntmps28
  go_wp2_with fail
  refine hS.out.mono ?_
  rintro r w2 ⟨Ax, cx, rfl, hx, ho2⟩
  have op := (Only.refl (fun _ => False) w2).alloc (.cells #[.bool ab, .slice Ax parts.length cx, .bool sl] 29)
  have hgp := Blk.new w2 29 #[.bool ab, .slice Ax parts.length cx, .bool sl]
  have o12 := ho2.trans op
  have hf2 := hf0.only o12 (fun x => x)
  have hx2 := hx.only op (fun _ _ _ x => x)
  have ht2 := ht1.only o12 (fun _ _ x => x)
  have ho3 := oa.trans o12
  have hg0 : w.heap.size ≤ w.heap.size := Nat.le_refl _
  clear hS hf0 hx oa ho2 op o12 ht1
  go_upto_region 2 with fail
  generalize w2.alloc _ = w3 at *
  generalize w2.heap.size = gp at *
  by_cases herr : err = 0
  · subst herr
    rw [if_neg (by simp)] at hwalk
    have ob := (Only.refl (fun _ => False) w3).alloc (.cells #[.int .u16 ((1 : Nat) : Int)] 46)
    have hn := rowU_one (Blk.new w3 46 #[.int .u16 ((1 : Nat) : Int)])
    have hC := goes_any (ts := ts) (A := A) (c := c) (follow := follow) hG 10000 [1] parts sl 0 (some ⟨w3.heap.size, 0, none⟩) 1 Ax cx _ (ht2.only ob (fun _ _ x => x)) hn (hx2.only ob (fun _ _ _ x => x)) (by simp) (by simp) (by unfold todo; simp only [List.length_singleton]; omega) (by omega) (by unfold todo; omega)
    simp only [List.length_singleton, show ((1 : Nat) : Int) = 1 from rfl, show ((0 : Nat) : Int) = 0 from rfl] at hC ob
    rw [← hwalk] at hC
    have hf3 := hf2.only ob (fun x => x)
    have ho4 := ho3.trans ob
    replace hC := Lib.hid hC
    replace hwalk := Lib.hid hwalk
    have g1 := (hgp.only ob (fun x => x)).cell 1
    have g2 := (hgp.only ob (fun x => x)).cell 2
    simp only [List.getElem?_toArray, List.getElem?_cons_zero, List.getElem?_cons_succ] at g1 g2
    have hnz : w3.heap.size ≠ w.heap.size := by have := hf2.lt; omega
    clear hn ht2 hx2 hf2 hgp ho3 hg0
    generalize hgz : w.heap.size = g0 at *
    replace hgz := Lib.hid hgz
    go_wp2_with fail
    generalize w3.alloc _ = w4 at *
    refine hC.out.mono ?_
    clear hC g1 g2
    rintro r w9 ⟨Au, cu, rfl, hu9, hA9, ho9⟩
    have hf := hf3.only ho9 (fun x => x)
    have ho5 := ho4.trans ho9
    have hAw : ∀ a, Au = some a → ¬ a.block = g0 := fun a ea => by
      have h3 := hf3.lt
      rcases hA9 a ea with h2 | ⟨b, eb, h2⟩
      · omega
      · cases eb; rw [h2]; exact hnz
    clear hA9 ho9 hf3 ho4 hnz
    have hR' := hwalk.out
    obtain ⟨⟨d0, nm0, n0, kd0, mu0, up0⟩, ee⟩ := R
    simp only [Fnd.cells] at hu9 ⊢
    have q0 := hf.cell 0
    have qf0 := hf.frozen 0
    have q1 := hf.cell 1
    have qf1 := hf.frozen 1
    have q2 := hf.cell 2
    have qf2 := hf.frozen 2
    have q3 := hf.cell 3
    have qf3 := hf.frozen 3
    have q4 := hf.cell 4
    have qf4 := hf.frozen 4
    have q5 := hf.cell 5
    have qf5 := hf.frozen 5
    simp only [List.getElem?_toArray, List.getElem?_cons_zero, List.getElem?_cons_succ] at q0 q1 q2 q3 q4 q5
    obtain ⟨hz, hu, ho⟩ := put6 (dd := (d0 : Int)) (n := (n0 : Int)) (k := (kd0 : Int)) (s := nm0) (m := mu0) (l := up0) (cu := cu) (w0 := w) hf (by have := hgz.out; omega) ho5 hu9 hAw
    replace hz := Lib.hid hz
    replace hu := Lib.hid hu
    replace ho := Lib.hid ho
    clear hf hu9 hAw ho5 hwalk hR' hR
    go_wp2
    try rw [Exit.noGoto_ret]
    refine bodyPost_ret (res28 _ _ _ _ rfl _ rfl rfl hz.out) rfl ?_
    exact ⟨Au, cu, rfl, hu.out, ho.out⟩
  · rw [if_pos herr] at hwalk
    have heb : (err != 0) = true := by rw [bne, beq_false_of_ne herr]; rfl
    replace herr := Lib.hid herr
    replace hwalk := Lib.hid hwalk
    have hf := hf2
    have q0 := hf.cell 0
    have qf0 := hf.frozen 0
    have q1 := hf.cell 1
    have qf1 := hf.frozen 1
    have q2 := hf.cell 2
    have qf2 := hf.frozen 2
    have q3 := hf.cell 3
    have qf3 := hf.frozen 3
    have q4 := hf.cell 4
    have qf4 := hf.frozen 4
    have q5 := hf.cell 5
    have qf5 := hf.frozen 5
    simp only [List.getElem?_toArray, List.getElem?_cons_zero, List.getElem?_cons_succ] at q0 q1 q2 q3 q4 q5
    obtain ⟨hz, hu, ho⟩ := put6 (dd := 0) (n := 0) (k := 0) (s := ⟨#[]⟩) (m := false) (B := none) (l := []) (cu := 0) hf hg0 ho3 (RowU.nil _) (fun a e => by cases e)
    simp only [List.length_nil] at hz hu ho
    replace hz := Lib.hid hz
    replace hu := Lib.hid hu
    replace ho := Lib.hid ho
    clear hf hf2 ho3 hx2 ht2 hgp hg0 hR
    generalize w.heap.size = g0 at *
    go_wp2
    try rw [Exit.noGoto_ret]
    refine bodyPost_ret (res28 _ _ _ _ rfl _ rfl rfl hz.out) rfl ?_
    exact ⟨none, 0, by rw [hwalk.out]; rfl, by rw [hwalk.out]; exact hu.out, ho.out⟩
set_option maxRecDepth 20000 in
set_option maxHeartbeats 8000000 in
theorem alike_any (d n k : Nat) (nm : ByteArray) (mu : Bool) (up : List Nat) (A A2 : Option Addr) (c c2 : Nat) (w : World) (h : RowU w A up c) (h2 : RowU w A2 up c2) (hn : up.length ≤ 100000) :
    Calls Try.prog 30 #[.agg #[.int .u16 d, .string nm, .int .u16 n, .int .u8 k, .bool mu, .slice A up.length c], .agg #[.int .u16 d, .string nm, .int .u16 n, .int .u8 k, .bool mu, .slice A2 up.length c2]] w fun r w' => r = .returned (.bool true) ∧ Only (fun _ => False) w w' := by
  have o1 := (Only.refl (fun _ => False) w).alloc (.cells #[.int .u16 d, .string nm, .int .u16 n, .int .u8 k, .bool mu, .slice A up.length c] 49)
  have o2 := o1.alloc (.cells #[.int .u16 d, .string nm, .int .u16 n, .int .u8 k, .bool mu, .slice A2 up.length c2] 49)
  have hS := sameW_any d n k nm mu up A A2 c c2 _ (h.only o2 (fun _ _ x => x)) (h2.only o2 (fun _ _ x => x)) hn
  replace hS := Lib.hid hS
  replace o2 := Lib.hid o2
  clear o1 h h2
  go_enter Try.func30, Try.ntmps30
  go_wp2_with fail
  refine hS.out.mono ?_
  rintro r w5 ⟨rfl, ho⟩
  go_wp2
  go_ret
  exact ⟨rfl, o2.out.trans ho⟩
end Go.Proofs.Ytnclappdokhciaa
