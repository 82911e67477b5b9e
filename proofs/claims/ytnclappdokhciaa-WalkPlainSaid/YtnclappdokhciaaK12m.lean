/-
  The reference's Walk (func 28); the law's alike (func 30).
  kintsugilaw19.WalkNil (func 8), WalkGoes (func 7).
  A path split at its slashes, as lists: what is split is joined, what is joined is split. Plain Lean.
  Texts without a fault, as lists of runes: parts of such a text, and such texts joined, are without a fault. Plain Lean.
  kintsugiref03.Join (func 19).
  What Split told is joined to a path that Split tells the same of (plain).
  What Split told is joined to a path that Split tells the same of: the law (plain).
  WalkPlain's plain law: what a walk tells is the tree's own; a slash ahead, a point, or doubled slashes change nothing.
-/
import Derived.Test.YtnclappdokhciaaK8m
import Derived.Test.YtnclappdokhciaaK9b
import Derived.Test.YtnclappdokhciaaK10
import Derived.Test.YtnclappdokhciaaS6
import Derived.Test.YtnclappdokhciaaK6
section
namespace Go.Proofs.Ytnclappdokhciaa
open Go Go.RowKit
set_option linter.unusedVariables false
def RefPost (R : Fnd × Int) (w : World) (r : Ending) (w' : World) : Prop :=
  ∃ Au cu, r = .returned (.tuple #[.agg (R.1.cells Au cu), .int .i64 R.2]) ∧ RowU w' Au R.1.up cu ∧ Only (fun _ => False) w w'
theorem res28 (tm : Array Value) (W : World) (g : Nat) (cs : Array Value) (hcs : cs.size = 6) (e : Int) (h2 : tm.getD 6 undef = .pointer (some ⟨g, 0, none⟩)) (h3 : tm.getD 7 undef = .int .i64 e) (hb : Blk W g 52 cs) :
    (results Try.f28 tm).run Try.prog W = .ok (.tuple #[.agg cs, .int .i64 e]) W := by
  have hl := run_loadVar_row (P := Try.prog) W g 52 52 cs (0, 0) _ hb Try.underlying52 rfl (by rw [hcs]; kernel_rfl)
  unfold results
  rw [Try.results28]
  simp only [List.mapM_toArray, List.mapM_cons, List.mapM_nil, h2, h3]
  simp [asAddr, hl]
theorem put6 {w0 W : World} {g0 : Nat} {a b c d e f : Value} (h : Blk W g0 52 #[a, b, c, d, e, f]) (h0 : w0.heap.size ≤ g0) (ho : Only (fun _ => False) w0 W) {B : Option Addr} {dd n k : Int} {s : ByteArray} {m : Bool} {l : List Nat} {cu : Nat} (hr : RowU W B l cu) (hB : ∀ a, B = some a → ¬ a.block = g0) :
    Blk ((((((W.setCell ⟨g0, 0, none⟩ (.int .u16 dd)).setCell ⟨g0, 1, none⟩ (.string s)).setCell ⟨g0, 2, none⟩ (.int .u16 n)).setCell ⟨g0, 3, none⟩ (.int .u8 k)).setCell ⟨g0, 4, none⟩ (.bool m)).setCell ⟨g0, 5, none⟩ (.slice B l.length cu)) g0 52 #[.int .u16 dd, .string s, .int .u16 n, .int .u8 k, .bool m, .slice B l.length cu] ∧
    RowU ((((((W.setCell ⟨g0, 0, none⟩ (.int .u16 dd)).setCell ⟨g0, 1, none⟩ (.string s)).setCell ⟨g0, 2, none⟩ (.int .u16 n)).setCell ⟨g0, 3, none⟩ (.int .u8 k)).setCell ⟨g0, 4, none⟩ (.bool m)).setCell ⟨g0, 5, none⟩ (.slice B l.length cu)) B l cu ∧
    Only (fun _ => False) w0 ((((((W.setCell ⟨g0, 0, none⟩ (.int .u16 dd)).setCell ⟨g0, 1, none⟩ (.string s)).setCell ⟨g0, 2, none⟩ (.int .u16 n)).setCell ⟨g0, 3, none⟩ (.int .u8 k)).setCell ⟨g0, 4, none⟩ (.bool m)).setCell ⟨g0, 5, none⟩ (.slice B l.length cu)) := by
  have hzo := (Only.refl (fun k => k = g0) W).set6 (.int .u16 dd) (.string s) (.int .u16 n) (.int .u8 k) (.bool m) (.slice B l.length cu)
  exact ⟨h.set6, hr.fresh hzo hB, ho.trans_of hzo (fun k hk e => by omega)⟩
set_option maxRecDepth 100000 in
set_option maxHeartbeats 8000000 in
theorem refWalk_any (ts : List Thg) (A : Option Addr) (c : Nat) (path : ByteArray) (follow : Bool) (w : World) (h : RowT w A ts c) (hG : Good ts) (hp : path.size ≤ 800) :
    Calls Try.prog 28 #[.slice A ts.length c, .string path, .bool follow] w fun r w' => RefPost (walkS ts path follow) w r w' := by
  have hf0 := Blk.new w 52 #[.int .u16 0, .string ⟨#[]⟩, .int .u16 0, .int .u8 0, .bool false, .slice none 0 0]
  have oa := (Only.refl (fun _ => False) w).alloc (.cells #[.int .u16 0, .string ⟨#[]⟩, .int .u16 0, .int .u8 0, .bool false, .slice none 0 0] 52)
  have ht1 := h.only oa (fun _ _ x => x)
  have hpln := split_len path
  have hwalk : walkS ts path follow = if (split path).err ≠ 0 then (noF, (split path).err) else goesF ts follow 10000 [1] (split path).parts (split path).sl 0 := rfl
  have hS := splitR_any path (w.alloc (.cells #[.int .u16 0, .string ⟨#[]⟩, .int .u16 0, .int .u8 0, .bool false, .slice none 0 0] 52))
  generalize hsp : split path = sp at *
  obtain ⟨ab, parts, sl, err⟩ := sp
  simp only at hS hwalk hpln
  generalize hR : walkS ts path follow = R at *
  replace hsp := Lib.hid hsp
  replace hR := Lib.hid hR
  replace hS := Lib.hid hS
  go_enter Try.func28, Try.ntmps28
  go_wp2_with fail
  refine hS.out.mono ?_
  rintro r w2 ⟨Ax, cx, rfl, hx, ho2⟩
  have op := (Only.refl (fun _ => False) w2).alloc (.cells #[.bool ab, .slice Ax parts.length cx, .bool sl] 29)
  have hgp := Blk.new w2 29 #[.bool ab, .slice Ax parts.length cx, .bool sl]
  have o12 := ho2.trans op
  have hf2 := hf0.only o12 (fun x => x)
  have hx2 := hx.only op (fun _ _ _ x => x)
  have ht2 := ht1.only o12 (fun _ _ x => x)
  have ho3 := oa.trans o12
  have hg0 : w.heap.size ≤ w.heap.size := Nat.le_refl _
  clear hS hf0 hx oa ho2 op o12 ht1
  go_upto_region 2 with fail
  generalize w2.alloc _ = w3 at *
  generalize w2.heap.size = gp at *
  by_cases herr : err = 0
  · subst herr
    rw [if_neg (by simp)] at hwalk
    have ob := (Only.refl (fun _ => False) w3).alloc (.cells #[.int .u16 ((1 : Nat) : Int)] 46)
    have hn := rowU_one (Blk.new w3 46 #[.int .u16 ((1 : Nat) : Int)])
    have hC := goes_any (ts := ts) (A := A) (c := c) (follow := follow) hG 10000 [1] parts sl 0 (some ⟨w3.heap.size, 0, none⟩) 1 Ax cx _ (ht2.only ob (fun _ _ x => x)) hn (hx2.only ob (fun _ _ _ x => x)) (by simp) (by simp) (by unfold todo; simp only [List.length_singleton]; omega) (by omega) (by unfold todo; omega)
    simp only [List.length_singleton, show ((1 : Nat) : Int) = 1 from rfl, show ((0 : Nat) : Int) = 0 from rfl] at hC ob
    rw [← hwalk] at hC
    have hf3 := hf2.only ob (fun x => x)
    have ho4 := ho3.trans ob
    replace hC := Lib.hid hC
    replace hwalk := Lib.hid hwalk
    have g1 := (hgp.only ob (fun x => x)).cell 1
    have g2 := (hgp.only ob (fun x => x)).cell 2
    simp only [List.getElem?_toArray, List.getElem?_cons_zero, List.getElem?_cons_succ] at g1 g2
    have hnz : w3.heap.size ≠ w.heap.size := by have := hf2.lt; omega
    clear hn ht2 hx2 hf2 hgp ho3 hg0
    generalize hgz : w.heap.size = g0 at *
    replace hgz := Lib.hid hgz
    go_wp2_with fail
    generalize w3.alloc _ = w4 at *
    refine hC.out.mono ?_
    clear hC g1 g2
    rintro r w9 ⟨Au, cu, rfl, hu9, hA9, ho9⟩
    have hf := hf3.only ho9 (fun x => x)
    have ho5 := ho4.trans ho9
    have hAw : ∀ a, Au = some a → ¬ a.block = g0 := fun a ea => by
      have h3 := hf3.lt
      rcases hA9 a ea with h2 | ⟨b, eb, h2⟩
      · omega
      · cases eb; rw [h2]; exact hnz
    clear hA9 ho9 hf3 ho4 hnz
    have hR' := hwalk.out
    obtain ⟨⟨d0, nm0, n0, kd0, mu0, up0⟩, ee⟩ := R
    simp only [Fnd.cells] at hu9 ⊢
    have q0 := hf.cell 0
    have qf0 := hf.frozen 0
    have q1 := hf.cell 1
    have qf1 := hf.frozen 1
    have q2 := hf.cell 2
    have qf2 := hf.frozen 2
    have q3 := hf.cell 3
    have qf3 := hf.frozen 3
    have q4 := hf.cell 4
    have qf4 := hf.frozen 4
    have q5 := hf.cell 5
    have qf5 := hf.frozen 5
    simp only [List.getElem?_toArray, List.getElem?_cons_zero, List.getElem?_cons_succ] at q0 q1 q2 q3 q4 q5
    obtain ⟨hz, hu, ho⟩ := put6 (dd := (d0 : Int)) (n := (n0 : Int)) (k := (kd0 : Int)) (s := nm0) (m := mu0) (l := up0) (cu := cu) (w0 := w) hf (by have := hgz.out; omega) ho5 hu9 hAw
    replace hz := Lib.hid hz
    replace hu := Lib.hid hu
    replace ho := Lib.hid ho
    clear hf hu9 hAw ho5 hwalk hR' hR
    go_wp2
    try rw [Exit.noGoto_ret]
    refine bodyPost_ret (res28 _ _ _ _ rfl _ rfl rfl hz.out) rfl ?_
    exact ⟨Au, cu, rfl, hu.out, ho.out⟩
  · rw [if_pos herr] at hwalk
    have heb : (err != 0) = true := by rw [bne, beq_false_of_ne herr]; rfl
    replace herr := Lib.hid herr
    replace hwalk := Lib.hid hwalk
    have hf := hf2
    have q0 := hf.cell 0
    have qf0 := hf.frozen 0
    have q1 := hf.cell 1
    have qf1 := hf.frozen 1
    have q2 := hf.cell 2
    have qf2 := hf.frozen 2
    have q3 := hf.cell 3
    have qf3 := hf.frozen 3
    have q4 := hf.cell 4
    have qf4 := hf.frozen 4
    have q5 := hf.cell 5
    have qf5 := hf.frozen 5
    simp only [List.getElem?_toArray, List.getElem?_cons_zero, List.getElem?_cons_succ] at q0 q1 q2 q3 q4 q5
    obtain ⟨hz, hu, ho⟩ := put6 (dd := 0) (n := 0) (k := 0) (s := ⟨#[]⟩) (m := false) (B := none) (l := []) (cu := 0) hf hg0 ho3 (RowU.nil _) (fun a e => by cases e)
    simp only [List.length_nil] at hz hu ho
    replace hz := Lib.hid hz
    replace hu := Lib.hid hu
    replace ho := Lib.hid ho
    clear hf hf2 ho3 hx2 ht2 hgp hg0 hR
    generalize w.heap.size = g0 at *
    go_wp2
    try rw [Exit.noGoto_ret]
    refine bodyPost_ret (res28 _ _ _ _ rfl _ rfl rfl hz.out) rfl ?_
    exact ⟨none, 0, by rw [hwalk.out]; rfl, by rw [hwalk.out]; exact hu.out, ho.out⟩
set_option maxRecDepth 20000 in
set_option maxHeartbeats 8000000 in
theorem alike_any (d n k : Nat) (nm : ByteArray) (mu : Bool) (up : List Nat) (A A2 : Option Addr) (c c2 : Nat) (w : World) (h : RowU w A up c) (h2 : RowU w A2 up c2) (hn : up.length ≤ 100000) :
    Calls Try.prog 30 #[.agg #[.int .u16 d, .string nm, .int .u16 n, .int .u8 k, .bool mu, .slice A up.length c], .agg #[.int .u16 d, .string nm, .int .u16 n, .int .u8 k, .bool mu, .slice A2 up.length c2]] w fun r w' => r = .returned (.bool true) ∧ Only (fun _ => False) w w' := by
  have o1 := (Only.refl (fun _ => False) w).alloc (.cells #[.int .u16 d, .string nm, .int .u16 n, .int .u8 k, .bool mu, .slice A up.length c] 49)
  have o2 := o1.alloc (.cells #[.int .u16 d, .string nm, .int .u16 n, .int .u8 k, .bool mu, .slice A2 up.length c2] 49)
  have hS := sameW_any d n k nm mu up A A2 c c2 _ (h.only o2 (fun _ _ x => x)) (h2.only o2 (fun _ _ x => x)) hn
  replace hS := Lib.hid hS
  replace o2 := Lib.hid o2
  clear o1 h h2
  go_enter Try.func30, Try.ntmps30
  go_wp2_with fail
  refine hS.out.mono ?_
  rintro r w5 ⟨rfl, ho⟩
  go_wp2
  go_ret
  exact ⟨rfl, o2.out.trans ho⟩
end Go.Proofs.Ytnclappdokhciaa
end

section
namespace Go.Proofs.Ytnclappdokhciaa
open Go Go.RowKit
set_option linter.unusedVariables false
set_option maxRecDepth 20000 in
set_option maxHeartbeats 8000000 in
theorem walk_nil (path : ByteArray) (follow : Bool) (w : World) :
    Calls Try.prog 27 #[.nilIface, .string path, .bool follow] w fun r w' => r = .returned (.tuple #[.agg #[.int .u16 0, .string ⟨#[]⟩, .int .u16 0, .int .u8 0, .bool false, .slice none 0 0], .int .i64 2]) ∧ Only (fun _ => False) w w' := by
  have hni : ∀ w, (binOp .eql 101 .nilIface .nilIface).run Try.prog w = .ok (.bool true) w := fun w => rfl
  have oa := (Only.refl (fun _ => False) w).alloc (.cells #[.int .u16 0, .string ⟨#[]⟩, .int .u16 0, .int .u8 0, .bool false, .slice none 0 0] 49)
  have hf0 := Blk.new w 49 #[.int .u16 0, .string ⟨#[]⟩, .int .u16 0, .int .u8 0, .bool false, .slice none 0 0]
  have q := hf0.cell 0
  replace hf0 := Lib.hid hf0
  replace oa := Lib.hid oa
  go_enter Try.func27, Try.ntmps27
  go_wp2
  go_step3
  go_wp2
  try rw [Exit.noGoto_ret]
  refine bodyPost_ret (res27 _ _ _ _ rfl _ rfl rfl hf0.out) rfl ?_
  exact ⟨rfl, oa.out⟩
set_option maxRecDepth 20000 in
set_option maxHeartbeats 8000000 in
theorem walkNil_any (path : ByteArray) (follow : Bool) (w : World) : Calls Try.prog 8 #[.string path, .bool follow] w fun r w' => r = .returned (.bool true) ∧ Only (fun _ => False) w w' := by
  by_cases h4 : 400 < path.size
  · have i0 : (400 : Int) < (path.size : Int) := by omega
    go_enter Try.func8, Try.ntmps8
    go_wp2_with fail
    refine (wakesT_any w).mono ?_
    rintro r w1 ⟨rfl, ho⟩
    go_wp2
    go_ret
    exact ⟨rfl, ho⟩
  · have i0 : ¬ (400 : Int) < (path.size : Int) := by omega
    go_enter Try.func8, Try.ntmps8
    go_wp2_with fail
    refine (walk_nil path follow w).mono ?_
    rintro r w1 ⟨rfl, ho⟩
    have hS := fun W => sameW_any 0 0 0 ⟨#[]⟩ false [] none none 0 0 W (RowU.nil W) (RowU.nil W) (by decide)
    simp only [List.length_nil, show ((0 : Nat) : Int) = 0 from rfl] at hS
    replace hS := Lib.hid hS
    have ho := ho.alloc (.cells #[.int .u16 0, .string ⟨#[]⟩, .int .u16 0, .int .u8 0, .bool false, .slice none 0 0] 49)
    replace ho := Lib.hid ho
    go_wp2_with fail
    refine (hS.out _).mono ?_
    rintro r w2 ⟨rfl, ho2⟩
    have ho3 := ho.out.trans ho2
    clear ho ho2 hS
    go_wp2_with fail
    refine (wakesT_any w2).mono ?_
    rintro r w3 ⟨rfl, ho4⟩
    have ho5 := ho3.trans ho4
    clear ho3 ho4
    go_wp2
    go_ret
    exact ⟨rfl, ho5⟩
set_option maxRecDepth 20000 in
theorem goes_up (ts : List Thg) (hG : Good ts) (follow : Bool) (f : Nat) : ∀ (pl : List Nat) (ps : List ByteArray) (must : Bool) (links : Nat), (goesF ts follow f pl ps must links).1.up.length ≤ pl.length + todo ps links := by
  induction f with
  | zero => intro _ _ _ _; exact Nat.zero_le _
  | succ f ih =>
  intro pl ps must links
  cases ps with
  | nil => rw [goes_nil]; exact Nat.le_add_right _ _
  | cons part rest =>
    have ht : todo rest links + 1 = todo (part :: rest) links := by unfold todo; simp only [List.length_cons]; omega
    by_cases hd : part.toList = [46, 46]
    · rw [goes_dots hd]
      have h1 := ih (pl.take (max 1 (pl.length - 1))) rest must links
      have h2 := List.length_take_le (max 1 (pl.length - 1)) pl
      have h3 : (pl.take (max 1 (pl.length - 1))).length ≤ pl.length := by rw [List.length_take]; exact Nat.min_le_right _ _
      omega
    by_cases he : (entsS ts (lastU pl)).2 = 0
    · cases hf : findE (entsS ts (lastU pl)).1 part with
      | none =>
        rw [goes_none hd he hf]
        split
        · exact Nat.zero_le _
        · exact Nat.le_add_right _ _
      | some x =>
        rw [goes_some hd he hf]
        split
        · by_cases hk : linkS ts x.num links = 0
          · rw [if_neg (fun h => h hk)]
            have h1 := ih (if (split (targS ts x.num).1).ab = true then [1] else pl) ((split (targS ts x.num).1).parts ++ rest) (must || (rest.isEmpty && (split (targS ts x.num).1).sl)) (links + 1)
            have h3 := split_len (targS ts x.num).1
            have h4 := targ_good hG x.num
            have h5 := link_ok hk
            have h6 : (if (split (targS ts x.num).1).ab = true then [1] else pl).length ≤ pl.length + 1 := by split <;> simp
            unfold todo at h1 ⊢
            rw [List.length_append] at h1
            simp only [List.length_cons]
            omega
          · rw [if_pos (show linkS ts x.num links ≠ 0 from hk)]
            exact Nat.zero_le _
        · split
          · exact Nat.zero_le _
          · split
            · exact Nat.le_add_right _ _
            · have h1 := ih (pl ++ [x.num]) rest must links
              rw [List.length_append, List.length_singleton] at h1
              omega
    · rw [goes_err hd he]
      exact Nat.zero_le _
theorem walk_up (ts : List Thg) (hG : Good ts) (path : ByteArray) (follow : Bool) (hp : path.size ≤ 800) : (walkS ts path follow).1.up.length ≤ 10000 := by
  unfold walkS
  split
  · exact Nat.zero_le _
  · have h1 := goes_up ts hG follow 10000 [1] (split path).parts (split path).sl 0
    have h2 := split_len path
    unfold todo at h1
    simp only [List.length_singleton] at h1
    omega
set_option maxRecDepth 20000 in
set_option maxHeartbeats 8000000 in
theorem walkGoes_any (ts : List Thg) (A : Option Addr) (c : Nat) (path : ByteArray) (follow : Bool) (w : World) (h : RowT w A ts c) (hL : ∀ t ∈ ts, Long t.L) :
    Calls Try.prog 7 #[.slice A ts.length c, .string path, .bool follow] w fun r w' => r = .returned (.bool true) ∧ Only (fun _ => False) w w' := by
  have hG := greatT_any ts A c path w h
  cases hg : greatT ts path with
  | true =>
    rw [hg] at hG
    replace hG := Lib.hid hG
    clear hg
    go_enter Try.func7, Try.ntmps7
    go_wp2_with fail
    refine hG.out.mono ?_
    rintro r w1 ⟨rfl, rfl⟩
    go_wp2_with fail
    refine (wakesT_any w).mono ?_
    rintro r w1 ⟨rfl, ho⟩
    go_wp2
    go_ret
    exact ⟨rfl, ho⟩
  | false =>
    obtain ⟨hgd, hps, hl12, hl30⟩ := propT_good hg
    rw [hg] at hG
    replace hG := Lib.hid hG
    have hP := properT_any ts A c w h hl12 hl30 hL
    have hTl : (ts.map propT).length = ts.length := List.length_map _
    generalize ts.map propT = T at *
    replace hTl := Lib.hid hTl
    replace hP := Lib.hid hP
    clear hg hl30 hL h
    go_enter Try.func7, Try.ntmps7
    go_wp2_with fail
    refine hG.out.mono ?_
    rintro r w1 ⟨rfl, rfl⟩
    go_wp2_with fail
    refine hP.out.mono ?_
    rintro r w1 ⟨A2, c2, rfl, hT, ho1⟩
    clear hP hG
    have hb := Blk.new w1 45 #[.slice A2 ts.length c2, .int .i64 ((0 : Nat) : Int)]
    have oa := (Only.refl (fun _ => False) w1).alloc (.cells #[.slice A2 ts.length c2, .int .i64 ((0 : Nat) : Int)] 45)
    have hT2 := hT.only oa (fun _ _ x => x)
    have ho2 := ho1.trans oa
    have hgw : w.heap.size ≤ w1.heap.size := ho1.size
    rw [← hTl.out] at hb oa hT2 ho2
    have hW := walk_any T A2 c2 w1.heap.size 0 path follow _ hb hT2 hgd (by omega) (by omega)
    rw [hTl.out] at hW hb hT2 ho2
    clear oa hT ho1
    simp only [show ((0 : Nat) : Int) = 0 from rfl] at hW hb hT2 ho2
    replace hW := Lib.hid hW
    go_upto_region 4 with fail
    generalize World.alloc w1 _ = w2 at *
    generalize w1.heap.size = g at *
    go_wp2_with fail
    refine hW.out.mono ?_
    rintro r w3 ⟨d, Au, cu, hd, rfl, hu, hb3, ho3⟩
    have hT3 := hT2.apart hb (toy_str _ _ _ _) ho3
    have ho4 := ho2.trans_of ho3 (fun k hk e => by omega)
    rw [hTl.out] at hb3
    clear hW hb hT2 ho2 ho3
    have hul := walk_up T hgd path follow (by omega)
    have hQ := refWalk_any T A2 c2 path follow
    generalize hR : walkS T path follow = R at *
    obtain ⟨⟨d0, nm0, n0, kd0, mu0, up0⟩, ee⟩ := R
    simp only [Fnd.cells] at hul hu ⊢
    have hq3 := Blk.new w3 49 #[.int .u16 d0, .string nm0, .int .u16 n0, .int .u8 kd0, .bool mu0, .slice Au up0.length cu]
    have oa := (Only.refl (fun _ => False) w3).alloc (.cells #[.int .u16 d0, .string nm0, .int .u16 n0, .int .u8 kd0, .bool mu0, .slice Au up0.length cu] 49)
    replace hb3 := hb3.only oa (fun x => x)
    replace hT3 := hT3.only oa (fun _ _ x => x)
    replace hu := hu.only oa (fun _ _ x => x)
    have ho5 := ho4.trans oa
    clear oa ho4 hR
    replace hul := Lib.hid hul
    have b0 := hb3.cell 0
    simp only [List.getElem?_toArray, List.getElem?_cons_zero] at b0
    go_upto_region 5 with fail
    generalize World.alloc w3 _ = w4 at *
    generalize w3.heap.size = q1 at *
    have hQ4 := hQ w4 hT3 hgd (by omega)
    rw [hTl.out] at hQ4
    replace hQ4 := Lib.hid hQ4
    clear hQ hb3 hT3
    go_wp2_with fail
    refine hQ4.out.mono ?_
    rintro r w5 ⟨Av, cv, rfl, hv, ho6⟩
    simp only [Fnd.cells] at hv ⊢
    have hq5 := hq3.only ho6 (fun x => x)
    have hu5 := hu.only ho6 (fun _ _ x => x)
    have hr5 := Blk.new w5 52 #[.int .u16 d0, .string nm0, .int .u16 n0, .int .u8 kd0, .bool mu0, .slice Av up0.length cv]
    have oa := (Only.refl (fun _ => False) w5).alloc (.cells #[.int .u16 d0, .string nm0, .int .u16 n0, .int .u8 kd0, .bool mu0, .slice Av up0.length cv] 52)
    replace hq5 := hq5.only oa (fun x => x)
    replace hu5 := hu5.only oa (fun _ _ x => x)
    replace hv := hv.only oa (fun _ _ x => x)
    have ho7 := (ho5.trans ho6).trans oa
    clear oa ho5 ho6 hq3 hu hQ4 b0
    go_upto_region 6 with fail
    generalize World.alloc w5 _ = w6 at *
    generalize w5.heap.size = q2 at *
    have hS := sameW_any d0 n0 kd0 nm0 mu0 up0 Au Av cu cv w6 hu5 hv (by have := hul.out; omega)
    replace hS := Lib.hid hS
    have a0 := hq5.cell 0
    have a1 := hq5.cell 1
    have a2 := hq5.cell 2
    have a3 := hq5.cell 3
    have a4 := hq5.cell 4
    have a5 := hq5.cell 5
    have r0 := hr5.cell 0
    have r1 := hr5.cell 1
    have r2 := hr5.cell 2
    have r3 := hr5.cell 3
    have r4 := hr5.cell 4
    have r5 := hr5.cell 5
    simp only [List.getElem?_toArray, List.getElem?_cons_zero, List.getElem?_cons_succ] at a0 a1 a2 a3 a4 a5 r0 r1 r2 r3 r4 r5
    clear hq5 hr5 hu5 hv
    go_wp2_with fail
    refine hS.out.mono ?_
    rintro r w7 ⟨rfl, ho8⟩
    have ho9 := ho7.trans ho8
    clear ho7 ho8 hS a0 a1 a2 a3 a4 a5 r0 r1 r2 r3 r4 r5
    go_wp2_with fail
    refine (wakesT_any w7).mono ?_
    rintro r w8 ⟨rfl, ho10⟩
    have ho11 := ho9.trans ho10
    clear ho9 ho10
    go_wp2
    go_ret
    exact ⟨rfl, ho11⟩
end Go.Proofs.Ytnclappdokhciaa
end

section
namespace Go.Proofs.Ytnclappdokhciaa
open Go Go.RowKit
set_option linter.unusedVariables false

def head1 (p : List UInt8) : List (List UInt8) → List (List UInt8)
  | [] => [p]
  | x :: xs => (p ++ x) :: xs
def sp : List UInt8 → List (List UInt8)
  | [] => [[]]
  | b :: r => if b = 47 then [] :: sp r else head1 [b] (sp r)
theorem sp_cons (b : UInt8) (r : List UInt8) : sp (b :: r) = if b = 47 then [] :: sp r else head1 [b] (sp r) := rfl
theorem sp_ne : ∀ l, sp l ≠ []
  | [] => by simp [sp]
  | b :: r => by
    unfold sp; split
    · simp
    · cases sp r <;> simp [head1]
theorem head1_nil (l : List (List UInt8)) (h : l ≠ []) : head1 [] l = l := by
  cases l with
  | nil => exact absurd rfl h
  | cons x xs => rfl
theorem head1_head1 (p q : List UInt8) (l : List (List UInt8)) (h : l ≠ []) : head1 p (head1 q l) = head1 (p ++ q) l := by
  cases l with
  | nil => exact absurd rfl h
  | cons x xs => simp [head1]
theorem u47 (b : UInt8) : b.toNat = 47 ↔ b = 47 := u8_of b 47 (by omega)
theorem ext_list (s : ByteArray) (a b : Nat) : (s.extract a b).data.toList = (s.data.toList.drop a).take (b - a) := by
  have := ByteArray.toList_eq (s.extract a b)
  simp [List.take_drop]
/-- The parts of a path, as lists. -/
theorem cut_sp (s : ByteArray) : ∀ k, k ≤ s.size → sp s.data.toList = (cut s k).2.map (·.data.toList) ++ head1 ((s.data.toList.drop (cut s k).1).take (k - (cut s k).1)) (sp (s.data.toList.drop k)) := by
  intro k
  induction k with
  | zero =>
    intro _
    simp only [cut, List.map_nil, List.nil_append, List.drop_zero, Nat.sub_zero, List.take_zero]
    rw [head1_nil _ (sp_ne _)]
  | succ k ih =>
    intro hk
    have ih := ih (by omega)
    have hl := length_toList s
    have hlt : k < s.data.toList.length := by omega
    have hd : s.data.toList.drop k = s.data.toList[k] :: s.data.toList.drop (k + 1) := List.drop_eq_getElem_cons hlt
    have hb : bt s k = (s.data.toList[k]).toNat := bt_get s k _ (List.getElem?_eq_getElem hlt)
    have hcl := cut_le s k
    rw [hd] at ih
    rw [ih, cut_succ]
    by_cases h47 : bt s k = 47
    · rw [if_pos h47]
      have e47 : s.data.toList[k] = 47 := (u47 _).1 (by rw [← hb]; exact h47)
      conv => lhs; unfold sp
      rw [if_pos e47]
      simp only [List.map_append, List.map_cons, List.map_nil, Nat.sub_self, List.take_zero]
      rw [head1_nil _ (sp_ne _), ext_list]
      simp [head1]
    · rw [if_neg h47]
      have e47 : ¬ s.data.toList[k] = 47 := fun e => h47 (by rw [hb]; exact (u47 _).2 e)
      conv => lhs; unfold sp
      rw [if_neg e47, head1_head1 _ _ _ (sp_ne _)]
      congr 2
      rw [show k + 1 - (cut s k).1 = (k - (cut s k).1) + 1 by omega, List.take_add_one, List.getElem?_drop, show (cut s k).1 + (k - (cut s k).1) = k by omega, List.getElem?_eq_getElem hlt]
      rfl
theorem pieces_sp (s : ByteArray) : (pieces s).map (·.data.toList) = sp s.data.toList := by
  have := cut_sp s s.size (Nat.le_refl _)
  rw [this]
  have hl := length_toList s
  unfold pieces
  rw [List.map_append, List.map_cons, List.map_nil, ext_list, List.drop_eq_nil_of_le (by omega : s.data.toList.length ≤ s.size)]
  simp [sp, head1]
/-- What is split has no slash in it. -/
theorem sp_no : ∀ l x, x ∈ sp l → (47 : UInt8) ∉ x
  | [], x, h => by simp [sp] at h; subst h; simp
  | b :: r, x, h => by
    unfold sp at h
    split at h
    · rcases List.mem_cons.1 h with rfl | h
      · simp
      · exact sp_no r x h
    · rename_i hb
      have ih := sp_no r
      cases hs : sp r with
      | nil => exact absurd hs (sp_ne r)
      | cons y ys =>
        rw [hs] at h ih
        simp only [head1, List.mem_cons] at h
        rcases h with rfl | h
        · intro hm
          rcases List.mem_cons.1 hm with e | e
          · exact hb e.symm
          · exact ih y (List.mem_cons_self ..) e
        · exact ih x (List.mem_cons_of_mem _ h)
/-- What is joined of parts without a slash is split into them. -/
theorem sp_app : ∀ (x : List UInt8) (r : List UInt8), (47 : UInt8) ∉ x → sp (x ++ 47 :: r) = x :: sp r
  | [], r, _ => by simp [sp]
  | b :: x, r, h => by
    have hb : ¬ b = 47 := fun e => h (by rw [e]; exact List.mem_cons_self ..)
    rw [List.cons_append, sp_cons]
    rw [if_neg hb, sp_app x r (fun e => h (List.mem_cons_of_mem _ e))]
    rfl
theorem sp_one : ∀ (x : List UInt8), (47 : UInt8) ∉ x → sp x = [x]
  | [], _ => rfl
  | b :: x, h => by
    have hb : ¬ b = 47 := fun e => h (by rw [e]; exact List.mem_cons_self ..)
    unfold sp
    rw [if_neg hb, sp_one x (fun e => h (List.mem_cons_of_mem _ e))]
    rfl
theorem join_cons2 (x y : List UInt8) (r : List (List UInt8)) : Lib.join (x :: y :: r) [47] = x ++ 47 :: Lib.join (y :: r) [47] := by
  rw [Lib.join_cons, Lib.join_cons]
  simp [Lib.joinTail]
theorem sp_join : ∀ (P : List (List UInt8)), P ≠ [] → (∀ x ∈ P, (47 : UInt8) ∉ x) → sp (Lib.join P [47]) = P
  | [], h, _ => absurd rfl h
  | [x], _, h => by rw [Lib.join_one]; exact sp_one x (h x (List.mem_cons_self ..))
  | x :: y :: r, _, h => by
    rw [join_cons2, sp_app x _ (h x (List.mem_cons_self ..)), sp_join (y :: r) (by simp) (fun z hz => h z (List.mem_cons_of_mem _ hz))]
theorem join_sp : ∀ l, Lib.join (sp l) [47] = l
  | [] => by simp [sp, Lib.join_one]
  | b :: r => by
    have ih := join_sp r
    unfold sp
    split
    · rename_i hb
      cases hs : sp r with
      | nil => exact absurd hs (sp_ne r)
      | cons y ys => rw [hs] at ih; rw [join_cons2, ih, hb]; rfl
    · cases hs : sp r with
      | nil => exact absurd hs (sp_ne r)
      | cons y ys =>
        rw [hs] at ih
        simp only [head1]
        rw [Lib.join_cons] at ih ⊢
        rw [List.cons_append, List.nil_append, List.cons_append, ih]
end Go.Proofs.Ytnclappdokhciaa
end

section
namespace Go.Proofs.Ytnclappdokhciaa
open Go Go.RowKit
set_option linter.unusedVariables false

theorem decN_stable (n n' b0 b1 b2 b3 c1 c2 c3 v m : Nat) (h : Lib.decodeN n b0 b1 b2 b3 = (v, m)) (hb : ¬ (v = 65533 ∧ m = 1)) (hn : m ≤ n') (h1 : 2 ≤ m → c1 = b1) (h2 : 3 ≤ m → c2 = b2) (h3 : 4 ≤ m → c3 = b3) :
    Lib.decodeN n' b0 c1 c2 c3 = (v, m) := by
  unfold Lib.decodeN at h ⊢
  by_cases a0 : b0 < 128
  · rw [if_pos a0] at h ⊢; exact h
  rw [if_neg a0] at h ⊢
  by_cases a1 : b0 / 32 = 6 ∧ (1 < n ∧ b1 / 64 = 2)
  · rw [if_pos a1] at h
    by_cases a2 : b0 % 32 * 64 + b1 % 64 ≥ 128
    · rw [if_pos a2] at h
      injection h with e1 e2
      subst e1 e2
      rw [h1 (by omega), if_pos ⟨a1.1, by omega, a1.2.2⟩, if_pos a2]
    · rw [if_neg a2] at h
      injection h with e1 e2
      exact absurd ⟨e1.symm, e2.symm⟩ hb
  rw [if_neg a1] at h
  by_cases a3 : b0 / 16 = 14 ∧ (1 < n ∧ b1 / 64 = 2) ∧ (2 < n ∧ b2 / 64 = 2)
  · rw [if_pos a3] at h
    by_cases a4 : b0 % 16 * 4096 + b1 % 64 * 64 + b2 % 64 ≥ 2048 ∧ (b0 % 16 * 4096 + b1 % 64 * 64 + b2 % 64 < 55296 ∨ (57344 ≤ b0 % 16 * 4096 + b1 % 64 * 64 + b2 % 64 ∧ b0 % 16 * 4096 + b1 % 64 * 64 + b2 % 64 ≤ 1114111))
    · rw [if_pos a4] at h
      injection h with e1 e2
      subst e1 e2
      rw [h1 (by omega), h2 (by omega), if_neg (by omega), if_pos ⟨a3.1, ⟨by omega, a3.2.1.2⟩, by omega, a3.2.2.2⟩, if_pos a4]
    · rw [if_neg a4] at h
      injection h with e1 e2
      exact absurd ⟨e1.symm, e2.symm⟩ hb
  rw [if_neg a3] at h
  by_cases a5 : b0 / 8 = 30 ∧ (1 < n ∧ b1 / 64 = 2) ∧ (2 < n ∧ b2 / 64 = 2) ∧ (3 < n ∧ b3 / 64 = 2)
  · rw [if_pos a5] at h
    by_cases a6 : b0 % 8 * 262144 + b1 % 64 * 4096 + b2 % 64 * 64 + b3 % 64 ≥ 65536 ∧ (b0 % 8 * 262144 + b1 % 64 * 4096 + b2 % 64 * 64 + b3 % 64 < 55296 ∨ (57344 ≤ b0 % 8 * 262144 + b1 % 64 * 4096 + b2 % 64 * 64 + b3 % 64 ∧ b0 % 8 * 262144 + b1 % 64 * 4096 + b2 % 64 * 64 + b3 % 64 ≤ 1114111))
    · rw [if_pos a6] at h
      injection h with e1 e2
      subst e1 e2
      rw [h1 (by omega), h2 (by omega), h3 (by omega), if_neg (by omega), if_neg (by omega), if_pos ⟨a5.1, ⟨by omega, a5.2.1.2⟩, ⟨by omega, a5.2.2.1.2⟩, by omega, a5.2.2.2.2⟩, if_pos a6]
    · rw [if_neg a6] at h
      injection h with e1 e2
      exact absurd ⟨e1.symm, e2.symm⟩ hb
  rw [if_neg a5] at h
  injection h with e1 e2
  exact absurd ⟨e1.symm, e2.symm⟩ hb

def g8 (l : List UInt8) (k : Nat) : Nat := (l.getD k 0).toNat
/-- The rune at a list's head. -/
def dL (l : List UInt8) : Nat × Nat := Lib.decodeN l.length (g8 l 0) (g8 l 1) (g8 l 2) (g8 l 3)
theorem bt_g8 (s : ByteArray) (i k : Nat) : bt s (i + k) = g8 (s.data.toList.drop i) k := by
  unfold g8
  rw [List.getD_eq_getElem?_getD, List.getElem?_drop]
  rcases Nat.lt_or_ge (i + k) s.size with h | h
  · rw [get_bt s (i + k) h]; rfl
  · rw [List.getElem?_eq_none (by rw [length_toList]; exact h)]
    unfold bt
    have : s.get! (i + k) = 0 := by
      show s.data[i + k]! = 0
      rw [getElem!_neg _ _ (by show ¬ i + k < s.data.size; exact Nat.not_lt.2 h)]
      rfl
    rw [this]; rfl
theorem dec_dL (s : ByteArray) (i : Nat) : Utf8.decode s i = dL (s.data.toList.drop i) := by
  rw [dec_eq]
  unfold dL
  rw [List.length_drop, length_toList, bt_g8 s i 1, bt_g8 s i 2, bt_g8 s i 3]
  have := bt_g8 s i 0
  rw [Nat.add_zero] at this
  rw [this]
/-- One rune that may be, whatever stands behind it. -/
def Rune (bad : Nat) (c : List UInt8) : Prop := c ≠ [] ∧ ∃ v, (∀ t, dL (c ++ t) = (v, c.length)) ∧ ¬ (v = 65533 ∧ c.length = 1) ∧ v ≠ 0 ∧ v ≠ bad
def Val (bad : Nat) (l : List UInt8) : Prop := ∃ cs : List (List UInt8), cs.flatten = l ∧ ∀ c ∈ cs, Rune bad c
theorem Val.app {bad : Nat} {x y : List UInt8} (hx : Val bad x) (hy : Val bad y) : Val bad (x ++ y) := by
  obtain ⟨cs, rfl, h⟩ := hx
  obtain ⟨ds, rfl, h'⟩ := hy
  exact ⟨cs ++ ds, by simp, fun c hc => (List.mem_append.1 hc).elim (h c) (h' c)⟩
theorem Val.nil (bad : Nat) : Val bad [] := ⟨[], rfl, fun _ h => by cases h⟩
theorem rune47 : Rune 0 [47] := by
  refine ⟨by simp, 47, fun t => ?_, by omega, by omega, by omega⟩
  unfold dL
  rw [show g8 ([47] ++ t) 0 = 47 from rfl]
  exact (decN_lo _ 47 _ _ _).1 (by omega)
theorem Val.one47 : Val 0 [47] := ⟨[[47]], rfl, fun c hc => by rw [List.mem_singleton.1 hc]; exact rune47⟩
theorem g8_app (c t : List UInt8) (k : Nat) (h : k < c.length) : g8 (c ++ t) k = g8 c k := by
  unfold g8; rw [List.getD_eq_getElem?_getD, List.getD_eq_getElem?_getD, List.getElem?_append_left h]
/-- The bytes of a rune behind its first. -/
theorem Rune.inner {bad : Nat} {c : List UInt8} (h : Rune bad c) (j : Nat) (h1 : 1 ≤ j) (h2 : j < c.length) : 128 ≤ g8 c j := by
  obtain ⟨_, v, hv, _⟩ := h
  have := hv []
  rw [List.append_nil] at this
  unfold dL at this
  obtain ⟨a, b, d, e⟩ := decN_in c.length (g8 c 0) (g8 c 1) (g8 c 2) (g8 c 3)
  rw [this] at a b d e
  simp only at a b d e
  have hj : j = 1 ∨ j = 2 ∨ j = 3 := by omega
  rcases hj with rfl | rfl | rfl
  · have := a (by omega); omega
  · have := b (by omega); omega
  · have := d (by omega); omega
theorem Rune.lo {bad : Nat} {c : List UInt8} (h : Rune bad c) (h0 : g8 c 0 < 128) : c.length = 1 := by
  obtain ⟨_, v, hv, _⟩ := h
  have := hv []
  rw [List.append_nil] at this
  unfold dL at this
  rw [(decN_lo _ _ _ _ _).1 h0] at this
  injection this with _ e
  exact e.symm
/-- A text without a fault, cut at a slash. -/
theorem val_cut (bad : Nat) (y : List UInt8) : ∀ (cs : List (List UInt8)) (x : List UInt8), cs.flatten = x ++ 47 :: y → (∀ c ∈ cs, Rune bad c) → Val bad x ∧ Val bad y
  | [], x, h, _ => by simp at h
  | c :: cs, x, h, hc => by
    have hr := hc c (List.mem_cons_self ..)
    rw [List.flatten_cons] at h
    rcases List.append_eq_append_iff.1 h with ⟨a, ha, hb⟩ | ⟨a, ha, hb⟩
    · obtain ⟨h1, h2⟩ := val_cut bad y cs a hb (fun d hd => hc d (List.mem_cons_of_mem _ hd))
      refine ⟨?_, h2⟩
      rw [ha]
      exact Val.app ⟨[c], by simp, fun d hd => by rw [List.mem_singleton.1 hd]; exact hr⟩ h1
    · cases a with
      | nil =>
        rw [List.append_nil] at ha
        obtain ⟨h1, h2⟩ := val_cut bad y cs [] (by simpa using hb.symm) (fun d hd => hc d (List.mem_cons_of_mem _ hd))
        refine ⟨?_, h2⟩
        rw [← ha]
        exact ⟨[c], by simp, fun d hd => by rw [List.mem_singleton.1 hd]; exact hr⟩
      | cons b a =>
        rw [List.cons_append] at hb
        injection hb with e1 e2
        subst e1
        cases x with
        | nil =>
          rw [List.nil_append] at ha
          have hl := hr.lo (by rw [ha, show g8 (47 :: a) 0 = 47 from rfl]; omega)
          rw [ha] at hl
          have : a = [] := List.eq_nil_of_length_eq_zero (by simpa using hl)
          subst this
          exact ⟨Val.nil bad, ⟨cs, by simpa using e2.symm, fun d hd => hc d (List.mem_cons_of_mem _ hd)⟩⟩
        | cons z x =>
          have := hr.inner (x.length + 1) (by omega) (by rw [ha]; simp)
          rw [ha] at this
          unfold g8 at this
          simp at this
theorem Val.cut {bad : Nat} {x y : List UInt8} (h : Val bad (x ++ 47 :: y)) : Val bad x ∧ Val bad y := by
  obtain ⟨cs, e, hc⟩ := h
  exact val_cut bad y cs x e hc
theorem g8_take (l : List UInt8) (n k : Nat) (h : k < n) : g8 (l.take n) k = g8 l k := by
  unfold g8; rw [List.getD_eq_getElem?_getD, List.getD_eq_getElem?_getD, List.getElem?_take_of_lt h]
/-- The rune at a list's head is one whatever stands behind it. -/
theorem rune_of (bad : Nat) (l : List UInt8) (v n : Nat) (hl : l ≠ []) (h : dL l = (v, n)) (hb : ¬ (v = 65533 ∧ n = 1)) (h0 : v ≠ 0) (h1 : v ≠ bad) : Rune bad (l.take n) ∧ n ≤ l.length ∧ (l.take n).length = n := by
  have hpos : 0 < l.length := List.length_pos_iff.2 hl
  have hn1 : 1 ≤ n := by have := decN_pos l.length (g8 l 0) (g8 l 1) (g8 l 2) (g8 l 3); unfold dL at h; rw [h] at this; exact this
  have hnl : n ≤ l.length := by have := decN_le l.length (g8 l 0) (g8 l 1) (g8 l 2) (g8 l 3) (by omega); unfold dL at h; rw [h] at this; exact this
  have hlen : (l.take n).length = n := by rw [List.length_take]; omega
  refine ⟨⟨fun e => by rw [e] at hlen; simp at hlen; omega, v, fun t => ?_, by rw [hlen]; exact hb, h0, h1⟩, hnl, hlen⟩
  rw [hlen]
  unfold dL at h ⊢
  have e : ∀ k, k < n → g8 (l.take n ++ t) k = g8 l k := fun k hk => by rw [g8_app _ _ _ (by rw [hlen]; exact hk), g8_take _ _ _ hk]
  rw [e 0 (by omega)]
  exact decN_stable _ _ _ _ _ _ _ _ _ v n h hb (by rw [List.length_append, hlen]; omega) (fun h => e 1 (by omega)) (fun h => e 2 (by omega)) (fun h => e 3 (by omega))
/-- No fault: runes. -/
theorem val_of_fault (s : ByteArray) (bad : Nat) (hb : bad < 128) : ∀ (f i : Nat), s.size ≤ i + f → faultF s bad f i = 0 → Val bad (s.data.toList.drop i)
  | 0, i, h, _ => by
    rw [List.drop_eq_nil_of_le (by rw [length_toList]; omega)]; exact Val.nil bad
  | f + 1, i, h, hf => by
    by_cases hi : i < s.size
    · unfold faultF at hf
      rw [if_pos hi] at hf
      by_cases h1 : bt s i = 0 ∨ bt s i = bad
      · rw [if_pos h1] at hf; omega
      rw [if_neg h1] at hf
      by_cases h2 : wd s i = 0
      · rw [if_pos h2] at hf; omega
      rw [if_neg h2] at hf
      have hw : ¬ ((Utf8.decode s i).1 = 65533 ∧ (Utf8.decode s i).2 = 1) := fun e => h2 (if_pos e)
      have hwd : wd s i = (Utf8.decode s i).2 := if_neg hw
      rw [hwd] at hf
      have hd := dec_dL s i
      have hne : s.data.toList.drop i ≠ [] := fun e => by
        have := congrArg List.length e
        rw [List.length_drop, length_toList] at this
        simp at this; omega
      obtain ⟨hr, hle, hlen⟩ := rune_of bad _ _ _ hne (hd.symm.trans (by rfl : Utf8.decode s i = ((Utf8.decode s i).1, (Utf8.decode s i).2))) hw (fun e => h1 (.inl ((dec_is s i 0 (by omega)).1 e))) (fun e => h1 (.inr ((dec_is s i bad hb).1 e)))
      have ih := val_of_fault s bad hb f (i + (Utf8.decode s i).2) (by have := dec_pos s i; omega) hf
      have e : s.data.toList.drop i = (s.data.toList.drop i).take (Utf8.decode s i).2 ++ s.data.toList.drop (i + (Utf8.decode s i).2) := by
        rw [← List.drop_drop]; exact (List.take_append_drop _ _).symm
      rw [e]
      exact Val.app ⟨[(s.data.toList.drop i).take (Utf8.decode s i).2], by simp, fun d hd => by rw [List.mem_singleton.1 hd]; exact hr⟩ ih
    · rw [List.drop_eq_nil_of_le (by rw [length_toList]; omega)]; exact Val.nil bad
/-- Runes: no fault. -/
theorem fault_of_runes (s : ByteArray) (bad : Nat) (hb : bad < 128) : ∀ (cs : List (List UInt8)) (f i : Nat), s.data.toList.drop i = cs.flatten → (∀ c ∈ cs, Rune bad c) → faultF s bad f i = 0
  | _, 0, _, _, _ => rfl
  | [], f + 1, i, h, _ => by
    unfold faultF
    have := congrArg List.length h
    rw [List.length_drop, length_toList] at this
    simp at this
    rw [if_neg (by omega)]
  | c :: cs, f + 1, i, h, hc => by
    obtain ⟨hne, v, hv, hb1, h0, h1⟩ := hc c (List.mem_cons_self ..)
    rw [List.flatten_cons] at h
    have hd : Utf8.decode s i = (v, c.length) := by rw [dec_dL, h]; exact hv _
    have hi : i < s.size := by
      have := congrArg List.length h
      rw [List.length_drop, length_toList, List.length_append] at this
      have := List.length_pos_iff.2 hne
      omega
    have hw : wd s i = c.length := by unfold wd; rw [hd]; exact if_neg hb1
    have hcl := List.length_pos_iff.2 hne
    unfold faultF
    rw [if_pos hi, if_neg (by
      rintro (e | e)
      · exact h0 (by have := (dec_is s i 0 (by omega)).2 e; rw [hd] at this; exact this)
      · exact h1 (by have := (dec_is s i bad hb).2 e; rw [hd] at this; exact this)), if_neg (by omega), hw]
    refine fault_of_runes s bad hb cs f (i + c.length) ?_ (fun d hd => hc d (List.mem_cons_of_mem _ hd))
    rw [← List.drop_drop, h, List.drop_left]
theorem fault_iff (s : ByteArray) (bad : Nat) (hb : bad < 128) : fault s bad = 0 ↔ Val bad s.data.toList := by
  constructor
  · intro h
    have := val_of_fault s bad hb s.size 0 (by omega) h
    rwa [List.drop_zero] at this
  · rintro ⟨cs, e, hc⟩
    exact fault_of_runes s bad hb cs s.size 0 (by rw [List.drop_zero]; exact e.symm) hc
/-- A part without a slash. -/
theorem Val.no47 {x : List UInt8} (h : Val 0 x) (hx : (47 : UInt8) ∉ x) : Val 47 x := by
  obtain ⟨cs, e, hc⟩ := h
  refine ⟨cs, e, fun c hcm => ?_⟩
  obtain ⟨hne, v, hv, hb, h0, _⟩ := hc c hcm
  refine ⟨hne, v, hv, hb, h0, fun e47 => ?_⟩
  subst e47
  have hv0 := hv []
  rw [List.append_nil] at hv0
  unfold dL at hv0
  have hlo := decN_lo c.length (g8 c 0) (g8 c 1) (g8 c 2) (g8 c 3)
  have h47 : g8 c 0 = 47 := by
    rcases Nat.lt_or_ge (g8 c 0) 128 with h | h
    · rw [hlo.1 h] at hv0; injection hv0
    · have := hlo.2 h; rw [hv0] at this; simp at this
  cases c with
  | nil => exact hne rfl
  | cons b c =>
    have hb47 : b = 47 := (u47 b).1 h47
    exact hx (by rw [← e]; exact List.mem_flatten.2 ⟨_, hcm, by rw [hb47]; exact List.mem_cons_self ..⟩)
theorem val_parts : ∀ (P : List (List UInt8)), Val 0 (Lib.join P [47]) → ∀ x ∈ P, Val 0 x
  | [], _, x, hx => by cases hx
  | [y], h, x, hx => by rw [Lib.join_one] at h; rw [List.mem_singleton.1 hx]; exact h
  | y :: z :: r, h, x, hx => by
    rw [join_cons2] at h
    obtain ⟨h1, h2⟩ := h.cut
    rcases List.mem_cons.1 hx with rfl | hx
    · exact h1
    · exact val_parts (z :: r) h2 x hx
theorem val_join : ∀ (P : List (List UInt8)), (∀ x ∈ P, Val 0 x) → Val 0 (Lib.join P [47])
  | [], _ => Val.nil 0
  | [y], h => by rw [Lib.join_one]; exact h y (List.mem_cons_self ..)
  | y :: z :: r, h => by
    rw [join_cons2]
    have := Val.app (Val.app (h y (List.mem_cons_self ..)) Val.one47) (val_join (z :: r) (fun x hx => h x (List.mem_cons_of_mem _ hx)))
    simpa using this
end Go.Proofs.Ytnclappdokhciaa
end

section
namespace Go.Proofs.Ytnclappdokhciaa
open Go Go.RowKit
set_option linter.unusedVariables false

theorem joinL_cons (x : ByteArray) (r : List ByteArray) : joinL (x :: r) = x.data.toList ++ Lib.joinTail [47] (r.map (·.data.toList)) := Lib.join_cons _ _ _
theorem joinL_snoc (l : List ByteArray) (hl : l ≠ []) (x : ByteArray) : joinL (l ++ [x]) = joinL l ++ [47] ++ x.data.toList := by
  cases l with
  | nil => exact absurd rfl hl
  | cons y r =>
    rw [List.cons_append, joinL_cons, joinL_cons]
    simp [Lib.joinTail]
theorem app_x (l : List UInt8) (x : ByteArray) : (⟨l.toArray⟩ : ByteArray) ++ x = ⟨(l ++ x.data.toList).toArray⟩ := by
  apply ByteArray.ext
  simp
theorem take_snocJ (l : List ByteArray) (i : Nat) (x : ByteArray) (hx : l[i]? = some x) : l.take (i + 1) = l.take i ++ [x] := by
  rw [List.take_add_one, hx]; rfl

theorem joinTail_len : ∀ (r : List ByteArray), (∀ x ∈ r, x.size ≤ 60) → (Lib.joinTail [47] (r.map (·.data.toList))).length ≤ 61 * r.length
  | [], _ => Nat.le_refl _
  | x :: r, h => by
    have ih := joinTail_len r (fun y hy => h y (List.mem_cons_of_mem _ hy))
    have hx := h x (List.mem_cons_self ..)
    have hl := length_toList x
    unfold Lib.joinTail at *
    simp only [List.map_cons, List.flatten_cons, List.length_append, List.length_cons, List.length_nil] at *
    omega
theorem joinL_len (l : List ByteArray) (h : ∀ x ∈ l, x.size ≤ 60) : (joinL l).length ≤ 61 * l.length := by
  cases l with
  | nil => exact Nat.le_refl _
  | cons x r =>
    rw [joinL_cons]
    have := joinTail_len r (fun y hy => h y (List.mem_cons_of_mem _ hy))
    have hx := h x (List.mem_cons_self ..)
    have hl := length_toList x
    rw [List.length_append, List.length_cons]
    omega

set_option maxRecDepth 10000 in
set_option maxHeartbeats 4000000 in
theorem joinR_any (a b : Bool) (l : List ByteArray) (hn : l.length ≤ 1000) (A : Option Addr) (c : Nat) (w : World) (h : RowS w A l c) (h60 : ∀ x ∈ l, x.size ≤ 60) :
    Calls Try.prog 19 #[.agg #[.bool a, .slice A l.length c, .bool b]] w fun e w' => e = .returned (.string (joinS a l b)) ∧ Only (fun _ => False) w w' := by
  have ho := ((Only.refl (fun _ => False) w).alloc (.cells #[.bool a, .slice A l.length c, .bool b] 29))
  have hb := Blk.new w 29 #[.bool a, .slice A l.length c, .bool b]
  have h2 := h.only ho (fun _ _ _ x => x)
  go_enter Try.func19, Try.ntmps19
  go_wp2
  generalize hW : w.alloc _ = w2 at *
  clear hW
  generalize hg : w.heap.size = g at *
  clear hg h
  have q0 := hb.cell 0
  have q1 := hb.cell 1
  have q2 := hb.cell 2
  simp only [List.getElem?_toArray, List.getElem?_cons_zero, List.getElem?_cons_succ] at q0 q1 q2
  clear hb
  go_loopw [3, 4] (fun t k wr => wr = w2 ∧ ∃ (i : Nat) (S : ByteArray), k = .int .i64 i ∧ t = .string S ∧ i ≤ l.length ∧ S = ⟨(joinL (l.take i)).toArray⟩) (fun _ k _ => l.length - (intOf k).toNat)
  case atStart => exact ⟨rfl, 0, ⟨#[]⟩, rfl, rfl, by omega, rfl⟩
  case round =>
    obtain ⟨rfl, i, S, rfl, rfl, hi, hS⟩ := hrel
    by_cases hlt : i < l.length
    · obtain ⟨x, hx⟩ : ∃ x, l[i]? = some x := ⟨_, List.getElem?_eq_getElem hlt⟩
      obtain ⟨b1, o1, rfl, hl1, d1⟩ := h2.cell hx
      have i0 : (0 : Int) ≤ (i : Int) := by omega
      have i1 : (i : Int) < (l.length : Int) := by omega
      have hts := take_snocJ l i x hx
      have hx60 : x.size ≤ 60 := h60 x (List.mem_of_getElem? hx)
      have hSs : S.size ≤ 100000 := by
        have h1 := joinL_len (l.take i) (fun y hy => h60 y (List.mem_of_mem_take hy))
        rw [List.length_take] at h1
        have h2 : S.size = (joinL (l.take i)).length := by rw [hS]; exact List.size_toArray
        omega
      replace hx := Lib.hid hx
      replace h60 := Lib.hid h60
      replace h2 := Lib.hid h2
      by_cases h0 : i = 0
      · subst h0
        simp only [Nat.add_zero] at d1
        have hS2 : S ++ x = ⟨(joinL (l.take (0 + 1))).toArray⟩ := by
          rw [hts, hS, app_x]
          simp [joinL, Lib.join_one, Lib.join_nil]
        replace hS2 := Lib.hid hS2
        clear hS hts
        go_wp2
        go_roundw
        case rel => exact ⟨by first | rfl | trivial, 1, S ++ x, by go_num, rfl, by omega, hS2.out⟩
        case measure => simp [intOf]; omega
      · have hS2 : S ++ ⟨#[47]⟩ ++ x = ⟨(joinL (l.take (i + 1))).toArray⟩ := by
          rw [hts, joinL_snoc _ (by intro e; have := congrArg List.length e; rw [List.length_take] at this; simp only [List.length_nil] at this; omega), hS, app_ba _ [47], app_x]
        replace hS2 := Lib.hid hS2
        have i2 : (0 : Int) < (i : Int) := by omega
        clear hS hts
        go_wp2
        go_roundw
        case rel => exact ⟨by first | rfl | trivial, i + 1, S ++ ⟨#[47]⟩ ++ x, by go_num, rfl, by omega, hS2.out⟩
        case measure => simp [intOf]; omega
    · obtain rfl : i = l.length := by omega
      rw [List.take_length] at hS
      subst hS
      by_cases hl : l = []
      · subst hl
        clear h60
        cases a with
        | true =>
          go_wp2
          go_ret
          exact ⟨by rfl, ho⟩
        | false =>
          go_wp2
          go_ret
          exact ⟨by rfl, ho⟩
      · have hpos : 0 < l.length := List.length_pos_iff.2 hl
        obtain ⟨x, hx⟩ : ∃ x, l[l.length - 1]? = some x := ⟨_, List.getElem?_eq_getElem (by omega)⟩
        obtain ⟨b1, o1, rfl, hl1, d1⟩ := h2.cell hx
        have hlast : lastDots l = (x.toList == [46, 46]) := by
          unfold lastDots
          rw [List.getLastD_eq_getLast?, List.getLast?_eq_getElem?, hx]; rfl
        have hS : joinS a l b = ⟨((if a then [47] else []) ++ joinL l ++ (if b && !(x.toList == [46, 46]) then [47] else [])).toArray⟩ := by unfold joinS; rw [if_neg hl, hlast]
        replace hS := Lib.hid hS
        have hfin := Lib.hid ho
        obtain ⟨m, hm⟩ : ∃ m, l.length = m + 1 := ⟨l.length - 1, by omega⟩
        rw [hm] at d1
        simp only [Nat.add_sub_cancel] at d1
        clear hlast hx h2 ho hl1
        have hJl : (joinL l).length ≤ 100000 := by have := joinL_len l h60; omega
        clear h60
        generalize joinL l = J at *
        have m0 : (0 : Int) ≤ (m : Int) := by omega
        have m1 : (m : Int) < (m : Int) + 1 := by omega
        simp only [hm] at q1 ⊢
        simp only [show ((m + 1 : Nat) : Int) = (m : Int) + 1 from rfl]
        cases b with
        | false =>
          cases a with
          | false =>
            go_wp2
            go_ret
            refine ⟨congrArg Ending.returned (congrArg Value.string ?_), hfin.out⟩
            rw [hS.out]
            simp
          | true =>
            go_wp2
            go_ret
            refine ⟨congrArg Ending.returned (congrArg Value.string ?_), hfin.out⟩
            rw [hS.out]
            simp [app_ba [47] J]
        | true =>
          by_cases hxx : x.toList = [46, 46]
          · cases a with
            | false =>
              go_wp2
              go_ret
              refine ⟨congrArg Ending.returned (congrArg Value.string ?_), hfin.out⟩
              rw [hS.out]
              simp [hxx]
            | true =>
              go_wp2
              go_ret
              refine ⟨congrArg Ending.returned (congrArg Value.string ?_), hfin.out⟩
              rw [hS.out]
              simp [hxx, app_ba [47] J]
          · have hxb : (x.toList == [46, 46]) = false := beq_false_of_ne hxx
            cases a with
            | false =>
              go_wp2
              go_ret
              refine ⟨congrArg Ending.returned (congrArg Value.string ?_), hfin.out⟩
              rw [hS.out]
              simp [hxb, app_ba J [47]]
            | true =>
              go_wp2
              go_ret
              refine ⟨congrArg Ending.returned (congrArg Value.string ?_), hfin.out⟩
              rw [hS.out]
              simp [hxb, app_ba J [47], app_ba [47] (J ++ [47])]
end Go.Proofs.Ytnclappdokhciaa
end

section
namespace Go.Proofs.Ytnclappdokhciaa
open Go Go.RowKit
set_option linter.unusedVariables false

theorem keep_iff (x : ByteArray) : keepB x = true ↔ x.toList ≠ [] ∧ x.toList ≠ [46] := by
  unfold keepB
  cases h : x.toList with
  | nil => simp
  | cons a r => simp; exact Decidable.imp_iff_not_or.symm
def lastP (s : ByteArray) : ByteArray := s.extract (cut s s.size).1 s.size
theorem pieces_eq (s : ByteArray) : pieces s = (cut s s.size).2 ++ [lastP s] := rfl
theorem endB_eq (s : ByteArray) (h : 0 < s.size) : endB s = (lastP s).toList.isEmpty := by
  rw [toList_empty]
  unfold endB lastP
  rw [ext_size _ _ _ (Nat.le_refl _)]
  obtain ⟨m, hm⟩ : ∃ m, s.size = m + 1 := ⟨s.size - 1, by omega⟩
  have hc := cut_succ s m
  have hl := cut_le s m
  rw [hm, Nat.add_sub_cancel, hc]
  by_cases h47 : bt s m = 47
  · rw [if_pos h47, decide_eq_true h47, decide_eq_true (by simp)]
  · rw [if_neg h47, decide_eq_false h47, decide_eq_false (by omega)]
theorem lastNE_pieces (s : ByteArray) : lastNE (pieces s) = lastN (lastNE (cut s s.size).2) (lastP s) := by rw [pieces_eq, lastNE_snoc]
/-- If the last part that is kept is two points, or none is kept, the path's end says 'directory'. -/
theorem sl_of (s : ByteArray) (h : 0 < s.size) (hk : keepB (lastP s) = false ∨ (lastP s).toList = [46, 46]) : (endB s || dotsB (lastNE (pieces s))) = true := by
  rw [endB_eq s h, lastNE_pieces]
  unfold lastN
  cases he : (lastP s).toList with
  | nil => simp
  | cons b r =>
    have hne : ¬ (lastP s).toList.isEmpty = true := by rw [he]; simp
    rw [if_neg (by simp)]
    rcases hk with hk | hk
    · have : (lastP s).toList = [46] := by
        apply Classical.byContradiction
        intro h46
        have := (keep_iff (lastP s)).2 ⟨by rw [he]; simp, h46⟩
        rw [hk] at this; cases this
      simp [dotsB, this]
    · simp [dotsB, hk]
theorem mem_pieces {s x : ByteArray} (hx : x ∈ pieces s) : x.data.toList ∈ sp s.data.toList := by
  rw [← pieces_sp]; exact List.mem_map.2 ⟨x, hx, rfl⟩
theorem piece_no47 {s x : ByteArray} (hx : x ∈ pieces s) : (47 : UInt8) ∉ x.data.toList := sp_no _ _ (mem_pieces hx)
theorem piece_val {s x : ByteArray} (hf : fault s 0 = 0) (hx : x ∈ pieces s) : Val 0 x.data.toList := by
  have hv := (fault_iff s 0 (by omega)).1 hf
  rw [← join_sp s.data.toList] at hv
  exact val_parts _ hv _ (mem_pieces hx)
theorem piece_short {s x : ByteArray} (hl : longB (pieces s) = false) (hx : x ∈ pieces s) : x.size ≤ 24 := by
  have := List.any_eq_false.1 hl x hx
  simpa using this
/-- Each part is two points, or a name that an entry may have. -/
theorem part_fine {s x : ByteArray} (hf : fault s 0 = 0) (hl : longB (pieces s) = false) (hx : x ∈ (pieces s).filter keepB) : x.toList = [46, 46] ∨ checkS x = 0 := by
  obtain ⟨hm, hk⟩ := List.mem_filter.1 hx
  obtain ⟨k1, k2⟩ := (keep_iff x).1 hk
  by_cases h2 : x.toList = [46, 46]
  · exact .inl h2
  · right
    have hv := (fault_iff x 47 (by omega)).2 ((piece_val hf hm).no47 (piece_no47 hm))
    have hs := piece_short hl hm
    unfold checkS
    rw [if_pos hv, if_neg (by rintro ((e | e) | e); exact k1 e; exact k2 e; exact h2 e), if_neg (by omega)]
theorem data_inj {l m : List ByteArray} (h : l.map (·.data.toList) = m.map (·.data.toList)) : l = m := by
  induction l generalizing m with
  | nil => cases m with | nil => rfl | cons _ _ => simp at h
  | cons x l ih =>
    cases m with
    | nil => simp at h
    | cons y m =>
      simp only [List.map_cons, List.cons.injEq] at h
      rw [ih h.2]
      congr 1
      exact ByteArray.ext (Array.ext' h.1)
/-- The parts of what is joined. -/
def preP (a : Bool) : List ByteArray := if a then [⟨#[]⟩] else []
theorem joinS_data (a : Bool) (l : List ByteArray) (b : Bool) (hl : l ≠ []) : (joinS a l b).data.toList = Lib.join ((preP a ++ l ++ preP (b && !lastDots l)).map (·.data.toList)) [47] := by
  unfold joinS
  rw [if_neg hl]
  have hmid : ∀ (t : Bool), Lib.join ((l ++ preP t).map (·.data.toList)) [47] = joinL l ++ (if t then [47] else []) := by
    intro t
    cases t with
    | false => simp [preP, joinL]
    | true =>
      have := joinL_snoc l hl ⟨#[]⟩
      unfold joinL at this ⊢
      simpa [preP] using this
  cases a with
  | false =>
    rw [show preP false ++ l ++ preP (b && !lastDots l) = l ++ preP (b && !lastDots l) from rfl, hmid]
    simp
  | true =>
    have hne : l ++ preP (b && !lastDots l) ≠ [] := by simp [hl]
    cases hm : l ++ preP (b && !lastDots l) with
    | nil => exact absurd hm hne
    | cons y r =>
      rw [show preP true ++ l ++ preP (b && !lastDots l) = ⟨#[]⟩ :: (l ++ preP (b && !lastDots l)) from rfl, hm]
      have h2 := hmid (b && !lastDots l)
      rw [hm] at h2
      rw [List.map_cons, List.map_cons, join_cons2, ← List.map_cons (f := fun x : ByteArray => x.data.toList), h2]
      simp
theorem pieces_join (a : Bool) (l : List ByteArray) (b : Bool) (hl : l ≠ []) (hn : ∀ x ∈ l, (47 : UInt8) ∉ x.data.toList) : pieces (joinS a l b) = preP a ++ l ++ preP (b && !lastDots l) := by
  apply data_inj
  rw [pieces_sp, joinS_data a l b hl]
  refine sp_join _ (by simp [hl]) (fun x hx => ?_)
  obtain ⟨y, hy, rfl⟩ := List.mem_map.1 hx
  have hp : ∀ t, y ∈ preP t → (47 : UInt8) ∉ y.data.toList := by
    intro t ht
    unfold preP at ht
    split at ht
    · rw [List.mem_singleton.1 ht]; simp
    · cases ht
  rcases List.mem_append.1 hy with h | h
  · rcases List.mem_append.1 h with h | h
    · exact hp _ h
    · exact hn y h
  · exact hp _ h
end Go.Proofs.Ytnclappdokhciaa
end

section
namespace Go.Proofs.Ytnclappdokhciaa
open Go Go.RowKit
set_option linter.unusedVariables false

theorem kA : split ⟨#[47]⟩ = ⟨true, [], true, 0⟩ := by kernel_rfl
theorem kB : split ⟨#[46]⟩ = ⟨false, [], true, 0⟩ := by kernel_rfl
/-- How long what is joined of parts is, and one more. -/
def cB (l : List ByteArray) : Nat := (l.map fun x => x.size + 1).sum
theorem cB_nil : cB [] = 0 := rfl
theorem cB_cons (x : ByteArray) (l : List ByteArray) : cB (x :: l) = x.size + 1 + cB l := by simp [cB]
theorem cB_app (l m : List ByteArray) : cB (l ++ m) = cB l + cB m := by simp [cB]
theorem cB_filter (p : ByteArray → Bool) : ∀ l, cB (l.filter p) ≤ cB l
  | [] => Nat.le_refl _
  | x :: l => by
    have := cB_filter p l
    rw [List.filter_cons]
    split
    · rw [cB_cons, cB_cons]; omega
    · rw [cB_cons]; omega
theorem join_cB : ∀ (l : List ByteArray), l ≠ [] → (Lib.join (l.map (·.data.toList)) [47]).length + 1 = cB l
  | [], h => absurd rfl h
  | [x], _ => by
    rw [List.map_cons, List.map_nil, Lib.join_one, cB_cons, cB_nil, length_toList]
  | x :: y :: r, _ => by
    have ih := join_cB (y :: r) (by simp)
    rw [List.map_cons, List.map_cons, join_cons2, ← List.map_cons (f := fun x : ByteArray => x.data.toList), List.length_append, List.length_cons, ih, cB_cons x, length_toList]
    omega
theorem size_cB (s : ByteArray) : s.size + 1 = cB (pieces s) := by
  rw [← join_cB (pieces s) (by unfold pieces; simp), pieces_sp, join_sp, length_toList]
/-- A text begins with a slash just where its first part is empty. -/
theorem first_47 (s : ByteArray) (h : 0 < s.size) : ∃ x r, sp s.data.toList = x :: r ∧ (bt s 0 = 47 ↔ x = []) ∧ (x = [] → r ≠ []) := by
  have hl := length_toList s
  cases hd : s.data.toList with
  | nil => rw [hd] at hl; simp at hl; omega
  | cons b t =>
    have hb : bt s 0 = b.toNat := bt_get s 0 b (by rw [hd]; rfl)
    rw [sp_cons]
    by_cases e : b = 47
    · rw [if_pos e]
      exact ⟨[], sp t, rfl, ⟨fun _ => rfl, fun _ => by rw [hb, e]; rfl⟩, fun _ => sp_ne t⟩
    · rw [if_neg e]
      cases hs : sp t with
      | nil => exact absurd hs (sp_ne t)
      | cons y ys => exact ⟨b :: y, ys, rfl, ⟨fun h => absurd ((u47 b).1 (by rw [← hb]; exact h)) e, fun h => by simp at h⟩, fun h => by simp at h⟩
theorem toList_ne {x : ByteArray} (h : keepB x = true) : x.data.toList ≠ [] := by
  have := ((keep_iff x).1 h).1
  rwa [ByteArray.toList_eq] at this
theorem keep_empty : keepB ⟨#[]⟩ = false := by
  cases h : keepB ⟨#[]⟩ with
  | false => rfl
  | true => exact absurd rfl (toList_ne h)
theorem emp : (⟨#[]⟩ : ByteArray).toList.isEmpty = true := by rw [toList_empty]; rfl
theorem filter_pre (t : Bool) : (preP t).filter keepB = [] := by
  cases t with
  | false => rfl
  | true => simp [preP, keep_empty]
theorem lastDots_snoc (l : List ByteArray) (x : ByteArray) : lastDots (l ++ [x]) = (x.toList == [46, 46]) := by
  unfold lastDots
  rw [List.getLastD_eq_getLast?, List.getLast?_concat]; rfl

theorem back_law (s : ByteArray) (h0 : 0 < s.size) (h1 : s.size ≤ 256) (hf : fault s 0 = 0) (hl : longB (pieces s) = false) :
    split (joinS (decide (bt s 0 = 47)) ((pieces s).filter keepB) (endB s || dotsB (lastNE (pieces s)))) = ⟨decide (bt s 0 = 47), (pieces s).filter keepB, endB s || dotsB (lastNE (pieces s)), 0⟩ ∧
    (joinS (decide (bt s 0 = 47)) ((pieces s).filter keepB) (endB s || dotsB (lastNE (pieces s)))).size ≤ s.size := by
  by_cases hn : (pieces s).filter keepB = []
  · have hsl : (endB s || dotsB (lastNE (pieces s))) = true := sl_of s h0 (.inl (by
      cases hk : keepB (lastP s) with
      | false => rfl
      | true =>
        have : lastP s ∈ (pieces s).filter keepB := List.mem_filter.2 ⟨by rw [pieces_eq]; simp, hk⟩
        rw [hn] at this; cases this))
    rw [hn, hsl]
    unfold joinS
    rw [if_pos rfl]
    cases decide (bt s 0 = 47) with
    | true => exact ⟨kA, h0⟩
    | false => exact ⟨kB, h0⟩
  · obtain ⟨l', P, hlP⟩ : ∃ l' P, (pieces s).filter keepB = l' ++ [P] := ⟨_, _, (List.dropLast_concat_getLast hn).symm⟩
    have hPm : P ∈ (pieces s).filter keepB := by rw [hlP]; simp
    obtain ⟨hPp, hPk⟩ := List.mem_filter.1 hPm
    have hall : ∀ x ∈ (pieces s).filter keepB, x ∈ pieces s ∧ keepB x = true := fun x hx => List.mem_filter.1 hx
    have hfD : (pieces s).filter keepB = (cut s s.size).2.filter keepB ++ if keepB (lastP s) then [lastP s] else [] := by rw [pieces_eq, keep_snoc]
    have hPlast : keepB (lastP s) = true → P = lastP s := fun hk => by
      rw [hk, if_pos rfl, hlP] at hfD
      exact (List.append_inj' hfD rfl).2 |> fun h => by injection h
    have hld : lastDots ((pieces s).filter keepB) = (P.toList == [46, 46]) := by rw [hlP, lastDots_snoc]
    have hdots : dotsB P = (P.toList == [46, 46]) := by
      unfold dotsB
      rw [show (P.toList == [46]) = false from beq_false_of_ne ((keep_iff P).1 hPk).2, Bool.false_or]
    -- two points at the end say 'directory'
    have hds : (P.toList == [46, 46]) = true → (endB s || dotsB (lastNE (pieces s))) = true := fun hd => by
      refine sl_of s h0 ?_
      cases hk : keepB (lastP s) with
      | false => exact .inl rfl
      | true => exact .inr (by rw [← hPlast hk]; exact beq_iff_eq.1 hd)
    have hdn : keepB (lastP s) = true → (endB s || dotsB (lastNE (pieces s))) = (P.toList == [46, 46]) := fun hk => by
      have hne := ((keep_iff (lastP s)).1 hk).1
      have hem : (lastP s).toList.isEmpty = false := by cases hz : (lastP s).toList with | nil => exact absurd hz hne | cons _ _ => rfl
      rw [endB_eq s h0, hem, Bool.false_or, lastNE_pieces]
      unfold lastN
      rw [hem, if_neg (by decide), ← hPlast hk, hdots]
    generalize hsl : (endB s || dotsB (lastNE (pieces s))) = sl at *
    have hpc := pieces_join (decide (bt s 0 = 47)) ((pieces s).filter keepB) sl hn (fun x hx => piece_no47 (hall x hx).1)
    have hdata := joinS_data (decide (bt s 0 = 47)) ((pieces s).filter keepB) sl hn
    rw [hld] at hpc hdata
    generalize htr : (sl && !(P.toList == [46, 46])) = tr at *
    generalize hJ : joinS (decide (bt s 0 = 47)) ((pieces s).filter keepB) sl = J at *
    -- its length
    have hJc := size_cB J
    have hsc := size_cB s
    rw [hpc, cB_app, cB_app] at hJc
    have hpD : cB (pieces s) = cB (cut s s.size).2 + ((lastP s).size + 1) := by rw [pieces_eq, cB_app, cB_cons, cB_nil]
    have hpre : ∀ t, cB (preP t) = if t then 1 else 0 := fun t => by cases t <;> rfl
    have hD1 : cB ((cut s s.size).2.filter keepB) + cB (preP (decide (bt s 0 = 47))) ≤ cB (cut s s.size).2 := by
      rw [hpre]
      by_cases ha : bt s 0 = 47
      · rw [decide_eq_true ha, if_pos rfl]
        obtain ⟨x, r, e1, e2, e3⟩ := first_47 s h0
        have hx := e2.1 ha
        have hr := e3 hx
        rw [← pieces_sp, pieces_eq] at e1
        cases hD : (cut s s.size).2 with
        | nil => rw [hD] at e1; simp at e1; exact absurd e1.2 hr
        | cons y D =>
          rw [hD] at e1
          simp only [List.cons_append, List.map_cons, List.cons.injEq] at e1
          have hy : keepB y = false := by
            cases hk : keepB y with
            | false => rfl
            | true => exact absurd (e1.1.trans hx) (toList_ne hk)
          rw [List.filter_cons, hy, if_neg (by decide), cB_cons]
          have := cB_filter keepB D
          omega
      · rw [decide_eq_false ha, if_neg (by decide)]
        have := cB_filter keepB (cut s s.size).2
        omega
    have hD2 : cB (if keepB (lastP s) = true then [lastP s] else []) + cB (preP tr) ≤ (lastP s).size + 1 := by
      rw [hpre]
      cases hk : keepB (lastP s) with
      | true =>
        have : tr = false := by
          rw [← htr, hdn hk]; cases (P.toList == [46, 46]) <;> rfl
        rw [this, if_pos rfl, if_neg (by decide), cB_cons, cB_nil]
        omega
      | false =>
        rw [if_neg (by decide), cB_nil]
        split <;> omega
    have hlc : cB ((pieces s).filter keepB) = cB ((cut s s.size).2.filter keepB) + cB (if keepB (lastP s) = true then [lastP s] else []) := by rw [hfD, cB_app]
    have hsize : J.size ≤ s.size := by omega
    refine ⟨?_, hsize⟩
    -- what is told of it
    have hmem : ∀ x ∈ pieces J, x = ⟨#[]⟩ ∨ x ∈ (pieces s).filter keepB := fun x hx => by
      have hp : ∀ t, x ∈ preP t → x = ⟨#[]⟩ := fun t ht => by
        unfold preP at ht
        split at ht
        · exact List.mem_singleton.1 ht
        · cases ht
      rw [hpc] at hx
      rcases List.mem_append.1 hx with h | h
      · rcases List.mem_append.1 h with h | h
        · exact .inl (hp _ h)
        · exact .inr h
      · exact .inl (hp _ h)
    have hJ0 : 0 < J.size := by
      rcases Nat.eq_zero_or_pos J.size with h | h
      · have hP1 : P.data.toList ∈ sp J.data.toList := by
          rw [← pieces_sp, hpc]
          exact List.mem_map.2 ⟨P, List.mem_append_left _ (List.mem_append_right _ hPm), rfl⟩
        have : J.data.toList = [] := List.eq_nil_of_length_eq_zero (by rw [length_toList]; exact h)
        rw [this] at hP1
        exact absurd (by simpa [sp] using hP1) (toList_ne hPk)
      · exact h
    have hJf : fault J 0 = 0 := by
      rw [fault_iff J 0 (by omega), hdata]
      refine val_join _ (fun y hy => ?_)
      obtain ⟨x, hx, rfl⟩ := List.mem_map.1 hy
      rw [← hpc] at hx
      rcases hmem x hx with rfl | hx
      · exact Val.nil 0
      · exact piece_val hf (hall x hx).1
    have hJl : longB (pieces J) = false := by
      refine List.any_eq_false.2 (fun x hx => ?_)
      rcases hmem x hx with rfl | hx
      · decide
      · have := piece_short hl (hall x hx).1
        simpa using this
    have hJk : (pieces J).filter keepB = (pieces s).filter keepB := by
      rw [hpc, List.filter_append, List.filter_append, filter_pre, filter_pre, List.nil_append, List.append_nil]
      exact List.filter_eq_self.2 (fun x hx => (hall x hx).2)
    have hJa : decide (bt J 0 = 47) = decide (bt s 0 = 47) := by
      obtain ⟨x, r, e1, e2, _⟩ := first_47 J hJ0
      rw [← pieces_sp, hpc] at e1
      by_cases ha : bt s 0 = 47
      · rw [decide_eq_true ha] at e1 ⊢
        simp only [preP, if_true, List.cons_append, List.nil_append, List.map_cons, List.cons.injEq] at e1
        exact decide_eq_true (e2.2 e1.1.symm)
      · rw [decide_eq_false ha] at e1 ⊢
        refine decide_eq_false (fun h => ?_)
        have hx := e2.1 h
        cases hc : (pieces s).filter keepB with
        | nil => exact hn hc
        | cons y m =>
          rw [hc] at e1
          simp only [preP, Bool.false_eq_true, if_false, List.nil_append, List.cons_append, List.map_cons, List.cons.injEq] at e1
          exact toList_ne (hall y (by rw [hc]; exact List.mem_cons_self ..)).2 (e1.1.trans hx)
    have hPne : P.toList.isEmpty = false := by
      have := ((keep_iff P).1 hPk).1
      cases hz : P.toList with
      | nil => exact absurd hz this
      | cons _ _ => rfl
    have hNE : lastNE (pieces J) = P := by
      rw [hpc, hlP, ← List.append_assoc]
      have h3 : lastNE (preP (decide (bt s 0 = 47)) ++ l' ++ [P]) = P := by
        rw [lastNE_snoc]; unfold lastN; rw [hPne]; rfl
      cases tr with
      | false => simp only [preP, Bool.false_eq_true, if_false, List.append_nil] at h3 ⊢; exact h3
      | true =>
        rw [show preP true = [⟨#[]⟩] from rfl, lastNE_snoc, h3]
        unfold lastN; rw [emp]; rfl
    have hend : endB J = tr := by
      rw [endB_eq J hJ0]
      have hlp : (cut J J.size).2 ++ [lastP J] = preP (decide (bt s 0 = 47)) ++ (l' ++ [P]) ++ preP tr := by rw [← pieces_eq, hpc, hlP]
      cases tr with
      | false =>
        simp only [preP, Bool.false_eq_true, if_false, List.append_nil] at hlp
        rw [← List.append_assoc] at hlp
        have := (List.append_inj' hlp rfl).2
        injection this with e
        rw [e]; exact hPne
      | true =>
        rw [show preP true = [⟨#[]⟩] from rfl] at hlp
        have := (List.append_inj' hlp rfl).2
        injection this with e
        rw [e]; exact emp
    unfold split
    rw [if_neg (by omega), if_neg (by omega), if_neg (fun h => h hJf), if_neg (by rw [hJl]; decide), hJk, hJa, hend, hNE, hdots]
    congr 1
    rw [← htr]
    cases hd : (P.toList == [46, 46]) with
    | true => rw [hds hd]; rfl
    | false => simp
end Go.Proofs.Ytnclappdokhciaa
end

section
namespace Go.Proofs.Ytnclappdokhciaa
open Go Go.RowKit
set_option linter.unusedVariables false

/-- What a walk's answer keeps to. -/
def FOk (ts : List Thg) (R : Fnd × Int) : Prop :=
  (R.2 ≠ 0 → R.1 = noF) ∧
  (R.2 = 0 → R.1.up.head? = some 1 ∧
    ((R.1.dir = 0 ∧ R.1.name = ⟨#[]⟩ ∧ R.1.kind = 2 ∧ R.1.num = lastU R.1.up) ∨
     (R.1.dir ≠ 0 ∧ R.1.dir = lastU R.1.up ∧ (entsS ts R.1.dir).2 = 0 ∧
       ((findE (entsS ts R.1.dir).1 R.1.name = none ∧ R.1.num = 0 ∧ R.1.kind = 0) ∨
        ∃ x, findE (entsS ts R.1.dir).1 R.1.name = some x ∧ R.1.num = x.num ∧ x.num ≠ 0 ∧ R.1.kind = x.kind ∧ (R.1.must = true → x.kind = 2)))))
theorem FOk.err (ts : List Thg) {e : Int} (h : e ≠ 0) : FOk ts (noF, e) := ⟨fun _ => rfl, fun h2 => absurd h2 h⟩
theorem head_take {l : List Nat} {n a : Nat} (h : l.head? = some a) (hn : 1 ≤ n) : (l.take n).head? = some a := by
  cases l with
  | nil => cases h
  | cons x r =>
    obtain ⟨m, rfl⟩ : ∃ m, n = m + 1 := ⟨n - 1, by omega⟩
    exact h
theorem head_app {l r : List Nat} {a : Nat} (h : l.head? = some a) : (l ++ r).head? = some a := by
  cases l with
  | nil => cases h
  | cons x r => exact h
theorem head_len {l : List Nat} {a : Nat} (h : l.head? = some a) : 0 < l.length := by
  cases l with
  | nil => cases h
  | cons x r => exact Nat.succ_pos _
set_option maxRecDepth 20000 in
theorem goes_ok (ts : List Thg) (hG : Good ts) (follow : Bool) (f : Nat) : ∀ (pl : List Nat) (ps : List ByteArray) (must : Bool) (links : Nat), pl.head? = some 1 → (∀ n ∈ pl, 1 ≤ n) → links ≤ 8 → todo ps links < f → FOk ts (goesF ts follow f pl ps must links) := by
  induction f with
  | zero => intro _ _ _ _ _ _ _ h; exact absurd h (Nat.not_lt_zero _)
  | succ f ih =>
  intro pl ps must links h1 h2 h8 ht
  cases ps with
  | nil =>
    rw [goes_nil]
    exact ⟨fun h => absurd rfl h, fun _ => ⟨h1, .inl ⟨rfl, rfl, rfl, rfl⟩⟩⟩
  | cons part rest =>
    have hlt : todo rest links < f := by unfold todo at ht ⊢; simp only [List.length_cons] at ht; omega
    by_cases hd : part.toList = [46, 46]
    · rw [goes_dots hd]
      exact ih _ rest must links (head_take h1 (Nat.le_max_left _ _)) (fun n hn => h2 n (List.mem_of_mem_take hn)) h8 hlt
    by_cases he : (entsS ts (lastU pl)).2 = 0
    · have hl0 : lastU pl ≠ 0 := by have := h2 _ (lastU_mem (head_len h1)); omega
      cases hf : findE (entsS ts (lastU pl)).1 part with
      | none =>
        rw [goes_none hd he hf]
        split
        · exact FOk.err ts (by decide)
        · exact ⟨fun h => absurd rfl h, fun _ => ⟨h1, .inr ⟨hl0, rfl, he, .inl ⟨hf, rfl, rfl⟩⟩⟩⟩
      | some x =>
        rw [goes_some hd he hf]
        split
        · by_cases hk : linkS ts x.num links = 0
          · rw [if_neg (fun h => h hk)]
            refine ih _ _ _ (links + 1) (by split; rfl; exact h1) (fun n hn => by split at hn; simp at hn; omega; exact h2 n hn) (by have := link_ok hk; omega) ?_
            have h3 := split_len (targS ts x.num).1
            have h4 := targ_good hG x.num
            have h5 := link_ok hk
            unfold todo at ht ⊢
            rw [List.length_append]
            simp only [List.length_cons] at ht
            omega
          · rw [if_pos (show linkS ts x.num links ≠ 0 from hk)]
            exact FOk.err ts hk
        · split
          · exact FOk.err ts (by decide)
          · rename_i hk2
            split
            · rename_i hr
              refine ⟨fun h => absurd rfl h, fun _ => ⟨h1, .inr ⟨hl0, rfl, he, .inr ⟨x, hf, rfl, ?_, rfl, fun hm => ?_⟩⟩⟩⟩
              · have := (may_ok (are_may (ents_good hG (lastU pl)) x (List.mem_of_find?_eq_some hf))).2.1
                omega
              · apply Classical.byContradiction
                intro h
                exact hk2 ⟨h, .inr hm⟩
            · refine ih _ rest must links (head_app h1) (fun n hn => ?_) h8 hlt
              rcases List.mem_append.1 hn with h | h
              · exact h2 n h
              · have := (may_ok (are_may (ents_good hG (lastU pl)) x (List.mem_of_find?_eq_some hf))).2.1
                rw [List.mem_singleton.1 h]; omega
    · rw [goes_err hd he]
      exact FOk.err ts he
theorem walk_ok (ts : List Thg) (hG : Good ts) (path : ByteArray) (follow : Bool) (hp : path.size ≤ 800) : FOk ts (walkS ts path follow) := by
  unfold walkS
  split
  · rename_i h
    exact FOk.err ts h
  · refine goes_ok ts hG follow 10000 [1] _ _ 0 rfl (by simp) (by omega) ?_
    have := split_len path
    unfold todo
    omega
/-! A slash ahead, a point, doubled slashes. -/
theorem fault_step (s : ByteArray) (bad f i : Nat) (hi : i < s.size) (h1 : bt s i < 128) (h0 : bt s i ≠ 0) (hb : bt s i ≠ bad) : faultF s bad (f + 1) i = faultF s bad f (i + 1) := by
  have hd := (dec_lo s i).1 h1
  have hw : wd s i = 1 := by
    unfold wd
    rw [hd]
    exact if_neg (by simp only; omega)
  conv => lhs; unfold faultF
  rw [if_pos hi, if_neg (fun h => h.elim h0 hb), hw, if_neg (by omega)]
theorem fault_shift (s s' : ByteArray) (bad : Nat) : ∀ (f i i' : Nat), s'.data.toList.drop i' = s.data.toList.drop i → faultF s' bad f i' = faultF s bad f i
  | 0, _, _, _ => rfl
  | f + 1, i, i', h => by
    have hl := congrArg List.length h
    rw [List.length_drop, List.length_drop, length_toList, length_toList] at hl
    have hb : bt s' i' = bt s i := by
      have a := bt_g8 s' i' 0
      have b := bt_g8 s i 0
      rw [Nat.add_zero] at a b
      rw [a, b, h]
    have hd : Utf8.decode s' i' = Utf8.decode s i := by rw [dec_dL, dec_dL, h]
    have hw : wd s' i' = wd s i := by unfold wd; rw [hd]
    have ih := fault_shift s s' bad f (i + wd s i) (i' + wd s i) (by rw [← List.drop_drop, ← List.drop_drop, h])
    conv => lhs; unfold faultF
    conv => rhs; unfold faultF
    rw [hb, hw, ih]
    by_cases hi : i < s.size
    · rw [if_pos hi, if_pos (by omega)]
    · rw [if_neg hi, if_neg (by omega)]
theorem slash_size {s s' : ByteArray} (h : s'.data.toList = [47, 46, 47, 47] ++ s.data.toList) : s'.size = s.size + 4 := by
  have := congrArg List.length h
  rw [length_toList, List.length_append, length_toList] at this
  simp at this; omega
theorem slash_bt {s s' : ByteArray} (h : s'.data.toList = [47, 46, 47, 47] ++ s.data.toList) (k : Nat) : bt s' k = g8 ([47, 46, 47, 47] ++ s.data.toList) k := by
  have a := bt_g8 s' 0 k
  rw [Nat.zero_add, List.drop_zero, h] at a
  exact a
theorem slash_fault {s s' : ByteArray} (h : s'.data.toList = [47, 46, 47, 47] ++ s.data.toList) : fault s' 0 = fault s 0 := by
  have hz := slash_size h
  have hb := slash_bt h
  have b0 : bt s' 0 = 47 := (hb 0).trans rfl
  have b1 : bt s' 1 = 46 := (hb 1).trans rfl
  have b2 : bt s' 2 = 47 := (hb 2).trans rfl
  have b3 : bt s' 3 = 47 := (hb 3).trans rfl
  unfold fault
  rw [hz, fault_step s' 0 _ 0 (by omega) (by omega) (by omega) (by omega), fault_step s' 0 _ 1 (by omega) (by omega) (by omega) (by omega), fault_step s' 0 _ 2 (by omega) (by omega) (by omega) (by omega), fault_step s' 0 _ 3 (by omega) (by omega) (by omega) (by omega)]
  exact fault_shift s s' 0 _ _ _ (by rw [h]; rfl)
theorem slash_pieces {s s' : ByteArray} (h : s'.data.toList = [47, 46, 47, 47] ++ s.data.toList) : pieces s' = ⟨#[]⟩ :: ⟨#[46]⟩ :: ⟨#[]⟩ :: pieces s := by
  refine data_inj ?_
  rw [pieces_sp, h]
  simp only [List.map_cons, pieces_sp, List.cons_append, List.nil_append, sp_cons]
  rfl
theorem split_slash {s s' : ByteArray} (h : s'.data.toList = [47, 46, 47, 47] ++ s.data.toList) (h0 : 0 < s.size) (h1 : s.size ≤ 200) : (split s').parts = (split s).parts ∧ (split s').sl = (split s).sl ∧ (split s').err = (split s).err := by
  have hz := slash_size h
  have hp := slash_pieces h
  have hl : longB (pieces s') = longB (pieces s) := by rw [hp]; rfl
  have hk : (pieces s').filter keepB = (pieces s).filter keepB := by
    rw [hp, List.filter_cons_of_neg (by rw [keep_empty]; decide), List.filter_cons_of_neg (by decide +kernel), List.filter_cons_of_neg (by rw [keep_empty]; decide)]
  have he : endB s' = endB s := by
    unfold endB
    have a := bt_g8 s' 4 (s.size - 1)
    have b := bt_g8 s 0 (s.size - 1)
    rw [h] at a
    rw [Nat.zero_add] at b
    rw [show s'.size - 1 = 4 + (s.size - 1) by omega, a, b]
    rfl
  have hs : (endB s' || dotsB (lastNE (pieces s'))) = (endB s || dotsB (lastNE (pieces s))) := by
    rw [he]
    have hlast : s'.size = s.size + 4 := hz
    cases hb : endB s with
    | true => rfl
    | false =>
      rw [Bool.false_or, Bool.false_or]
      have hne : (lastP s).toList.isEmpty = false := by rw [← endB_eq s h0]; exact hb
      have e1 : lastNE (pieces s) = lastP s := by rw [lastNE_pieces]; unfold lastN; rw [hne]; rfl
      have e2 : lastNE (pieces s') = lastP s := by
        rw [hp, pieces_eq, ← List.cons_append, ← List.cons_append, ← List.cons_append, lastNE_snoc]
        unfold lastN; rw [hne]; rfl
      rw [e1, e2]
  have e1 : split s = if fault s 0 ≠ 0 then ⟨false, [], false, fault s 0⟩ else if longB (pieces s) = true then ⟨false, [], false, 33⟩ else ⟨decide (bt s 0 = 47), (pieces s).filter keepB, endB s || dotsB (lastNE (pieces s)), 0⟩ := by
    unfold split; rw [if_neg (by omega), if_neg (by omega)]
  have e2 : split s' = if fault s' 0 ≠ 0 then ⟨false, [], false, fault s' 0⟩ else if longB (pieces s') = true then ⟨false, [], false, 33⟩ else ⟨decide (bt s' 0 = 47), (pieces s').filter keepB, endB s' || dotsB (lastNE (pieces s')), 0⟩ := by
    unfold split; rw [if_neg (by omega), if_neg (by omega)]
  rw [e1, e2, slash_fault h, hl]
  split
  · exact ⟨rfl, rfl, rfl⟩
  · split
    · exact ⟨rfl, rfl, rfl⟩
    · exact ⟨hk, hs, rfl⟩
theorem walk_slash {s s' : ByteArray} (h : s'.data.toList = [47, 46, 47, 47] ++ s.data.toList) (h0 : 0 < s.size) (h1 : s.size ≤ 200) (ts : List Thg) (follow : Bool) : walkS ts s' follow = walkS ts s follow := by
  obtain ⟨e1, e2, e3⟩ := split_slash h h0 h1
  unfold walkS
  rw [e1, e2, e3]
end Go.Proofs.Ytnclappdokhciaa
end
