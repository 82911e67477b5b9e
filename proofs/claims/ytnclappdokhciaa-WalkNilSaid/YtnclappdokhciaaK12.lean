/-
  kintsugilaw19.WalkNil (func 8), WalkGoes (func 7).
-/
import Derived.Test.YtnclappdokhciaaK10
import Derived.Test.YtnclappdokhciaaK11
namespace Go.Proofs.Ytnclappdokhciaa
open Go Go.RowKit
set_option linter.unusedVariables false
set_option maxRecDepth 20000 in
set_option maxHeartbeats 8000000 in
theorem walk_nil (path : ByteArray) (follow : Bool) (w : World) :
    Calls Try.prog 27 #[.nilIface, .string path, .bool follow] w fun r w' => r = .returned (.tuple #[.agg #[.int .u16 0, .string ⟨#[]⟩, .int .u16 0, .int .u8 0, .bool false, .slice none 0 0], .int .i64 2]) ∧ Only (fun _ => False) w w' := by
  have hni : ∀ w, (binOp .eql 101 .nilIface .nilIface).run Try.prog w = .ok (.bool true) w := fun w => rfl
  have oa := (Only.refl (fun _ => False) w).alloc (.cells #[.int .u16 0, .string ⟨#[]⟩, .int .u16 0, .int .u8 0, .bool false, .slice none 0 0] 49)
  have hf0 := Blk.new w 49 #[.int .u16 0, .string ⟨#[]⟩, .int .u16 0, .int .u8 0, .bool false, .slice none 0 0]
  have q := hf0.cell 0
  replace hf0 := Lib.hid hf0
  replace oa := Lib.hid oa
  go_enter Try.func27, Try.ntmps27
  go_wp2
  go_step3
  go_wp2
  try rw [Exit.noGoto_ret]
  refine bodyPost_ret (res27 _ _ _ _ rfl _ rfl rfl hf0.out) rfl ?_
  exact ⟨rfl, oa.out⟩
set_option maxRecDepth 20000 in
set_option maxHeartbeats 8000000 in
theorem walkNil_any (path : ByteArray) (follow : Bool) (w : World) : Calls Try.prog 8 #[.string path, .bool follow] w fun r w' => r = .returned (.bool true) ∧ Only (fun _ => False) w w' := by
  by_cases h4 : 400 < path.size
  · have i0 : (400 : Int) < (path.size : Int) := by omega
    go_enter Try.func8, Try.ntmps8
    go_wp2_with fail
    refine (wakesT_any w).mono ?_
    rintro r w1 ⟨rfl, ho⟩
    go_wp2
    go_ret
    exact ⟨rfl, ho⟩
  · have i0 : ¬ (400 : Int) < (path.size : Int) := by omega
    go_enter Try.func8, Try.ntmps8
    go_wp2_with fail
    refine (walk_nil path follow w).mono ?_
    rintro r w1 ⟨rfl, ho⟩
    have hS := fun W => sameW_any 0 0 0 ⟨#[]⟩ false [] none none 0 0 W (RowU.nil W) (RowU.nil W) (by decide)
    simp only [List.length_nil, show ((0 : Nat) : Int) = 0 from rfl] at hS
    replace hS := Lib.hid hS
    have ho := ho.alloc (.cells #[.int .u16 0, .string ⟨#[]⟩, .int .u16 0, .int .u8 0, .bool false, .slice none 0 0] 49)
    replace ho := Lib.hid ho
    go_wp2_with fail
    refine (hS.out _).mono ?_
    rintro r w2 ⟨rfl, ho2⟩
    have ho3 := ho.out.trans ho2
    clear ho ho2 hS
    go_wp2_with fail
    refine (wakesT_any w2).mono ?_
    rintro r w3 ⟨rfl, ho4⟩
    have ho5 := ho3.trans ho4
    clear ho3 ho4
    go_wp2
    go_ret
    exact ⟨rfl, ho5⟩
set_option maxRecDepth 20000 in
theorem goes_up (ts : List Thg) (hG : Good ts) (follow : Bool) (f : Nat) : ∀ (pl : List Nat) (ps : List ByteArray) (must : Bool) (links : Nat), (goesF ts follow f pl ps must links).1.up.length ≤ pl.length + todo ps links := by
  induction f with
  | zero => intro _ _ _ _; exact Nat.zero_le _
  | succ f ih =>
  intro pl ps must links
  cases ps with
  | nil => rw [goes_nil]; exact Nat.le_add_right _ _
  | cons part rest =>
    have ht : todo rest links + 1 = todo (part :: rest) links := by unfold todo; simp only [List.length_cons]; omega
    by_cases hd : part.toList = [46, 46]
    · rw [goes_dots hd]
      have h1 := ih (pl.take (max 1 (pl.length - 1))) rest must links
      have h2 := List.length_take_le (max 1 (pl.length - 1)) pl
      have h3 : (pl.take (max 1 (pl.length - 1))).length ≤ pl.length := by rw [List.length_take]; exact Nat.min_le_right _ _
      omega
    by_cases he : (entsS ts (lastU pl)).2 = 0
    · cases hf : findE (entsS ts (lastU pl)).1 part with
      | none =>
        rw [goes_none hd he hf]
        split
        · exact Nat.zero_le _
        · exact Nat.le_add_right _ _
      | some x =>
        rw [goes_some hd he hf]
        split
        · by_cases hk : linkS ts x.num links = 0
          · rw [if_neg (fun h => h hk)]
            have h1 := ih (if (split (targS ts x.num).1).ab = true then [1] else pl) ((split (targS ts x.num).1).parts ++ rest) (must || (rest.isEmpty && (split (targS ts x.num).1).sl)) (links + 1)
            have h3 := split_len (targS ts x.num).1
            have h4 := targ_good hG x.num
            have h5 := link_ok hk
            have h6 : (if (split (targS ts x.num).1).ab = true then [1] else pl).length ≤ pl.length + 1 := by split <;> simp
            unfold todo at h1 ⊢
            rw [List.length_append] at h1
            simp only [List.length_cons]
            omega
          · rw [if_pos (show linkS ts x.num links ≠ 0 from hk)]
            exact Nat.zero_le _
        · split
          · exact Nat.zero_le _
          · split
            · exact Nat.le_add_right _ _
            · have h1 := ih (pl ++ [x.num]) rest must links
              rw [List.length_append, List.length_singleton] at h1
              omega
    · rw [goes_err hd he]
      exact Nat.zero_le _
theorem walk_up (ts : List Thg) (hG : Good ts) (path : ByteArray) (follow : Bool) (hp : path.size ≤ 800) : (walkS ts path follow).1.up.length ≤ 10000 := by
  unfold walkS
  split
  · exact Nat.zero_le _
  · have h1 := goes_up ts hG follow 10000 [1] (split path).parts (split path).sl 0
    have h2 := split_len path
    unfold todo at h1
    simp only [List.length_singleton] at h1
    omega
set_option maxRecDepth 20000 in
set_option maxHeartbeats 8000000 in
theorem walkGoes_any (ts : List Thg) (A : Option Addr) (c : Nat) (path : ByteArray) (follow : Bool) (w : World) (h : RowT w A ts c) (hL : ∀ t ∈ ts, Long t.L) :
    Calls Try.prog 7 #[.slice A ts.length c, .string path, .bool follow] w fun r w' => r = .returned (.bool true) ∧ Only (fun _ => False) w w' := by
  have hG := greatT_any ts A c path w h
  cases hg : greatT ts path with
  | true =>
    rw [hg] at hG
    replace hG := Lib.hid hG
    clear hg
    go_enter Try.func7, Try.ntmps7
    go_wp2_with fail
    refine hG.out.mono ?_
    rintro r w1 ⟨rfl, rfl⟩
    go_wp2_with fail
    refine (wakesT_any w).mono ?_
    rintro r w1 ⟨rfl, ho⟩
    go_wp2
    go_ret
    exact ⟨rfl, ho⟩
  | false =>
    obtain ⟨hgd, hps, hl12, hl30⟩ := propT_good hg
    rw [hg] at hG
    replace hG := Lib.hid hG
    have hP := properT_any ts A c w h hl12 hl30 hL
    have hTl : (ts.map propT).length = ts.length := List.length_map _
    generalize ts.map propT = T at *
    replace hTl := Lib.hid hTl
    replace hP := Lib.hid hP
    clear hg hl30 hL h
    go_enter Try.func7, Try.ntmps7
    go_wp2_with fail
    refine hG.out.mono ?_
    rintro r w1 ⟨rfl, rfl⟩
    go_wp2_with fail
    refine hP.out.mono ?_
    rintro r w1 ⟨A2, c2, rfl, hT, ho1⟩
    clear hP hG
    have hb := Blk.new w1 45 #[.slice A2 ts.length c2, .int .i64 ((0 : Nat) : Int)]
    have oa := (Only.refl (fun _ => False) w1).alloc (.cells #[.slice A2 ts.length c2, .int .i64 ((0 : Nat) : Int)] 45)
    have hT2 := hT.only oa (fun _ _ x => x)
    have ho2 := ho1.trans oa
    have hgw : w.heap.size ≤ w1.heap.size := ho1.size
    rw [← hTl.out] at hb oa hT2 ho2
    have hW := walk_any T A2 c2 w1.heap.size 0 path follow _ hb hT2 hgd (by omega) (by omega)
    rw [hTl.out] at hW hb hT2 ho2
    clear oa hT ho1
    simp only [show ((0 : Nat) : Int) = 0 from rfl] at hW hb hT2 ho2
    replace hW := Lib.hid hW
    go_upto_region 4 with fail
    generalize World.alloc w1 _ = w2 at *
    generalize w1.heap.size = g at *
    go_wp2_with fail
    refine hW.out.mono ?_
    rintro r w3 ⟨d, Au, cu, hd, rfl, hu, hb3, ho3⟩
    have hT3 := hT2.apart hb (toy_str _ _ _ _) ho3
    have ho4 := ho2.trans_of ho3 (fun k hk e => by omega)
    rw [hTl.out] at hb3
    clear hW hb hT2 ho2 ho3
    have hul := walk_up T hgd path follow (by omega)
    have hQ := refWalk_any T A2 c2 path follow
    generalize hR : walkS T path follow = R at *
    obtain ⟨⟨d0, nm0, n0, kd0, mu0, up0⟩, ee⟩ := R
    simp only [Fnd.cells] at hul hu ⊢
    have hq3 := Blk.new w3 49 #[.int .u16 d0, .string nm0, .int .u16 n0, .int .u8 kd0, .bool mu0, .slice Au up0.length cu]
    have oa := (Only.refl (fun _ => False) w3).alloc (.cells #[.int .u16 d0, .string nm0, .int .u16 n0, .int .u8 kd0, .bool mu0, .slice Au up0.length cu] 49)
    replace hb3 := hb3.only oa (fun x => x)
    replace hT3 := hT3.only oa (fun _ _ x => x)
    replace hu := hu.only oa (fun _ _ x => x)
    have ho5 := ho4.trans oa
    clear oa ho4 hR
    replace hul := Lib.hid hul
    have b0 := hb3.cell 0
    simp only [List.getElem?_toArray, List.getElem?_cons_zero] at b0
    go_upto_region 5 with fail
    generalize World.alloc w3 _ = w4 at *
    generalize w3.heap.size = q1 at *
    have hQ4 := hQ w4 hT3 hgd (by omega)
    rw [hTl.out] at hQ4
    replace hQ4 := Lib.hid hQ4
    clear hQ hb3 hT3
    go_wp2_with fail
    refine hQ4.out.mono ?_
    rintro r w5 ⟨Av, cv, rfl, hv, ho6⟩
    simp only [Fnd.cells] at hv ⊢
    have hq5 := hq3.only ho6 (fun x => x)
    have hu5 := hu.only ho6 (fun _ _ x => x)
    have hr5 := Blk.new w5 52 #[.int .u16 d0, .string nm0, .int .u16 n0, .int .u8 kd0, .bool mu0, .slice Av up0.length cv]
    have oa := (Only.refl (fun _ => False) w5).alloc (.cells #[.int .u16 d0, .string nm0, .int .u16 n0, .int .u8 kd0, .bool mu0, .slice Av up0.length cv] 52)
    replace hq5 := hq5.only oa (fun x => x)
    replace hu5 := hu5.only oa (fun _ _ x => x)
    replace hv := hv.only oa (fun _ _ x => x)
    have ho7 := (ho5.trans ho6).trans oa
    clear oa ho5 ho6 hq3 hu hQ4 b0
    go_upto_region 6 with fail
    generalize World.alloc w5 _ = w6 at *
    generalize w5.heap.size = q2 at *
    have hS := sameW_any d0 n0 kd0 nm0 mu0 up0 Au Av cu cv w6 hu5 hv (by have := hul.out; omega)
    replace hS := Lib.hid hS
    have a0 := hq5.cell 0
    have a1 := hq5.cell 1
    have a2 := hq5.cell 2
    have a3 := hq5.cell 3
    have a4 := hq5.cell 4
    have a5 := hq5.cell 5
    have r0 := hr5.cell 0
    have r1 := hr5.cell 1
    have r2 := hr5.cell 2
    have r3 := hr5.cell 3
    have r4 := hr5.cell 4
    have r5 := hr5.cell 5
    simp only [List.getElem?_toArray, List.getElem?_cons_zero, List.getElem?_cons_succ] at a0 a1 a2 a3 a4 a5 r0 r1 r2 r3 r4 r5
    clear hq5 hr5 hu5 hv
    go_wp2_with fail
    refine hS.out.mono ?_
    rintro r w7 ⟨rfl, ho8⟩
    have ho9 := ho7.trans ho8
    clear ho7 ho8 hS a0 a1 a2 a3 a4 a5 r0 r1 r2 r3 r4 r5
    go_wp2_with fail
    refine (wakesT_any w7).mono ?_
    rintro r w8 ⟨rfl, ho10⟩
    have ho11 := ho9.trans ho10
    clear ho9 ho10
    go_wp2
    go_ret
    exact ⟨rfl, ho11⟩
end Go.Proofs.Ytnclappdokhciaa
