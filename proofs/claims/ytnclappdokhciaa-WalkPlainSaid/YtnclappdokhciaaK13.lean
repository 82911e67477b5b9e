/-
  kintsugilaw19.WalkPlain (func 9).
-/
import Derived.Test.YtnclappdokhciaaK12m
import Derived.Deep.CutBlock
import Derived.Deep.DeepCutAuto
namespace Go.Proofs.Ytnclappdokhciaa
open Go Go.RowKit
set_option linter.unusedVariables false
/-- What is at hand behind the first walk. -/
structure PW (q g : Nat) (cs : Array Value) (Au : Option Addr) (up : List Nat) (cu : Nat) (A : Option Addr) (n c : Nat) (T : List Thg) (k : Nat) (w W : World) : Prop where
  bq : Blk W q 49 cs
  ru : RowU W Au up cu
  bg : Blk W g 45 #[.slice A n c, .int .i64 (k : Int)]
  rt : RowT W A T c
  ho : Only (fun _ => False) w W
  hg : w.heap.size ≤ g
theorem toy_u16 (A : Option Addr) (n c : Nat) (k : Int) (i : Nat) (m : Int) : (#[Value.slice A n c, .int .i64 k] : Array Value)[i]? ≠ some (.int .u16 m) := by
  match i with
  | 0 => simp
  | 1 => simp
  | i + 2 => simp
section
variable {q g : Nat} {cs : Array Value} {Au : Option Addr} {up : List Nat} {cu : Nat} {A : Option Addr} {n c : Nat} {T : List Thg} {k k' : Nat} {w W W' : World}
theorem PW.next (h : PW q g cs Au up cu A n c T k w W) (o : Only (fun _ => False) W W') : PW q g cs Au up cu A n c T k w W' :=
  ⟨h.bq.only o (fun x => x), h.ru.only o (fun _ _ x => x), h.bg.only o (fun x => x), h.rt.only o (fun _ _ x => x), h.ho.trans o, h.hg⟩
theorem PW.turn (h : PW q g cs Au up cu A n c T k w W) (o : Only (fun k => k = g) W W') (hb : Blk W' g 45 #[.slice A n c, .int .i64 (k' : Int)]) : PW q g cs Au up cu A n c T k' w W' :=
  ⟨h.bq.only o (h.bq.ne h.bg (by decide)), h.ru.apart h.bg (toy_u16 _ _ _ _) o, hb, h.rt.apart h.bg (toy_str _ _ _ _) o, h.ho.trans_of o (fun j hj e => by have := h.hg; omega), h.hg⟩
end
structure PW2 (q g : Nat) (cs : Array Value) (Au : Option Addr) (up : List Nat) (cu : Nat) (A : Option Addr) (n c : Nat) (T : List Thg) (k qx : Nat) (cx : Array Value) (w W : World) : Prop where
  pw : PW q g cs Au up cu A n c T k w W
  bx : Blk W qx 63 cx
theorem ents_lt {T : List Thg} {n : Nat} (h : (entsS T n).2 = 0) (hT : T.length ≤ 12) : n < 65536 := by
  unfold entsS at h
  split at h
  · cases h
  · rename_i t ht
    unfold thAt at ht
    split at ht
    · cases ht
    · have := (List.getElem?_eq_some_iff.1 ht).1
      omega
set_option maxRecDepth 20000 in
set_option maxHeartbeats 8000000 in
theorem walkPlain_any (ts : List Thg) (A : Option Addr) (c : Nat) (path : ByteArray) (follow : Bool) (w : World) (h : RowT w A ts c) (hL : ∀ t ∈ ts, Long t.L) :
    Calls Try.prog 9 #[.slice A ts.length c, .string path, .bool follow] w fun r w' => r = .returned (.bool true) ∧ Only (fun _ => False) w w' := by
  have hG := greatT_any ts A c path w h
  cases hg : greatT ts path with
  | true =>
    rw [hg] at hG
    replace hG := Lib.hid hG
    clear hg
    go_enter Try.func9, Try.ntmps9
    go_wp2_with fail
    refine hG.out.mono ?_
    rintro r w1 ⟨rfl, rfl⟩
    go_wp2_with fail
    refine (wakesT_any w).mono ?_
    rintro r w1 ⟨rfl, ho⟩
    go_wp2
    go_ret
    exact ⟨rfl, ho⟩
  | false =>
    obtain ⟨hgd, hps, hl12, hl30⟩ := propT_good hg
    rw [hg] at hG
    replace hG := Lib.hid hG
    clear hg
    by_cases h200 : 200 < path.size
    · have i0 : (200 : Int) < (path.size : Int) := by omega
      clear hgd hl12 hl30
      go_enter Try.func9, Try.ntmps9
      go_wp2_with fail
      refine hG.out.mono ?_
      rintro r w1 ⟨rfl, rfl⟩
      go_wp2_with fail
      refine (wakesT_any w).mono ?_
      rintro r w1 ⟨rfl, ho⟩
      go_wp2
      go_ret
      exact ⟨rfl, ho⟩
    have i0 : ¬ (200 : Int) < (path.size : Int) := by omega
    have hP := properT_any ts A c w h hl12 hl30 hL
    have hTl : (ts.map propT).length = ts.length := List.length_map _
    have hT100 : ∀ t ∈ ts.map propT, t.L.length ≤ 100000 := fun t ht => by
      obtain ⟨s, hs, rfl⟩ := List.mem_map.1 ht
      have := hl30 s hs
      unfold propT
      split
      · omega
      · exact Nat.zero_le _
    generalize ts.map propT = T at *
    replace hTl := Lib.hid hTl
    replace hP := Lib.hid hP
    replace hT100 := Lib.hid hT100
    clear hl30 hL h
    go_enter Try.func9, Try.ntmps9
    go_wp2_with fail
    refine hG.out.mono ?_
    rintro r w1 ⟨rfl, rfl⟩
    go_wp2_with fail
    refine hP.out.mono ?_
    rintro r w1 ⟨A2, c2, rfl, hT, ho1⟩
    clear hP hG
    have hb := Blk.new w1 45 #[.slice A2 ts.length c2, .int .i64 ((0 : Nat) : Int)]
    have oa := (Only.refl (fun _ => False) w1).alloc (.cells #[.slice A2 ts.length c2, .int .i64 ((0 : Nat) : Int)] 45)
    have hT2 := hT.only oa (fun _ _ x => x)
    have ho2 := ho1.trans oa
    have hgw : w.heap.size ≤ w1.heap.size := ho1.size
    rw [← hTl.out] at hb oa hT2 ho2
    have hW := walk_any T A2 c2 w1.heap.size 0 path follow _ hb hT2 hgd (by omega) (by omega)
    rw [hTl.out] at hW hb hT2 ho2
    clear oa hT ho1
    simp only [show ((0 : Nat) : Int) = 0 from rfl] at hW hb hT2 ho2
    replace hW := Lib.hid hW
    go_upto_region 4 with fail
    generalize World.alloc w1 _ = w2 at *
    generalize w1.heap.size = g at *
    go_wp2_with fail
    refine hW.out.mono ?_
    rintro r w3 ⟨d, Au, cu, hd, rfl, hu, hb3, ho3⟩
    have hT3 := hT2.apart hb (toy_str _ _ _ _) ho3
    have ho4 := ho2.trans_of ho3 (fun k hk e => by omega)
    rw [hTl.out, Nat.zero_add] at hb3
    clear hW hb hT2 ho2 ho3
    have hul := walk_up T hgd path follow (by omega)
    have hok := walk_ok T hgd path follow (by omega)
    have hsl : ∀ s' : ByteArray, s'.data.toList = [47, 46, 47, 47] ++ path.data.toList → 0 < path.size → walkS T s' follow = walkS T path follow := fun s' h1 h2 => walk_slash h1 h2 (by omega) T follow
    generalize hR : walkS T path follow = R at *
    obtain ⟨⟨d0, nm0, n0, kd0, mu0, up0⟩, ee⟩ := R
    simp only [Fnd.cells] at hul hu ⊢
    have hq3 := Blk.new w3 49 #[.int .u16 d0, .string nm0, .int .u16 n0, .int .u8 kd0, .bool mu0, .slice Au up0.length cu]
    have oa := (Only.refl (fun _ => False) w3).alloc (.cells #[.int .u16 d0, .string nm0, .int .u16 n0, .int .u8 kd0, .bool mu0, .slice Au up0.length cu] 49)
    have hpw : PW w3.heap.size g #[.int .u16 d0, .string nm0, .int .u16 n0, .int .u8 kd0, .bool mu0, .slice Au up0.length cu] Au up0 cu A2 ts.length c2 T d w _ := ⟨hq3, hu.only oa (fun _ _ x => x), hb3.only oa (fun x => x), hT3.only oa (fun _ _ x => x), ho4.trans oa, hgw⟩
    clear oa ho4 hR hq3 hu hb3 hT3
    replace hul := Lib.hid hul
    replace hok := Lib.hid hok
    replace hsl := Lib.hid hsl
    go_upto_region 5 with fail
    generalize World.alloc w3 _ = w4 at *
    generalize w3.heap.size = q at *
    have b1 := hpw.bg.cell 1
    simp only [List.getElem?_toArray, List.getElem?_cons_zero, List.getElem?_cons_succ] at b1
    have i1 : ¬ (8 : Int) < (d : Int) := by omega
    have hi2 : path.size ≤ 200 := by omega
    go_upto_region 7 with fail
    have hs1 : ((⟨#[47, 46, 47, 47]⟩ : ByteArray) ++ path).data.toList = [47, 46, 47, 47] ++ path.data.toList := by simp
    have hs2 : ((⟨#[47, 46, 47, 47]⟩ : ByteArray) ++ path).size ≤ 800 := by rw [ByteArray.size_append]; have : (⟨#[47, 46, 47, 47]⟩ : ByteArray).size = 4 := rfl; omega
    have hW2 := walk_any T A2 c2 g d ((⟨#[47, 46, 47, 47]⟩ : ByteArray) ++ path) follow w4 (by rw [hTl.out]; exact hpw.bg) hpw.rt hgd (by omega) hs2
    rcases Nat.eq_zero_or_pos path.size with h0 | h0
    · have hpe : path = ⟨#[]⟩ := by
        apply ByteArray.ext
        exact Array.eq_empty_of_size_eq_zero h0
      generalize walkS T ((⟨#[47, 46, 47, 47]⟩ : ByteArray) ++ path) follow = R2 at hW2
      obtain ⟨⟨d9, nm9, n9, kd9, mu9, up9⟩, e9⟩ := R2
      subst hpe
      replace hW2 := Lib.hid hW2
      clear hs1 hs2 hsl b1
      go_upto_region 8 with fail
      go_wp2_with fail
      refine hW2.out.mono ?_
      rintro r w5 ⟨d2, Au2, cu2, hd2, rfl, hu2, hb5, ho5⟩
      rw [hTl.out] at hb5
      have hp5 := hpw.turn ho5 hb5
      simp only [Fnd.cells]
      have oa := (Only.refl (fun _ => False) w5).alloc (.cells #[.int .u16 d9, .string nm9, .int .u16 n9, .int .u8 kd9, .bool mu9, .slice Au2 up9.length cu2] 49)
      have hp6 := hp5.next oa
      clear hW2 hp5 hpw oa hb5 ho5
      go_upto_region 11 with fail
      generalize World.alloc w5 _ = w7 at *
      generalize w5.heap.size = q9 at *
      have hp7 := hp6
      clear hp6
      revert hp7
      generalize (d + d2) = dd
      intro hp7
      clear hu2 i1 i0 hd hd2
      have hbq := hp7.bq
      have l0 := hbq.cell 0
      have l1 := hbq.cell 1
      have l2 := hbq.cell 2
      have l3 := hbq.cell 3
      have l4 := hbq.cell 4
      have l5 := hbq.cell 5
      simp only [List.getElem?_toArray, List.getElem?_cons_zero, List.getElem?_cons_succ] at l0 l1 l2 l3 l4 l5
      have hok' := hok.out
      by_cases he : ee = 0
      · have hok2 := hok'.2 he
        subst he
        have ez : ((0 : Int) != 0) = false := rfl
        obtain ⟨hh, hcase⟩ := hok2
        simp only at hh hcase
        have hpos := head_len hh
        obtain ⟨ub, uo, rfl, hub, huc⟩ := hp7.ru.1.2 hpos
        have u0 : w7.cell? ⟨ub, uo, none⟩ = some (.int .u16 1) := huc 0 _ (by unfold u16s; rw [List.getElem?_map, ← List.head?_eq_getElem?, hh]; rfl)
        obtain ⟨m, hm⟩ : ∃ m, up0.length = m + 1 := ⟨up0.length - 1, by omega⟩
        have hlast : ∀ W, PW q g #[.int .u16 d0, .string nm0, .int .u16 n0, .int .u8 kd0, .bool mu0, .slice (some ⟨ub, uo, none⟩) (m + 1) cu] (some ⟨ub, uo, none⟩) up0 cu A2 ts.length c2 T dd w W → W.cell? ⟨ub, uo + m, none⟩ = some (.int .u16 (lastU up0)) := fun W hW => by
          obtain ⟨b', o', e', _, hc'⟩ := hW.ru.1.2 hpos
          cases e'
          refine hc' m _ ?_
          unfold u16s lastU
          rw [List.getElem?_map, List.getLastD_eq_getLast?, List.getLast?_eq_getElem?, hm, Nat.add_sub_cancel]
          have : up0[m]? = some (up0[m]'(by omega)) := List.getElem?_eq_getElem (by omega)
          rw [this]
          rfl
        rw [hm] at hp7 l5 ⊢
        have hup : ¬ up0 = [] := fun e => by subst e; cases hh
        replace hm := Lib.hid hm
        replace hlast := Lib.hid hlast
        clear hok' hbq huc
        rcases hcase with ⟨rfl, rfl, rfl, rfl⟩ | ⟨hd0, hdl, hes, hfind⟩
        · go_upto_region 16 with fail
          have jw : IntKind.i64.wrap ((m : Int) + 1 - 1) = (m : Int) := by rw [show (m : Int) + 1 - 1 = (m : Int) by omega]; exact IntWalk.i64_in _ (by have := hul.out; have := hm.out; omega)
          have jw2 : IntKind.i64.wrap (m : Int) = (m : Int) := IntWalk.i64_in _ (by have := hul.out; have := hm.out; omega)
          have j0 : (0 : Int) ≤ (m : Int) := by omega
          have j1 : (m : Int) < (m : Int) + 1 := by omega
          have j2 : ¬ (m : Int) + 1 ≤ (m : Int) := by omega
          have j3 : m < m + 1 := by omega
          have cW := Lib.hid wakesT_any
          refine wp_region_class (fun W => PW q g _ _ up0 cu A2 ts.length c2 T dd w W) (by kernel_rfl) (by kernel_rfl) (hp7.next (Only.refl _ _).drew) ?_
          repeat (first
            | go_big_quiet_skip
            | (go_big_quiet_want
               first
                 | (refine quiet_load_cell 9 (.tmp 88) rfl ⟨q, 1, none⟩ rfl (.string ⟨#[]⟩) _ (fun _ h => h.bq.cell 1) rfl Try.underlying9 ?_; simp only [Act.put, List.setIfInBounds_toArray, List.set_cons_zero, List.set_cons_succ]; go_big_quiet_on)
                 | (refine quiet_load_cell 5 (.tmp 92) rfl ⟨q, 3, none⟩ rfl (.int .u8 2) _ (fun _ h => h.bq.cell 3) rfl Try.underlying5 ?_; simp only [Act.put, List.setIfInBounds_toArray, List.set_cons_zero, List.set_cons_succ]; go_big_quiet_on)
                 | (refine quiet_load_cell 46 (.tmp 97) rfl ⟨q, 2, none⟩ rfl (.int .u16 (lastU up0)) _ (fun _ h => h.bq.cell 2) rfl Try.underlying46 ?_; simp only [Act.put, List.setIfInBounds_toArray, List.set_cons_zero, List.set_cons_succ]; go_big_quiet_on)
                 | (refine quiet_load_cell 47 (.tmp 99) rfl ⟨q, 5, none⟩ rfl (.slice (some ⟨ub, uo, none⟩) (m + 1) cu) _ (fun _ h => h.bq.cell 5) rfl Try.underlying47 ?_; simp only [Act.put, List.setIfInBounds_toArray, List.set_cons_zero, List.set_cons_succ]; go_big_quiet_on)
                 | (refine quiet_load_cell 47 (.tmp 101) rfl ⟨q, 5, none⟩ rfl (.slice (some ⟨ub, uo, none⟩) (m + 1) cu) _ (fun _ h => h.bq.cell 5) rfl Try.underlying47 ?_; simp only [Act.put, List.setIfInBounds_toArray, List.set_cons_zero, List.set_cons_succ]; go_big_quiet_on)
                 | (refine quiet_load_cell 46 (.tmp 105) rfl ⟨ub, uo + m, none⟩ rfl (.int .u16 (lastU up0)) _ (fun W h => hlast.out W h) rfl Try.underlying46 ?_; simp only [Act.put, List.setIfInBounds_toArray, List.set_cons_zero, List.set_cons_succ]; go_big_quiet_on)
                 | (go_big_quiet_op
                    first
                      | go_big_quiet_on
                      | (refine ⟨_, fun _ _ => by with_reducible rfl, ?_⟩; go_big_quiet_on)
                      | (apply Exists.intro
                         refine ⟨fun W hW => ?_, ?_⟩
                         · (go_at_call 25; with_reducible refine (cW.out _).mono ?_; rintro x w' ⟨rfl, hn⟩; exact ⟨rfl, PW.next hW hn⟩)
                         go_big_quiet_on))))
          refine wpQuiet_nil ?_
          intro w8 h8
          go_wp2
          go_ret
          exact ⟨rfl, h8.ho⟩
        · subst hdl
          have hlt := ents_lt hes hgd.1
          have hga := ents_good hgd (lastU up0)
          have hE := entries_any T A2 c2 g (lastU up0) dd w7 (by rw [hTl.out]; exact hp7.bg) hp7.rt hlt hgd.1 hT100.out
          have jd : ((lastU up0 : Int) == 0) = false := beq_false_of_ne (by omega)
          have jd2 : ¬ (lastU up0 : Int) = 0 := by omega
          have jw : IntKind.i64.wrap ((m : Int) + 1 - 1) = (m : Int) := by rw [show (m : Int) + 1 - 1 = (m : Int) by omega]; exact IntWalk.i64_in _ (by have := hul.out; have := hm.out; omega)
          have jw2 : IntKind.i64.wrap (m : Int) = (m : Int) := IntWalk.i64_in _ (by have := hul.out; have := hm.out; omega)
          have j0 : (0 : Int) ≤ (m : Int) := by omega
          have j1 : (m : Int) < (m : Int) + 1 := by omega
          have j2 : ¬ (m : Int) + 1 ≤ (m : Int) := by omega
          have j3 : m < m + 1 := by omega
          have cW := Lib.hid wakesT_any
          rw [hes] at hE
          generalize (entsS T (lastU up0)).1 = L at *
          replace hE := Lib.hid hE
          clear hes hlt
          go_wp2_with fail
          refine hE.out.mono ?_
          rintro r w8 ⟨A', c', rfl, hL, o8⟩
          have hF := findD_any L A' c' nm0 w8 hL (by have := (are_ok hga).1; omega) (rise_of hga)
          have hp8 := hp7.next o8
          have hbq8 := hp8.bq
          have l0 := hbq8.cell 0
          have l1 := hbq8.cell 1
          simp only [List.getElem?_toArray, List.getElem?_cons_zero, List.getElem?_cons_succ] at l0 l1
          clear hE hL o8 hp7 hga hbq8
          rcases hfind with ⟨hf, rfl, rfl⟩ | ⟨x, hf, rfl, hxn, rfl, hxm⟩
          · rw [hf] at hF
            simp only [Option.getD_none, Option.isSome_none, noEnt, Ent.cells] at hF
            replace hF := Lib.hid hF
            go_wp2_with fail
            refine hF.out.mono ?_
            rintro r w9 ⟨rfl, o9⟩
            have hqx := Blk.new w9 63 #[.string ⟨#[]⟩, .int .u16 ((0 : Nat) : Int), .int .u8 ((0 : Nat) : Int)]
            have hp10 := (hp8.next o9).next ((Only.refl (fun _ => False) w9).alloc (.cells #[.string ⟨#[]⟩, .int .u16 ((0 : Nat) : Int), .int .u8 ((0 : Nat) : Int)] 63))
            clear hp8 l0 l1 o9 hF
            simp only [show ((0 : Nat) : Int) = 0 from rfl] at hp10 hqx ⊢
            go_upto_region 19 with fail
            generalize World.alloc w9 _ = w10 at *
            generalize w9.heap.size = qx at *
            refine wp_region_class (fun W => PW2 q g #[.int .u16 (lastU up0), .string nm0, .int .u16 0, .int .u8 0, .bool mu0, .slice (some ⟨ub, uo, none⟩) (m + 1) cu] (some ⟨ub, uo, none⟩) up0 cu A2 ts.length c2 T dd qx #[.string ⟨#[]⟩, .int .u16 0, .int .u8 0] w W) (by kernel_rfl) (by kernel_rfl) ⟨hp10.next (Only.refl _ _).drew, hqx.drew⟩ ?_
            repeat (first
              | go_big_quiet_skip
              | (go_big_quiet_want
                 first
                   | (refine quiet_load_cell 46 (.tmp 129) rfl ⟨q, 0, none⟩ rfl (.int .u16 (lastU up0)) _ (fun _ h => h.1.bq.cell 0) rfl Try.underlying46 ?_; simp only [Act.put, List.setIfInBounds_toArray, List.set_cons_zero, List.set_cons_succ]; go_big_quiet_on)
                   | (refine quiet_load_cell 47 (.tmp 131) rfl ⟨q, 5, none⟩ rfl (.slice (some ⟨ub, uo, none⟩) (m + 1) cu) _ (fun _ h => h.1.bq.cell 5) rfl Try.underlying47 ?_; simp only [Act.put, List.setIfInBounds_toArray, List.set_cons_zero, List.set_cons_succ]; go_big_quiet_on)
                   | (refine quiet_load_cell 47 (.tmp 133) rfl ⟨q, 5, none⟩ rfl (.slice (some ⟨ub, uo, none⟩) (m + 1) cu) _ (fun _ h => h.1.bq.cell 5) rfl Try.underlying47 ?_; simp only [Act.put, List.setIfInBounds_toArray, List.set_cons_zero, List.set_cons_succ]; go_big_quiet_on)
                   | (refine quiet_load_cell 46 (.tmp 137) rfl ⟨ub, uo + m, none⟩ rfl (.int .u16 (lastU up0)) _ (fun W h => hlast.out W h.1) rfl Try.underlying46 ?_; simp only [Act.put, List.setIfInBounds_toArray, List.set_cons_zero, List.set_cons_succ]; go_big_quiet_on)
                   | (refine quiet_load_cell 46 (.tmp 143) rfl ⟨q, 2, none⟩ rfl (.int .u16 0) _ (fun _ h => h.1.bq.cell 2) rfl Try.underlying46 ?_; simp only [Act.put, List.setIfInBounds_toArray, List.set_cons_zero, List.set_cons_succ]; go_big_quiet_on)
                   | (refine quiet_load_cell 46 (.tmp 149) rfl ⟨qx, 1, none⟩ rfl (.int .u16 0) _ (fun _ h => h.2.cell 1) rfl Try.underlying46 ?_; simp only [Act.put, List.setIfInBounds_toArray, List.set_cons_zero, List.set_cons_succ]; go_big_quiet_on)
                   | (refine quiet_load_cell 46 (.tmp 151) rfl ⟨q, 2, none⟩ rfl (.int .u16 0) _ (fun _ h => h.1.bq.cell 2) rfl Try.underlying46 ?_; simp only [Act.put, List.setIfInBounds_toArray, List.set_cons_zero, List.set_cons_succ]; go_big_quiet_on)
                   | (refine quiet_load_cell 5 (.tmp 156) rfl ⟨qx, 2, none⟩ rfl (.int .u8 0) _ (fun _ h => h.2.cell 2) rfl Try.underlying5 ?_; simp only [Act.put, List.setIfInBounds_toArray, List.set_cons_zero, List.set_cons_succ]; go_big_quiet_on)
                   | (refine quiet_load_cell 5 (.tmp 158) rfl ⟨q, 3, none⟩ rfl (.int .u8 0) _ (fun _ h => h.1.bq.cell 3) rfl Try.underlying5 ?_; simp only [Act.put, List.setIfInBounds_toArray, List.set_cons_zero, List.set_cons_succ]; go_big_quiet_on)
                   | (refine quiet_load_cell 4 (.tmp 166) rfl ⟨q, 4, none⟩ rfl (.bool mu0) _ (fun _ h => h.1.bq.cell 4) rfl Try.underlying4 ?_; simp only [Act.put, List.setIfInBounds_toArray, List.set_cons_zero, List.set_cons_succ]; go_big_quiet_on)
                   | (refine quiet_load_cell 5 (.tmp 171) rfl ⟨q, 3, none⟩ rfl (.int .u8 0) _ (fun _ h => h.1.bq.cell 3) rfl Try.underlying5 ?_; simp only [Act.put, List.setIfInBounds_toArray, List.set_cons_zero, List.set_cons_succ]; go_big_quiet_on)
                   | (go_big_quiet_op
                      first
                        | go_big_quiet_on
                        | (refine ⟨_, fun _ _ => by with_reducible rfl, ?_⟩; go_big_quiet_on)
                        | (apply Exists.intro
                           refine ⟨fun W hW => ?_, ?_⟩
                           · (go_at_call 25; with_reducible refine (cW.out _).mono ?_; rintro x w' ⟨rfl, hn⟩; exact ⟨rfl, PW.next hW.1 hn, hW.2.only hn (fun x => x)⟩)
                           go_big_quiet_on))))
            refine wpQuiet_nil ?_
            intro w8 h8
            go_wp2
            go_ret
            exact ⟨rfl, h8.1.ho⟩
          · rw [hf] at hF
            simp only [Option.getD_some, Option.isSome_some, Ent.cells] at hF
            replace hF := Lib.hid hF
            have jx : ((x.num : Int) == 0) = false := beq_false_of_ne (by omega)
            have jx2 : ((x.num : Int) != 0) = true := bne_iff_ne.2 (by omega)
            have jx3 : ¬ (x.num : Int) = 0 := by omega
            have jx4 : ¬ x.num = 0 := hxn
            go_wp2_with fail
            refine hF.out.mono ?_
            rintro r w9 ⟨rfl, o9⟩
            have hqx := Blk.new w9 63 #[.string x.nm, .int .u16 x.num, .int .u8 x.kind]
            have hp10 := (hp8.next o9).next ((Only.refl (fun _ => False) w9).alloc (.cells #[.string x.nm, .int .u16 x.num, .int .u8 x.kind] 63))
            clear hp8 l0 l1 o9 hF
            cases mu0
            · clear hxm
              go_upto_region 19 with fail
              generalize World.alloc w9 _ = w10 at *
              generalize w9.heap.size = qx at *
              refine wp_region_class (fun W => PW2 q g #[.int .u16 (lastU up0), .string nm0, .int .u16 x.num, .int .u8 x.kind, .bool false, .slice (some ⟨ub, uo, none⟩) (m + 1) cu] (some ⟨ub, uo, none⟩) up0 cu A2 ts.length c2 T dd qx #[.string x.nm, .int .u16 x.num, .int .u8 x.kind] w W) (by kernel_rfl) (by kernel_rfl) ⟨hp10.next (Only.refl _ _).drew, hqx.drew⟩ ?_
              repeat (first
                | go_big_quiet_skip
                | (go_big_quiet_want
                   first
                     | (refine quiet_load_cell 46 (.tmp 129) rfl ⟨q, 0, none⟩ rfl (.int .u16 (lastU up0)) _ (fun _ h => h.1.bq.cell 0) rfl Try.underlying46 ?_; simp only [Act.put, List.setIfInBounds_toArray, List.set_cons_zero, List.set_cons_succ]; go_big_quiet_on)
                     | (refine quiet_load_cell 47 (.tmp 131) rfl ⟨q, 5, none⟩ rfl (.slice (some ⟨ub, uo, none⟩) (m + 1) cu) _ (fun _ h => h.1.bq.cell 5) rfl Try.underlying47 ?_; simp only [Act.put, List.setIfInBounds_toArray, List.set_cons_zero, List.set_cons_succ]; go_big_quiet_on)
                     | (refine quiet_load_cell 47 (.tmp 133) rfl ⟨q, 5, none⟩ rfl (.slice (some ⟨ub, uo, none⟩) (m + 1) cu) _ (fun _ h => h.1.bq.cell 5) rfl Try.underlying47 ?_; simp only [Act.put, List.setIfInBounds_toArray, List.set_cons_zero, List.set_cons_succ]; go_big_quiet_on)
                     | (refine quiet_load_cell 46 (.tmp 137) rfl ⟨ub, uo + m, none⟩ rfl (.int .u16 (lastU up0)) _ (fun W h => hlast.out W h.1) rfl Try.underlying46 ?_; simp only [Act.put, List.setIfInBounds_toArray, List.set_cons_zero, List.set_cons_succ]; go_big_quiet_on)
                     | (refine quiet_load_cell 46 (.tmp 143) rfl ⟨q, 2, none⟩ rfl (.int .u16 x.num) _ (fun _ h => h.1.bq.cell 2) rfl Try.underlying46 ?_; simp only [Act.put, List.setIfInBounds_toArray, List.set_cons_zero, List.set_cons_succ]; go_big_quiet_on)
                     | (refine quiet_load_cell 46 (.tmp 149) rfl ⟨qx, 1, none⟩ rfl (.int .u16 x.num) _ (fun _ h => h.2.cell 1) rfl Try.underlying46 ?_; simp only [Act.put, List.setIfInBounds_toArray, List.set_cons_zero, List.set_cons_succ]; go_big_quiet_on)
                     | (refine quiet_load_cell 46 (.tmp 151) rfl ⟨q, 2, none⟩ rfl (.int .u16 x.num) _ (fun _ h => h.1.bq.cell 2) rfl Try.underlying46 ?_; simp only [Act.put, List.setIfInBounds_toArray, List.set_cons_zero, List.set_cons_succ]; go_big_quiet_on)
                     | (refine quiet_load_cell 5 (.tmp 156) rfl ⟨qx, 2, none⟩ rfl (.int .u8 x.kind) _ (fun _ h => h.2.cell 2) rfl Try.underlying5 ?_; simp only [Act.put, List.setIfInBounds_toArray, List.set_cons_zero, List.set_cons_succ]; go_big_quiet_on)
                     | (refine quiet_load_cell 5 (.tmp 158) rfl ⟨q, 3, none⟩ rfl (.int .u8 x.kind) _ (fun _ h => h.1.bq.cell 3) rfl Try.underlying5 ?_; simp only [Act.put, List.setIfInBounds_toArray, List.set_cons_zero, List.set_cons_succ]; go_big_quiet_on)
                     | (refine quiet_load_cell 4 (.tmp 166) rfl ⟨q, 4, none⟩ rfl (.bool false) _ (fun _ h => h.1.bq.cell 4) rfl Try.underlying4 ?_; simp only [Act.put, List.setIfInBounds_toArray, List.set_cons_zero, List.set_cons_succ]; go_big_quiet_on)
                     | (refine quiet_load_cell 5 (.tmp 171) rfl ⟨q, 3, none⟩ rfl (.int .u8 x.kind) _ (fun _ h => h.1.bq.cell 3) rfl Try.underlying5 ?_; simp only [Act.put, List.setIfInBounds_toArray, List.set_cons_zero, List.set_cons_succ]; go_big_quiet_on)
                     | (go_big_quiet_op
                        first
                          | go_big_quiet_on
                          | (refine ⟨_, fun _ _ => by with_reducible rfl, ?_⟩; go_big_quiet_on)
                          | (apply Exists.intro
                             refine ⟨fun W hW => ?_, ?_⟩
                             · (go_at_call 25; with_reducible refine (cW.out _).mono ?_; rintro x w' ⟨rfl, hn⟩; exact ⟨rfl, PW.next hW.1 hn, hW.2.only hn (fun x => x)⟩)
                             go_big_quiet_on))))
              refine wpQuiet_nil ?_
              intro w8 h8
              go_wp2
              go_ret
              exact ⟨rfl, h8.1.ho⟩
            · have hk2 := hxm rfl
              generalize x.kind = xk at *
              subst hk2
              simp only [show ((2 : Nat) : Int) = 2 from rfl] at hp10 hqx ⊢
              go_upto_region 19 with fail
              generalize World.alloc w9 _ = w10 at *
              generalize w9.heap.size = qx at *
              refine wp_region_class (fun W => PW2 q g #[.int .u16 (lastU up0), .string nm0, .int .u16 x.num, .int .u8 2, .bool true, .slice (some ⟨ub, uo, none⟩) (m + 1) cu] (some ⟨ub, uo, none⟩) up0 cu A2 ts.length c2 T dd qx #[.string x.nm, .int .u16 x.num, .int .u8 2] w W) (by kernel_rfl) (by kernel_rfl) ⟨hp10.next (Only.refl _ _).drew, hqx.drew⟩ ?_
              repeat (first
                | go_big_quiet_skip
                | (go_big_quiet_want
                   first
                     | (refine quiet_load_cell 46 (.tmp 129) rfl ⟨q, 0, none⟩ rfl (.int .u16 (lastU up0)) _ (fun _ h => h.1.bq.cell 0) rfl Try.underlying46 ?_; simp only [Act.put, List.setIfInBounds_toArray, List.set_cons_zero, List.set_cons_succ]; go_big_quiet_on)
                     | (refine quiet_load_cell 47 (.tmp 131) rfl ⟨q, 5, none⟩ rfl (.slice (some ⟨ub, uo, none⟩) (m + 1) cu) _ (fun _ h => h.1.bq.cell 5) rfl Try.underlying47 ?_; simp only [Act.put, List.setIfInBounds_toArray, List.set_cons_zero, List.set_cons_succ]; go_big_quiet_on)
                     | (refine quiet_load_cell 47 (.tmp 133) rfl ⟨q, 5, none⟩ rfl (.slice (some ⟨ub, uo, none⟩) (m + 1) cu) _ (fun _ h => h.1.bq.cell 5) rfl Try.underlying47 ?_; simp only [Act.put, List.setIfInBounds_toArray, List.set_cons_zero, List.set_cons_succ]; go_big_quiet_on)
                     | (refine quiet_load_cell 46 (.tmp 137) rfl ⟨ub, uo + m, none⟩ rfl (.int .u16 (lastU up0)) _ (fun W h => hlast.out W h.1) rfl Try.underlying46 ?_; simp only [Act.put, List.setIfInBounds_toArray, List.set_cons_zero, List.set_cons_succ]; go_big_quiet_on)
                     | (refine quiet_load_cell 46 (.tmp 143) rfl ⟨q, 2, none⟩ rfl (.int .u16 x.num) _ (fun _ h => h.1.bq.cell 2) rfl Try.underlying46 ?_; simp only [Act.put, List.setIfInBounds_toArray, List.set_cons_zero, List.set_cons_succ]; go_big_quiet_on)
                     | (refine quiet_load_cell 46 (.tmp 149) rfl ⟨qx, 1, none⟩ rfl (.int .u16 x.num) _ (fun _ h => h.2.cell 1) rfl Try.underlying46 ?_; simp only [Act.put, List.setIfInBounds_toArray, List.set_cons_zero, List.set_cons_succ]; go_big_quiet_on)
                     | (refine quiet_load_cell 46 (.tmp 151) rfl ⟨q, 2, none⟩ rfl (.int .u16 x.num) _ (fun _ h => h.1.bq.cell 2) rfl Try.underlying46 ?_; simp only [Act.put, List.setIfInBounds_toArray, List.set_cons_zero, List.set_cons_succ]; go_big_quiet_on)
                     | (refine quiet_load_cell 5 (.tmp 156) rfl ⟨qx, 2, none⟩ rfl (.int .u8 2) _ (fun _ h => h.2.cell 2) rfl Try.underlying5 ?_; simp only [Act.put, List.setIfInBounds_toArray, List.set_cons_zero, List.set_cons_succ]; go_big_quiet_on)
                     | (refine quiet_load_cell 5 (.tmp 158) rfl ⟨q, 3, none⟩ rfl (.int .u8 2) _ (fun _ h => h.1.bq.cell 3) rfl Try.underlying5 ?_; simp only [Act.put, List.setIfInBounds_toArray, List.set_cons_zero, List.set_cons_succ]; go_big_quiet_on)
                     | (refine quiet_load_cell 4 (.tmp 166) rfl ⟨q, 4, none⟩ rfl (.bool true) _ (fun _ h => h.1.bq.cell 4) rfl Try.underlying4 ?_; simp only [Act.put, List.setIfInBounds_toArray, List.set_cons_zero, List.set_cons_succ]; go_big_quiet_on)
                     | (refine quiet_load_cell 5 (.tmp 171) rfl ⟨q, 3, none⟩ rfl (.int .u8 2) _ (fun _ h => h.1.bq.cell 3) rfl Try.underlying5 ?_; simp only [Act.put, List.setIfInBounds_toArray, List.set_cons_zero, List.set_cons_succ]; go_big_quiet_on)
                     | (go_big_quiet_op
                        first
                          | go_big_quiet_on
                          | (refine ⟨_, fun _ _ => by with_reducible rfl, ?_⟩; go_big_quiet_on)
                          | (apply Exists.intro
                             refine ⟨fun W hW => ?_, ?_⟩
                             · (go_at_call 25; with_reducible refine (cW.out _).mono ?_; rintro x w' ⟨rfl, hn⟩; exact ⟨rfl, PW.next hW.1 hn, hW.2.only hn (fun x => x)⟩)
                             go_big_quiet_on))))
              refine wpQuiet_nil ?_
              intro w8 h8
              go_wp2
              go_ret
              exact ⟨rfl, h8.1.ho⟩
      · have hno := hok'.1 he
        simp only [noF, Fnd.mk.injEq] at hno
        obtain ⟨rfl, rfl, rfl, rfl, rfl, rfl⟩ := hno
        have ez : (ee != 0) = true := by simp [he]
        have hz := fun w => show (zeroValue 52).run Try.prog w = .ok (.agg #[.int .u16 0, .string ⟨#[]⟩, .int .u16 0, .int .u8 0, .bool false, .slice none 0 0]) w by kernel_rfl
        have hS := sameW_any 0 0 0 ⟨#[]⟩ false [] Au none cu 0 w7 hp7.ru (RowU.nil w7) (by decide)
        simp only [List.length_nil, show ((0 : Nat) : Int) = 0 from rfl] at hS l0 l1 l2 l3 l4 l5 ⊢
        replace hS := Lib.hid hS
        have hho := hp7.ho
        clear hok' hbq hp7
        go_wp2_with fail
        refine hS.out.mono ?_
        rintro r w8 ⟨rfl, o8⟩
        go_wp2_with fail
        refine (wakesT_any w8).mono ?_
        rintro r w9 ⟨rfl, o9⟩
        go_wp2
        go_ret
        exact ⟨rfl, (hho.trans o8).trans o9⟩
    · have hne : ¬ path.toList = [] := fun e => by
        rw [ByteArray.toList_eq] at e
        have h9 := congrArg List.length e
        rw [Array.length_toList] at h9
        have : path.size = 0 := h9
        omega
      rw [hsl.out _ hs1 h0] at hW2
      replace hW2 := Lib.hid hW2
      clear hs1 hs2 hsl b1
      go_upto_region 8 with fail
      go_wp2_with fail
      refine hW2.out.mono ?_
      rintro r w5 ⟨d2, Au2, cu2, hd2, rfl, hu2, hb5, ho5⟩
      rw [hTl.out] at hb5
      have hp5 := hpw.turn ho5 hb5
      simp only [Fnd.cells] at hu2 ⊢
      have hq9 := Blk.new w5 49 #[.int .u16 d0, .string nm0, .int .u16 n0, .int .u8 kd0, .bool mu0, .slice Au2 up0.length cu2]
      have oa := (Only.refl (fun _ => False) w5).alloc (.cells #[.int .u16 d0, .string nm0, .int .u16 n0, .int .u8 kd0, .bool mu0, .slice Au2 up0.length cu2] 49)
      have hp6 := hp5.next oa
      have hu6 := hu2.only oa (fun _ _ x => x)
      clear hW2 hp5 hpw oa hb5 ho5
      go_upto_region 9 with fail
      generalize World.alloc w5 _ = w6 at *
      have hbq := hp6.bq
      have l0 := hbq.cell 0
      have l1 := hbq.cell 1
      have l2 := hbq.cell 2
      have l3 := hbq.cell 3
      have l4 := hbq.cell 4
      have l5 := hbq.cell 5
      have k0 := hq9.cell 0
      have k1 := hq9.cell 1
      have k2 := hq9.cell 2
      have k3 := hq9.cell 3
      have k4 := hq9.cell 4
      have k5 := hq9.cell 5
      simp only [List.getElem?_toArray, List.getElem?_cons_zero, List.getElem?_cons_succ] at l0 l1 l2 l3 l4 l5 k0 k1 k2 k3 k4 k5
      generalize w5.heap.size = q9 at *
      have hA := alike_any d0 n0 kd0 nm0 mu0 up0 Au Au2 cu cu2 w6 hp6.ru hu6 (by have := hul.out; omega)
      replace hA := Lib.hid hA
      clear hbq hq9 hu6
      go_wp2_with fail
      refine hA.out.mono ?_
      rintro r w7 ⟨rfl, o7⟩
      have hp7 := hp6.next o7
      clear hp6 o7 hA k0 k1 k2 k3 k4 k5 l0 l1 l2 l3 l4 l5
      go_upto_region 11 with fail
      revert hp7
      generalize (d + d2) = dd
      intro hp7
      clear hu2 i1 i0 hd hd2
      have hbq := hp7.bq
      have l0 := hbq.cell 0
      have l1 := hbq.cell 1
      have l2 := hbq.cell 2
      have l3 := hbq.cell 3
      have l4 := hbq.cell 4
      have l5 := hbq.cell 5
      simp only [List.getElem?_toArray, List.getElem?_cons_zero, List.getElem?_cons_succ] at l0 l1 l2 l3 l4 l5
      have hok' := hok.out
      by_cases he : ee = 0
      · have hok2 := hok'.2 he
        subst he
        have ez : ((0 : Int) != 0) = false := rfl
        obtain ⟨hh, hcase⟩ := hok2
        simp only at hh hcase
        have hpos := head_len hh
        obtain ⟨ub, uo, rfl, hub, huc⟩ := hp7.ru.1.2 hpos
        have u0 : w7.cell? ⟨ub, uo, none⟩ = some (.int .u16 1) := huc 0 _ (by unfold u16s; rw [List.getElem?_map, ← List.head?_eq_getElem?, hh]; rfl)
        obtain ⟨m, hm⟩ : ∃ m, up0.length = m + 1 := ⟨up0.length - 1, by omega⟩
        have hlast : ∀ W, PW q g #[.int .u16 d0, .string nm0, .int .u16 n0, .int .u8 kd0, .bool mu0, .slice (some ⟨ub, uo, none⟩) (m + 1) cu] (some ⟨ub, uo, none⟩) up0 cu A2 ts.length c2 T dd w W → W.cell? ⟨ub, uo + m, none⟩ = some (.int .u16 (lastU up0)) := fun W hW => by
          obtain ⟨b', o', e', _, hc'⟩ := hW.ru.1.2 hpos
          cases e'
          refine hc' m _ ?_
          unfold u16s lastU
          rw [List.getElem?_map, List.getLastD_eq_getLast?, List.getLast?_eq_getElem?, hm, Nat.add_sub_cancel]
          have : up0[m]? = some (up0[m]'(by omega)) := List.getElem?_eq_getElem (by omega)
          rw [this]
          rfl
        rw [hm] at hp7 l5 ⊢
        have hup : ¬ up0 = [] := fun e => by subst e; cases hh
        replace hm := Lib.hid hm
        replace hlast := Lib.hid hlast
        clear hok' hbq huc
        rcases hcase with ⟨rfl, rfl, rfl, rfl⟩ | ⟨hd0, hdl, hes, hfind⟩
        · go_upto_region 16 with fail
          have jw : IntKind.i64.wrap ((m : Int) + 1 - 1) = (m : Int) := by rw [show (m : Int) + 1 - 1 = (m : Int) by omega]; exact IntWalk.i64_in _ (by have := hul.out; have := hm.out; omega)
          have jw2 : IntKind.i64.wrap (m : Int) = (m : Int) := IntWalk.i64_in _ (by have := hul.out; have := hm.out; omega)
          have j0 : (0 : Int) ≤ (m : Int) := by omega
          have j1 : (m : Int) < (m : Int) + 1 := by omega
          have j2 : ¬ (m : Int) + 1 ≤ (m : Int) := by omega
          have j3 : m < m + 1 := by omega
          have cW := Lib.hid wakesT_any
          refine wp_region_class (fun W => PW q g _ _ up0 cu A2 ts.length c2 T dd w W) (by kernel_rfl) (by kernel_rfl) (hp7.next (Only.refl _ _).drew) ?_
          repeat (first
            | go_big_quiet_skip
            | (go_big_quiet_want
               first
                 | (refine quiet_load_cell 9 (.tmp 88) rfl ⟨q, 1, none⟩ rfl (.string ⟨#[]⟩) _ (fun _ h => h.bq.cell 1) rfl Try.underlying9 ?_; simp only [Act.put, List.setIfInBounds_toArray, List.set_cons_zero, List.set_cons_succ]; go_big_quiet_on)
                 | (refine quiet_load_cell 5 (.tmp 92) rfl ⟨q, 3, none⟩ rfl (.int .u8 2) _ (fun _ h => h.bq.cell 3) rfl Try.underlying5 ?_; simp only [Act.put, List.setIfInBounds_toArray, List.set_cons_zero, List.set_cons_succ]; go_big_quiet_on)
                 | (refine quiet_load_cell 46 (.tmp 97) rfl ⟨q, 2, none⟩ rfl (.int .u16 (lastU up0)) _ (fun _ h => h.bq.cell 2) rfl Try.underlying46 ?_; simp only [Act.put, List.setIfInBounds_toArray, List.set_cons_zero, List.set_cons_succ]; go_big_quiet_on)
                 | (refine quiet_load_cell 47 (.tmp 99) rfl ⟨q, 5, none⟩ rfl (.slice (some ⟨ub, uo, none⟩) (m + 1) cu) _ (fun _ h => h.bq.cell 5) rfl Try.underlying47 ?_; simp only [Act.put, List.setIfInBounds_toArray, List.set_cons_zero, List.set_cons_succ]; go_big_quiet_on)
                 | (refine quiet_load_cell 47 (.tmp 101) rfl ⟨q, 5, none⟩ rfl (.slice (some ⟨ub, uo, none⟩) (m + 1) cu) _ (fun _ h => h.bq.cell 5) rfl Try.underlying47 ?_; simp only [Act.put, List.setIfInBounds_toArray, List.set_cons_zero, List.set_cons_succ]; go_big_quiet_on)
                 | (refine quiet_load_cell 46 (.tmp 105) rfl ⟨ub, uo + m, none⟩ rfl (.int .u16 (lastU up0)) _ (fun W h => hlast.out W h) rfl Try.underlying46 ?_; simp only [Act.put, List.setIfInBounds_toArray, List.set_cons_zero, List.set_cons_succ]; go_big_quiet_on)
                 | (go_big_quiet_op
                    first
                      | go_big_quiet_on
                      | (refine ⟨_, fun _ _ => by with_reducible rfl, ?_⟩; go_big_quiet_on)
                      | (apply Exists.intro
                         refine ⟨fun W hW => ?_, ?_⟩
                         · (go_at_call 25; with_reducible refine (cW.out _).mono ?_; rintro x w' ⟨rfl, hn⟩; exact ⟨rfl, PW.next hW hn⟩)
                         go_big_quiet_on))))
          refine wpQuiet_nil ?_
          intro w8 h8
          go_wp2
          go_ret
          exact ⟨rfl, h8.ho⟩
        · subst hdl
          have hlt := ents_lt hes hgd.1
          have hga := ents_good hgd (lastU up0)
          have hE := entries_any T A2 c2 g (lastU up0) dd w7 (by rw [hTl.out]; exact hp7.bg) hp7.rt hlt hgd.1 hT100.out
          have jd : ((lastU up0 : Int) == 0) = false := beq_false_of_ne (by omega)
          have jd2 : ¬ (lastU up0 : Int) = 0 := by omega
          have jw : IntKind.i64.wrap ((m : Int) + 1 - 1) = (m : Int) := by rw [show (m : Int) + 1 - 1 = (m : Int) by omega]; exact IntWalk.i64_in _ (by have := hul.out; have := hm.out; omega)
          have jw2 : IntKind.i64.wrap (m : Int) = (m : Int) := IntWalk.i64_in _ (by have := hul.out; have := hm.out; omega)
          have j0 : (0 : Int) ≤ (m : Int) := by omega
          have j1 : (m : Int) < (m : Int) + 1 := by omega
          have j2 : ¬ (m : Int) + 1 ≤ (m : Int) := by omega
          have j3 : m < m + 1 := by omega
          have cW := Lib.hid wakesT_any
          rw [hes] at hE
          generalize (entsS T (lastU up0)).1 = L at *
          replace hE := Lib.hid hE
          clear hes hlt
          go_wp2_with fail
          refine hE.out.mono ?_
          rintro r w8 ⟨A', c', rfl, hL, o8⟩
          have hF := findD_any L A' c' nm0 w8 hL (by have := (are_ok hga).1; omega) (rise_of hga)
          have hp8 := hp7.next o8
          have hbq8 := hp8.bq
          have l0 := hbq8.cell 0
          have l1 := hbq8.cell 1
          simp only [List.getElem?_toArray, List.getElem?_cons_zero, List.getElem?_cons_succ] at l0 l1
          clear hE hL o8 hp7 hga hbq8
          rcases hfind with ⟨hf, rfl, rfl⟩ | ⟨x, hf, rfl, hxn, rfl, hxm⟩
          · rw [hf] at hF
            simp only [Option.getD_none, Option.isSome_none, noEnt, Ent.cells] at hF
            replace hF := Lib.hid hF
            go_wp2_with fail
            refine hF.out.mono ?_
            rintro r w9 ⟨rfl, o9⟩
            have hqx := Blk.new w9 63 #[.string ⟨#[]⟩, .int .u16 ((0 : Nat) : Int), .int .u8 ((0 : Nat) : Int)]
            have hp10 := (hp8.next o9).next ((Only.refl (fun _ => False) w9).alloc (.cells #[.string ⟨#[]⟩, .int .u16 ((0 : Nat) : Int), .int .u8 ((0 : Nat) : Int)] 63))
            clear hp8 l0 l1 o9 hF
            simp only [show ((0 : Nat) : Int) = 0 from rfl] at hp10 hqx ⊢
            go_upto_region 19 with fail
            generalize World.alloc w9 _ = w10 at *
            generalize w9.heap.size = qx at *
            refine wp_region_class (fun W => PW2 q g #[.int .u16 (lastU up0), .string nm0, .int .u16 0, .int .u8 0, .bool mu0, .slice (some ⟨ub, uo, none⟩) (m + 1) cu] (some ⟨ub, uo, none⟩) up0 cu A2 ts.length c2 T dd qx #[.string ⟨#[]⟩, .int .u16 0, .int .u8 0] w W) (by kernel_rfl) (by kernel_rfl) ⟨hp10.next (Only.refl _ _).drew, hqx.drew⟩ ?_
            repeat (first
              | go_big_quiet_skip
              | (go_big_quiet_want
                 first
                   | (refine quiet_load_cell 46 (.tmp 129) rfl ⟨q, 0, none⟩ rfl (.int .u16 (lastU up0)) _ (fun _ h => h.1.bq.cell 0) rfl Try.underlying46 ?_; simp only [Act.put, List.setIfInBounds_toArray, List.set_cons_zero, List.set_cons_succ]; go_big_quiet_on)
                   | (refine quiet_load_cell 47 (.tmp 131) rfl ⟨q, 5, none⟩ rfl (.slice (some ⟨ub, uo, none⟩) (m + 1) cu) _ (fun _ h => h.1.bq.cell 5) rfl Try.underlying47 ?_; simp only [Act.put, List.setIfInBounds_toArray, List.set_cons_zero, List.set_cons_succ]; go_big_quiet_on)
                   | (refine quiet_load_cell 47 (.tmp 133) rfl ⟨q, 5, none⟩ rfl (.slice (some ⟨ub, uo, none⟩) (m + 1) cu) _ (fun _ h => h.1.bq.cell 5) rfl Try.underlying47 ?_; simp only [Act.put, List.setIfInBounds_toArray, List.set_cons_zero, List.set_cons_succ]; go_big_quiet_on)
                   | (refine quiet_load_cell 46 (.tmp 137) rfl ⟨ub, uo + m, none⟩ rfl (.int .u16 (lastU up0)) _ (fun W h => hlast.out W h.1) rfl Try.underlying46 ?_; simp only [Act.put, List.setIfInBounds_toArray, List.set_cons_zero, List.set_cons_succ]; go_big_quiet_on)
                   | (refine quiet_load_cell 46 (.tmp 143) rfl ⟨q, 2, none⟩ rfl (.int .u16 0) _ (fun _ h => h.1.bq.cell 2) rfl Try.underlying46 ?_; simp only [Act.put, List.setIfInBounds_toArray, List.set_cons_zero, List.set_cons_succ]; go_big_quiet_on)
                   | (refine quiet_load_cell 46 (.tmp 149) rfl ⟨qx, 1, none⟩ rfl (.int .u16 0) _ (fun _ h => h.2.cell 1) rfl Try.underlying46 ?_; simp only [Act.put, List.setIfInBounds_toArray, List.set_cons_zero, List.set_cons_succ]; go_big_quiet_on)
                   | (refine quiet_load_cell 46 (.tmp 151) rfl ⟨q, 2, none⟩ rfl (.int .u16 0) _ (fun _ h => h.1.bq.cell 2) rfl Try.underlying46 ?_; simp only [Act.put, List.setIfInBounds_toArray, List.set_cons_zero, List.set_cons_succ]; go_big_quiet_on)
                   | (refine quiet_load_cell 5 (.tmp 156) rfl ⟨qx, 2, none⟩ rfl (.int .u8 0) _ (fun _ h => h.2.cell 2) rfl Try.underlying5 ?_; simp only [Act.put, List.setIfInBounds_toArray, List.set_cons_zero, List.set_cons_succ]; go_big_quiet_on)
                   | (refine quiet_load_cell 5 (.tmp 158) rfl ⟨q, 3, none⟩ rfl (.int .u8 0) _ (fun _ h => h.1.bq.cell 3) rfl Try.underlying5 ?_; simp only [Act.put, List.setIfInBounds_toArray, List.set_cons_zero, List.set_cons_succ]; go_big_quiet_on)
                   | (refine quiet_load_cell 4 (.tmp 166) rfl ⟨q, 4, none⟩ rfl (.bool mu0) _ (fun _ h => h.1.bq.cell 4) rfl Try.underlying4 ?_; simp only [Act.put, List.setIfInBounds_toArray, List.set_cons_zero, List.set_cons_succ]; go_big_quiet_on)
                   | (refine quiet_load_cell 5 (.tmp 171) rfl ⟨q, 3, none⟩ rfl (.int .u8 0) _ (fun _ h => h.1.bq.cell 3) rfl Try.underlying5 ?_; simp only [Act.put, List.setIfInBounds_toArray, List.set_cons_zero, List.set_cons_succ]; go_big_quiet_on)
                   | (go_big_quiet_op
                      first
                        | go_big_quiet_on
                        | (refine ⟨_, fun _ _ => by with_reducible rfl, ?_⟩; go_big_quiet_on)
                        | (apply Exists.intro
                           refine ⟨fun W hW => ?_, ?_⟩
                           · (go_at_call 25; with_reducible refine (cW.out _).mono ?_; rintro x w' ⟨rfl, hn⟩; exact ⟨rfl, PW.next hW.1 hn, hW.2.only hn (fun x => x)⟩)
                           go_big_quiet_on))))
            refine wpQuiet_nil ?_
            intro w8 h8
            go_wp2
            go_ret
            exact ⟨rfl, h8.1.ho⟩
          · rw [hf] at hF
            simp only [Option.getD_some, Option.isSome_some, Ent.cells] at hF
            replace hF := Lib.hid hF
            have jx : ((x.num : Int) == 0) = false := beq_false_of_ne (by omega)
            have jx2 : ((x.num : Int) != 0) = true := bne_iff_ne.2 (by omega)
            have jx3 : ¬ (x.num : Int) = 0 := by omega
            have jx4 : ¬ x.num = 0 := hxn
            go_wp2_with fail
            refine hF.out.mono ?_
            rintro r w9 ⟨rfl, o9⟩
            have hqx := Blk.new w9 63 #[.string x.nm, .int .u16 x.num, .int .u8 x.kind]
            have hp10 := (hp8.next o9).next ((Only.refl (fun _ => False) w9).alloc (.cells #[.string x.nm, .int .u16 x.num, .int .u8 x.kind] 63))
            clear hp8 l0 l1 o9 hF
            cases mu0
            · clear hxm
              go_upto_region 19 with fail
              generalize World.alloc w9 _ = w10 at *
              generalize w9.heap.size = qx at *
              refine wp_region_class (fun W => PW2 q g #[.int .u16 (lastU up0), .string nm0, .int .u16 x.num, .int .u8 x.kind, .bool false, .slice (some ⟨ub, uo, none⟩) (m + 1) cu] (some ⟨ub, uo, none⟩) up0 cu A2 ts.length c2 T dd qx #[.string x.nm, .int .u16 x.num, .int .u8 x.kind] w W) (by kernel_rfl) (by kernel_rfl) ⟨hp10.next (Only.refl _ _).drew, hqx.drew⟩ ?_
              repeat (first
                | go_big_quiet_skip
                | (go_big_quiet_want
                   first
                     | (refine quiet_load_cell 46 (.tmp 129) rfl ⟨q, 0, none⟩ rfl (.int .u16 (lastU up0)) _ (fun _ h => h.1.bq.cell 0) rfl Try.underlying46 ?_; simp only [Act.put, List.setIfInBounds_toArray, List.set_cons_zero, List.set_cons_succ]; go_big_quiet_on)
                     | (refine quiet_load_cell 47 (.tmp 131) rfl ⟨q, 5, none⟩ rfl (.slice (some ⟨ub, uo, none⟩) (m + 1) cu) _ (fun _ h => h.1.bq.cell 5) rfl Try.underlying47 ?_; simp only [Act.put, List.setIfInBounds_toArray, List.set_cons_zero, List.set_cons_succ]; go_big_quiet_on)
                     | (refine quiet_load_cell 47 (.tmp 133) rfl ⟨q, 5, none⟩ rfl (.slice (some ⟨ub, uo, none⟩) (m + 1) cu) _ (fun _ h => h.1.bq.cell 5) rfl Try.underlying47 ?_; simp only [Act.put, List.setIfInBounds_toArray, List.set_cons_zero, List.set_cons_succ]; go_big_quiet_on)
                     | (refine quiet_load_cell 46 (.tmp 137) rfl ⟨ub, uo + m, none⟩ rfl (.int .u16 (lastU up0)) _ (fun W h => hlast.out W h.1) rfl Try.underlying46 ?_; simp only [Act.put, List.setIfInBounds_toArray, List.set_cons_zero, List.set_cons_succ]; go_big_quiet_on)
                     | (refine quiet_load_cell 46 (.tmp 143) rfl ⟨q, 2, none⟩ rfl (.int .u16 x.num) _ (fun _ h => h.1.bq.cell 2) rfl Try.underlying46 ?_; simp only [Act.put, List.setIfInBounds_toArray, List.set_cons_zero, List.set_cons_succ]; go_big_quiet_on)
                     | (refine quiet_load_cell 46 (.tmp 149) rfl ⟨qx, 1, none⟩ rfl (.int .u16 x.num) _ (fun _ h => h.2.cell 1) rfl Try.underlying46 ?_; simp only [Act.put, List.setIfInBounds_toArray, List.set_cons_zero, List.set_cons_succ]; go_big_quiet_on)
                     | (refine quiet_load_cell 46 (.tmp 151) rfl ⟨q, 2, none⟩ rfl (.int .u16 x.num) _ (fun _ h => h.1.bq.cell 2) rfl Try.underlying46 ?_; simp only [Act.put, List.setIfInBounds_toArray, List.set_cons_zero, List.set_cons_succ]; go_big_quiet_on)
                     | (refine quiet_load_cell 5 (.tmp 156) rfl ⟨qx, 2, none⟩ rfl (.int .u8 x.kind) _ (fun _ h => h.2.cell 2) rfl Try.underlying5 ?_; simp only [Act.put, List.setIfInBounds_toArray, List.set_cons_zero, List.set_cons_succ]; go_big_quiet_on)
                     | (refine quiet_load_cell 5 (.tmp 158) rfl ⟨q, 3, none⟩ rfl (.int .u8 x.kind) _ (fun _ h => h.1.bq.cell 3) rfl Try.underlying5 ?_; simp only [Act.put, List.setIfInBounds_toArray, List.set_cons_zero, List.set_cons_succ]; go_big_quiet_on)
                     | (refine quiet_load_cell 4 (.tmp 166) rfl ⟨q, 4, none⟩ rfl (.bool false) _ (fun _ h => h.1.bq.cell 4) rfl Try.underlying4 ?_; simp only [Act.put, List.setIfInBounds_toArray, List.set_cons_zero, List.set_cons_succ]; go_big_quiet_on)
                     | (refine quiet_load_cell 5 (.tmp 171) rfl ⟨q, 3, none⟩ rfl (.int .u8 x.kind) _ (fun _ h => h.1.bq.cell 3) rfl Try.underlying5 ?_; simp only [Act.put, List.setIfInBounds_toArray, List.set_cons_zero, List.set_cons_succ]; go_big_quiet_on)
                     | (go_big_quiet_op
                        first
                          | go_big_quiet_on
                          | (refine ⟨_, fun _ _ => by with_reducible rfl, ?_⟩; go_big_quiet_on)
                          | (apply Exists.intro
                             refine ⟨fun W hW => ?_, ?_⟩
                             · (go_at_call 25; with_reducible refine (cW.out _).mono ?_; rintro x w' ⟨rfl, hn⟩; exact ⟨rfl, PW.next hW.1 hn, hW.2.only hn (fun x => x)⟩)
                             go_big_quiet_on))))
              refine wpQuiet_nil ?_
              intro w8 h8
              go_wp2
              go_ret
              exact ⟨rfl, h8.1.ho⟩
            · have hk2 := hxm rfl
              generalize x.kind = xk at *
              subst hk2
              simp only [show ((2 : Nat) : Int) = 2 from rfl] at hp10 hqx ⊢
              go_upto_region 19 with fail
              generalize World.alloc w9 _ = w10 at *
              generalize w9.heap.size = qx at *
              refine wp_region_class (fun W => PW2 q g #[.int .u16 (lastU up0), .string nm0, .int .u16 x.num, .int .u8 2, .bool true, .slice (some ⟨ub, uo, none⟩) (m + 1) cu] (some ⟨ub, uo, none⟩) up0 cu A2 ts.length c2 T dd qx #[.string x.nm, .int .u16 x.num, .int .u8 2] w W) (by kernel_rfl) (by kernel_rfl) ⟨hp10.next (Only.refl _ _).drew, hqx.drew⟩ ?_
              repeat (first
                | go_big_quiet_skip
                | (go_big_quiet_want
                   first
                     | (refine quiet_load_cell 46 (.tmp 129) rfl ⟨q, 0, none⟩ rfl (.int .u16 (lastU up0)) _ (fun _ h => h.1.bq.cell 0) rfl Try.underlying46 ?_; simp only [Act.put, List.setIfInBounds_toArray, List.set_cons_zero, List.set_cons_succ]; go_big_quiet_on)
                     | (refine quiet_load_cell 47 (.tmp 131) rfl ⟨q, 5, none⟩ rfl (.slice (some ⟨ub, uo, none⟩) (m + 1) cu) _ (fun _ h => h.1.bq.cell 5) rfl Try.underlying47 ?_; simp only [Act.put, List.setIfInBounds_toArray, List.set_cons_zero, List.set_cons_succ]; go_big_quiet_on)
                     | (refine quiet_load_cell 47 (.tmp 133) rfl ⟨q, 5, none⟩ rfl (.slice (some ⟨ub, uo, none⟩) (m + 1) cu) _ (fun _ h => h.1.bq.cell 5) rfl Try.underlying47 ?_; simp only [Act.put, List.setIfInBounds_toArray, List.set_cons_zero, List.set_cons_succ]; go_big_quiet_on)
                     | (refine quiet_load_cell 46 (.tmp 137) rfl ⟨ub, uo + m, none⟩ rfl (.int .u16 (lastU up0)) _ (fun W h => hlast.out W h.1) rfl Try.underlying46 ?_; simp only [Act.put, List.setIfInBounds_toArray, List.set_cons_zero, List.set_cons_succ]; go_big_quiet_on)
                     | (refine quiet_load_cell 46 (.tmp 143) rfl ⟨q, 2, none⟩ rfl (.int .u16 x.num) _ (fun _ h => h.1.bq.cell 2) rfl Try.underlying46 ?_; simp only [Act.put, List.setIfInBounds_toArray, List.set_cons_zero, List.set_cons_succ]; go_big_quiet_on)
                     | (refine quiet_load_cell 46 (.tmp 149) rfl ⟨qx, 1, none⟩ rfl (.int .u16 x.num) _ (fun _ h => h.2.cell 1) rfl Try.underlying46 ?_; simp only [Act.put, List.setIfInBounds_toArray, List.set_cons_zero, List.set_cons_succ]; go_big_quiet_on)
                     | (refine quiet_load_cell 46 (.tmp 151) rfl ⟨q, 2, none⟩ rfl (.int .u16 x.num) _ (fun _ h => h.1.bq.cell 2) rfl Try.underlying46 ?_; simp only [Act.put, List.setIfInBounds_toArray, List.set_cons_zero, List.set_cons_succ]; go_big_quiet_on)
                     | (refine quiet_load_cell 5 (.tmp 156) rfl ⟨qx, 2, none⟩ rfl (.int .u8 2) _ (fun _ h => h.2.cell 2) rfl Try.underlying5 ?_; simp only [Act.put, List.setIfInBounds_toArray, List.set_cons_zero, List.set_cons_succ]; go_big_quiet_on)
                     | (refine quiet_load_cell 5 (.tmp 158) rfl ⟨q, 3, none⟩ rfl (.int .u8 2) _ (fun _ h => h.1.bq.cell 3) rfl Try.underlying5 ?_; simp only [Act.put, List.setIfInBounds_toArray, List.set_cons_zero, List.set_cons_succ]; go_big_quiet_on)
                     | (refine quiet_load_cell 4 (.tmp 166) rfl ⟨q, 4, none⟩ rfl (.bool true) _ (fun _ h => h.1.bq.cell 4) rfl Try.underlying4 ?_; simp only [Act.put, List.setIfInBounds_toArray, List.set_cons_zero, List.set_cons_succ]; go_big_quiet_on)
                     | (refine quiet_load_cell 5 (.tmp 171) rfl ⟨q, 3, none⟩ rfl (.int .u8 2) _ (fun _ h => h.1.bq.cell 3) rfl Try.underlying5 ?_; simp only [Act.put, List.setIfInBounds_toArray, List.set_cons_zero, List.set_cons_succ]; go_big_quiet_on)
                     | (go_big_quiet_op
                        first
                          | go_big_quiet_on
                          | (refine ⟨_, fun _ _ => by with_reducible rfl, ?_⟩; go_big_quiet_on)
                          | (apply Exists.intro
                             refine ⟨fun W hW => ?_, ?_⟩
                             · (go_at_call 25; with_reducible refine (cW.out _).mono ?_; rintro x w' ⟨rfl, hn⟩; exact ⟨rfl, PW.next hW.1 hn, hW.2.only hn (fun x => x)⟩)
                             go_big_quiet_on))))
              refine wpQuiet_nil ?_
              intro w8 h8
              go_wp2
              go_ret
              exact ⟨rfl, h8.1.ho⟩
      · have hno := hok'.1 he
        simp only [noF, Fnd.mk.injEq] at hno
        obtain ⟨rfl, rfl, rfl, rfl, rfl, rfl⟩ := hno
        have ez : (ee != 0) = true := by simp [he]
        have hz := fun w => show (zeroValue 52).run Try.prog w = .ok (.agg #[.int .u16 0, .string ⟨#[]⟩, .int .u16 0, .int .u8 0, .bool false, .slice none 0 0]) w by kernel_rfl
        have hS := sameW_any 0 0 0 ⟨#[]⟩ false [] Au none cu 0 w7 hp7.ru (RowU.nil w7) (by decide)
        simp only [List.length_nil, show ((0 : Nat) : Int) = 0 from rfl] at hS l0 l1 l2 l3 l4 l5 ⊢
        replace hS := Lib.hid hS
        have hho := hp7.ho
        clear hok' hbq hp7
        go_wp2_with fail
        refine hS.out.mono ?_
        rintro r w8 ⟨rfl, o8⟩
        go_wp2_with fail
        refine (wakesT_any w8).mono ?_
        rintro r w9 ⟨rfl, o9⟩
        go_wp2
        go_ret
        exact ⟨rfl, (hho.trans o8).trans o9⟩
end Go.Proofs.Ytnclappdokhciaa
