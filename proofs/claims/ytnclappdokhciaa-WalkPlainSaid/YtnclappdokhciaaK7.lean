/-
  walk.Walk (func 27).
-/
import Derived.Test.YtnclappdokhciaaK6
import Derived.Test.YtnclappdokhciaaD16
import Derived.WalkMore
import Derived.Deep.LoopGhost
import Derived.Deep.CutBlock
import Derived.Deep.DeepCutAuto
namespace Go.Proofs.Ytnclappdokhciaa
open Go Go.RowKit
set_option linter.unusedVariables false
theorem RowS.tail {W : World} {b o cq : Nat} {part : ByteArray} {rest : List ByteArray} (h : RowS W (some ⟨b, o, none⟩) (part :: rest) cq) : RowS W (if cq = 1 then some ⟨b, o, none⟩ else some ⟨b, o + 1, none⟩) rest (cq - 1) := by
  have h1 := h.1.drop (k := 1) (cap := cq) (by simp) h.2.1
  have h2 := h.2.1
  simp only [List.length_cons] at h2
  simp only [List.length_cons, Nat.add_sub_cancel, strs, List.map_cons, List.drop_succ_cons, List.drop_zero, Option.map_some, add_lit] at h1
  refine ⟨h1, by omega, fun e => ?_⟩
  split at e <;> cases e
set_option maxRecDepth 100000 in
set_option maxHeartbeats 16000000 in
theorem walk_any (ts : List Thg) (A : Option Addr) (c g lk : Nat) (path : ByteArray) (follow : Bool) (w : World)
    (hb : Blk w g 45 #[.slice A ts.length c, .int .i64 lk]) (h : RowT w A ts c) (hG : Good ts) (hlk : lk ≤ 1000) (hpath : path.size ≤ 800) :
    Calls Try.prog 27 #[.iface 42 (.pointer (some ⟨g, 0, none⟩)), .string path, .bool follow] w fun r w' => WalkPost ts A c g lk (walkS ts path follow) w r w' := by
  have hni : ∀ w, (binOp .eql 101 (.iface 42 (.pointer (some ⟨g, 0, none⟩))) .nilIface).run Try.prog w = .ok (.bool false) w := fun w => rfl
  have hf0 := Blk.new w 49 #[.int .u16 0, .string ⟨#[]⟩, .int .u16 0, .int .u8 0, .bool false, .slice none 0 0]
  have oa := (Only.refl (fun _ => False) w).alloc (.cells #[.int .u16 0, .string ⟨#[]⟩, .int .u16 0, .int .u8 0, .bool false, .slice none 0 0] 49)
  have hS := split_any path (w.alloc (.cells #[.int .u16 0, .string ⟨#[]⟩, .int .u16 0, .int .u8 0, .bool false, .slice none 0 0] 49))
  have hpln := split_len path
  have hwalk : walkS ts path follow = if (split path).err ≠ 0 then (noF, (split path).err) else goesF ts follow 10000 [1] (split path).parts (split path).sl 0 := rfl
  generalize hsp : split path = sp at *
  obtain ⟨ab, parts, sl, err⟩ := sp
  simp only at hS hwalk hpln
  generalize hR : walkS ts path follow = R at *
  replace hsp := Lib.hid hsp
  replace hR := Lib.hid hR
  replace hS := Lib.hid hS
  have hg : g < w.heap.size := hb.lt
  go_enter Try.func27, Try.ntmps27
  go_wp2
  go_step3
  go_wp2_with fail
  refine hS.out.mono ?_
  rintro r w2 ⟨Ax, cx, rfl, hx, ho2⟩
  have op := (Only.refl (fun _ => False) w2).alloc (.cells #[.bool ab, .slice Ax parts.length cx, .bool sl] 25)
  have hgp := Blk.new w2 25 #[.bool ab, .slice Ax parts.length cx, .bool sl]
  have hf2 := hf0.only (ho2.trans op) (fun x => x)
  have hx2 := hx.only op (fun _ _ _ x => x)
  have ho3 := (oa.trans ho2).trans op
  clear hS hf0 hx oa ho2 op
  by_cases herr : err = 0
  · subst herr
    rw [if_neg (by simp)] at hwalk
    replace hwalk := Lib.hid hwalk
    generalize hw3 : w2.alloc (.cells #[.bool ab, .slice Ax parts.length cx, .bool sl] 25) = w3 at *
    generalize hgpn : w2.heap.size = gp at *
    have b4 := Blk.new w3 46 #[.int .u16 1]
    have o4 := (Only.refl (fun _ => False) w3).alloc (.cells #[.int .u16 1] 46)
    generalize hw4 : w3.alloc (.cells #[.int .u16 1] 46) = w4 at *
    have s4 : w4.heap.size = w3.heap.size + 1 := by rw [← hw4]; simp
    have e1 := (hgp.only o4 (fun x => x)).cell 1
    have e2 := (hgp.only o4 (fun x => x)).cell 2
    simp only [List.getElem?_toArray, List.getElem?_cons_zero, List.getElem?_cons_succ] at e1 e2
    have b5 := Blk.new w4 104 #[.iface 42 (.pointer (some ⟨g, 0, none⟩)), .slice (some ⟨w3.heap.size, 0, none⟩) 1 1, .slice Ax parts.length cx, .bool sl, .int .i64 0]
    have o5 := (Only.refl (fun _ => False) w4).alloc (.cells #[.iface 42 (.pointer (some ⟨g, 0, none⟩)), .slice (some ⟨w3.heap.size, 0, none⟩) 1 1, .slice Ax parts.length cx, .bool sl, .int .i64 0] 104)
    generalize hw5 : w4.alloc (.cells #[.iface 42 (.pointer (some ⟨g, 0, none⟩)), .slice (some ⟨w3.heap.size, 0, none⟩) 1 1, .slice Ax parts.length cx, .bool sl, .int .i64 0] 104) = w5 at *
    have s5 : w5.heap.size = w3.heap.size + 2 := by rw [← hw5]; simp [s4]
    rw [s4] at b5
    have b6 := Blk.new w5 102 #[.pointer (some ⟨w3.heap.size + 1, 0, none⟩)]
    have o6 := (Only.refl (fun _ => False) w5).alloc (.cells #[.pointer (some ⟨w3.heap.size + 1, 0, none⟩)] 102)
    generalize hw6 : w5.alloc (.cells #[.pointer (some ⟨w3.heap.size + 1, 0, none⟩)] 102) = w6 at *
    rw [s5] at b6
    have o36 := (o4.trans o5).trans o6
    have hsz := ho3.size
    have hI : WInv ts A c g lk (w3.heap.size + 2) (w3.heap.size + 1) w.heap.size w w6 [1] parts sl 0 (some ⟨w3.heap.size, 0, none⟩) 1 Ax cx :=
      ⟨b6, b5.only o6 (fun x => x), hf2.only o36 (fun x => x), (hb.only ho3 (fun x => x)).only o36 (fun x => x), (h.only ho3 (fun _ _ x => x)).only o36 (fun _ _ x => x), (rowU_one b4).only (o5.trans o6) (fun _ _ x => x), hx2.only o36 (fun _ _ _ x => x), by simp, by simp, by simp only [todo, List.length_singleton]; omega, by omega, (ho3.trans o36).weak, by omega⟩
    clear b4 o4 b5 o5 b6 o6 o36 hf2 hx2 hgp ho3 hsz s4 s5
    subst hw4
    subst hw5
    subst hw6
    go_wp2
    go_step3
    go_wp2
    have e12 : w3.heap.size + 2 = w3.heap.size + 1 + 1 := rfl
    rw [e12] at hI
    clear e12 e1 e2 hni
    generalize World.alloc _ _ = w6 at *
    generalize w3.heap.size + 1 + 1 = gc at *
    generalize w3.heap.size + 1 = gw at *
    generalize w.heap.size = gf at *
    go_loopg [] 10000 (fun kx wr => ∃ (pl : List Nat) (ps : List ByteArray) (must : Bool) (links : Nat) (Ap : Option Addr) (cp : Nat) (Aq : Option Addr) (cq : Nat), WInv ts A c g lk gc gw gf w wr pl ps must links Ap cp Aq cq ∧ todo ps links < kx ∧ R = goesF ts follow kx pl ps must links)
    case atStart => exact ⟨[1], parts, sl, 0, _, 1, Ax, cx, hI, by simp only [todo]; omega, hwalk.out⟩
    case round =>
      obtain ⟨pl, ps, must, links, Ap, cp, Aq, cq, hV, hk, hgo⟩ := hrel
      obtain ⟨f, rfl⟩ : ∃ f, gk = f + 1 := ⟨gk - 1, by omega⟩
      clear hI hwalk
      have c0 := hV.bc.cell 0
      have v1 := hV.bw.cell 1
      have v2 := hV.bw.cell 2
      simp only [List.getElem?_toArray, List.getElem?_cons_zero, List.getElem?_cons_succ] at c0 v1 v2
      have hp0 := hV.p0
      have hp2 := hV.p2
      have hl8 := hV.l8
      have htl := todo_le ps links
      cases ps with
      | nil =>
        rw [goes_nil] at hgo
        have q0 := hV.bf.cell 0
        have qf0 := hV.bf.frozen 0
        simp only [List.getElem?_toArray, List.getElem?_cons_zero, List.getElem?_cons_succ] at q0
        clear q0
        have hdir := hV.bf.cell 0
        simp only [List.getElem?_toArray, List.getElem?_cons_zero] at hdir
        simp only [List.length_nil] at v2
        go_wp2_with fail
        have od := (Only.refl (fun _ => False) wr).drew
        have hV := hV.only od
        generalize hwd : wr.drew = wd at *
        replace hwd := Lib.hid hwd
        clear c0 v1 v2 hdir qf0
        have F : ∀ W, Only (fun _ => False) wd W → W.cell? ⟨gc, 0, none⟩ = some (.pointer (some ⟨gw, 0, none⟩)) ∧ W.cell? ⟨gw, 1, none⟩ = some (.slice Ap pl.length cp) ∧ W.cell? ⟨gw, 3, none⟩ = some (.bool must) := fun W hW => ⟨(hV.only hW).bc.cell 0, (hV.only hW).bw.cell 1, (hV.only hW).bw.cell 3⟩
        replace F := Lib.hid F
        have hS0 := Only.refl (fun _ => False) wd
        refine wp_region_noPanic ?_
        refine wp_region_E 12 (fun W => Only (fun _ => False) wd W) (by kernel_rfl) ?_
        rw [hwd.out]
        refine E_take (v := ?v0) 0 rfl (by kernel_rfl) (by kernel_rfl) (by kernel_rfl) (by kernel_rfl) (by kernel_rfl) (by kernel_rfl) (fun _ _ _ h => h) rfl hS0 ?vh0 ?_
        case vh0 => intro W hW; obtain ⟨t0, t1, t2⟩ := F.out W hW; go_simp; try with_reducible rfl
        simp only [Act.put, List.setIfInBounds_toArray, List.set_cons_zero, List.set_cons_succ]
        refine E_take (v := ?v2) 2 rfl (by kernel_rfl) (by kernel_rfl) (by kernel_rfl) (by kernel_rfl) (by kernel_rfl) (by kernel_rfl) (fun _ _ _ h => h) rfl hS0 ?vh2 ?_
        case vh2 => intro W hW; obtain ⟨t0, t1, t2⟩ := F.out W hW; go_simp; try with_reducible rfl
        simp only [Act.put, List.setIfInBounds_toArray, List.set_cons_zero, List.set_cons_succ]
        refine E_take (v := ?v3) 3 rfl (by kernel_rfl) (by kernel_rfl) (by kernel_rfl) (by kernel_rfl) (by kernel_rfl) (by kernel_rfl) (fun _ _ _ h => h) rfl hS0 ?vh3 ?_
        case vh3 => intro W hW; obtain ⟨t0, t1, t2⟩ := F.out W hW; go_simp; try with_reducible rfl
        simp only [Act.put, List.setIfInBounds_toArray, List.set_cons_zero, List.set_cons_succ]
        refine E_take (v := ?v4) 4 rfl (by kernel_rfl) (by kernel_rfl) (by kernel_rfl) (by kernel_rfl) (by kernel_rfl) (by kernel_rfl) (fun _ _ _ h => h) rfl hS0 ?vh4 ?_
        case vh4 => intro W hW; obtain ⟨t0, t1, t2⟩ := F.out W hW; go_simp; try with_reducible rfl
        simp only [Act.put, List.setIfInBounds_toArray, List.set_cons_zero, List.set_cons_succ]
        refine E_take (v := ?v5) 5 rfl (by kernel_rfl) (by kernel_rfl) (by kernel_rfl) (by kernel_rfl) (by kernel_rfl) (by kernel_rfl) (fun _ _ _ h => h) rfl hS0 ?vh5 ?_
        case vh5 => intro W hW; obtain ⟨t0, t1, t2⟩ := F.out W hW; go_simp; try with_reducible rfl
        simp only [Act.put, List.setIfInBounds_toArray, List.set_cons_zero, List.set_cons_succ]
        refine E_take (v := ?v6) 6 rfl (by kernel_rfl) (by kernel_rfl) (by kernel_rfl) (by kernel_rfl) (by kernel_rfl) (by kernel_rfl) (fun _ _ _ h => h) rfl hS0 ?vh6 ?_
        case vh6 => intro W hW; obtain ⟨t0, t1, t2⟩ := F.out W hW; go_simp; try with_reducible rfl
        simp only [Act.put, List.setIfInBounds_toArray, List.set_cons_zero, List.set_cons_succ]
        refine E_take (v := ?v7) 7 rfl (by kernel_rfl) (by kernel_rfl) (by kernel_rfl) (by kernel_rfl) (by kernel_rfl) (by kernel_rfl) (fun _ _ _ h => h) rfl hS0 ?vh7 ?_
        case vh7 => intro W hW; obtain ⟨t0, t1, t2⟩ := F.out W hW; go_simp; try with_reducible rfl
        simp only [Act.put, List.setIfInBounds_toArray, List.set_cons_zero, List.set_cons_succ]
        refine E_take (v := ?v8) 8 rfl (by kernel_rfl) (by kernel_rfl) (by kernel_rfl) (by kernel_rfl) (by kernel_rfl) (by kernel_rfl) (fun _ _ _ h => h) rfl hS0 ?vh8 ?_
        case vh8 => intro W hW; obtain ⟨t0, t1, t2⟩ := F.out W hW; go_simp; try with_reducible rfl
        simp only [Act.put, List.setIfInBounds_toArray, List.set_cons_zero, List.set_cons_succ]
        refine E_take (v := ?v9) 9 rfl (by kernel_rfl) (by kernel_rfl) (by kernel_rfl) (by kernel_rfl) (by kernel_rfl) (by kernel_rfl) (fun _ _ _ h => h) rfl hS0 ?vh9 ?_
        case vh9 => intro W hW; obtain ⟨t0, t1, t2⟩ := F.out W hW; go_simp; try with_reducible rfl
        simp only [Act.put, List.setIfInBounds_toArray, List.set_cons_zero, List.set_cons_succ]
        refine E_one 1 (by kernel_rfl) rfl (fun K hK => ?_)
        go_simp
        refine (last_any pl Ap cp gw _ _ _ _ wd hV.bw hV.rp (by omega) hp0).mono ?_
        rintro r w2 ⟨rfl, ho2⟩
        refine hK.out _ _ (fun _ => ho2) ?_
        clear hK K
        try simp only [Act.put, List.setIfInBounds_toArray, List.set_cons_zero, List.set_cons_succ]
        have hV2 := hV.only ho2
        refine E_one 10 (by kernel_rfl) rfl (fun K hK => ?_)
        go_simp
        refine (cloneU_any pl Ap cp w2 hV2.rp (by omega) hp0).mono ?_
        rintro r w3 ⟨Au, cu, rfl, hu, hfr, ho3⟩
        have ho23 := ho2.trans ho3
        refine hK.out _ _ (fun _ => ho23) ?_
        clear hK K
        try simp only [Act.put, List.setIfInBounds_toArray, List.set_cons_zero, List.set_cons_succ]
        have hV3 := hV2.only ho3
        have hAu : ∀ a, Au = some a → ¬ a.block = gf := fun a ea h => by
          have := hfr a ea
          have := hV2.bf.lt
          omega
        refine E_one 11 (by kernel_rfl) rfl (fun K hK => ?_)
        go_simp
        refine hK.out _ _ (fun _ => ho23) ?_
        clear hK K
        try simp only [Act.put, List.setIfInBounds_toArray, List.set_cons_zero, List.set_cons_succ]
        have q0 := hV3.bf.cell 0
        have qf0 := hV3.bf.frozen 0
        have q1 := hV3.bf.cell 1
        have qf1 := hV3.bf.frozen 1
        have q2 := hV3.bf.cell 2
        have qf2 := hV3.bf.frozen 2
        have q3 := hV3.bf.cell 3
        have qf3 := hV3.bf.frozen 3
        have q4 := hV3.bf.cell 4
        have qf4 := hV3.bf.frozen 4
        have q5 := hV3.bf.cell 5
        have qf5 := hV3.bf.frozen 5
        simp only [List.getElem?_toArray, List.getElem?_cons_zero, List.getElem?_cons_succ] at q0 q1 q2 q3 q4 q5
        have hz := hV3.bf.set6 (a' := .int .u16 0) (b' := .string ⟨#[]⟩) (c' := .int .u16 (lastU pl)) (d' := .int .u8 2) (e' := .bool must) (f' := .slice Au pl.length cu)
        have hzo := (Only.refl (fun k => k = gf) w3).set6 (.int .u16 0) (.string ⟨#[]⟩) (.int .u16 (lastU pl)) (.int .u8 2) (.bool must) (.slice Au pl.length cu)
        have hbz := hV3.bg.only hzo (hV3.bg.ne hV3.bf (by decide))
        have hoz := hV3.ho.trans_of hzo (fun k hk e => by have := hV3.nw.2.2; omega)
        have huz := hu.fresh hzo hAu
        have hgf := hV.nw.2.2
        clear hV hV2 hV3 hu hfr ho2 ho3 hzo
        refine E_one 12 (by kernel_rfl) rfl (fun K hK => ?_)
        go_simp
        refine hK.out _ _ (fun h => absurd h (by decide)) ?_
        clear hK K q0 q1 q2 q3 q4 q5 qf0 qf1 qf2 qf3 qf4 qf5
        generalize hw4 : World.setCell _ _ _ = w4 at *
        clear hw4
        refine E_done (by kernel_rfl) (NoPanic.normal ?_)
        clear F hS0 ho23
        have q0 := hz.cell 0
        have qf0 := hz.frozen 0
        have q1 := hz.cell 1
        have qf1 := hz.frozen 1
        have q2 := hz.cell 2
        have qf2 := hz.frozen 2
        have q3 := hz.cell 3
        have qf3 := hz.frozen 3
        have q4 := hz.cell 4
        have qf4 := hz.frozen 4
        have q5 := hz.cell 5
        have qf5 := hz.frozen 5
        simp only [List.getElem?_toArray, List.getElem?_cons_zero, List.getElem?_cons_succ] at q0 q1 q2 q3 q4 q5
        have hzz := Lib.hid (hz.set6 (a' := .int .u16 0) (b' := .string ⟨#[]⟩) (c' := .int .u16 (lastU pl)) (d' := .int .u8 2) (e' := .bool must) (f' := .slice Au pl.length cu))
        have hzo2 := (Only.refl (fun k => k = gf) w4).set6 (.int .u16 0) (.string ⟨#[]⟩) (.int .u16 (lastU pl)) (.int .u8 2) (.bool must) (.slice Au pl.length cu)
        have hbz2 := Lib.hid (hbz.only hzo2 (hbz.ne hz (by decide)))
        have hoz2 := hoz.trans_of hzo2 (fun k hk e => by omega)
        have huz2 := huz.fresh hzo2 hAu
        replace hgo := Lib.hid hgo
        clear hz hzo2 hbz huz hoz
        go_wp2
        try rw [Exit.noGoto_ret]
        refine bodyPost_ret (res27 _ _ _ _ rfl _ rfl rfl hzz.out) rfl ?_
        exact ⟨links, Au, cu, by omega, by rw [hgo.out]; rfl, by rw [hgo.out]; exact huz2, hbz2.out, hoz2⟩
      | cons part rest =>
        simp only [List.length_cons] at v2 htl
        obtain ⟨b, o, rfl, hbb, hcell⟩ := hV.rq.1.2 (by simp)
        have d0 : wr.cell? ⟨b, o, none⟩ = some (.string part) := hcell 0 _ rfl
        have hcq := hV.rq.2.1
        simp only [List.length_cons] at hcq
        have k8 : (0 : Int) < (rest.length : Int) + 1 := by omega
        have k9 : (1 : Int) ≤ (rest.length : Int) + 1 := by omega
        clear hcell
        go_wp2_with fail
        have od := (Only.refl (fun _ => False) wr).drew
        have hV := hV.only od
        generalize hwd : wr.drew = wd at *
        replace hwd := Lib.hid hwd
        clear c0 v1 v2 d0
        have F : ∀ W, Only (fun _ => False) wd W → W.cell? ⟨gc, 0, none⟩ = some (.pointer (some ⟨gw, 0, none⟩)) ∧ W.cell? ⟨gw, 2, none⟩ = some (.slice (some ⟨b, o, none⟩) (rest.length + 1) cq) := fun W hW => ⟨(hV.only hW).bc.cell 0, (hV.only hW).bw.cell 2⟩
        replace F := Lib.hid F
        have hS0 := Only.refl (fun _ => False) wd
        refine wp_region_noPanic ?_
        refine wp_region_E 8 (fun W => Only (fun _ => False) wd W) (by kernel_rfl) ?_
        rw [hwd.out]
        refine E_take (v := ?c0) 0 rfl (by kernel_rfl) (by kernel_rfl) (by kernel_rfl) (by kernel_rfl) (by kernel_rfl) (by kernel_rfl) (fun _ _ _ h => h) rfl hS0 ?ch0 ?_
        case ch0 => intro W hW; obtain ⟨t0, t1⟩ := F.out W hW; go_simp; try with_reducible rfl
        simp only [Act.put, List.setIfInBounds_toArray, List.set_cons_zero, List.set_cons_succ]
        refine E_take (v := ?c1) 1 rfl (by kernel_rfl) (by kernel_rfl) (by kernel_rfl) (by kernel_rfl) (by kernel_rfl) (by kernel_rfl) (fun _ _ _ h => h) rfl hS0 ?ch1 ?_
        case ch1 => intro W hW; obtain ⟨t0, t1⟩ := F.out W hW; go_simp; try with_reducible rfl
        simp only [Act.put, List.setIfInBounds_toArray, List.set_cons_zero, List.set_cons_succ]
        refine E_take (v := ?c2) 2 rfl (by kernel_rfl) (by kernel_rfl) (by kernel_rfl) (by kernel_rfl) (by kernel_rfl) (by kernel_rfl) (fun _ _ _ h => h) rfl hS0 ?ch2 ?_
        case ch2 => intro W hW; obtain ⟨t0, t1⟩ := F.out W hW; go_simp; try with_reducible rfl
        simp only [Act.put, List.setIfInBounds_toArray, List.set_cons_zero, List.set_cons_succ]
        refine E_take (v := ?c3) 3 rfl (by kernel_rfl) (by kernel_rfl) (by kernel_rfl) (by kernel_rfl) (by kernel_rfl) (by kernel_rfl) (fun _ _ _ h => h) rfl hS0 ?ch3 ?_
        case ch3 => intro W hW; obtain ⟨t0, t1⟩ := F.out W hW; go_simp; try with_reducible rfl
        simp only [Act.put, List.setIfInBounds_toArray, List.set_cons_zero, List.set_cons_succ]
        refine E_take (v := ?c4) 4 rfl (by kernel_rfl) (by kernel_rfl) (by kernel_rfl) (by kernel_rfl) (by kernel_rfl) (by kernel_rfl) (fun _ _ _ h => h) rfl hS0 ?ch4 ?_
        case ch4 => intro W hW; obtain ⟨t0, t1⟩ := F.out W hW; go_simp; try with_reducible rfl
        simp only [Act.put, List.setIfInBounds_toArray, List.set_cons_zero, List.set_cons_succ]
        refine E_take (v := ?c5) 5 rfl (by kernel_rfl) (by kernel_rfl) (by kernel_rfl) (by kernel_rfl) (by kernel_rfl) (by kernel_rfl) (fun _ _ _ h => h) rfl hS0 ?ch5 ?_
        case ch5 => intro W hW; obtain ⟨t0, t1⟩ := F.out W hW; go_simp; try with_reducible rfl
        simp only [Act.put, List.setIfInBounds_toArray, List.set_cons_zero, List.set_cons_succ]
        refine E_one 6 (by kernel_rfl) rfl (fun K hK => ?_)
        go_simp
        refine hK.out _ _ (fun _ => hS0) ?_
        clear hK K
        try simp only [Act.put, List.setIfInBounds_toArray, List.set_cons_zero, List.set_cons_succ]
        refine E_one 7 (by kernel_rfl) rfl (fun K hK => ?_)
        go_simp
        refine hK.out _ _ (fun _ => hS0) ?_
        clear hK K
        try simp only [Act.put, List.setIfInBounds_toArray, List.set_cons_zero, List.set_cons_succ]
        have hV := hV
        have hrd := hV.rq.tail
        have hV2 := hV.setq (ps' := rest) hrd (by unfold todo; simp only [List.length_cons]; omega)
        have v2 := hV.bw.cell 2
        have vf2 := hV.bw.frozen 2
        simp only [List.getElem?_toArray, List.getElem?_cons_zero, List.getElem?_cons_succ] at v2
        refine E_one 8 (by kernel_rfl) rfl (fun K hK => ?_)
        go_simp
        refine hK.out _ _ (fun h => absurd h (by decide)) ?_
        clear hK K
        try simp only [Act.put, List.setIfInBounds_toArray, List.set_cons_zero, List.set_cons_succ]
        refine E_done (by kernel_rfl) (NoPanic.normal ?_)
        have htd : todo rest links + 1 = todo (part :: rest) links := by unfold todo; simp only [List.length_cons]; omega
        generalize (if cq = 1 then some (⟨b, o, none⟩ : Addr) else some ⟨b, o + 1, none⟩) = Ar at *
        generalize World.setCell _ _ _ = w1 at *
        clear F hS0 hV v2 vf2 hrd hwd od
        have c0 := hV2.bc.cell 0
        have v1 := hV2.bw.cell 1
        have v2 := hV2.bw.cell 2
        simp only [List.getElem?_toArray, List.getElem?_cons_zero, List.getElem?_cons_succ] at c0 v1 v2
        by_cases hd : part.toList = [46, 46]
        · rw [goes_dots hd] at hgo
          have hdb : (part.toList == [46, 46]) = true := by rw [hd]; rfl
          obtain ⟨m, hm⟩ : ∃ m, pl.length = m + 1 := ⟨pl.length - 1, by omega⟩
          have hcp := hV2.rp.2.1
          have kw : IntKind.i64.wrap ((m : Int) + 1 - 1) = (m : Int) := by rw [IntKind.wrap_i64]; omega
          have kw2 : IntKind.i64.wrap (m : Int) = (m : Int) := by rw [IntKind.wrap_i64]; omega
          replace hd := Lib.hid hd
          go_wp2_with fail
          have od := (Only.refl (fun _ => False) w1).drew
          have hW := hV2.only od
          generalize hwd : w1.drew = wd at *
          replace hwd := Lib.hid hwd
          clear c0 v1 v2
          have hbw := hW.bw
          rw [hm] at hbw
          have F : ∀ W, Only (fun _ => False) wd W → W.cell? ⟨gc, 0, none⟩ = some (.pointer (some ⟨gw, 0, none⟩)) ∧ W.cell? ⟨gw, 1, none⟩ = some (.slice Ap (m + 1) cp) := fun W h => ⟨(hW.only h).bc.cell 0, (hbw.only h (fun x => x)).cell 1⟩
          replace F := Lib.hid F
          have hS0 := Only.refl (fun _ => False) wd
          clear hbw
          obtain ⟨q, hq, hqm, hq1, hq2, hq3⟩ : ∃ q : Nat, max (1 : Int) (m : Int) = (q : Int) ∧ max 1 m = q ∧ (0 : Int) ≤ (q : Int) ∧ (q : Int) ≤ (cp : Int) ∧ q ≤ m + 1 := ⟨max 1 m, by omega, rfl, by omega, by omega, by omega⟩
          refine wp_region_noPanic ?_
          refine wp_region_E 15 (fun W => Only (fun _ => False) wd W) (by kernel_rfl) ?_
          rw [hwd.out]
          refine E_take (v := ?a0) 0 rfl (by kernel_rfl) (by kernel_rfl) (by kernel_rfl) (by kernel_rfl) (by kernel_rfl) (by kernel_rfl) (fun _ _ _ h => h) rfl hS0 ?ah0 ?_
          case ah0 => intro W hW; obtain ⟨t0, t1⟩ := F.out W hW; go_simp; try with_reducible rfl
          simp only [Act.put, List.setIfInBounds_toArray, List.set_cons_zero, List.set_cons_succ]
          refine E_take (v := ?a1) 1 rfl (by kernel_rfl) (by kernel_rfl) (by kernel_rfl) (by kernel_rfl) (by kernel_rfl) (by kernel_rfl) (fun _ _ _ h => h) rfl hS0 ?ah1 ?_
          case ah1 => intro W hW; obtain ⟨t0, t1⟩ := F.out W hW; go_simp; try with_reducible rfl
          simp only [Act.put, List.setIfInBounds_toArray, List.set_cons_zero, List.set_cons_succ]
          refine E_take (v := ?a2) 2 rfl (by kernel_rfl) (by kernel_rfl) (by kernel_rfl) (by kernel_rfl) (by kernel_rfl) (by kernel_rfl) (fun _ _ _ h => h) rfl hS0 ?ah2 ?_
          case ah2 => intro W hW; obtain ⟨t0, t1⟩ := F.out W hW; go_simp; try with_reducible rfl
          simp only [Act.put, List.setIfInBounds_toArray, List.set_cons_zero, List.set_cons_succ]
          refine E_take (v := ?a3) 3 rfl (by kernel_rfl) (by kernel_rfl) (by kernel_rfl) (by kernel_rfl) (by kernel_rfl) (by kernel_rfl) (fun _ _ _ h => h) rfl hS0 ?ah3 ?_
          case ah3 => intro W hW; obtain ⟨t0, t1⟩ := F.out W hW; go_simp; try with_reducible rfl
          simp only [Act.put, List.setIfInBounds_toArray, List.set_cons_zero, List.set_cons_succ]
          refine E_take (v := ?a4) 4 rfl (by kernel_rfl) (by kernel_rfl) (by kernel_rfl) (by kernel_rfl) (by kernel_rfl) (by kernel_rfl) (fun _ _ _ h => h) rfl hS0 ?ah4 ?_
          case ah4 => intro W hW; obtain ⟨t0, t1⟩ := F.out W hW; go_simp; try with_reducible rfl
          simp only [Act.put, List.setIfInBounds_toArray, List.set_cons_zero, List.set_cons_succ]
          refine E_take (v := ?a5) 5 rfl (by kernel_rfl) (by kernel_rfl) (by kernel_rfl) (by kernel_rfl) (by kernel_rfl) (by kernel_rfl) (fun _ _ _ h => h) rfl hS0 ?ah5 ?_
          case ah5 => intro W hW; obtain ⟨t0, t1⟩ := F.out W hW; go_simp; try with_reducible rfl
          simp only [Act.put, List.setIfInBounds_toArray, List.set_cons_zero, List.set_cons_succ]
          refine E_take (v := ?a6) 6 rfl (by kernel_rfl) (by kernel_rfl) (by kernel_rfl) (by kernel_rfl) (by kernel_rfl) (by kernel_rfl) (fun _ _ _ h => h) rfl hS0 ?ah6 ?_
          case ah6 => intro W hW; obtain ⟨t0, t1⟩ := F.out W hW; go_simp; try with_reducible rfl
          simp only [Act.put, List.setIfInBounds_toArray, List.set_cons_zero, List.set_cons_succ]
          refine E_take (v := ?a7) 7 rfl (by kernel_rfl) (by kernel_rfl) (by kernel_rfl) (by kernel_rfl) (by kernel_rfl) (by kernel_rfl) (fun _ _ _ h => h) rfl hS0 ?ah7 ?_
          case ah7 => intro W hW; obtain ⟨t0, t1⟩ := F.out W hW; go_simp; try with_reducible rfl
          simp only [Act.put, List.setIfInBounds_toArray, List.set_cons_zero, List.set_cons_succ]
          refine E_take (v := ?a8) 8 rfl (by kernel_rfl) (by kernel_rfl) (by kernel_rfl) (by kernel_rfl) (by kernel_rfl) (by kernel_rfl) (fun _ _ _ h => h) rfl hS0 ?ah8 ?_
          case ah8 => intro W hW; obtain ⟨t0, t1⟩ := F.out W hW; go_simp; try with_reducible rfl
          simp only [Act.put, List.setIfInBounds_toArray, List.set_cons_zero, List.set_cons_succ]
          refine E_take (v := ?a9) 9 rfl (by kernel_rfl) (by kernel_rfl) (by kernel_rfl) (by kernel_rfl) (by kernel_rfl) (by kernel_rfl) (fun _ _ _ h => h) rfl hS0 ?ah9 ?_
          case ah9 => intro W hW; obtain ⟨t0, t1⟩ := F.out W hW; go_simp; try with_reducible rfl
          simp only [Act.put, List.setIfInBounds_toArray, List.set_cons_zero, List.set_cons_succ]
          refine E_take (v := ?a10) 10 rfl (by kernel_rfl) (by kernel_rfl) (by kernel_rfl) (by kernel_rfl) (by kernel_rfl) (by kernel_rfl) (fun _ _ _ h => h) rfl hS0 ?ah10 ?_
          case ah10 => intro W hW; obtain ⟨t0, t1⟩ := F.out W hW; go_simp; try with_reducible rfl
          simp only [Act.put, List.setIfInBounds_toArray, List.set_cons_zero, List.set_cons_succ]
          refine E_take (v := ?a11) 11 rfl (by kernel_rfl) (by kernel_rfl) (by kernel_rfl) (by kernel_rfl) (by kernel_rfl) (by kernel_rfl) (fun _ _ _ h => h) rfl hS0 ?ah11 ?_
          case ah11 => intro W hW; obtain ⟨t0, t1⟩ := F.out W hW; go_simp; try with_reducible rfl
          simp only [Act.put, List.setIfInBounds_toArray, List.set_cons_zero, List.set_cons_succ]
          refine E_take (v := ?a12) 12 rfl (by kernel_rfl) (by kernel_rfl) (by kernel_rfl) (by kernel_rfl) (by kernel_rfl) (by kernel_rfl) (fun _ _ _ h => h) rfl hS0 ?ah12 ?_
          case ah12 => intro W hW; obtain ⟨t0, t1⟩ := F.out W hW; go_simp; try with_reducible rfl
          simp only [Act.put, List.setIfInBounds_toArray, List.set_cons_zero, List.set_cons_succ]
          refine E_one 13 (by kernel_rfl) rfl (fun K hK => ?_)
          go_simp
          refine hK.out _ _ (fun _ => hS0) ?_
          clear hK K
          try simp only [Act.put, List.setIfInBounds_toArray, List.set_cons_zero, List.set_cons_succ]
          refine E_one 14 (by kernel_rfl) rfl (fun K hK => ?_)
          go_simp
          refine hK.out _ _ (fun _ => hS0) ?_
          clear hK K
          try simp only [Act.put, List.setIfInBounds_toArray, List.set_cons_zero, List.set_cons_succ]
          have hpt := hW.rp.take (n := q) (by omega)
          have hlt : (pl.take q).length = q := by rw [List.length_take]; omega
          have hV3 := hW.setp hpt (by rw [hlt]; omega) (fun n hn => hW.p1 n (List.mem_of_mem_take hn)) (by rw [hlt]; have := hW.p2; omega)
          rw [hlt] at hV3
          have v1 := hW.bw.cell 1
          have vf1 := hW.bw.frozen 1
          simp only [List.getElem?_toArray, List.getElem?_cons_zero, List.getElem?_cons_succ] at v1
          rw [hm, Nat.add_sub_cancel, hqm] at hgo
          replace hlt := Lib.hid hlt
          clear hpt
          refine E_one 15 (by kernel_rfl) rfl (fun K hK => ?_)
          go_simp
          refine hK.out _ _ (fun h => absurd h (by decide)) ?_
          clear hK K
          try simp only [Act.put, List.setIfInBounds_toArray, List.set_cons_zero, List.set_cons_succ]
          refine E_done (by kernel_rfl) (NoPanic.normal ?_)
          generalize World.setCell _ _ _ = w4 at *
          clear F hS0 hW v1 vf1 hwd od hV2
          replace hgo := Lib.hid hgo
          go_wp2
          go_roundg f
          case measure => omega
          case rel => exact ⟨pl.take q, rest, must, links, Ap, cp, Ar, cq - 1, hV3, by omega, hgo.out⟩
        · have hdb : (part.toList == [46, 46]) = false := by rw [beq_eq_false_iff_ne]; exact hd
          replace hd := Lib.hid hd
          have hna : ∀ w, (nilAhead 272 42 (.pointer (some ⟨g, 0, none⟩)) "Entries").run Try.prog w = .ok (some false) w := fun _ => by kernel_rfl
          have hme : ∀ w, (method 272 42 (.pointer (some ⟨g, 0, none⟩)) "Entries").run Try.prog w = .ok (31, .pointer (some ⟨g, 0, none⟩)) w := fun _ => by kernel_rfl
          go_wp2_with fail
          have od := (Only.refl (fun _ => False) w1).drew
          have hW := hV2.only od
          generalize hwd : w1.drew = wd at *
          replace hwd := Lib.hid hwd
          clear c0 v1 v2
          have F : ∀ W, Only (fun _ => False) wd W → W.cell? ⟨gc, 0, none⟩ = some (.pointer (some ⟨gw, 0, none⟩)) := fun W h => (hW.only h).bc.cell 0
          replace F := Lib.hid F
          have hS0 := Only.refl (fun _ => False) wd
          refine wp_region_noPanic ?_
          refine wp_region_E 11 (fun W => Only (fun _ => False) wd W) (by kernel_rfl) ?_
          rw [hwd.out]
          refine E_take (v := ?b0) 0 rfl (by kernel_rfl) (by kernel_rfl) (by kernel_rfl) (by kernel_rfl) (by kernel_rfl) (by kernel_rfl) (fun _ _ _ h => h) rfl hS0 ?bh0 ?_
          case bh0 => intro W hW; have t0 := F.out W hW; go_simp; try with_reducible rfl
          simp only [Act.put, List.setIfInBounds_toArray, List.set_cons_zero, List.set_cons_succ]
          refine E_take (v := ?b1) 1 rfl (by kernel_rfl) (by kernel_rfl) (by kernel_rfl) (by kernel_rfl) (by kernel_rfl) (by kernel_rfl) (fun _ _ _ h => h) rfl hS0 ?bh1 ?_
          case bh1 => intro W hW; have t0 := F.out W hW; go_simp; try with_reducible rfl
          simp only [Act.put, List.setIfInBounds_toArray, List.set_cons_zero, List.set_cons_succ]
          refine E_take (v := ?b3) 3 rfl (by kernel_rfl) (by kernel_rfl) (by kernel_rfl) (by kernel_rfl) (by kernel_rfl) (by kernel_rfl) (fun _ _ _ h => h) rfl hS0 ?bh3 ?_
          case bh3 => intro W hW; have t0 := F.out W hW; go_simp; try with_reducible rfl
          simp only [Act.put, List.setIfInBounds_toArray, List.set_cons_zero, List.set_cons_succ]
          refine E_take (v := ?b4) 4 rfl (by kernel_rfl) (by kernel_rfl) (by kernel_rfl) (by kernel_rfl) (by kernel_rfl) (by kernel_rfl) (fun _ _ _ h => h) rfl hS0 ?bh4 ?_
          case bh4 => intro W hW; have t0 := F.out W hW; go_simp; try with_reducible rfl
          simp only [Act.put, List.setIfInBounds_toArray, List.set_cons_zero, List.set_cons_succ]
          refine E_take (v := ?b5) 5 rfl (by kernel_rfl) (by kernel_rfl) (by kernel_rfl) (by kernel_rfl) (by kernel_rfl) (by kernel_rfl) (fun _ _ _ h => h) rfl hS0 ?bh5 ?_
          case bh5 => intro W hW; have t0 := F.out W hW; go_simp; try with_reducible rfl
          simp only [Act.put, List.setIfInBounds_toArray, List.set_cons_zero, List.set_cons_succ]
          refine E_one 2 (by kernel_rfl) rfl (fun K hK => ?_)
          go_simp
          refine (last_any pl Ap cp gw _ _ _ _ wd hW.bw hW.rp (by omega) hp0).mono ?_
          rintro r w4 ⟨rfl, ho4⟩
          refine hK.out _ _ (fun _ => ho4) ?_
          clear hK K
          try simp only [Act.put, List.setIfInBounds_toArray, List.set_cons_zero, List.set_cons_succ]
          have hW4 := hW.only ho4
          have hl1 := hW.p1 _ (lastU_mem hp0)
          have hE := entries_any ts A c g (lastU pl) ((lk + links : Nat) : Int) w4 hW4.bg hW4.rt hl1.2 hG.1 (fun t ht => by have := (are_ok (hG.2 t ht).1).1; omega)
          have hgd := Lib.hid (ents_good hG (lastU pl))
          refine E_one 6 (by kernel_rfl) rfl (fun K hK => ?_)
          go_simp
          refine hE.mono ?_
          rintro r w5 ⟨A5, c5, rfl, h5, ho5⟩
          have ho45 := ho4.trans ho5
          refine hK.out _ _ (fun _ => ho45) ?_
          clear hK K
          try simp only [Act.put, List.setIfInBounds_toArray, List.set_cons_zero, List.set_cons_succ]
          refine E_take (v := ?d7) 7 rfl (by kernel_rfl) (by kernel_rfl) (by kernel_rfl) (by kernel_rfl) (by kernel_rfl) (by kernel_rfl) (fun _ _ _ h => h) rfl ho45 ?dh7 ?_
          case dh7 => intro W hW; have t0 := F.out W hW; go_simp; try with_reducible rfl
          simp only [Act.put, List.setIfInBounds_toArray, List.set_cons_zero, List.set_cons_succ]
          refine E_take (v := ?d8) 8 rfl (by kernel_rfl) (by kernel_rfl) (by kernel_rfl) (by kernel_rfl) (by kernel_rfl) (by kernel_rfl) (fun _ _ _ h => h) rfl ho45 ?dh8 ?_
          case dh8 => intro W hW; have t0 := F.out W hW; go_simp; try with_reducible rfl
          simp only [Act.put, List.setIfInBounds_toArray, List.set_cons_zero, List.set_cons_succ]
          refine E_take (v := ?d9) 9 rfl (by kernel_rfl) (by kernel_rfl) (by kernel_rfl) (by kernel_rfl) (by kernel_rfl) (by kernel_rfl) (fun _ _ _ h => h) rfl ho45 ?dh9 ?_
          case dh9 => intro W hW; have t0 := F.out W hW; go_simp; try with_reducible rfl
          simp only [Act.put, List.setIfInBounds_toArray, List.set_cons_zero, List.set_cons_succ]
          refine E_one 10 (by kernel_rfl) rfl (fun K hK => ?_)
          go_simp
          refine hK.out _ _ (fun _ => ho45) ?_
          clear hK K
          try simp only [Act.put, List.setIfInBounds_toArray, List.set_cons_zero, List.set_cons_succ]
          refine E_one 11 (by kernel_rfl) rfl (fun K hK => ?_)
          go_simp
          refine hK.out _ _ (fun h => absurd h (by decide)) ?_
          clear hK K
          try simp only [Act.put, List.setIfInBounds_toArray, List.set_cons_zero, List.set_cons_succ]
          refine E_done (by kernel_rfl) (NoPanic.normal ?_)
          have hV5 := hW4.only ho5
          clear F hS0 hW hW4 hwd od hV2 ho4 ho5 ho45 hE hna hme
          have c0 := hV5.bc.cell 0
          have v1 := hV5.bw.cell 1
          have v2 := hV5.bw.cell 2
          simp only [List.getElem?_toArray, List.getElem?_cons_zero, List.getElem?_cons_succ] at c0 v1 v2
          cases hes : entsS ts (lastU pl) with
          | mk l ee =>
            rw [hes] at hgd h5
            by_cases he : ee = 0
            · subst he
              have hR5 := rise_of hgd.out
              have hl64 := (are_ok hgd.out).1
              have hFd := findD_any l A5 c5 part w5 h5 hl64 hR5
              clear hR5
              cases hfe : findE l part with
              | none =>
                rw [goes_none hd.out (by rw [hes]) (by rw [hes]; exact hfe)] at hgo
                rw [hfe] at hFd
                have hFn : Calls Try.prog 32 #[.slice A5 l.length c5, .string part] w5 fun r w' => r = .returned (.tuple #[.agg #[.string ⟨#[]⟩, .int .u16 0, .int .u8 0], .bool false]) ∧ Only (fun _ => False) w5 w' := hFd
                clear hFd
                replace hFn := Lib.hid hFn
                replace hes := Lib.hid hes
                replace hfe := Lib.hid hfe
                cases rest with
                | nil =>
                  rw [if_neg (by simp)] at hgo
                  go_wp2_with fail
                  refine hFn.out.mono ?_
                  rintro r w6 ⟨rfl, ho6⟩
                  have oa := (Only.refl (fun _ => False) w6).alloc (.cells #[.string ⟨#[]⟩, .int .u16 0, .int .u8 0] 63)
                  have hV7 := (hV5.only ho6).only oa
                  have c0 := hV7.bc.cell 0
                  have v1 := hV7.bw.cell 1
                  have v2 := hV7.bw.cell 2
                  simp only [List.getElem?_toArray, List.getElem?_cons_zero, List.getElem?_cons_succ] at c0 v1 v2
                  generalize hw7 : w6.alloc (.cells #[.string ⟨#[]⟩, .int .u16 0, .int .u8 0] 63) = w7 at *
                  have hFo : Calls Try.prog 54 #[.string part, .agg #[.string ⟨#[]⟩, .int .u16 0, .int .u8 0], .pointer (some ⟨gc, 0, none⟩), .pointer (some ⟨gf, 0, none⟩)] w7 fun r w' => r = .returned (.tuple #[]) ∧ (∃ Au cu, Blk w' gf 49 #[.int .u16 (lastU pl), .string part, .int .u16 0, .int .u8 0, .bool must, .slice Au pl.length cu] ∧ RowU w' Au pl cu ∧ ∀ a, Au = some a → ¬ a.block = gf) ∧ Only (fun k => k = gf) w7 w' := found_any part noEnt pl Ap cp gc gw gf _ _ must _ _ _ _ _ _ _ w7 hV7.bc hV7.bw hV7.rp hV7.bf (by omega) hp0
                  replace hFo := Lib.hid hFo
                  subst hw7
                  go_wp2_with fail
                  refine hFo.out.mono ?_
                  rintro r w8 ⟨rfl, ⟨Au, cu, hz, huz, hAu⟩, ho8⟩
                  have hbz := hV7.bg.only ho8 (hV7.bg.ne hV7.bf (by decide))
                  have hoz := hV7.ho.trans_of ho8 (fun k hk e => by have := hV7.nw.2.2; omega)
                  have hgf := hV7.nw.2.2
                  have hkd : ((lastU pl : Int) == 0) = false := by have := hl1.1; simp; omega
                  clear hV7 ho8 c0 v1 v2 hFo hV5 ho6 oa h5 hFn
                  have q0 := hz.cell 0
                  have qf0 := hz.frozen 0
                  have q1 := hz.cell 1
                  have qf1 := hz.frozen 1
                  have q2 := hz.cell 2
                  have qf2 := hz.frozen 2
                  have q3 := hz.cell 3
                  have qf3 := hz.frozen 3
                  have q4 := hz.cell 4
                  have qf4 := hz.frozen 4
                  have q5 := hz.cell 5
                  have qf5 := hz.frozen 5
                  simp only [List.getElem?_toArray, List.getElem?_cons_zero, List.getElem?_cons_succ] at q0 q1 q2 q3 q4 q5
                  have hzz := Lib.hid (hz.set6 (a' := .int .u16 (lastU pl)) (b' := .string part) (c' := .int .u16 0) (d' := .int .u8 0) (e' := .bool must) (f' := .slice Au pl.length cu))
                  have hzo2 := (Only.refl (fun k => k = gf) w8).set6 (.int .u16 (lastU pl)) (.string part) (.int .u16 0) (.int .u8 0) (.bool must) (.slice Au pl.length cu)
                  have hbz2 := Lib.hid (hbz.only hzo2 (hbz.ne hz (by decide)))
                  have hoz2 := hoz.trans_of hzo2 (fun k hk e => by omega)
                  have huz2 := huz.fresh hzo2 hAu
                  replace hgo := Lib.hid hgo
                  clear hz hzo2 hbz huz hoz
                  go_wp2
                  try rw [Exit.noGoto_ret]
                  refine bodyPost_ret (res27 _ _ _ _ rfl _ rfl rfl hzz.out) rfl ?_
                  exact ⟨links, Au, cu, by omega, by rw [hgo.out]; rfl, by rw [hgo.out]; exact huz2, hbz2.out, hoz2⟩
                | cons y rest' =>
                  rw [if_pos (by simp)] at hgo
                  have hne : ((rest'.length : Int) + 1 == 0) = false := by simp; omega
                  simp only [List.length_cons] at v2
                  go_wp2_with fail
                  refine hFn.out.mono ?_
                  rintro r w6 ⟨rfl, ho6⟩
                  have oa := (Only.refl (fun _ => False) w6).alloc (.cells #[.string ⟨#[]⟩, .int .u16 0, .int .u8 0] 63)
                  have hV7 := (hV5.only ho6).only oa
                  have c0 := hV7.bc.cell 0
                  have v1 := hV7.bw.cell 1
                  have v2 := hV7.bw.cell 2
                  simp only [List.getElem?_toArray, List.getElem?_cons_zero, List.getElem?_cons_succ, List.length_cons] at c0 v1 v2
                  clear hFn hV5 ho6 oa h5
                  have hFill := hV7.bf
                  clear hFill
                  have q0 := hV7.bf.cell 0
                  have qf0 := hV7.bf.frozen 0
                  have q1 := hV7.bf.cell 1
                  have qf1 := hV7.bf.frozen 1
                  have q2 := hV7.bf.cell 2
                  have qf2 := hV7.bf.frozen 2
                  have q3 := hV7.bf.cell 3
                  have qf3 := hV7.bf.frozen 3
                  have q4 := hV7.bf.cell 4
                  have qf4 := hV7.bf.frozen 4
                  have q5 := hV7.bf.cell 5
                  have qf5 := hV7.bf.frozen 5
                  simp only [List.getElem?_toArray, List.getElem?_cons_zero, List.getElem?_cons_succ] at q0 q1 q2 q3 q4 q5
                  have hz := hV7.bf.set6 (a' := .int .u16 0) (b' := .string ⟨#[]⟩) (c' := .int .u16 0) (d' := .int .u8 0) (e' := .bool false) (f' := .slice none 0 0)
                  have hzo := (Only.refl (fun k => k = gf) (w6.alloc (.cells #[.string ⟨#[]⟩, .int .u16 0, .int .u8 0] 63))).set6 (.int .u16 0) (.string ⟨#[]⟩) (.int .u16 0) (.int .u8 0) (.bool false) (.slice none 0 0)
                  have hbz := Lib.hid (hV7.bg.only hzo (hV7.bg.ne hV7.bf (by decide)))
                  have hoz := hV7.ho.trans_of hzo (fun k hk e => by have := hV7.nw.2.2; omega)
                  replace hz := Lib.hid hz
                  replace hgo := Lib.hid hgo
                  clear hV7
                  go_wp2
                  try rw [Exit.noGoto_ret]
                  refine bodyPost_ret (res27 _ _ _ _ rfl _ rfl rfl hz.out) rfl ?_
                  exact ⟨links, none, 0, by omega, by rw [hgo.out]; rfl, by rw [hgo.out]; exact RowU.nil _, hbz.out, hoz⟩

              | some x =>
                rw [goes_some hd.out (by rw [hes]) (by rw [hes]; exact hfe)] at hgo
                have hFs : Calls Try.prog 32 #[.slice A5 l.length c5, .string part] w5 fun r w' => r = .returned (.tuple #[.agg #[.string x.nm, .int .u16 x.num, .int .u8 x.kind], .bool true]) ∧ Only (fun _ => False) w5 w' := by
                  rw [hfe] at hFd
                  exact hFd
                clear hFd
                have hxm : x ∈ l := List.mem_of_find?_eq_some hfe
                have hmay := may_ok (are_may hgd.out x hxm)
                obtain ⟨_, hn1, hn2, hk1, hk2⟩ := hmay
                obtain ⟨en, hen1, hen2, hen3, hen4⟩ : ∃ en : Bool, ((rest.length : Int) == 0) = en ∧ (rest ≠ [] ↔ en = false) ∧ (rest = [] ↔ en = true) ∧ rest.isEmpty = en := by
                  cases rest with
                  | nil => exact ⟨true, rfl, by simp, by simp, rfl⟩
                  | cons y r => exact ⟨false, by simp; omega, by simp, by simp, rfl⟩
                simp only [hen2, hen3, hen4] at hgo
                replace hFs := Lib.hid hFs
                replace hes := Lib.hid hes
                replace hfe := Lib.hid hfe
                replace hxm := Lib.hid hxm
                replace hen2 := Lib.hid hen2
                replace hen3 := Lib.hid hen3
                replace hen4 := Lib.hid hen4
                go_wp2_with fail
                refine hFs.out.mono ?_
                rintro r w6 ⟨rfl, ho6⟩
                have oa := (Only.refl (fun _ => False) w6).alloc (.cells #[.string x.nm, .int .u16 x.num, .int .u8 x.kind] 63)
                have hbx := Blk.new w6 63 #[.string x.nm, .int .u16 x.num, .int .u8 x.kind]
                have hV7 := (hV5.only ho6).only oa
                have c0 := hV7.bc.cell 0
                have v1 := hV7.bw.cell 1
                have v2 := hV7.bw.cell 2
                have v3 := hV7.bw.cell 3
                have x1 := hbx.cell 1
                have x2 := hbx.cell 2
                simp only [List.getElem?_toArray, List.getElem?_cons_zero, List.getElem?_cons_succ] at c0 v1 v2 v3 x1 x2
                clear hFs hV5 ho6 oa h5
                go_upto_region 23 with fail
                generalize w6.alloc (.cells #[.string x.nm, .int .u16 x.num, .int .u8 x.kind] 63) = w7 at *
                generalize w6.heap.size = gx at *
                go_cut [140] (fun s140 W => s140 = .bool (decide (x.kind = 3 ∧ (en = false ∨ must = true ∨ follow = true))) ∧ W = w7)
                case first =>
                  by_cases k3 : x.kind = 3
                  · have k3b : ((x.kind : Int) == 3) = true := by rw [k3]; rfl
                    cases en with
                    | false =>
                      go_wp2_with fail
                      go_meet
                      exact ⟨by simp [k3], rfl⟩
                    | true =>
                      cases must with
                      | true =>
                        go_wp2_with fail
                        go_meet
                        exact ⟨by simp [k3], rfl⟩
                      | false =>
                        cases follow with
                        | true =>
                          go_wp2_with fail
                          go_meet
                          exact ⟨by simp [k3], rfl⟩
                        | false =>
                          go_wp2_with fail
                          go_meet
                          exact ⟨by simp [k3], rfl⟩
                  · have k3b : ((x.kind : Int) == 3) = false := by simp; omega
                    go_wp2_with fail
                    go_meet
                    exact ⟨by simp [k3], rfl⟩
                case rest =>
                  obtain ⟨rfl, rfl⟩ := hcut
                  by_cases hP : x.kind = 3 ∧ (en = false ∨ must = true ∨ follow = true)
                  · rw [if_pos hP] at hgo
                    rw [decide_eq_true hP]
                    clear hP
                    have htd2 := todo_le rest links
                    have hL := link_any ts A c g gw x.num links (lk + links) pl Ap cp rest Ar (cq - 1) must _ hV7.bg hV7.bw hV7.rt hV7.rp hV7.rq hG (by omega) (by omega) (by omega) (by omega) (by omega)
                    replace hL := Lib.hid hL
                    clear v1 v2 v3 x2
                    go_wp2_with fail
                    refine hL.out.mono ?_
                    intro r w8 hLP
                    have hLP2 := hLP
                    obtain ⟨d, hd1, hd8, hbg, hol, rfl, _⟩ := hLP2
                    by_cases hls : linkS ts x.num links = 0
                    · obtain ⟨Ap2, cp2, Aq2, cq2, hV9⟩ := hV7.link hG hLP hls
                      rw [if_neg (fun h => h hls)] at hgo
                      have hll := link_ok hls
                      have htd3 : todo ((split (targS ts x.num).1).parts ++ rest) (links + 1) + 500 ≤ todo rest links := by
                        have h1 := split_len (targS ts x.num).1
                        have h2 := targ_good hG x.num
                        unfold todo
                        rw [List.length_append]
                        omega
                      rw [hen4.out] at hV9
                      clear hLP hbg hol hV7 hbx c0 x1 hL
                      rw [hls]
                      replace hgo := Lib.hid hgo
                      go_wp2
                      go_roundg f
                      case measure => omega
                      case rel => exact ⟨_, _, _, _, Ap2, cp2, Aq2, cq2, hV9, by omega, hgo.out⟩
                    · rw [if_pos hls] at hgo
                      have heb : (linkS ts x.num links != 0) = true := by rw [bne, beq_false_of_ne hls]; rfl
                      have hf8 := hV7.bf.only hol (fun e => e.elim (hV7.bf.ne hV7.bg (by decide)) (hV7.bf.ne hV7.bw (by decide)))
                      have ho8 := hV7.ho.trans_of hol (fun k hk e => by rcases e with e | e; exact e; have := hV7.nw.2.1; omega)
                      have hnf := hV7.nw.2.2
                      have hd9 : links + d ≤ 8 := by
                        by_cases h8 : 8 ≤ links
                        · have := hd8 h8; omega
                        · omega
                      clear hLP hol hV7 hbx c0 x1 hL
                      replace hls := Lib.hid hls
                      generalize linkS ts x.num links = le at *
                      have q0 := hf8.cell 0
                      have qf0 := hf8.frozen 0
                      have q1 := hf8.cell 1
                      have qf1 := hf8.frozen 1
                      have q2 := hf8.cell 2
                      have qf2 := hf8.frozen 2
                      have q3 := hf8.cell 3
                      have qf3 := hf8.frozen 3
                      have q4 := hf8.cell 4
                      have qf4 := hf8.frozen 4
                      have q5 := hf8.cell 5
                      have qf5 := hf8.frozen 5
                      simp only [List.getElem?_toArray, List.getElem?_cons_zero, List.getElem?_cons_succ] at q0 q1 q2 q3 q4 q5
                      have hz := hf8.set6 (a' := .int .u16 0) (b' := .string ⟨#[]⟩) (c' := .int .u16 0) (d' := .int .u8 0) (e' := .bool false) (f' := .slice none 0 0)
                      have hzo := (Only.refl (fun k => k = gf) w8).set6 (.int .u16 0) (.string ⟨#[]⟩) (.int .u16 0) (.int .u8 0) (.bool false) (.slice none 0 0)
                      have hbz := Lib.hid (hbg.only hzo (hbg.ne hf8 (by decide)))
                      have hoz := ho8.trans_of hzo (fun k hk e => by omega)
                      replace hz := Lib.hid hz
                      replace hgo := Lib.hid hgo
                      clear hf8 hbg hzo ho8
                      go_wp2
                      try rw [Exit.noGoto_ret]
                      refine bodyPost_ret (res27 _ _ _ _ rfl _ rfl rfl hz.out) rfl ?_
                      exact ⟨links + d, none, 0, hd9, by rw [hgo.out]; rfl, by rw [hgo.out]; exact RowU.nil _, by rw [← Nat.add_assoc]; exact hbz.out, hoz⟩

                  · rw [if_neg hP] at hgo
                    rw [decide_eq_false hP]
                    clear hP
                    go_upto_region 27 with fail
                    go_cut [165] (fun s165 W => s165 = .bool (decide (x.kind ≠ 2 ∧ (en = false ∨ must = true))) ∧ W = wc)
                    case first =>
                      by_cases k2 : x.kind = 2
                      · have k2b : ((x.kind : Int) != 2) = false := by rw [k2]; rfl
                        go_wp2_with fail
                        go_meet
                        exact ⟨by simp [k2], rfl⟩
                      · have k2b : ((x.kind : Int) != 2) = true := by simp; omega
                        cases en with
                        | false =>
                          go_wp2_with fail
                          go_meet
                          exact ⟨by simp [k2], rfl⟩
                        | true =>
                          cases must with
                          | true =>
                            go_wp2_with fail
                            go_meet
                            exact ⟨by simp [k2], rfl⟩
                          | false =>
                            go_wp2_with fail
                            go_meet
                            exact ⟨by simp [k2], rfl⟩
                    case rest =>
                      obtain ⟨rfl, rfl⟩ := hcut
                      by_cases hP : x.kind ≠ 2 ∧ (en = false ∨ must = true)
                      · rw [if_pos hP] at hgo
                        rw [decide_eq_true hP]
                        clear hP
                        have q0 := hV7.bf.cell 0
                        have qf0 := hV7.bf.frozen 0
                        have q1 := hV7.bf.cell 1
                        have qf1 := hV7.bf.frozen 1
                        have q2 := hV7.bf.cell 2
                        have qf2 := hV7.bf.frozen 2
                        have q3 := hV7.bf.cell 3
                        have qf3 := hV7.bf.frozen 3
                        have q4 := hV7.bf.cell 4
                        have qf4 := hV7.bf.frozen 4
                        have q5 := hV7.bf.cell 5
                        have qf5 := hV7.bf.frozen 5
                        simp only [List.getElem?_toArray, List.getElem?_cons_zero, List.getElem?_cons_succ] at q0 q1 q2 q3 q4 q5
                        have hz := hV7.bf.set6 (a' := .int .u16 0) (b' := .string ⟨#[]⟩) (c' := .int .u16 0) (d' := .int .u8 0) (e' := .bool false) (f' := .slice none 0 0)
                        have hzo := (Only.refl (fun k => k = gf) wc).set6 (.int .u16 0) (.string ⟨#[]⟩) (.int .u16 0) (.int .u8 0) (.bool false) (.slice none 0 0)
                        have hbz := Lib.hid (hV7.bg.only hzo (hV7.bg.ne hV7.bf (by decide)))
                        have hoz := hV7.ho.trans_of hzo (fun k hk e => by have := hV7.nw.2.2; omega)
                        replace hz := Lib.hid hz
                        replace hgo := Lib.hid hgo
                        clear hV7 c0 v1 v2 v3 x1 x2 hbx
                        go_wp2
                        try rw [Exit.noGoto_ret]
                        refine bodyPost_ret (res27 _ _ _ _ rfl _ rfl rfl hz.out) rfl ?_
                        exact ⟨links, none, 0, by omega, by rw [hgo.out]; rfl, by rw [hgo.out]; exact RowU.nil _, hbz.out, hoz⟩
                      · rw [if_neg hP] at hgo
                        rw [decide_eq_false hP]
                        clear hP
                        cases en with
                        | true =>
                          rw [if_pos rfl] at hgo
                          have x0 := hbx.cell 0
                          simp only [List.getElem?_toArray, List.getElem?_cons_zero] at x0
                          have hFo : Calls Try.prog 54 #[.string part, .agg #[.string x.nm, .int .u16 x.num, .int .u8 x.kind], .pointer (some ⟨gc, 0, none⟩), .pointer (some ⟨gf, 0, none⟩)] wc fun r w' => r = .returned (.tuple #[]) ∧ (∃ Au cu, Blk w' gf 49 #[.int .u16 (lastU pl), .string part, .int .u16 x.num, .int .u8 x.kind, .bool must, .slice Au pl.length cu] ∧ RowU w' Au pl cu ∧ ∀ a, Au = some a → ¬ a.block = gf) ∧ Only (fun k => k = gf) wc w' := found_any part x pl Ap cp gc gw gf _ _ must _ _ _ _ _ _ _ wc hV7.bc hV7.bw hV7.rp hV7.bf (by omega) hp0
                          replace hFo := Lib.hid hFo
                          go_wp2_with fail
                          refine hFo.out.mono ?_
                          rintro r w8 ⟨rfl, ⟨Au, cu, hz, huz, hAu⟩, ho8⟩
                          have hbz := hV7.bg.only ho8 (hV7.bg.ne hV7.bf (by decide))
                          have hoz := hV7.ho.trans_of ho8 (fun k hk e => by have := hV7.nw.2.2; omega)
                          have hgf := hV7.nw.2.2
                          have hkd : ((lastU pl : Int) == 0) = false := by have := hl1.1; simp; omega
                          clear hV7 ho8 c0 v1 v2 hFo
                          have q0 := hz.cell 0
                          have qf0 := hz.frozen 0
                          have q1 := hz.cell 1
                          have qf1 := hz.frozen 1
                          have q2 := hz.cell 2
                          have qf2 := hz.frozen 2
                          have q3 := hz.cell 3
                          have qf3 := hz.frozen 3
                          have q4 := hz.cell 4
                          have qf4 := hz.frozen 4
                          have q5 := hz.cell 5
                          have qf5 := hz.frozen 5
                          simp only [List.getElem?_toArray, List.getElem?_cons_zero, List.getElem?_cons_succ] at q0 q1 q2 q3 q4 q5
                          have hzz := Lib.hid (hz.set6 (a' := .int .u16 (lastU pl)) (b' := .string part) (c' := .int .u16 x.num) (d' := .int .u8 x.kind) (e' := .bool must) (f' := .slice Au pl.length cu))
                          have hzo2 := (Only.refl (fun k => k = gf) w8).set6 (.int .u16 (lastU pl)) (.string part) (.int .u16 x.num) (.int .u8 x.kind) (.bool must) (.slice Au pl.length cu)
                          have hbz2 := Lib.hid (hbz.only hzo2 (hbz.ne hz (by decide)))
                          have hoz2 := hoz.trans_of hzo2 (fun k hk e => by omega)
                          have huz2 := huz.fresh hzo2 hAu
                          replace hgo := Lib.hid hgo
                          clear hz hzo2 hbz huz hoz
                          go_wp2
                          try rw [Exit.noGoto_ret]
                          refine bodyPost_ret (res27 _ _ _ _ rfl _ rfl rfl hzz.out) rfl ?_
                          exact ⟨links, Au, cu, by omega, by rw [hgo.out]; rfl, by rw [hgo.out]; exact huz2, hbz2.out, hoz2⟩
                        | false =>
                          rw [if_neg (by simp)] at hgo
                          have hcp2 := hV7.rp.2.1
                          have kp : (pl.length : Int) ≤ (cp : Int) := by omega
                          have kp2 : (0 : Int) ≤ (pl.length : Int) := by omega
                          go_wp2_with fail
                          have od := (Only.refl (fun _ => False) wc).drew
                          have hW := hV7.only od
                          generalize hwd : wc.drew = wd at *
                          replace hwd := Lib.hid hwd
                          clear c0 v1 v2 v3 x1 x2
                          have hbx1 := hbx.only od (fun x => x)
                          have F : ∀ W, Only (fun _ => False) wd W → W.cell? ⟨gc, 0, none⟩ = some (.pointer (some ⟨gw, 0, none⟩)) ∧ W.cell? ⟨gw, 1, none⟩ = some (.slice Ap pl.length cp) ∧ W.cell? ⟨gx, 1, none⟩ = some (.int .u16 x.num) := fun W h => ⟨(hW.only h).bc.cell 0, (hW.only h).bw.cell 1, (hbx1.only h (fun x => x)).cell 1⟩
                          replace F := Lib.hid F
                          have hS0 := Only.refl (fun _ => False) wd
                          have hnb := Blk.new wd 46 #[.int .u16 x.num]
                          have ob := (Only.refl (fun _ => False) wd).alloc (.cells #[.int .u16 x.num] 46)
                          obtain ⟨A9, c9, w9, hap, hr9, ho9, _⟩ := full_u (hW.rp.only ob (fun _ _ x => x)) (rowU_one hnb) (by omega) (by simp) (by simp)
                          have ho19 := ob.trans ho9
                          simp only [List.length_singleton] at hap
                          refine wp_region_noPanic ?_
                          refine wp_region_E 22 (fun W => Only (fun _ => False) wd W) (by kernel_rfl) ?_
                          rw [hwd.out]
                          refine E_take (v := ?g0) 0 rfl (by kernel_rfl) (by kernel_rfl) (by kernel_rfl) (by kernel_rfl) (by kernel_rfl) (by kernel_rfl) (fun _ _ _ h => h) rfl hS0 ?gh0 ?_
                          case gh0 => intro W hW; obtain ⟨t0, t1, t2⟩ := F.out W hW; go_simp; try with_reducible rfl
                          simp only [Act.put, List.setIfInBounds_toArray, List.set_cons_zero, List.set_cons_succ]
                          refine E_take (v := ?g1) 1 rfl (by kernel_rfl) (by kernel_rfl) (by kernel_rfl) (by kernel_rfl) (by kernel_rfl) (by kernel_rfl) (fun _ _ _ h => h) rfl hS0 ?gh1 ?_
                          case gh1 => intro W hW; obtain ⟨t0, t1, t2⟩ := F.out W hW; go_simp; try with_reducible rfl
                          simp only [Act.put, List.setIfInBounds_toArray, List.set_cons_zero, List.set_cons_succ]
                          refine E_take (v := ?g2) 2 rfl (by kernel_rfl) (by kernel_rfl) (by kernel_rfl) (by kernel_rfl) (by kernel_rfl) (by kernel_rfl) (fun _ _ _ h => h) rfl hS0 ?gh2 ?_
                          case gh2 => intro W hW; obtain ⟨t0, t1, t2⟩ := F.out W hW; go_simp; try with_reducible rfl
                          simp only [Act.put, List.setIfInBounds_toArray, List.set_cons_zero, List.set_cons_succ]
                          refine E_take (v := ?g3) 3 rfl (by kernel_rfl) (by kernel_rfl) (by kernel_rfl) (by kernel_rfl) (by kernel_rfl) (by kernel_rfl) (fun _ _ _ h => h) rfl hS0 ?gh3 ?_
                          case gh3 => intro W hW; obtain ⟨t0, t1, t2⟩ := F.out W hW; go_simp; try with_reducible rfl
                          simp only [Act.put, List.setIfInBounds_toArray, List.set_cons_zero, List.set_cons_succ]
                          refine E_take (v := ?g4) 4 rfl (by kernel_rfl) (by kernel_rfl) (by kernel_rfl) (by kernel_rfl) (by kernel_rfl) (by kernel_rfl) (fun _ _ _ h => h) rfl hS0 ?gh4 ?_
                          case gh4 => intro W hW; obtain ⟨t0, t1, t2⟩ := F.out W hW; go_simp; try with_reducible rfl
                          simp only [Act.put, List.setIfInBounds_toArray, List.set_cons_zero, List.set_cons_succ]
                          refine E_take (v := ?g5) 5 rfl (by kernel_rfl) (by kernel_rfl) (by kernel_rfl) (by kernel_rfl) (by kernel_rfl) (by kernel_rfl) (fun _ _ _ h => h) rfl hS0 ?gh5 ?_
                          case gh5 => intro W hW; obtain ⟨t0, t1, t2⟩ := F.out W hW; go_simp; try with_reducible rfl
                          simp only [Act.put, List.setIfInBounds_toArray, List.set_cons_zero, List.set_cons_succ]
                          refine E_take (v := ?g6) 6 rfl (by kernel_rfl) (by kernel_rfl) (by kernel_rfl) (by kernel_rfl) (by kernel_rfl) (by kernel_rfl) (fun _ _ _ h => h) rfl hS0 ?gh6 ?_
                          case gh6 => intro W hW; obtain ⟨t0, t1, t2⟩ := F.out W hW; go_simp; try with_reducible rfl
                          simp only [Act.put, List.setIfInBounds_toArray, List.set_cons_zero, List.set_cons_succ]
                          refine E_take (v := ?g7) 7 rfl (by kernel_rfl) (by kernel_rfl) (by kernel_rfl) (by kernel_rfl) (by kernel_rfl) (by kernel_rfl) (fun _ _ _ h => h) rfl hS0 ?gh7 ?_
                          case gh7 => intro W hW; obtain ⟨t0, t1, t2⟩ := F.out W hW; go_simp; try with_reducible rfl
                          simp only [Act.put, List.setIfInBounds_toArray, List.set_cons_zero, List.set_cons_succ]
                          refine E_take (v := ?g8) 8 rfl (by kernel_rfl) (by kernel_rfl) (by kernel_rfl) (by kernel_rfl) (by kernel_rfl) (by kernel_rfl) (fun _ _ _ h => h) rfl hS0 ?gh8 ?_
                          case gh8 => intro W hW; obtain ⟨t0, t1, t2⟩ := F.out W hW; go_simp; try with_reducible rfl
                          simp only [Act.put, List.setIfInBounds_toArray, List.set_cons_zero, List.set_cons_succ]
                          refine E_take (v := ?g9) 9 rfl (by kernel_rfl) (by kernel_rfl) (by kernel_rfl) (by kernel_rfl) (by kernel_rfl) (by kernel_rfl) (fun _ _ _ h => h) rfl hS0 ?gh9 ?_
                          case gh9 => intro W hW; obtain ⟨t0, t1, t2⟩ := F.out W hW; go_simp; try with_reducible rfl
                          simp only [Act.put, List.setIfInBounds_toArray, List.set_cons_zero, List.set_cons_succ]
                          refine E_take (v := ?g10) 10 rfl (by kernel_rfl) (by kernel_rfl) (by kernel_rfl) (by kernel_rfl) (by kernel_rfl) (by kernel_rfl) (fun _ _ _ h => h) rfl hS0 ?gh10 ?_
                          case gh10 => intro W hW; obtain ⟨t0, t1, t2⟩ := F.out W hW; go_simp; try with_reducible rfl
                          simp only [Act.put, List.setIfInBounds_toArray, List.set_cons_zero, List.set_cons_succ]
                          refine E_take (v := ?g11) 11 rfl (by kernel_rfl) (by kernel_rfl) (by kernel_rfl) (by kernel_rfl) (by kernel_rfl) (by kernel_rfl) (fun _ _ _ h => h) rfl hS0 ?gh11 ?_
                          case gh11 => intro W hW; obtain ⟨t0, t1, t2⟩ := F.out W hW; go_simp; try with_reducible rfl
                          simp only [Act.put, List.setIfInBounds_toArray, List.set_cons_zero, List.set_cons_succ]
                          refine E_take (v := ?g12) 12 rfl (by kernel_rfl) (by kernel_rfl) (by kernel_rfl) (by kernel_rfl) (by kernel_rfl) (by kernel_rfl) (fun _ _ _ h => h) rfl hS0 ?gh12 ?_
                          case gh12 => intro W hW; obtain ⟨t0, t1, t2⟩ := F.out W hW; go_simp; try with_reducible rfl
                          simp only [Act.put, List.setIfInBounds_toArray, List.set_cons_zero, List.set_cons_succ]
                          refine E_take (v := ?g13) 13 rfl (by kernel_rfl) (by kernel_rfl) (by kernel_rfl) (by kernel_rfl) (by kernel_rfl) (by kernel_rfl) (fun _ _ _ h => h) rfl hS0 ?gh13 ?_
                          case gh13 => intro W hW; obtain ⟨t0, t1, t2⟩ := F.out W hW; go_simp; try with_reducible rfl
                          simp only [Act.put, List.setIfInBounds_toArray, List.set_cons_zero, List.set_cons_succ]
                          refine E_take (v := ?g14) 14 rfl (by kernel_rfl) (by kernel_rfl) (by kernel_rfl) (by kernel_rfl) (by kernel_rfl) (by kernel_rfl) (fun _ _ _ h => h) rfl hS0 ?gh14 ?_
                          case gh14 => intro W hW; obtain ⟨t0, t1, t2⟩ := F.out W hW; go_simp; try with_reducible rfl
                          simp only [Act.put, List.setIfInBounds_toArray, List.set_cons_zero, List.set_cons_succ]
                          refine E_take (v := ?g15) 15 rfl (by kernel_rfl) (by kernel_rfl) (by kernel_rfl) (by kernel_rfl) (by kernel_rfl) (by kernel_rfl) (fun _ _ _ h => h) rfl hS0 ?gh15 ?_
                          case gh15 => intro W hW; obtain ⟨t0, t1, t2⟩ := F.out W hW; go_simp; try with_reducible rfl
                          simp only [Act.put, List.setIfInBounds_toArray, List.set_cons_zero, List.set_cons_succ]
                          refine E_take (v := ?g16) 16 rfl (by kernel_rfl) (by kernel_rfl) (by kernel_rfl) (by kernel_rfl) (by kernel_rfl) (by kernel_rfl) (fun _ _ _ h => h) rfl hS0 ?gh16 ?_
                          case gh16 => intro W hW; obtain ⟨t0, t1, t2⟩ := F.out W hW; go_simp; try with_reducible rfl
                          simp only [Act.put, List.setIfInBounds_toArray, List.set_cons_zero, List.set_cons_succ]
                          refine E_take (v := ?g17) 17 rfl (by kernel_rfl) (by kernel_rfl) (by kernel_rfl) (by kernel_rfl) (by kernel_rfl) (by kernel_rfl) (fun _ _ _ h => h) rfl hS0 ?gh17 ?_
                          case gh17 => intro W hW; obtain ⟨t0, t1, t2⟩ := F.out W hW; go_simp; try with_reducible rfl
                          simp only [Act.put, List.setIfInBounds_toArray, List.set_cons_zero, List.set_cons_succ]
                          refine E_one 18 (by kernel_rfl) rfl (fun K hK => ?_)
                          go_simp
                          refine hK.out _ _ (fun _ => ob) ?_
                          clear hK K
                          try simp only [Act.put, List.setIfInBounds_toArray, List.set_cons_zero, List.set_cons_succ]
                          refine E_one 19 (by kernel_rfl) rfl (fun K hK => ?_)
                          refine step_append_eq1 rfl (.tmp 118) (.tmp 121) 47 rfl _ _ _ w9 (by simp [Act.eval]) (by simp [Act.eval]) hap ?_
                          refine hK.out _ _ (fun _ => ho19) ?_
                          clear hK K
                          try simp only [Act.put, List.setIfInBounds_toArray, List.set_cons_zero, List.set_cons_succ]
                          refine E_one 20 (by kernel_rfl) rfl (fun K hK => ?_)
                          go_simp
                          refine hK.out _ _ (fun _ => ho19) ?_
                          clear hK K
                          try simp only [Act.put, List.setIfInBounds_toArray, List.set_cons_zero, List.set_cons_succ]
                          refine E_one 21 (by kernel_rfl) rfl (fun K hK => ?_)
                          go_simp
                          refine hK.out _ _ (fun _ => ho19) ?_
                          clear hK K
                          try simp only [Act.put, List.setIfInBounds_toArray, List.set_cons_zero, List.set_cons_succ]
                          have hX := hW.only ho19
                          have hlen : (pl ++ [x.num]).length = pl.length + 1 := by simp
                          have hV9 := hX.setp hr9 (by rw [hlen]; omega) (fun n hn => by
                            rcases List.mem_append.1 hn with hn | hn
                            · exact hX.p1 n hn
                            · cases List.mem_singleton.1 hn; omega) (by rw [hlen]; omega)
                          rw [hlen] at hV9
                          have v1 := hX.bw.cell 1
                          have vf1 := hX.bw.frozen 1
                          simp only [List.getElem?_toArray, List.getElem?_cons_zero, List.getElem?_cons_succ] at v1
                          clear hlen
                          refine E_one 22 (by kernel_rfl) rfl (fun K hK => ?_)
                          go_simp
                          refine hK.out _ _ (fun h => absurd h (by decide)) ?_
                          clear hK K
                          try simp only [Act.put, List.setIfInBounds_toArray, List.set_cons_zero, List.set_cons_succ]
                          refine E_done (by kernel_rfl) (NoPanic.normal ?_)
                          generalize World.setCell _ _ _ = w10 at *
                          clear F hS0 hW hX v1 vf1 hwd od hV7 ob ho9 ho19 hap hr9 hnb hbx hbx1
                          replace hgo := Lib.hid hgo
                          go_wp2
                          go_roundg f
                          case measure => omega
                          case rel => exact ⟨pl ++ [x.num], rest, must, links, A9, c9, Ar, cq - 1, hV9, by omega, hgo.out⟩
            · have hgo := hgo
              rw [goes_err hd.out (by rw [hes]; exact he), hes] at hgo
              simp only at hgo
              have heb : (ee != 0) = true := by rw [bne, beq_false_of_ne he]; rfl
              replace he := Lib.hid he
              replace hes := Lib.hid hes
              have q0 := hV5.bf.cell 0
              have qf0 := hV5.bf.frozen 0
              have q1 := hV5.bf.cell 1
              have qf1 := hV5.bf.frozen 1
              have q2 := hV5.bf.cell 2
              have qf2 := hV5.bf.frozen 2
              have q3 := hV5.bf.cell 3
              have qf3 := hV5.bf.frozen 3
              have q4 := hV5.bf.cell 4
              have qf4 := hV5.bf.frozen 4
              have q5 := hV5.bf.cell 5
              have qf5 := hV5.bf.frozen 5
              simp only [List.getElem?_toArray, List.getElem?_cons_zero, List.getElem?_cons_succ] at q0 q1 q2 q3 q4 q5
              have hz := hV5.bf.set6 (a' := .int .u16 0) (b' := .string ⟨#[]⟩) (c' := .int .u16 0) (d' := .int .u8 0) (e' := .bool false) (f' := .slice none 0 0)
              have hzo := (Only.refl (fun k => k = gf) w5).set6 (.int .u16 0) (.string ⟨#[]⟩) (.int .u16 0) (.int .u8 0) (.bool false) (.slice none 0 0)
              have hbz := Lib.hid (hV5.bg.only hzo (hV5.bg.ne hV5.bf (by decide)))
              have hoz := hV5.ho.trans_of hzo (fun k hk e => by have := hV5.nw.2.2; omega)
              replace hz := Lib.hid hz
              replace hgo := Lib.hid hgo
              clear hV5 c0 v1 v2 h5
              go_wp2
              try rw [Exit.noGoto_ret]
              refine bodyPost_ret (res27 _ _ _ _ rfl _ rfl rfl hz.out) rfl ?_
              exact ⟨links, none, 0, by omega, by rw [hgo.out]; rfl, by rw [hgo.out]; exact RowU.nil _, hbz.out, hoz⟩
  · rw [if_pos herr] at hwalk
    have heb : (err != 0) = true := by rw [bne, beq_false_of_ne herr]; rfl
    replace herr := Lib.hid herr
    replace hwalk := Lib.hid hwalk
    generalize hw3 : w2.alloc (.cells #[.bool ab, .slice Ax parts.length cx, .bool sl] 25) = w3 at *
    clear hgp hx2
    have q0 := hf2.cell 0
    have q1 := hf2.cell 1
    have q2 := hf2.cell 2
    have q3 := hf2.cell 3
    have q4 := hf2.cell 4
    have q5 := hf2.cell 5
    simp only [List.getElem?_toArray, List.getElem?_cons_zero, List.getElem?_cons_succ] at q0 q1 q2 q3 q4 q5
    have r0 := hf2.frozen 0
    have r1 := hf2.frozen 1
    have r2 := hf2.frozen 2
    have r3 := hf2.frozen 3
    have r4 := hf2.frozen 4
    have r5 := hf2.frozen 5
    have hz := hf2.set6 (a' := .int .u16 0) (b' := .string ⟨#[]⟩) (c' := .int .u16 0) (d' := .int .u8 0) (e' := .bool false) (f' := .slice none 0 0)
    have hzo := ((Only.refl (fun k => k = w.heap.size) w3).set6 (.int .u16 0) (.string ⟨#[]⟩) (.int .u16 0) (.int .u8 0) (.bool false) (.slice none 0 0))
    clear hf2
    go_wp2
    rw [Exit.noGoto_ret]
    refine bodyPost_ret (res27 _ _ _ _ rfl _ rfl rfl hz) rfl ?_
    exact ⟨0, none, 0, by omega, by rw [hwalk.out]; rfl, by rw [hwalk.out]; exact RowU.nil _, (hb.only ho3 (fun x => x)).only hzo (fun e => by omega), ho3.weak.trans_of hzo (fun k hk e => by omega)⟩
end Go.Proofs.Ytnclappdokhciaa
