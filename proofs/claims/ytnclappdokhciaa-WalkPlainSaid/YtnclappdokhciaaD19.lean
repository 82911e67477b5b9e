/-
  kintsugilaw14.DirPlays (func 11).
-/
import Derived.Test.YtnclappdokhciaaD18
import Derived.Deep.CutBlock
namespace Go.Proofs.Ytnclappdokhciaa
open Go Go.RowKit
set_option linter.unusedVariables false
theorem rowE_one {w : World} {q : Nat} {t : TypeId} {x : Ent} (h : Blk w q t #[.string x.nm, .int .u16 x.num, .int .u8 x.kind]) : RowE w (some ⟨q, 0, none⟩) [x] 1 := by
  refine ⟨⟨rfl, fun _ => ⟨q, 0, rfl, h.lt, fun j u hu => ?_⟩⟩, Nat.le_refl _, fun h => by cases h⟩
  rw [Nat.zero_add, h.cell j]
  rw [← hu]
  simp [ents, Ent.cells]
set_option maxRecDepth 100000 in
set_option maxHeartbeats 16000000 in
theorem playsE_any (acts : List Act0) (A : Option Addr) (c : Nat) (w : World) (h : RowA w A acts) :
    Calls Try.prog 11 #[.slice A acts.length c] w fun r w' => r = .returned (.bool true) ∧ Only (fun _ => False) w w' := by
  by_cases h150 : 150 < acts.length
  · have i0 : (150 : Int) < (acts.length : Int) := by omega
    go_enter Try.func11, Try.ntmps11
    go_wp2_with fail
    refine (wakesE w).mono ?_
    rintro r w1 ⟨rfl, ho⟩
    go_wp2
    go_ret
    exact ⟨rfl, ho⟩
  · have i0 : ¬ (150 : Int) < (acts.length : Int) := by omega
    go_enter Try.func11, Try.ntmps11
    go_wp2
    go_loopw [3, 4, 5] (fun s3 s4 s5 wr => ∃ (i : Nat) (hv : List Ent) (A3 : Option Addr) (c3 : Nat) (A4 : Option Addr) (c4 : Nat), s5 = .int .i64 i ∧ i ≤ acts.length ∧ s3 = .slice A3 hv.length c3 ∧ s4 = .slice A4 hv.length c4 ∧ RowE wr A3 hv c3 ∧ RowE wr A4 hv c4 ∧ areS hv = true ∧ Only (fun _ => False) w wr) (fun _ _ s5 _ => acts.length - (intOf s5).toNat)
    case atStart => exact ⟨0, [], none, 0, none, 0, rfl, by omega, rfl, rfl, RowE.nil w, RowE.nil w, kd7, Only.refl _ _⟩
    case round =>
      obtain ⟨i, hv, A3, c3, A4, c4, rfl, hi, rfl, rfl, h3, h4, hok, ho⟩ := hrel
      by_cases hlt : i < acts.length
      · obtain ⟨x, hx⟩ : ∃ x, acts[i]? = some x := ⟨_, List.getElem?_eq_getElem hlt⟩
        obtain ⟨b, o, rfl, hbb, d0, d1, d2, d3⟩ := (h.only ho) i x hx
        obtain ⟨dx, e⟩ := x
        simp only at d0 d1 d2 d3
        have j0 : (0 : Int) ≤ (i : Int) := by omega
        have j1 : (i : Int) < (acts.length : Int) := by omega
        replace hx := Lib.hid hx
        have h64 := (are_ok hok).1
        have hR := Lib.hid (rise_of hok)
        replace hok := Lib.hid hok
        have hb6 := Blk.new wr 79 #[.string e.nm, .int .u16 e.num, .int .u8 e.kind]
        have oa := (Only.refl (fun _ => False) wr).alloc (.cells #[.string e.nm, .int .u16 e.num, .int .u8 e.kind] 79)
        by_cases h300 : 300 < e.nm.size
        · have g0 : (300 : Int) < (e.nm.size : Int) := by omega
          have ho2 := ho.trans oa
          clear hb6 oa h3 h4 ho
          go_wp2_with fail
          refine (wakesE _).mono ?_
          rintro r w2 ⟨rfl, ho3⟩
          have ho4 := ho2.trans ho3
          clear ho2 ho3
          go_wp2
          go_ret
          exact ⟨rfl, ho4⟩
        · have g0 : ¬ (300 : Int) < (e.nm.size : Int) := by omega
          obtain ⟨A7, c7, w7, hap, h7, ho7⟩ := copyE (h3.only oa (fun _ _ x => x)) (by omega)
          have hb7 := hb6.only ho7 (fun x => x)
          have ho8 := (ho.trans oa).trans ho7
          have h37 := (h3.only oa (fun _ _ x => x)).only ho7 (fun _ _ x => x)
          have h47 := (h4.only oa (fun _ _ x => x)).only ho7 (fun _ _ x => x)
          have d0' := (Blk.cell_only (oa.trans ho7) (a := ⟨b, o + i * 4, none⟩) hbb (fun x => x)).trans d0
          clear oa ho7 ho h3 h4
          go_upto_block 2 with (at_builtin; refine wpList_append_eq1 rfl (.const (.slice none 0 0)) (.tmp 36) 59 rfl _ _ _ w7 (by simp [Act.eval]) (by simp [Act.eval]) hap ?_)
          clear d1 d2 d3 hap hb6 d0
          go_cut [8, 9, 10, 11, 12, 13, 14, 15] from 20 to 143 (fun s8 s9 s10 s11 s12 s13 s14 s15 W => ∃ (nx : List Ent) (er : Int) (A8 : Option Addr) (c8 : Nat) (A9 : Option Addr) (c9 : Nat), s8 = .slice A8 nx.length c8 ∧ s9 = .slice A9 nx.length c9 ∧ s10 = .int .i64 er ∧ s11 = .int .i64 er ∧ RowE W A8 nx c8 ∧ RowE W A9 nx c9 ∧ Step (nx, er) ∧ RowE W A7 hv c7 ∧ RowE W A3 hv c3 ∧ RowE W A4 hv c4 ∧ Only (fun _ => False) w W)
          case first =>
            clear h150 i0 h j0 j1 hx hbb d0'
            have q0 := hb7.cell 0
            have q1 := hb7.cell 1
            have q2 := hb7.cell 2
            simp only [List.getElem?_toArray, List.getElem?_cons_zero, List.getElem?_cons_succ] at q0 q1 q2
            by_cases hd0 : dx = 0
            · subst hd0
              have st := step_drop hok.out e.nm
              have cD := Lib.hid (drop_any hv A3 c3 e.nm w7 h37 (by omega) hR.out)
              have cR := Lib.hid (fun W hW => dropR_any hv A4 c4 e.nm W hW (by omega))
              generalize dropS hv e.nm = P at *
              obtain ⟨nx, er⟩ := P
              simp only at cD cR
              go_wp2_with fail
              refine cD.out.mono ?_
              rintro r w8 ⟨A8, c8, rfl, h8, ho9⟩
              have hb8 := hb7.only ho9 (fun x => x)
              have p0 := hb8.cell 0
              have p1 := hb8.cell 1
              have p2 := hb8.cell 2
              simp only [List.getElem?_toArray, List.getElem?_cons_zero, List.getElem?_cons_succ] at p0 p1 p2
              clear q0 q1 q2
              go_wp2_with fail
              refine (cR.out w8 (h47.only ho9 (fun _ _ x => x))).mono ?_
              rintro r w9 ⟨A9, c9, rfl, h9, ho10⟩
              have hoo := ho9.trans ho10
              clear cD cR hb8 hb7 p0 p1 p2
              go_wp2_with fail
              go_meet
              exact ⟨nx, er, A8, c8, A9, c9, rfl, rfl, rfl, rfl, h8.only ho10 (fun _ _ x => x), h9, st, h7.only hoo (fun _ _ x => x), h37.only hoo (fun _ _ x => x), h47.only hoo (fun _ _ x => x), ho8.trans hoo⟩
            · have k0 : ((dx : Int) == 0) = false := by simp; omega
              by_cases hd1 : dx = 1
              · subst hd1
                have cD := Lib.hid (findD_any hv A3 c3 e.nm w7 h37 (by omega) hR.out)
                have cR := Lib.hid (fun W hW => findR_any hv A4 c4 e.nm W hW (by omega))
                generalize (findE hv e.nm).getD noEnt = x at *
                generalize (findE hv e.nm).isSome = bl at *
                simp only [Ent.cells] at cD cR
                go_wp2_with fail
                refine cD.out.mono ?_
                rintro r w8 ⟨rfl, ho9⟩
                have hb12 := Blk.new w8 63 #[.string x.nm, .int .u16 x.num, .int .u8 x.kind]
                have oa12 := (Only.refl (fun _ => False) w8).alloc (.cells #[.string x.nm, .int .u16 x.num, .int .u8 x.kind] 63)
                have ho10 := ho9.trans oa12
                have hb8 := hb7.only ho10 (fun x => x)
                have p0 := hb8.cell 0
                have p1 := hb8.cell 1
                have p2 := hb8.cell 2
                simp only [List.getElem?_toArray, List.getElem?_cons_zero, List.getElem?_cons_succ] at p0 p1 p2
                clear q0 q1 q2 hb7 hb8
                go_wp2_with fail
                refine (cR.out _ (h47.only ho10 (fun _ _ x => x))).mono ?_
                rintro r w9 ⟨rfl, ho11⟩
                have ob10 := (Only.refl (fun _ => False) w9).alloc (.cells #[.string x.nm, .int .u16 x.num, .int .u8 x.kind] 79)
                have hb14 := Blk.new w9 79 #[.string x.nm, .int .u16 x.num, .int .u8 x.kind]
                have hb12b := hb12.only (ho11.trans ob10) (fun x => x)
                generalize hw10 : w9.alloc (.cells #[.string x.nm, .int .u16 x.num, .int .u8 x.kind] 79) = w10 at *
                have e10 : w10.heap.size = w9.heap.size + 1 := by rw [← hw10]; simp
                have ob11 := (Only.refl (fun _ => False) w10).alloc (.cells #[.string x.nm, .int .u16 x.num, .int .u8 x.kind] 63)
                have hb15 := Blk.new w10 63 #[.string x.nm, .int .u16 x.num, .int .u8 x.kind]
                have hb14b := hb14.only ob11 (fun x => x)
                generalize hw11 : w10.alloc (.cells #[.string x.nm, .int .u16 x.num, .int .u8 x.kind] 63) = w11 at *
                have e11 : w11.heap.size = w9.heap.size + 2 := by rw [← hw11]; simp [e10]
                have ob12 := (Only.refl (fun _ => False) w11).alloc (.cells #[.string x.nm, .int .u16 x.num, .int .u8 x.kind] 79)
                have hb16 := Blk.new w11 79 #[.string x.nm, .int .u16 x.num, .int .u8 x.kind]
                have hb15b := hb15.only ob12 (fun x => x)
                have hoo := ((ho10.trans ho11).trans ob10).trans (ob11.trans ob12)
                have hsm := sameE_true [x] _ _ 1 1 _ (rowE_one hb15b) (rowE_one hb16) (by simp)
                have z0 := hb12b.cell 0
                have z1 := hb12b.cell 1
                have z2 := hb12b.cell 2
                have y0 := hb14b.cell 0
                have y1 := hb14b.cell 1
                have y2 := hb14b.cell 2
                simp only [List.getElem?_toArray, List.getElem?_cons_zero, List.getElem?_cons_succ] at z0 z1 z2 y0 y1 y2
                clear hb12 hb12b hb14 hb14b hb15 hb15b hb16 ob10 ob11 ob12 p0 p1 p2
                simp only [List.length_cons, List.length_nil, Nat.zero_add] at hsm
                rw [e10, e11] at hsm
                clear e10 e11
                subst hw10
                subst hw11
                replace hsm := Lib.hid hsm
                go_wp2_with fail
                refine hsm.out.mono ?_
                rintro r w13 ⟨rfl, ho13⟩
                have hof := hoo.trans ho13
                clear hsm hoo ho13 z0 z1 z2 y0 y1 y2 cR cD
                go_wp2_with fail
                go_meet
                exact ⟨hv, 0, A3, c3, A4, c4, rfl, rfl, rfl, rfl, h37.only hof (fun _ _ x => x), h47.only hof (fun _ _ x => x), .inl ⟨rfl, hok.out⟩, h7.only hof (fun _ _ x => x), h37.only hof (fun _ _ x => x), h47.only hof (fun _ _ x => x), ho8.trans hof⟩
              · have k1 : ((dx : Int) == 1) = false := by simp; omega
                have st := step_add hok.out e
                have cD := Lib.hid (add_any hv A3 c3 e w7 h37 (by omega) hR.out (by omega))
                have cR := Lib.hid (fun W hW => addR_any hv A4 c4 e W hW (by omega) (by omega))
                generalize addS hv e = P at *
                obtain ⟨nx, er⟩ := P
                simp only [Ent.cells] at cD cR
                go_wp2_with fail
                refine cD.out.mono ?_
                rintro r w8 ⟨A8, c8, rfl, h8, ho9⟩
                have hb8 := hb7.only ho9 (fun x => x)
                have p0 := hb8.cell 0
                have p1 := hb8.cell 1
                have p2 := hb8.cell 2
                simp only [List.getElem?_toArray, List.getElem?_cons_zero, List.getElem?_cons_succ] at p0 p1 p2
                clear q0 q1 q2
                go_wp2_with fail
                refine (cR.out w8 (h47.only ho9 (fun _ _ x => x))).mono ?_
                rintro r w9 ⟨A9, c9, rfl, h9, ho10⟩
                have hoo := ho9.trans ho10
                clear cD cR hb8 hb7 p0 p1 p2
                go_wp2_with fail
                go_meet
                exact ⟨nx, er, A8, c8, A9, c9, rfl, rfl, rfl, rfl, h8.only ho10 (fun _ _ x => x), h9, st, h7.only hoo (fun _ _ x => x), h37.only hoo (fun _ _ x => x), h47.only hoo (fun _ _ x => x), ho8.trans hoo⟩
          case rest =>
            obtain ⟨nx, er, A8, c8, A9, c9, rfl, rfl, rfl, rfl, h8, h9, st, h7', h3, h4, ho9⟩ := hcut
            clear h37 h47 hb7 h7 ho8 d0' hbb h150 hx
            have hS1 := Lib.hid (fun W (hW : Only (fun _ => False) wc W) => sameE_true hv A7 A4 c7 c4 W (h7'.only hW (fun _ _ x => x)) (h4.only hW (fun _ _ x => x)) (by omega))
            have hS2 := Lib.hid (fun W (hW : Only (fun _ => False) wc W) => sameE_true hv A3 A4 c3 c4 W (h3.only hW (fun _ _ x => x)) (h4.only hW (fun _ _ x => x)) (by omega))
            rcases st with ⟨he, hnx⟩ | ⟨he, hnx⟩
            · simp only at he hnx
              subst he
              have hn64 := (are_ok hnx).1
              replace hnx := Lib.hid hnx
              go_wp2_with fail
              refine (sameE_true nx A8 A9 c8 c9 wc h8 h9 (by omega)).mono ?_
              rintro r w1 ⟨rfl, ho1⟩
              go_wp2_with fail
              refine (hS1.out w1 ho1).mono ?_
              rintro r w2 ⟨rfl, ho2⟩
              have ho12 := ho1.trans ho2
              go_wp2_with fail
              refine (hS2.out w2 ho12).mono ?_
              rintro r w3 ⟨rfl, ho3⟩
              have ho13 := ho12.trans ho3
              have h83 := h8.only ho13 (fun _ _ x => x)
              have h93 := h9.only ho13 (fun _ _ x => x)
              have hof := ho9.trans ho13
              clear hS1 hS2 ho1 ho2 ho3 ho12 ho13 h8 h9 h3 h4 h7' ho9
              go_wp2
              go_roundw
              case rel => exact ⟨i + 1, nx, A8, c8, A9, c9, by go_num, by omega, rfl, rfl, h83, h93, hnx.out, hof⟩
              case measure => simp [intOf]; omega
            · simp only at he hnx
              subst hnx
              have he' : (er == 0) = false := beq_false_of_ne he
              have he2 : (er != 0) = true := by rw [bne, he']; rfl
              simp only [List.length_nil]
              go_wp2_with fail
              refine (hS1.out wc (Only.refl _ _)).mono ?_
              rintro r w2 ⟨rfl, ho2⟩
              go_wp2_with fail
              refine (hS2.out w2 ho2).mono ?_
              rintro r w3 ⟨rfl, ho3⟩
              have ho13 := ho2.trans ho3
              have h33 := h3.only ho13 (fun _ _ x => x)
              have h43 := h4.only ho13 (fun _ _ x => x)
              have hof := ho9.trans ho13
              clear hS1 hS2 ho2 ho3 ho13 h8 h9 h3 h4 h7' ho9
              go_wp2
              go_roundw
              case rel => exact ⟨i + 1, hv, A3, c3, A4, c4, by go_num, by omega, rfl, rfl, h33, h43, hok.out, hof⟩
              case measure => simp [intOf]; omega
      · obtain rfl : i = acts.length := by omega
        have hlt' : ¬ (acts.length : Int) < (acts.length : Int) := by omega
        go_wp2_with fail
        refine (wakesE wr).mono ?_
        rintro r w1 ⟨rfl, ho1⟩
        have hof := ho.trans ho1
        go_wp2
        go_ret
        exact ⟨rfl, hof⟩
end Go.Proofs.Ytnclappdokhciaa
