/-
  The law's proper (func 26).
-/
import Derived.Test.YtnclappdokhciaaK9
import Derived.Test.YtnclappdokhciaaOpenT
namespace Go.Proofs.Ytnclappdokhciaa
open Go Go.RowKit
set_option linter.unusedVariables false
theorem propT_rows {w w' : World} {A : Option Addr} {ts : List Thg} {c : Nat} (h : RowT w A ts c) (ho : Only (fun _ => False) w w') : ∀ t ∈ ts.map propT, RowE w' t.A t.L t.c := fun t ht => by
  obtain ⟨s, hs, rfl⟩ := List.mem_map.1 ht
  unfold propT
  split
  · exact (h.rows s hs).only ho (fun _ _ x => x)
  · exact RowE.nil _
theorem take_map_succ (ts : List Thg) (i : Nat) (x : Thg) (hx : ts[i]? = some x) : (ts.take i).map propT ++ [propT x] = (ts.take (i + 1)).map propT := by
  rw [List.take_add_one, hx, List.map_append]; rfl
set_option maxRecDepth 20000 in
set_option maxHeartbeats 8000000 in
theorem properT_any (ts : List Thg) (A : Option Addr) (c : Nat) (w : World) (h : RowT w A ts c) (hl : ts.length ≤ 12) (hb : ∀ t ∈ ts, t.L.length ≤ 30) (hL : ∀ t ∈ ts, Long t.L) :
    Calls Try.prog 26 #[.slice A ts.length c] w fun r w' => ∃ A' c', r = .returned (.slice A' ts.length c') ∧ RowT w' A' (ts.map propT) c' ∧ Only (fun _ => False) w w' := by
  replace hb := Lib.hid hb
  replace hL := Lib.hid hL
  go_enter Try.func26, Try.ntmps26
  go_wp2
  go_loopw [3, 4] (fun s3 s4 wr => ∃ i : Nat, s4 = .int .i64 i ∧ i ≤ ts.length ∧ PT w ((ts.take i).map propT) s3 wr) (fun _ s4 _ => ts.length - (intOf s4).toNat)
  case atStart => exact ⟨0, rfl, Nat.zero_le _, PT.nil _⟩
  case round =>
    obtain ⟨i, rfl, hi, hP⟩ := hrel
    by_cases hlt : i < ts.length
    · have hx : ts[i]? = some ts[i] := List.getElem?_eq_getElem hlt
      have hmem : ts[i] ∈ ts := List.getElem_mem hlt
      have hr := h.only hP.2 (fun _ _ x => x)
      obtain ⟨bb, oo, eA, hbb, d0, d1, d2⟩ := hr.lit hx
      subst eA
      have hrx := hr.rows _ hmem
      have hbx := hb.out _ hmem
      have hLx := hL.out _ hmem
      have hlen : ((ts.take i).map propT).length = i := by rw [List.length_map, List.length_take]; omega
      have hnext := take_map_succ ts i _ hx
      generalize ts[i] = x at *
      have oa := (Only.refl (fun _ => False) wr).alloc (.cells #[.slice x.A x.L.length x.c, .string x.tg, .int .i64 x.e] 98)
      have hq := Blk.new wr 98 #[.slice x.A x.L.length x.c, .string x.tg, .int .i64 x.e]
      have hA := areR_anyX x.L x.A x.c _ (hrx.only oa (fun _ _ x => x)) (by omega) hLx
      replace hnext := Lib.hid hnext
      replace hlen := Lib.hid hlen
      cases ha : areS x.L with
      | true =>
        by_cases he : x.e = 0
        · have hp : Hid (propT x = x) := Lib.hid (by unfold propT; rw [if_pos ⟨ha, he⟩])
          rw [ha] at hA
          have j5 : (x.e != 0) = false := by rw [he]; rfl
          replace hA := Lib.hid hA
          replace hnext := Lib.hid hnext
          replace hlen := Lib.hid hlen
          replace hP := Lib.hid hP
          replace hLx := Lib.hid hLx
          replace ha := Lib.hid ha
          replace he := Lib.hid he
          clear hx hmem hr hrx hbx
          have j0 : (0 : Int) ≤ (i : Int) := by omega
          have j1 : (i : Int) < (ts.length : Int) := by omega
          go_wp2_with fail
          refine hA.out.mono ?_
          rintro r w5 ⟨rfl, ho5'⟩
          have ho5 := oa.trans ho5'
          have hq5 := hq.only ho5' (fun x => x)
          have hone := hP.out.one (W2 := World.alloc w5 (.cells #[.slice x.A x.L.length x.c, .string x.tg, .int .i64 x.e] 98)) (ho5.alloc _) (by rw [hlen.out]; omega) _ (propT x) (by rw [hp.out]; exact Blk.new _ _ _)
          obtain ⟨v9, w9, hrun, hP9⟩ := hone
          rw [hnext.out] at hP9
          replace hrun := Lib.hid hrun
          replace hP9 := Lib.hid hP9
          have c0 := hq5.cell 0
          have c1 := hq5.cell 1
          have c2 := hq5.cell 2
          have f0 := hq5.frozen 0
          simp only [List.getElem?_toArray, List.getElem?_cons_zero, List.getElem?_cons_succ] at c0 c1 c2
          clear hP hnext hlen hq hq5 ho5 ho5' hA d0 d1 d2   hp hbb hLx oa
          go_wp2_with (at_builtin; refine wpList_append_eq1 rfl (.tmp 25) (.tmp 27) 40 rfl _ _ _ _ (by rfl) (by rfl) hrun.out ?_)
          go_roundw
          case rel => exact ⟨i + 1, by go_num, by omega, hP9.out⟩
          case measure => simp [intOf]; omega
        · have hp : Hid (propT x = ⟨none, 0, [], x.tg, x.e⟩) := Lib.hid (by unfold propT; rw [if_neg (fun h => he h.2)])
          rw [ha] at hA
          have j5 : (x.e != 0) = true := by rw [bne, beq_false_of_ne he]; rfl
          replace hA := Lib.hid hA
          replace hnext := Lib.hid hnext
          replace hlen := Lib.hid hlen
          replace hP := Lib.hid hP
          replace hLx := Lib.hid hLx
          replace ha := Lib.hid ha
          replace he := Lib.hid he
          clear hx hmem hr hrx hbx
          have j0 : (0 : Int) ≤ (i : Int) := by omega
          have j1 : (i : Int) < (ts.length : Int) := by omega
          go_wp2_with fail
          refine hA.out.mono ?_
          rintro r w5 ⟨rfl, ho5'⟩
          have ho5 := oa.trans ho5'
          have hq5 := hq.only ho5' (fun x => x)
          have hs5 := hq5.set_ 0 (.slice none 0 0)
          simp only [List.setIfInBounds_toArray, List.set_cons_zero] at hs5
          have hos := ho5.setCell (p := ⟨wr.heap.size, 0, none⟩) (.inr (Nat.le_refl _)) (.slice none 0 0)
          have hz5 : (w5.setCell ⟨wr.heap.size, 0, none⟩ (.slice none 0 0)).heap.size = w5.heap.size := by simp [World.setCell]
          have hbn := Blk.new (w5.setCell ⟨wr.heap.size, 0, none⟩ (.slice none 0 0)) 98 #[.slice none 0 0, .string x.tg, .int .i64 x.e]
          rw [hz5] at hbn
          have hone := hP.out.one (W2 := World.alloc (w5.setCell ⟨wr.heap.size, 0, none⟩ (.slice none 0 0)) (.cells #[.slice none 0 0, .string x.tg, .int .i64 x.e] 98)) (hos.alloc _) (by rw [hlen.out]; omega) w5.heap.size (propT x) (by rw [hp.out]; exact hbn)
          obtain ⟨v9, w9, hrun, hP9⟩ := hone
          rw [hnext.out] at hP9
          replace hrun := Lib.hid hrun
          replace hP9 := Lib.hid hP9
          have c0 := hq5.cell 0
          have c1 := hq5.cell 1
          have c2 := hq5.cell 2
          have f0 := hq5.frozen 0
          simp only [List.getElem?_toArray, List.getElem?_cons_zero, List.getElem?_cons_succ] at c0 c1 c2
          clear hP hnext hlen hq hq5 ho5 ho5' hA d0 d1 d2 hz5 hbn hs5 hos  hp hbb hLx oa
          go_wp2_with (at_builtin; refine wpList_append_eq1 rfl (.tmp 25) (.tmp 27) 40 rfl _ _ _ _ (by rfl) (by rfl) hrun.out ?_)
          go_roundw
          case rel => exact ⟨i + 1, by go_num, by omega, hP9.out⟩
          case measure => simp [intOf]; omega
      | false =>
        by_cases he : x.e = 0
        · have hp : Hid (propT x = ⟨none, 0, [], x.tg, x.e⟩) := Lib.hid (by unfold propT; rw [if_neg (fun h => by rw [ha] at h; cases h.1)])
          rw [ha] at hA
          have j5 : (x.e != 0) = false := by rw [he]; rfl
          replace hA := Lib.hid hA
          replace hnext := Lib.hid hnext
          replace hlen := Lib.hid hlen
          replace hP := Lib.hid hP
          replace hLx := Lib.hid hLx
          replace ha := Lib.hid ha
          replace he := Lib.hid he
          clear hx hmem hr hrx hbx
          have j0 : (0 : Int) ≤ (i : Int) := by omega
          have j1 : (i : Int) < (ts.length : Int) := by omega
          go_wp2_with fail
          refine hA.out.mono ?_
          rintro r w5 ⟨rfl, ho5'⟩
          have ho5 := oa.trans ho5'
          have hq5 := hq.only ho5' (fun x => x)
          have hs5 := hq5.set_ 0 (.slice none 0 0)
          simp only [List.setIfInBounds_toArray, List.set_cons_zero] at hs5
          have hos := ho5.setCell (p := ⟨wr.heap.size, 0, none⟩) (.inr (Nat.le_refl _)) (.slice none 0 0)
          have hz5 : (w5.setCell ⟨wr.heap.size, 0, none⟩ (.slice none 0 0)).heap.size = w5.heap.size := by simp [World.setCell]
          have hbn := Blk.new (w5.setCell ⟨wr.heap.size, 0, none⟩ (.slice none 0 0)) 98 #[.slice none 0 0, .string x.tg, .int .i64 x.e]
          rw [hz5] at hbn
          have hone := hP.out.one (W2 := World.alloc (w5.setCell ⟨wr.heap.size, 0, none⟩ (.slice none 0 0)) (.cells #[.slice none 0 0, .string x.tg, .int .i64 x.e] 98)) (hos.alloc _) (by rw [hlen.out]; omega) w5.heap.size (propT x) (by rw [hp.out]; exact hbn)
          obtain ⟨v9, w9, hrun, hP9⟩ := hone
          rw [hnext.out] at hP9
          replace hrun := Lib.hid hrun
          replace hP9 := Lib.hid hP9
          have c0 := hq5.cell 0
          have c1 := hq5.cell 1
          have c2 := hq5.cell 2
          have f0 := hq5.frozen 0
          simp only [List.getElem?_toArray, List.getElem?_cons_zero, List.getElem?_cons_succ] at c0 c1 c2
          clear hP hnext hlen hq hq5 ho5 ho5' hA d0 d1 d2 hz5 hbn hs5 hos  hp hbb hLx oa
          go_wp2_with (at_builtin; refine wpList_append_eq1 rfl (.tmp 25) (.tmp 27) 40 rfl _ _ _ _ (by rfl) (by rfl) hrun.out ?_)
          go_roundw
          case rel => exact ⟨i + 1, by go_num, by omega, hP9.out⟩
          case measure => simp [intOf]; omega
        · have hp : Hid (propT x = ⟨none, 0, [], x.tg, x.e⟩) := Lib.hid (by unfold propT; rw [if_neg (fun h => he h.2)])
          rw [ha] at hA
          have j5 : (x.e != 0) = true := by rw [bne, beq_false_of_ne he]; rfl
          replace hA := Lib.hid hA
          replace hnext := Lib.hid hnext
          replace hlen := Lib.hid hlen
          replace hP := Lib.hid hP
          replace hLx := Lib.hid hLx
          replace ha := Lib.hid ha
          replace he := Lib.hid he
          clear hx hmem hr hrx hbx
          have j0 : (0 : Int) ≤ (i : Int) := by omega
          have j1 : (i : Int) < (ts.length : Int) := by omega
          go_wp2_with fail
          refine hA.out.mono ?_
          rintro r w5 ⟨rfl, ho5'⟩
          have ho5 := oa.trans ho5'
          have hq5 := hq.only ho5' (fun x => x)
          have hs5 := hq5.set_ 0 (.slice none 0 0)
          simp only [List.setIfInBounds_toArray, List.set_cons_zero] at hs5
          have hos := ho5.setCell (p := ⟨wr.heap.size, 0, none⟩) (.inr (Nat.le_refl _)) (.slice none 0 0)
          have hs6 := hs5.set_ 0 (.slice none 0 0)
          simp only [List.setIfInBounds_toArray, List.set_cons_zero] at hs6
          have hos2 := hos.setCell (p := ⟨wr.heap.size, 0, none⟩) (.inr (Nat.le_refl _)) (.slice none 0 0)
          have hz5 : ((w5.setCell ⟨wr.heap.size, 0, none⟩ (.slice none 0 0)).setCell ⟨wr.heap.size, 0, none⟩ (.slice none 0 0)).heap.size = w5.heap.size := by simp [World.setCell]
          have hbn := Blk.new ((w5.setCell ⟨wr.heap.size, 0, none⟩ (.slice none 0 0)).setCell ⟨wr.heap.size, 0, none⟩ (.slice none 0 0)) 98 #[.slice none 0 0, .string x.tg, .int .i64 x.e]
          rw [hz5] at hbn
          have hone := hP.out.one (W2 := World.alloc ((w5.setCell ⟨wr.heap.size, 0, none⟩ (.slice none 0 0)).setCell ⟨wr.heap.size, 0, none⟩ (.slice none 0 0)) (.cells #[.slice none 0 0, .string x.tg, .int .i64 x.e] 98)) (hos2.alloc _) (by rw [hlen.out]; omega) w5.heap.size (propT x) (by rw [hp.out]; exact hbn)
          obtain ⟨v9, w9, hrun, hP9⟩ := hone
          rw [hnext.out] at hP9
          replace hrun := Lib.hid hrun
          replace hP9 := Lib.hid hP9
          have c0 := hq5.cell 0
          have c1 := hq5.cell 1
          have c2 := hq5.cell 2
          have f0 := hq5.frozen 0
          simp only [List.getElem?_toArray, List.getElem?_cons_zero, List.getElem?_cons_succ] at c0 c1 c2
          clear hP hnext hlen hq hq5 ho5 ho5' hA d0 d1 d2 hz5 hbn hs5 hos hs6 hos2 hp hbb hLx oa
          go_wp2_with (at_builtin; refine wpList_append_eq1 rfl (.tmp 25) (.tmp 27) 40 rfl _ _ _ _ (by rfl) (by rfl) hrun.out ?_)
          go_roundw
          case rel => exact ⟨i + 1, by go_num, by omega, hP9.out⟩
          case measure => simp [intOf]; omega
    · obtain rfl : i = ts.length := by omega
      have hP2 := hP
      rw [List.take_length] at hP2
      obtain ⟨A4, c4, rfl, hrow⟩ := hP2.row
      rw [List.length_map] at hrow
      have hrows := propT_rows h hP2.2
      have hl2 := hP2.2
      clear hP hP2
      have hrow' := Lib.hid hrow
      have hrows' := Lib.hid hrows
      clear hrow hrows
      go_wp2
      go_ret
      exact ⟨A4, c4, (by show Ending.returned (Value.slice A4 (List.map propT ts).length c4) = _; rw [List.length_map]), ⟨by rw [List.length_map]; exact hrow'.out.1, by rw [List.length_map]; exact hrow'.out.2, hrows'.out⟩, hl2⟩
end Go.Proofs.Ytnclappdokhciaa
