/-
  kintsugiref03.Split (func 15).
-/
import Derived.Test.YtnclappdokhciaaS4
import Derived.Test.YtnclappdokhciaaB1
import Derived.Test.YtnclappdokhciaaHeld
import Derived.Deep.RegionHeld3
namespace Go.Proofs.Ytnclappdokhciaa
open Go Go.RowKit
set_option linter.unusedVariables false

theorem res15 (tm : Array Value) (W : World) (g : Nat) (x y z : Value) (e : Int) (h2 : tm.getD 2 undef = .pointer (some ⟨g, 0, none⟩)) (h3 : tm.getD 3 undef = .int .i64 e) (hb : Blk W g 29 #[x, y, z]) :
    (results Try.f15 tm).run Try.prog W = .ok (.tuple #[.agg #[x, y, z], .int .i64 e]) W := by
  have hl := run_loadVar_row (P := Try.prog) W g 29 29 #[x, y, z] (0, 0) _ hb Try.underlying29 rfl (by kernel_rfl)
  unfold results
  rw [Try.results15]
  simp only [List.mapM_toArray, List.mapM_cons, List.mapM_nil, h2, h3]
  simp [asAddr, hl]

set_option maxRecDepth 10000 in
set_option maxHeartbeats 2000000 in
theorem splitR_none (s : ByteArray) (h0 : s.size = 0) (w : World) :
    Calls Try.prog 15 #[.string s] w fun e w' => ∃ A c, e = .returned (.tuple #[.agg #[.bool false, .slice A 0 c, .bool false], .int .i64 20]) ∧ RowS w' A [] c ∧ Only (fun _ => False) w w' := by
  have hne2 : s.toList.isEmpty = true := by rw [toList_empty, decide_eq_true h0]
  have hne : s.toList = [] := by simpa using hne2
  have hb1 := Lib.hid (Blk.new w 29 #[.bool false, .slice none 0 0, .bool false])
  clear h0
  go_enter Try.func15, Try.ntmps15
  go_wp2
  exact bodyPost_ret (res15 _ _ w.heap.size (.bool false) (.slice none 0 0) (.bool false) _ rfl rfl hb1.out) rfl ⟨none, 0, rfl, RowS.nil _, (Only.refl _ w).alloc _⟩

set_option maxRecDepth 10000 in
set_option maxHeartbeats 2000000 in
theorem splitR_far (s : ByteArray) (h0 : 256 < s.size) (w : World) :
    Calls Try.prog 15 #[.string s] w fun e w' => ∃ A c, e = .returned (.tuple #[.agg #[.bool false, .slice A 0 c, .bool false], .int .i64 33]) ∧ RowS w' A [] c ∧ Only (fun _ => False) w w' := by
  have hne : ¬ s.toList = [] := fun e => by
    have := toList_empty s
    rw [e, decide_eq_false (by omega)] at this
    cases this
  have hne2 : s.toList.isEmpty = false := by rw [toList_empty, decide_eq_false (by omega)]
  have i3 : (256 : Int) < (s.size : Int) := by omega
  have hb1 := Lib.hid (Blk.new w 29 #[.bool false, .slice none 0 0, .bool false])
  go_enter Try.func15, Try.ntmps15
  go_wp2
  exact bodyPost_ret (res15 _ _ w.heap.size (.bool false) (.slice none 0 0) (.bool false) _ rfl rfl hb1.out) rfl ⟨none, 0, rfl, RowS.nil _, (Only.refl _ w).alloc _⟩

set_option maxRecDepth 10000 in
set_option maxHeartbeats 2000000 in
theorem splitR_bad (s : ByteArray) (h0 : 0 < s.size) (h1 : s.size ≤ 256) (k : Int) (hf : fault s 0 = k) (hk : k ≠ 0) (w : World) :
    Calls Try.prog 15 #[.string s] w fun e w' => ∃ A c, e = .returned (.tuple #[.agg #[.bool false, .slice A 0 c, .bool false], .int .i64 k]) ∧ RowS w' A [] c ∧ Only (fun _ => False) w w' := by
  have hF := fun w => faultR_any s 0 (by omega) (by omega) w
  rw [hf] at hF
  have hne : ¬ s.toList = [] := fun e => by
    have := toList_empty s
    rw [e, decide_eq_false (by omega)] at this
    cases this
  have hne2 : s.toList.isEmpty = false := by rw [toList_empty, decide_eq_false (by omega)]
  have i3 : ¬ (256 : Int) < (s.size : Int) := by omega
  have hk2 : (k == 0) = false := beq_false_of_ne hk
  have hb1 := Lib.hid (Blk.new w 29 #[.bool false, .slice none 0 0, .bool false])
  go_enter Try.func15, Try.ntmps15
  go_wp2_with (go_at_call 48; refine (hF _).mono ?_; rintro e w1 ⟨rfl, rfl⟩)
  exact bodyPost_ret (res15 _ _ w.heap.size (.bool false) (.slice none 0 0) (.bool false) _ rfl rfl hb1.out) rfl ⟨none, 0, rfl, RowS.nil _, (Only.refl _ w).alloc _⟩

/-- What holds ahead of a round of the reference's Split. -/
structure RL (s : ByteArray) (w : World) (p B : Nat) (A : Option Addr) (c : Nat) (wr : World) (i : Nat) : Prop where
  st : ∃ v, Blk wr (p + 1) 29 #[.bool (decide (bt s 0 = 47)), v, .bool false] ∧ wr.ownsRow B 9 1 v ((((pieces s).take i).filter keepB).length) (strs (((pieces s).take i).filter keepB))
  rs : Blk wr p 29 #[.bool false, .slice none 0 0, .bool false]
  rows : RowS wr A (pieces s) c
  rowB : ∀ b o, A = some ⟨b, o, none⟩ → b ≠ p ∧ b ≠ p + 1 ∧ b < B
  on : Only (fun _ => False) w wr
  hB : B ≤ wr.heap.size
  sh : longB ((pieces s).take i) = false
theorem take_snoc' (l : List ByteArray) (i : Nat) (x : ByteArray) (hx : l[i]? = some x) : l.take (i + 1) = l.take i ++ [x] := by
  rw [List.take_add_one, hx]; rfl
theorem pieces_len (s : ByteArray) : (pieces s).length ≤ s.size + 1 := by
  unfold pieces; rw [List.length_append]
  have := cut_len s s.size
  simp only [List.length_cons, List.length_nil]; omega
theorem longB_false (l : List ByteArray) (h : longB l = false) : True := trivial

set_option maxRecDepth 10000 in
set_option maxHeartbeats 4000000 in
theorem splitR_ok (s : ByteArray) (h0 : 0 < s.size) (h1 : s.size ≤ 256) (hf : fault s 0 = 0) (ta : Bool) (tp : List ByteArray) (ts : Bool) (te : Int)
    (hT : (if longB (pieces s) = true then ⟨false, [], false, 33⟩ else ⟨decide (bt s 0 = 47), (pieces s).filter keepB, endB s || dotsB (lastNE (pieces s)), 0⟩ : Told) = ⟨ta, tp, ts, te⟩) (w : World) :
    Calls Try.prog 15 #[.string s] w fun e w' => ∃ A c, e = .returned (.tuple #[.agg #[.bool ta, .slice A tp.length c, .bool ts], .int .i64 te]) ∧ RowS w' A tp c ∧ Only (fun _ => False) w w' := by
  replace hT := Lib.hid hT
  have hF := fun w => faultR_any s 0 (by omega) (by omega) w
  rw [hf] at hF
  have hne : ¬ s.toList = [] := fun e => by
    have := toList_empty s
    rw [e, decide_eq_false (by omega)] at this
    cases this
  have hne2 : s.toList.isEmpty = false := by rw [toList_empty, decide_eq_false (by omega)]
  have i0 : (0 : Int) < (s.size : Int) := by omega
  have i3 : ¬ (256 : Int) < (s.size : Int) := by omega
  have e0 : ((s[0]'h0).toNat) = bt s 0 := (bt_at s 0 h0).symm
  have i4 : s.size - 1 < s.size := by omega
  have e1 : ((s[s.size - 1]'i4).toNat) = bt s (s.size - 1) := (bt_at s (s.size - 1) i4).symm
  go_enter Try.func15, Try.ntmps15
  go_wp2_with fail
  refine (hF _).mono ?_
  rintro e w1 ⟨rfl, rfl⟩
  go_wp2_with fail
  refine (between_any s (by omega) _).mono ?_
  rintro e w2 ⟨A, c, rfl, hrow, hbs, ho⟩
  rw [nat47] at ho
  have hb0 := ((Blk.new w 29 #[.bool false, .slice none 0 0, .bool false]).alloc (.cells #[.bool (decide (bt s 0 = 47)), .slice none 0 0, .bool false] 29)).only ho (fun x => x)
  have hb1 := (Blk.new (w.alloc (.cells #[.bool false, .slice none 0 0, .bool false] 29)) 29 #[.bool (decide (bt s 0 = 47)), .slice none 0 0, .bool false]).only ho (fun x => x)
  rw [World.size_alloc] at hb1
  have ho2 : Only (fun _ => False) w w2 := (((Only.refl _ w).alloc _).alloc _).trans ho
  have hst : RL s w w.heap.size w2.heap.size A c w2 0 := by
    refine ⟨⟨.slice none 0 0, hb1, World.ownsRow_nil _ _ _ _⟩, hb0, hrow, fun b o e => ?_, ho2, Nat.le_refl _, rfl⟩
    have h1 := hbs b o e
    rw [World.size_alloc, World.size_alloc] at h1
    obtain ⟨b', o', e', hb', _⟩ := hrow.1.2 (by unfold pieces; rw [List.length_append]; simp only [List.length_cons]; omega)
    rw [e] at e'
    cases e'
    exact ⟨by omega, by omega, hb'⟩
  have hB0 : w.heap.size + 2 ≤ w2.heap.size := by have := ho.size; rw [World.size_alloc, World.size_alloc] at this; omega
  replace hst := Lib.hid hst
  clear hb0 hb1 ho hrow hbs ho2 hF
  generalize hpp : w.heap.size = p at hst hB0 ⊢
  have hwp : w.heap.size ≤ p := Nat.le_of_eq hpp
  clear hpp
  generalize w2.heap.size = B at *
  go_wp2
  go_loopw [3, 6, 8] (fun _ t k wr => ∃ i : Nat, k = .int .i64 i ∧ t = .string (lastNE ((pieces s).take i)) ∧ i ≤ (pieces s).length ∧ RL s w p B A c wr i) (fun _ _ k _ => (pieces s).length - (intOf k).toNat)
  case atStart => exact ⟨0, rfl, rfl, by omega, hst.out⟩
  case round =>
    clear hst
    obtain ⟨i, rfl, rfl, hi, hRL⟩ := hrel
    have hpl := pieces_len s
    obtain ⟨⟨v, hblk, hown⟩, hrs, hrows, hrowB, hon, hBw, hsh⟩ := hRL
    by_cases hlt : i < (pieces s).length
    · obtain ⟨x, hx⟩ : ∃ x, (pieces s)[i]? = some x := ⟨_, List.getElem?_eq_getElem hlt⟩
      obtain ⟨b1, o1, rfl, hl1, d1⟩ := hrows.cell hx
      have i5 : (0 : Int) ≤ (i : Int) := by omega
      have i6 : (i : Int) < ((pieces s).length : Int) := by omega
      have hts := take_snoc' _ i x hx
      obtain ⟨m1, m2, m3⟩ := hrowB b1 o1 rfl
      by_cases h24 : 24 < x.size
      · have j1 : (24 : Int) < (x.size : Int) := by omega
        have hlong : longB (pieces s) = true := by
          unfold longB; exact List.any_eq_true.2 ⟨x, List.mem_of_getElem? hx, decide_eq_true h24⟩
        have hTT := hT.out
        rw [hlong, if_pos rfl] at hTT
        injection hTT with t1 t2 t3 t4
        subst t1 t2 t3 t4
        have r0 := hrs.cell 0
        have r1 := hrs.cell 1
        have r2 := hrs.cell 2
        have z0 := hrs.frozen 0
        have z1 := hrs.frozen 1
        have z2 := hrs.frozen 2
        simp only [List.getElem?_toArray, List.getElem?_cons_zero, List.getElem?_cons_succ] at r0 r1 r2
        have fin := Lib.hid (And.intro (((hrs.set_ 0 (.bool false)).set_ 1 (.slice none 0 0)).set_ 2 (.bool false)) (((hon.setCell (p := ⟨p, 0, none⟩) (.inr hwp) (.bool false)).setCell (p := ⟨p, 1, none⟩) (.inr hwp) (.slice none 0 0)).setCell (p := ⟨p, 2, none⟩) (.inr hwp) (.bool false)))
        clear hlong hx hts hblk hown hrs hrows hrowB hon hsh
        go_wp2
        exact bodyPost_ret (res15 _ _ p _ _ _ _ rfl rfl fin.out.1) rfl ⟨none, 0, rfl, RowS.nil _, fin.out.2⟩
      · have j1 : ¬ (24 : Int) < (x.size : Int) := by omega
        have hsh2 : longB ((pieces s).take (i + 1)) = false := by rw [hts, longB_snoc, hsh, decide_eq_false h24]; rfl
        have hll : lastNE ((pieces s).take (i + 1)) = lastN (lastNE ((pieces s).take i)) x := by rw [hts, lastNE_snoc]
        have hkk : ((pieces s).take (i + 1)).filter keepB = ((pieces s).take i).filter keepB ++ if keepB x then [x] else [] := by rw [hts, keep_snoc]
        clear hts hx
        by_cases x0 : x.toList = []
        · have x0b : x.toList.isEmpty = true := by rw [x0]; rfl
          rw [show keepB x = false by simp [keepB, x0], if_neg (by decide), List.append_nil] at hkk
          rw [show lastN (lastNE ((pieces s).take i)) x = lastNE ((pieces s).take i) by simp [lastN, x0]] at hll
          have hN := Lib.hid (show RL s w p B (some ⟨b1, o1, none⟩) c wr (i + 1) from ⟨⟨v, hblk, by rw [hkk]; exact hown⟩, hrs, hrows, hrowB, hon, hBw, hsh2⟩)
          replace hll := Lib.hid hll
          clear hkk hblk hown hrs hrows hrowB hon hsh hsh2
          go_wp2
          go_roundw
          case rel => exact ⟨i + 1, by go_num, by rw [hll.out], by omega, hN.out⟩
          case measure => simp [intOf]; omega
        have x0b : x.toList.isEmpty = false := by cases hz : x.toList with | nil => exact absurd hz x0 | cons _ _ => rfl
        rw [show lastN (lastNE ((pieces s).take i)) x = x by simp [lastN, x0]] at hll
        by_cases x1 : x.toList = [46]
        · rw [show keepB x = false by simp [keepB, x1], if_neg (by decide), List.append_nil] at hkk
          have hN := Lib.hid (show RL s w p B (some ⟨b1, o1, none⟩) c wr (i + 1) from ⟨⟨v, hblk, by rw [hkk]; exact hown⟩, hrs, hrows, hrowB, hon, hBw, hsh2⟩)
          replace hll := Lib.hid hll
          clear hkk hblk hown hrs hrows hrowB hon hsh hsh2
          go_wp2
          go_roundw
          case rel => exact ⟨i + 1, by go_num, by rw [hll.out], by omega, hN.out⟩
          case measure => simp [intOf]; omega
        · have x1b : (x.toList == [46]) = false := beq_false_of_ne x1
          rw [show keepB x = true by simp [keepB, x0, x1], if_pos rfl] at hkk
          obtain ⟨A0, c0, hv, _⟩ := row_form hown
          subst hv
          have hfl := List.length_filter_le keepB ((pieces s).take i)
          rw [List.length_take] at hfl
          have hownD : wr.drew.ownsRow B 9 1 (.slice A0 (((pieces s).take i).filter keepB).length c0) (((pieces s).take i).filter keepB).length (strs (((pieces s).take i).filter keepB)) := hown
          obtain ⟨A9, c9, w9, hap, hown9, ho9, hf9⟩ := app_str hownD hBw (by omega) x
          have hv1 : ∀ k, k < B → ¬ (Value.slice A0 (((pieces s).take i).filter keepB).length c0).ownBlock = some k := fun k hk e => by have := (row_lt hown k e).1; omega
          have hb9 := hblk.drew.only ho9 (hv1 (p + 1) (by omega))
          have c1 := hblk.cell 1
          have c9' := hb9.cell 1
          have z9' := hb9.frozen 1
          have d9 : w9.cell? ⟨b1, o1 + i, none⟩ = some (.string x) := (Blk.cell_only (a := ⟨b1, o1 + i, none⟩) ho9 hl1 (hv1 b1 m3)).trans d1
          have ca := (hblk.drew.alloc (.cells #[.string x] 9)).cell 1
          have da : (wr.drew.alloc (.cells #[.string x] 9)).cell? ⟨b1, o1 + i, none⟩ = some (.string x) := (Blk.cell_only (a := ⟨b1, o1 + i, none⟩) ((Only.refl (fun _ => False) wr.drew).alloc (.cells #[.string x] 9)) hl1 (fun x => x)).trans d1
          simp only [List.getElem?_toArray, List.getElem?_cons_zero, List.getElem?_cons_succ] at c1 c9' ca
          have hn1 : (Value.slice A9 ((((pieces s).take i).filter keepB).length + 1) c9).ownBlock ≠ some (p + 1) := fun e => by
            rcases hf9 _ e with e | e
            · exact hv1 (p + 1) (by omega) e
            · have : B ≤ wr.heap.size := hBw
              have : wr.drew.heap.size = wr.heap.size := rfl
              omega
          have hN := Lib.hid (show RL s w p B (some ⟨b1, o1, none⟩) c (w9.setCell ⟨p + 1, 1, none⟩ (.slice A9 ((((pieces s).take i).filter keepB).length + 1) c9)) (i + 1) from by
            have hoS : Only (fun k => (Value.slice A0 (((pieces s).take i).filter keepB).length c0).ownBlock = some k ∨ k = p + 1) wr (w9.setCell ⟨p + 1, 1, none⟩ (.slice A9 ((((pieces s).take i).filter keepB).length + 1) c9)) :=
              (((Only.refl (fun k => (Value.slice A0 (((pieces s).take i).filter keepB).length c0).ownBlock = some k ∨ k = p + 1) wr).drew.trans_of ho9 (fun _ _ h => .inl h)) |>.setCell (p := ⟨p + 1, 1, none⟩) (.inl (.inr rfl)) _)
            refine ⟨⟨_, hb9.set_ 1 _, ?_⟩, (hrs.drew.only ho9 (hv1 p (by omega))).far (by simp) _, hrows.only hoS (fun b o e h => ?_), hrowB, ?_, Nat.le_trans hBw hoS.size, hsh2⟩
            · rw [hkk, List.length_append]
              exact row_set hown9 hn1
            · cases e
              rcases h with h | h
              · exact hv1 b1 m3 h
              · exact m2 h
            · refine hon.trans_of hoS (fun k hk h => ?_)
              rcases h with h | h
              · have := (row_lt hown k h).1; omega
              · omega)
          replace hll := Lib.hid hll
          clear hkk hblk hown hrs hrows hrowB hon hsh hsh2 hownD hown9 ho9 hf9 hb9 hv1 hn1 hfl
          go_wp2
          refine wp_region_noPanic ?_
          refine wp_region_E 9 (fun W => W.cell? ⟨p + 1, 1, none⟩ = some (.slice A0 (((pieces s).take i).filter keepB).length c0) ∧ W.cell? ⟨b1, o1 + i, none⟩ = some (.string x)) (by kernel_rfl) ?_
          have hS0 : wr.drew.cell? ⟨p + 1, 1, none⟩ = some (.slice A0 (((pieces s).take i).filter keepB).length c0) ∧ wr.drew.cell? ⟨b1, o1 + i, none⟩ = some (.string x) := ⟨c1, d1⟩
          refine E_take (v := ?v0) 0 rfl (by kernel_rfl) (by kernel_rfl) (by kernel_rfl) (by kernel_rfl) (by kernel_rfl) (by kernel_rfl) (fun _ _ _ h => h) rfl hS0 ?vh0 ?_
          case vh0 => intro W hW; obtain ⟨s1, s2⟩ := hW; go_simp; try with_reducible rfl
          simp only [Act.put, List.setIfInBounds_toArray, List.set_cons_zero, List.set_cons_succ]
          refine E_take (v := ?v1) 1 rfl (by kernel_rfl) (by kernel_rfl) (by kernel_rfl) (by kernel_rfl) (by kernel_rfl) (by kernel_rfl) (fun _ _ _ h => h) rfl hS0 ?vh1 ?_
          case vh1 => intro W hW; obtain ⟨s1, s2⟩ := hW; go_simp; try with_reducible rfl
          simp only [Act.put, List.setIfInBounds_toArray, List.set_cons_zero, List.set_cons_succ]
          refine E_take (v := ?v2) 2 rfl (by kernel_rfl) (by kernel_rfl) (by kernel_rfl) (by kernel_rfl) (by kernel_rfl) (by kernel_rfl) (fun _ _ _ h => h) rfl hS0 ?vh2 ?_
          case vh2 => intro W hW; obtain ⟨s1, s2⟩ := hW; go_simp; try with_reducible rfl
          simp only [Act.put, List.setIfInBounds_toArray, List.set_cons_zero, List.set_cons_succ]
          refine E_take (v := ?v3) 3 rfl (by kernel_rfl) (by kernel_rfl) (by kernel_rfl) (by kernel_rfl) (by kernel_rfl) (by kernel_rfl) (fun _ _ _ h => h) rfl hS0 ?vh3 ?_
          case vh3 => intro W hW; obtain ⟨s1, s2⟩ := hW; go_simp; try with_reducible rfl
          simp only [Act.put, List.setIfInBounds_toArray, List.set_cons_zero, List.set_cons_succ]
          refine E_take (v := ?v4) 4 rfl (by kernel_rfl) (by kernel_rfl) (by kernel_rfl) (by kernel_rfl) (by kernel_rfl) (by kernel_rfl) (fun _ _ _ h => h) rfl hS0 ?vh4 ?_
          case vh4 => intro W hW; obtain ⟨s1, s2⟩ := hW; go_simp; try with_reducible rfl
          simp only [Act.put, List.setIfInBounds_toArray, List.set_cons_zero, List.set_cons_succ]
          refine E_take (v := ?v5) 5 rfl (by kernel_rfl) (by kernel_rfl) (by kernel_rfl) (by kernel_rfl) (by kernel_rfl) (by kernel_rfl) (fun _ _ _ h => h) rfl hS0 ?vh5 ?_
          case vh5 => intro W hW; obtain ⟨s1, s2⟩ := hW; go_simp; try with_reducible rfl
          simp only [Act.put, List.setIfInBounds_toArray, List.set_cons_zero, List.set_cons_succ]
          refine E_one 6 (by kernel_rfl) rfl (fun K hK => ?_)
          go_simp
          refine hK.out _ _ (fun _ => ⟨ca, da⟩) ?_
          clear hK K
          try simp only [Act.put, List.setIfInBounds_toArray, List.set_cons_zero, List.set_cons_succ]
          refine E_one 7 (by kernel_rfl) rfl (fun K hK => ?_)
          refine step_append_eq1 rfl (.tmp 63) (.tmp 68) 23 rfl (.slice A0 (((pieces s).take i).filter keepB).length c0) (.slice (some ⟨wr.drew.heap.size, 0, none⟩) 1 1) _ w9 (by simp [Act.eval]) (by simp [Act.eval]) hap ?_
          refine hK.out _ _ (fun _ => ⟨c9', d9⟩) ?_
          clear hK K
          try simp only [Act.put, List.setIfInBounds_toArray, List.set_cons_zero, List.set_cons_succ]
          refine E_one 8 (by kernel_rfl) rfl (fun K hK => ?_)
          go_simp
          refine hK.out _ _ (fun _ => ⟨c9', d9⟩) ?_
          clear hK K
          try simp only [Act.put, List.setIfInBounds_toArray, List.set_cons_zero, List.set_cons_succ]
          refine E_one 9 (by kernel_rfl) rfl (fun K hK => ?_)
          go_simp
          refine hK.out _ _ (fun h => absurd h (by decide)) ?_
          clear hK K
          try simp only [Act.put, List.setIfInBounds_toArray, List.set_cons_zero, List.set_cons_succ]
          refine E_done (by kernel_rfl) (NoPanic.normal ?_)
          go_wp2
          go_roundw
          case rel => exact ⟨i + 1, by go_num, by rw [hll.out], by omega, hN.out⟩
          case measure => simp [intOf]; omega
    · obtain rfl : i = (pieces s).length := by omega
      rw [List.take_length] at hsh hown ⊢
      obtain ⟨A0, c0, hv, hr0, hc0, hA0⟩ := row_form hown
      subst hv
      have hrow0 : RowS wr A0 ((pieces s).filter keepB) c0 := ⟨hr0, hc0, hA0⟩
      have hown0 : ∀ g o, A0 = some ⟨g, o, none⟩ → B ≤ g := fun g o e => by subst e; exact (row_lt hown g rfl).1
      have q0 := hblk.cell 0
      have q1 := hblk.cell 1
      have q2 := hblk.cell 2
      have z2 := hblk.frozen 2
      have r0 := hrs.cell 0
      have r1 := hrs.cell 1
      have r2 := hrs.cell 2
      have y0 := hrs.frozen 0
      have y1 := hrs.frozen 1
      have y2 := hrs.frozen 2
      simp only [List.getElem?_toArray, List.getElem?_cons_zero, List.getElem?_cons_succ] at q0 q1 q2 r0 r1 r2
      have hTT := hT.out
      rw [hsh, if_neg (by decide)] at hTT
      injection hTT with t1 t2 t3 t4
      subst t1 t2 t4
      have fin : ∀ b : Bool, Blk ((((wr.setCell ⟨p + 1, 2, none⟩ (.bool b)).setCell ⟨p, 0, none⟩ (.bool (decide (bt s 0 = 47)))).setCell ⟨p, 1, none⟩ (.slice A0 ((pieces s).filter keepB).length c0)).setCell ⟨p, 2, none⟩ (.bool b)) p 29 #[.bool (decide (bt s 0 = 47)), .slice A0 ((pieces s).filter keepB).length c0, .bool b] ∧ RowS ((((wr.setCell ⟨p + 1, 2, none⟩ (.bool b)).setCell ⟨p, 0, none⟩ (.bool (decide (bt s 0 = 47)))).setCell ⟨p, 1, none⟩ (.slice A0 ((pieces s).filter keepB).length c0)).setCell ⟨p, 2, none⟩ (.bool b)) A0 ((pieces s).filter keepB) c0 ∧ Only (fun _ => False) w ((((wr.setCell ⟨p + 1, 2, none⟩ (.bool b)).setCell ⟨p, 0, none⟩ (.bool (decide (bt s 0 = 47)))).setCell ⟨p, 1, none⟩ (.slice A0 ((pieces s).filter keepB).length c0)).setCell ⟨p, 2, none⟩ (.bool b)) := fun b => by
        have hB := (((hrs.far (p := ⟨p + 1, 2, none⟩) (by simp) (.bool b)).set_ 0 (.bool (decide (bt s 0 = 47)))).set_ 1 (.slice A0 ((pieces s).filter keepB).length c0)).set_ 2 (.bool b)
        have ho : Only (fun j => j = p + 1 ∨ j = p) wr ((((wr.setCell ⟨p + 1, 2, none⟩ (.bool b)).setCell ⟨p, 0, none⟩ (.bool (decide (bt s 0 = 47)))).setCell ⟨p, 1, none⟩ (.slice A0 ((pieces s).filter keepB).length c0)).setCell ⟨p, 2, none⟩ (.bool b)) := ((((Only.refl _ wr).setCell (p := ⟨p + 1, 2, none⟩) (.inl (.inl rfl)) _).setCell (p := ⟨p, 0, none⟩) (.inl (.inr rfl)) _).setCell (p := ⟨p, 1, none⟩) (.inl (.inr rfl)) _).setCell (p := ⟨p, 2, none⟩) (.inl (.inr rfl)) _
        exact ⟨hB, hrow0.only ho (fun g o e h => by have := hown0 g o e; omega), hon.trans_of ho (fun k hk h => by omega)⟩
      replace fin := Lib.hid fin
      clear hr0 hc0 hA0 hrow0 hown0 hblk hown hrs hrows hrowB hon hsh hpl
      replace t3 := Lib.hid t3
      generalize hd : lastNE (pieces s) = d at *
      clear hd
      by_cases h47 : bt s (s.size - 1) = 47
      · have h47b : ((bt s (s.size - 1) : Int) == 47) = true := by rw [h47]; rfl
        have ht : ts = true := by rw [← t3.out]; unfold endB; rw [decide_eq_true h47]; rfl
        subst ht
        rw [h47] at e1
        go_wp2
        exact bodyPost_ret (res15 _ _ p _ _ _ _ rfl rfl (fin.out _).1) rfl ⟨A0, c0, rfl, (fin.out _).2.1, (fin.out _).2.2⟩
      · have h47b : ((bt s (s.size - 1) : Int) == 47) = false := beq_false_of_ne (by omega)
        have hend : endB s = false := decide_eq_false h47
        by_cases d1 : d.toList = [46]
        · have ht : ts = true := by rw [← t3.out, hend]; simp [dotsB, d1]
          subst ht
          clear hend
          go_wp2
          exact bodyPost_ret (res15 _ _ p _ _ _ _ rfl rfl (fin.out _).1) rfl ⟨A0, c0, rfl, (fin.out _).2.1, (fin.out _).2.2⟩
        · have d1b : (d.toList == [46]) = false := beq_false_of_ne d1
          by_cases d2 : d.toList = [46, 46]
          · have ht : ts = true := by rw [← t3.out, hend]; simp [dotsB, d2]
            subst ht
            clear hend
            go_wp2
            exact bodyPost_ret (res15 _ _ p _ _ _ _ rfl rfl (fin.out _).1) rfl ⟨A0, c0, rfl, (fin.out _).2.1, (fin.out _).2.2⟩
          · have d2b : (d.toList == [46, 46]) = false := beq_false_of_ne d2
            have ht : ts = false := by rw [← t3.out, hend]; simp [dotsB, d1b, d2b]
            subst ht
            clear hend
            go_wp2
            exact bodyPost_ret (res15 _ _ p _ _ _ _ rfl rfl (fin.out _).1) rfl ⟨A0, c0, rfl, (fin.out _).2.1, (fin.out _).2.2⟩
/-- kintsugiref03.Split. -/
theorem splitR_any (s : ByteArray) (w : World) :
    Calls Try.prog 15 #[.string s] w fun e w' => ∃ A c, e = .returned (.tuple #[.agg #[.bool (split s).ab, .slice A (split s).parts.length c, .bool (split s).sl], .int .i64 (split s).err]) ∧ RowS w' A (split s).parts c ∧ Only (fun _ => False) w w' := by
  unfold split
  by_cases h0 : s.size = 0
  · rw [if_pos h0]; exact splitR_none s h0 w
  rw [if_neg h0]
  by_cases h1 : 256 < s.size
  · rw [if_pos h1]; exact splitR_far s h1 w
  rw [if_neg h1]
  by_cases h2 : fault s 0 = 0
  · rw [if_neg (fun h => h h2)]
    exact splitR_ok s (by omega) (by omega) h2 _ _ _ _ rfl w
  · rw [if_pos h2]
    exact splitR_bad s (by omega) (by omega) _ rfl h2 w
end Go.Proofs.Ytnclappdokhciaa
