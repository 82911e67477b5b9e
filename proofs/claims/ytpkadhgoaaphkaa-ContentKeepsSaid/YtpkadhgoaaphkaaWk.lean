/-
  wakes (func 7).
-/
import Derived.Test.YtpkadhgoaaphkaaWr
import Derived.Deep.RegionHeld3
import Derived.Lib.SlBytesConst
import Derived.Lib.SlBytesRow
namespace Go.Proofs.Ytpkadhgoaaphkaa
open Go Go.RowKit Go.Shelf
set_option linter.unusedVariables false
def V0 : Nat → Value := fun _ => .slice none 0 0
def M0 : Nat → List UInt8 := fun _ => []
theorem zero33 (w : World) : (zeroValue 33).run Try.prog w = .ok (.agg (tab 66 (shf V0 0 (.slice none 0 0)))) w := by kernel_rfl
theorem sh_new (w : World) : Sh w.heap.size w.heap.size V0 M0 0 (.slice none 0 0) [] (w.alloc (.cells (tab 66 (shf V0 0 (.slice none 0 0))) 33)) :=
  ⟨Tab.new w 33 66 _, fun k hk => World.ownsRow_nil _ _ _ _, fun k hk => .inl rfl, World.ownsRow_nil _ _ _ _, Nat.le_refl _, by omega, fun X hX => (by cases hX)⟩
def L0 : List UInt8 := Z512.take 510 ++ [97, 98]
def L1 : List UInt8 := [99, 100] ++ Z512.drop 2
theorem wrL_wk : wrL M0 [97, 98, 99, 100] 510 514 2 = [(0, L0), (1, L1)] := by decide +kernel
theorem cnt_wk : cnt 510 514 = 2 := by decide
theorem cnt_wk2 : cnt 511 514 = 2 := by decide
/-- What one change looks like. -/
theorem Cg.full {N : Nat} {w : World} {c : Cg} (h : c.ok N w) (hb : c.bs ≠ []) : ∃ q, c.q = some q ∧ c.val = .slice (some ⟨q, 0, none⟩) 512 512 ∧ c.bs.length = 512 ∧ N ≤ q ∧ BB w q c.bs := by
  unfold Cg.ok at h
  split at h
  · exact absurd h hb
  · rename_i q e
    exact ⟨q, e, by unfold Cg.val; rw [e], h⟩
theorem L0_len : L0.length = 512 := by decide +kernel
theorem L1_len : L1.length = 512 := by decide +kernel
/-- Two changes told. -/
theorem told_wk {B g : Nat} {v : Nat → Value} {m : Nat → List UInt8} {ask : List Nat} {w w' : World} {ns : Nat} {r : Ending} {a b : List UInt8} {K : Law} (h : ChPost B g v m 0 ask w K 2 ns r w') (hK : K.L 2 = [(0, a), (1, b)]) (hD : ∀ i, ¬ K.D i) :
    ∃ (q o c : Nat) (L : List Cg) (c0 c1 : Cg), r = .returned (.tuple #[.slice (some ⟨q, o, none⟩) 2 c, .int .u32 ns, .int .i64 0]) ∧ 2 ≤ c ∧ L = [c0, c1] ∧ c0.lf = 0 ∧ c0.bs = a ∧ c1.lf = 1 ∧ c1.bs = b ∧ c0.ok w.heap.size w' ∧ c1.ok w.heap.size w' ∧
      (∃ va', Sh B g v m 0 va' (ask ++ K.A 2) w') ∧ Turn B w w' ∧ q < w'.heap.size ∧
      w'.cell? ⟨q, o, none⟩ = some (.int .u32 0) ∧ w'.cell? ⟨q, o + 1, none⟩ = some c0.val ∧ w'.cell? ⟨q, o + 2, none⟩ = some (.int .u32 1) ∧ w'.cell? ⟨q, o + 3, none⟩ = some c1.val := by
  rcases h with ⟨A, c, L, hr, ho⟩ | ⟨i, -, -, -, hd, -⟩
  · have e := ho.eq
    rw [hK] at e
    obtain ⟨c0, c1, rfl⟩ : ∃ c0 c1, L = [c0, c1] := by
      clear hr ho
      match L, e with
      | [c0, c1], _ => exact ⟨c0, c1, rfl⟩
      | [], e => cases e
      | [_], e => simp at e
      | _ :: _ :: _ :: _, e => simp at e
    simp only [List.map_cons, List.map_nil, Cg.pair, List.cons.injEq, Prod.mk.injEq, and_true] at e
    obtain ⟨⟨e1, e2⟩, e3, e4⟩ := e
    obtain ⟨q, o, eA, hq, hc⟩ := ho.rd.2 (by simp)
    subst eA
    obtain ⟨va', hs⟩ := ho.sh
    have x0 := hc 0 (.int .u32 c0.lf) rfl
    have x1 := hc 1 c0.val rfl
    have x2 := hc 2 (.int .u32 c1.lf) rfl
    have x3 := hc 3 c1.val rfl
    rw [e1] at x0
    rw [e3] at x2
    exact ⟨q, o, c, _, c0, c1, hr, ho.cap, rfl, e1, e2, e3, e4, ho.ok c0 (by simp), ho.ok c1 (by simp), ⟨va', hs⟩, ho.tn, hq, x0, x1, x2, x3⟩
  · exact absurd hd (hD i)
theorem wrK_noD (m : Nat → List UInt8) (bs : List UInt8) (fr en i : Nat) : ¬ (wrK m 0 bs fr en).D i := fun h => by
  have := h.2.2.1
  rw [isBad_zero] at this
  cases this
theorem trK_noD (m : Nat → List UInt8) (fr en i : Nat) : ¬ (trK m 0 fr en).D i := fun h => by
  have := h.2.2.1
  rw [isBad_zero] at this
  cases this
theorem und5 : Try.prog.underlying 5 = some (.int .u8) := by kernel_rfl
theorem und9 : Try.prog.underlying 9 = some .string := by kernel_rfl
/-- Some bytes out of a row are turned into a string. -/
theorem BB.str {w : World} {q : Nat} {l : List UInt8} (h : BB w q l) (o cap : Nat) (s : List UInt8) (hs : (l.drop o).take s.length = s) :
    (convert 24 9 (.slice (some ⟨q, o, none⟩) s.length cap)).run Try.prog w = .ok (.string ⟨s.toArray⟩) w := by
  refine run_convert_bytes_back w 24 9 5 ⟨q, o, none⟩ cap s und24 und5 und9 fun j hj => ?_
  rw [add_lit, Blk.cell h, List.getElem?_toArray]
  have e : l[o + j]? = some s[j] := by
    rw [← List.getElem?_drop, ← List.getElem?_take_of_lt hj, hs, List.getElem?_eq_getElem hj]
  unfold Lib.byteCells
  rw [List.getElem?_map, e]
  rfl
section
variable {P : Program} {ops : Array Oper} {Q : Exit → Act → World → Prop} {md : Region.Mode} {S : World → Prop} {z : Nat}
/-- Two may come up. -/
theorem E_two (i j : Nat) {oi oj : Oper} {f : Nat} {l : Array Bool} {a : Act} {w : World} (hr : Region.ready md ops l = [i, j]) (hi : ops.toList[i]? = some oi) (hj : ops.toList[j]? = some oj)
    (h1 : ∀ K : Act → World → Prop, Shut (∀ a' w', ((l.setIfInBounds i true).getD z true = false → S w') → wpAnyE P md ops Q S z f (l.setIfInBounds i true) a' w' → K a' w') → if Region.wanted oi (yielded ops a.tmps) = true then oi.wp P a w K Q else K (a.put oi.dst undef) w)
    (h2 : ∀ K : Act → World → Prop, Shut (∀ a' w', ((l.setIfInBounds j true).getD z true = false → S w') → wpAnyE P md ops Q S z f (l.setIfInBounds j true) a' w' → K a' w') → if Region.wanted oj (yielded ops a.tmps) = true then oj.wp P a w K Q else K (a.put oj.dst undef) w) : wpAnyE P md ops Q S z (f + 1) l a w := by
  have hi' : ops[i]? = some oi := by rw [← Array.getElem?_toList]; exact hi
  have hj' : ops[j]? = some oj := by rw [← Array.getElem?_toList]; exact hj
  refine ⟨fun e => (by rw [hr] at e; cases e), fun k hk => ?_⟩
  rw [hr] at hk
  have hk' : k = i ∨ k = j := by simpa using hk
  rcases hk' with rfl | rfl
  · exact wpOp_step hi' fun K hK => h1 K (fun a' w' h1 h2 => hK a' w' ⟨h1, h2⟩)
  · exact wpOp_step hj' fun K hK => h2 K (fun a' w' h1 h2 => hK a' w' ⟨h1, h2⟩)
end
def row (x : Nat) : Value := .slice (some ⟨x, 0, none⟩) 512 512
def V1 (x0 x1 : Nat) : Nat → Value := fun k => if k = 0 then row x0 else if k = 1 then row x1 else .slice none 0 0
def M1 (l0 l1 : List UInt8) : Nat → List UInt8 := fun k => if k = 0 then l0 else if k = 1 then l1 else []
theorem BB.own {w : World} {q B : Nat} {l : List UInt8} (h : BB w q l) (hl : l.length = 512) (hB : B ≤ q) : w.ownsRow B 5 1 (row q) l.length (Lib.byteCells l) :=
  ⟨by rw [Lib.byteCells_length, Nat.mul_one], .inr ⟨q, 512, (Lib.byteCells l).toArray, by rw [hl]; rfl, hB, h, by omega, by unfold maxLen; omega, by rw [List.size_toArray, Lib.byteCells_length, hl], by rw [List.take_of_length_le (by rw [Lib.byteCells_length]; omega)]⟩⟩
/-- Two rows are stored into a shelf. -/
theorem sh_two {B g x0 x1 : Nat} {va : Value} {ask : List Nat} {l0 l1 : List UInt8} {w : World} (h : Sh B g V0 M0 0 va ask w) (b0 : BB w x0 l0) (b1 : BB w x1 l1) (n0 : l0.length = 512) (n1 : l1.length = 512) (h0 : B ≤ x0) (h1 : B ≤ x1) :
    Sh B g (V1 x0 x1) (M1 l0 l1) 0 va ask ((w.setCell ⟨g, 0, none⟩ (row x0)).setCell ⟨g, 1, none⟩ (row x1)) := by
  have os := ((Only.refl (fun k => k = g) w).setCell (p := ⟨g, 0, none⟩) (.inl rfl) (row x0)).setCell (p := ⟨g, 1, none⟩) (.inl rfl) (row x1)
  have e0 : ¬ x0 = g := fun e => by subst e; have := (Blk.ty b0).one h.ty; cases this
  have e1 : ¬ x1 = g := fun e => by subst e; have := (Blk.ty b1).one h.ty; cases this
  have c0 : BB _ x0 l0 := Blk.only b0 os e0
  have c1 : BB _ x1 l1 := Blk.only b1 os e1
  refine ⟨((h.tb.set_ 0 (row x0)).set_ 1 (row x1)).congr fun i hi => ?_, fun k hk => ?_, fun k hk => ?_, row_keep h.ak os (fun k hk e => by subst e; have := (row_lt' h.ak k hk).2.2.one h.ty; cases this), h.gB, h.bd, fun X hX => (by cases hX)⟩
  · unfold put shf V1 V0
    by_cases i0 : i = 0
    · subst i0; rfl
    · by_cases i1 : i = 1
      · subst i1; rfl
      · simp only [i0, i1, if_false]
  · unfold V1 M1
    by_cases i0 : k = 0
    · simp only [i0, if_true]; exact c0.own n0 h0
    · by_cases i1 : k = 1
      · simp only [i1, if_true, show ¬ (1 : Nat) = 0 by omega, if_false]; exact c1.own n1 h1
      · simp only [i0, i1, if_false]; exact World.ownsRow_nil _ _ _ _
  · unfold M1
    by_cases i0 : k = 0
    · simp only [i0, if_true]; exact .inr n0
    · by_cases i1 : k = 1
      · simp only [i1, if_true, show ¬ (1 : Nat) = 0 by omega, if_false]; exact .inr n1
      · simp only [i0, i1, if_false]; exact .inl rfl
theorem Cg.hole {N : Nat} {w : World} {c : Cg} (h : c.ok N w) (hb : c.bs = []) : c.val = .slice none 0 0 := by
  unfold Cg.ok at h
  split at h
  · rename_i e; unfold Cg.val; rw [e]
  · rename_i q e; rw [hb] at h; exact absurd h.1 (by decide)
theorem read_ok {B g : Nat} {v : Nat → Value} {m : Nat → List UInt8} {ask : List Nat} {fr en : Nat} {w w' : World} {r : Ending} (h : ReadPost B g v m 0 ask fr en w r w') : ∃ A c, r = .returned (.tuple #[.slice A (en - fr) c, .int .i64 0]) ∧ ReadOk B g v m 0 ask fr en w A c w' := by
  rcases h with h | ⟨i, -, -, -, -, ⟨-, h⟩, -⟩
  · exact h
  · rw [isBad_zero] at h; cases h
theorem own_str {w : World} {base c : Nat} {A : Option Addr} {s : List UInt8} (h : w.ownsRow base 5 1 (.slice A s.length c) s.length (Lib.byteCells s)) (hn : 0 < s.length) :
    (convert 24 9 (.slice A s.length c)).run Try.prog w = .ok (.string ⟨s.toArray⟩) w := by
  obtain ⟨b, o, rfl, hb, hc⟩ := (Reads.of_own h).2 hn
  refine run_convert_bytes_back w 24 9 5 ⟨b, o, none⟩ c s und24 und5 und9 fun j hj => ?_
  rw [add_lit]
  exact hc j _ (by unfold Lib.byteCells; rw [List.getElem?_map, List.getElem?_eq_getElem hj]; rfl)
theorem BB.at_ {w : World} {q i : Nat} {l : List UInt8} {x : UInt8} (h : BB w q l) (hx : l[i]? = some x) : w.cell? ⟨q, i, none⟩ = some (.int .u8 (x.toNat : Int)) := by
  rw [Blk.cell h, List.getElem?_toArray]
  unfold Lib.byteCells
  rw [List.getElem?_map, hx]
  rfl
def LT : List UInt8 := Z512.take 510 ++ [97, 0]
theorem LT_len : LT.length = 512 := by decide +kernel
theorem trL_wk : trL (M1 L0 L1) 511 514 2 = [(0, LT), (1, [])] := by decide +kernel
theorem readB_wk : readB (M1 L0 L1) 509 5 = [0, 97, 98, 99, 100] := by decide +kernel
theorem only_nil {w W : World} (h : Turn w.heap.size w W) : Only (fun _ => False) w W := Only.mono h fun k hk x => by have := x.1; omega
set_option maxRecDepth 20000 in
set_option maxHeartbeats 8000000 in
theorem wakes_any (w : World) : Calls Try.prog 7 #[] w fun r w' => r = .returned (.bool true) ∧ Only (fun _ => False) w w' := by
  have hz := zero33
  have hS1 := sh_new w
  have o1 := (Only.refl (fun _ => False) w).alloc (.cells (tab 66 (shf V0 0 (.slice none 0 0))) 33)
  have hsz1 : (w.alloc (.cells (tab 66 (shf V0 0 (.slice none 0 0))) 33)).heap.size = w.heap.size + 1 := by simp
  go_enter Try.func7, Try.ntmps7
  go_upto_region 2 with fail
  generalize World.alloc w _ = w1 at *
  have hcv : (convert 24 24 (.slice (some ⟨w1.heap.size, 0, none⟩) 4 4)).run Try.prog (w1.alloc (.cells #[.int .u8 97, .int .u8 98, .int .u8 99, .int .u8 100] 5)) = .ok (.slice (some ⟨w1.heap.size, 0, none⟩) 4 4) (w1.alloc (.cells #[.int .u8 97, .int .u8 98, .int .u8 99, .int .u8 100] 5 (4, 5))) :=
    Lib.run_convert_bytes_const w1 24 5 #[.int .u8 97, .int .u8 98, .int .u8 99, .int .u8 100] 4 4 und24 (by kernel_rfl)
  have hnew : (w1.alloc (.cells #[.int .u8 97, .int .u8 98, .int .u8 99, .int .u8 100] 5 (4, 5))).heap[w1.heap.size]? = some (.cells #[.int .u8 97, .int .u8 98, .int .u8 99, .int .u8 100] 5 (4, 5)) := by show (w1.heap.push _)[w1.heap.size]? = _; simp
  have o2 := (Only.refl (fun _ => False) w1).alloc (.cells #[.int .u8 97, .int .u8 98, .int .u8 99, .int .u8 100] 5 (4, 5))
  generalize hw2 : w1.alloc (.cells #[.int .u8 97, .int .u8 98, .int .u8 99, .int .u8 100] 5 (4, 5)) = w2 at *
  have hr2 : Reads w2 w2.heap.size (some ⟨w1.heap.size, 0, none⟩) [97, 98, 99, 100].length (Lib.byteCells [97, 98, 99, 100]) :=
    ⟨rfl, fun _ => ⟨w1.heap.size, 0, rfl, (Array.getElem?_eq_some_iff.1 hnew).1, fun j u hu => by
      rw [cell_of_row w2 w1.heap.size (0 + j) _ 5 (4, 5) hnew, Nat.zero_add, List.getElem?_toArray]; exact hu⟩⟩
  have hS2 := hS1.only o2
  have hW := write_main w.heap.size w.heap.size V0 M0 0 (.slice none 0 0) [] 0 510 [97, 98, 99, 100] (some ⟨w1.heap.size, 0, none⟩) 4 w2 hS2 (Nat.le_trans o1.size o2.size) (by decide) (by decide) (by decide) (by decide) hr2 (by decide) (fun _ a e => by cases e; exact .inr ⟨_, _, hnew⟩)
  simp only [List.length_cons, List.length_nil, Nat.zero_add, Nat.reduceAdd, show ((0 : Nat) : Int) = 0 from rfl, show ((510 : Nat) : Int) = 510 from rfl] at hW
  clear hw2 hr2
  rw [hsz1] at hcv hnew hW
  replace hW := Lib.hid hW
  replace hnew := Lib.hid hnew
  go_wp2_with fail
  refine hW.out.mono ?_
  rintro r w3 hr
  obtain ⟨qa, oa, ca, La, a0, a1, rfl, hca, rfl, ha0, ha0b, ha1, ha1b, hok0, hok1, ⟨va3, hS3⟩, hT3, hqa, e0, e1, e2, e3⟩ := told_wk hr wrL_wk (wrK_noD _ _ _ _)
  obtain ⟨x0, hx0, hv0, hl0, hn0, hB0⟩ := Cg.full hok0 (by rw [ha0b]; exact fun e => by have := L0_len; rw [e] at this; cases this)
  obtain ⟨x1, hx1, hv1, hl1, hn1, hB1⟩ := Cg.full hok1 (by rw [ha1b]; exact fun e => by have := L1_len; rw [e] at this; cases this)
  rw [hv0] at e1
  rw [hv1] at e3
  rw [ha0b] at hB0 hl0
  rw [ha1b] at hB1 hl1
  clear hr hW hok0 hok1 hx0 hx1 hv0 hv1 ha0b ha1b ha0 ha1 hcv
  have s0 : (convert 24 9 (.slice (some ⟨x0, 509, none⟩) 3 3)).run Try.prog w3 = .ok (.string ⟨#[0, 97, 98]⟩) w3 := hB0.str 509 3 [0, 97, 98] (by decide +kernel)
  have s1 : (convert 24 9 (.slice (some ⟨x1, 0, none⟩) 3 512)).run Try.prog w3 = .ok (.string ⟨#[99, 100, 0]⟩) w3 := hB1.str 0 512 [99, 100, 0] (by decide +kernel)
  go_upto_region 5 with fail
  have hqg : ¬ qa = w.heap.size := fun e => by
    subst e
    have := (Blk.cell hS3.tb oa).symm.trans e0
    by_cases ho : oa < 66
    · rw [tab_get _ ho] at this
      unfold shf V0 at this
      split at this
      · cases this
      · split at this
        · cases this
        · rcases hS3.ak.2 with ⟨e, _⟩ | ⟨_, _, _, e, _⟩
          · rw [e] at this; cases this
          · rw [e] at this; cases this
    · unfold tab at this
      rw [List.getElem?_toArray, List.getElem?_eq_none (by simp; omega)] at this
      cases this
  have hg0 := (hS3.tb.cell 0 (by decide))
  have hg1 := (hS3.tb.cell 1 (by decide))
  have hf0 := hS3.tb.frozen 0
  have hf1 := hS3.tb.frozen 1
  have hgs := hS3.tb.set_ 0 (row x0)
  have hg1b := hgs.cell 1 (by decide)
  have hf1b := hgs.frozen 1
  have hBx0 : w.heap.size ≤ x0 := Nat.le_trans (Nat.le_trans o1.size o2.size) hn0
  have hBx1 : w.heap.size ≤ x1 := Nat.le_trans (Nat.le_trans o1.size o2.size) hn1
  have hS5 := sh_two (hS3.only (Only.refl (fun _ => False) w3).drew) (Blk.drew hB0) (Blk.drew hB1) hl0 hl1 hBx0 hBx1
  have hT5 := ((hT3.drew).setCell (p := ⟨w.heap.size, 0, none⟩) (.inl ⟨Nat.le_refl _, .inl (hS2.ty)⟩) (row x0)).setCell (p := ⟨w.heap.size, 1, none⟩) (.inl ⟨Nat.le_refl _, .inl (hS2.ty)⟩) (row x1)
  simp only [shf, V0, show (0 : Nat) < 64 by omega, show (1 : Nat) < 64 by omega, if_true, put, show ¬ (1 : Nat) = 0 by omega, if_false] at hg0 hg1 hg1b
  have u1 : (w3.setCell ⟨w.heap.size, 0, none⟩ (row x0)).cell? ⟨qa, oa + 1, none⟩ = some (row x0) := (Blk.cell_only ((Only.refl (fun k => k = w.heap.size) w3).setCell (p := ⟨w.heap.size, 0, none⟩) (.inl rfl) (row x0)) (a := ⟨qa, oa + 1, none⟩) hqa hqg).trans e1
  have u3 : (w3.setCell ⟨w.heap.size, 0, none⟩ (row x0)).cell? ⟨qa, oa + 3, none⟩ = some (row x1) := (Blk.cell_only ((Only.refl (fun k => k = w.heap.size) w3).setCell (p := ⟨w.heap.size, 0, none⟩) (.inl rfl) (row x0)) (a := ⟨qa, oa + 3, none⟩) hqa hqg).trans e3
  have hS0 : w3.drew.cell? ⟨qa, oa + 1, none⟩ = some (.slice (some ⟨x0, 0, none⟩) 512 512) ∧ w3.drew.cell? ⟨qa, oa + 3, none⟩ = some (.slice (some ⟨x1, 0, none⟩) 512 512) := ⟨e1, e3⟩
  have hS9 : (w3.drew.setCell ⟨w.heap.size, 0, none⟩ (.slice (some ⟨x0, 0, none⟩) 512 512)).cell? ⟨qa, oa + 1, none⟩ = some (.slice (some ⟨x0, 0, none⟩) 512 512) ∧ (w3.drew.setCell ⟨w.heap.size, 0, none⟩ (.slice (some ⟨x0, 0, none⟩) 512 512)).cell? ⟨qa, oa + 3, none⟩ = some (.slice (some ⟨x1, 0, none⟩) 512 512) := ⟨u1, u3⟩
  replace hg0 : w3.drew.cell? ⟨w.heap.size, 0, none⟩ = _ := hg0
  replace hf0 : w3.drew.frozen? ⟨w.heap.size, 0, none⟩ = false := hf0
  replace hg1b : (w3.drew.setCell ⟨w.heap.size, 0, none⟩ (.slice (some ⟨x0, 0, none⟩) 512 512)).cell? ⟨w.heap.size, 1, none⟩ = _ := hg1b
  replace hf1b : (w3.drew.setCell ⟨w.heap.size, 0, none⟩ (.slice (some ⟨x0, 0, none⟩) 512 512)).frozen? ⟨w.heap.size, 1, none⟩ = false := hf1b
  unfold row at hS5 hT5
  clear hgs u1 u3 s0 s1 hB0 hB1 e0 e1 e2 e3 hS1 hS3 hg1 hf1
  refine wp_region_noPanic ?_
  refine wp_region_E 17 (fun W => W.cell? ⟨qa, oa + 1, none⟩ = some (.slice (some ⟨x0, 0, none⟩) 512 512) ∧ W.cell? ⟨qa, oa + 3, none⟩ = some (.slice (some ⟨x1, 0, none⟩) 512 512)) (by kernel_rfl) ?_
  generalize w3.drew = w3d at *
  generalize hw5 : (w3d.setCell ⟨w.heap.size, 0, none⟩ (.slice (some ⟨x0, 0, none⟩) 512 512)).setCell ⟨w.heap.size, 1, none⟩ (.slice (some ⟨x1, 0, none⟩) 512 512) = w5 at *
  refine E_take (v := ?v0) 0 rfl (by kernel_rfl) (by kernel_rfl) (by kernel_rfl) (by kernel_rfl) (by kernel_rfl) (by kernel_rfl) (fun _ _ _ h => h) rfl hS0 ?vh0 ?_
  case vh0 => intro W hW; obtain ⟨g0, g1⟩ := hW; go_simp; try with_reducible rfl
  simp only [Act.put, List.setIfInBounds_toArray, List.set_cons_zero, List.set_cons_succ]
  refine E_take (v := ?v1) 1 rfl (by kernel_rfl) (by kernel_rfl) (by kernel_rfl) (by kernel_rfl) (by kernel_rfl) (by kernel_rfl) (fun _ _ _ h => h) rfl hS0 ?vh1 ?_
  case vh1 => intro W hW; obtain ⟨g0, g1⟩ := hW; go_simp; try with_reducible rfl
  simp only [Act.put, List.setIfInBounds_toArray, List.set_cons_zero, List.set_cons_succ]
  refine E_take (v := ?v2) 2 rfl (by kernel_rfl) (by kernel_rfl) (by kernel_rfl) (by kernel_rfl) (by kernel_rfl) (by kernel_rfl) (fun _ _ _ h => h) rfl hS0 ?vh2 ?_
  case vh2 => intro W hW; obtain ⟨g0, g1⟩ := hW; go_simp; try with_reducible rfl
  simp only [Act.put, List.setIfInBounds_toArray, List.set_cons_zero, List.set_cons_succ]
  refine E_take (v := ?v3) 3 rfl (by kernel_rfl) (by kernel_rfl) (by kernel_rfl) (by kernel_rfl) (by kernel_rfl) (by kernel_rfl) (fun _ _ _ h => h) rfl hS0 ?vh3 ?_
  case vh3 => intro W hW; obtain ⟨g0, g1⟩ := hW; go_simp; try with_reducible rfl
  simp only [Act.put, List.setIfInBounds_toArray, List.set_cons_zero, List.set_cons_succ]
  refine E_take (v := ?v4) 4 rfl (by kernel_rfl) (by kernel_rfl) (by kernel_rfl) (by kernel_rfl) (by kernel_rfl) (by kernel_rfl) (fun _ _ _ h => h) rfl hS0 ?vh4 ?_
  case vh4 => intro W hW; obtain ⟨g0, g1⟩ := hW; go_simp; try with_reducible rfl
  simp only [Act.put, List.setIfInBounds_toArray, List.set_cons_zero, List.set_cons_succ]
  refine E_take (v := ?v5) 5 rfl (by kernel_rfl) (by kernel_rfl) (by kernel_rfl) (by kernel_rfl) (by kernel_rfl) (by kernel_rfl) (fun _ _ _ h => h) rfl hS0 ?vh5 ?_
  case vh5 => intro W hW; obtain ⟨g0, g1⟩ := hW; go_simp; try with_reducible rfl
  simp only [Act.put, List.setIfInBounds_toArray, List.set_cons_zero, List.set_cons_succ]
  refine E_take (v := ?v6) 6 rfl (by kernel_rfl) (by kernel_rfl) (by kernel_rfl) (by kernel_rfl) (by kernel_rfl) (by kernel_rfl) (fun _ _ _ h => h) rfl hS0 ?vh6 ?_
  case vh6 => intro W hW; obtain ⟨g0, g1⟩ := hW; go_simp; try with_reducible rfl
  simp only [Act.put, List.setIfInBounds_toArray, List.set_cons_zero, List.set_cons_succ]
  refine E_take (v := ?v7) 7 rfl (by kernel_rfl) (by kernel_rfl) (by kernel_rfl) (by kernel_rfl) (by kernel_rfl) (by kernel_rfl) (fun _ _ _ h => h) rfl hS0 ?vh7 ?_
  case vh7 => intro W hW; obtain ⟨g0, g1⟩ := hW; go_simp; try with_reducible rfl
  simp only [Act.put, List.setIfInBounds_toArray, List.set_cons_zero, List.set_cons_succ]
  refine E_take (v := ?v8) 8 rfl (by kernel_rfl) (by kernel_rfl) (by kernel_rfl) (by kernel_rfl) (by kernel_rfl) (by kernel_rfl) (fun _ _ _ h => h) rfl hS0 ?vh8 ?_
  case vh8 => intro W hW; obtain ⟨g0, g1⟩ := hW; go_simp; try with_reducible rfl
  simp only [Act.put, List.setIfInBounds_toArray, List.set_cons_zero, List.set_cons_succ]
  refine E_take (v := ?v9) 9 rfl (by kernel_rfl) (by kernel_rfl) (by kernel_rfl) (by kernel_rfl) (by kernel_rfl) (by kernel_rfl) (fun _ _ _ h => h) rfl hS0 ?vh9 ?_
  case vh9 => intro W hW; obtain ⟨g0, g1⟩ := hW; go_simp; try with_reducible rfl
  simp only [Act.put, List.setIfInBounds_toArray, List.set_cons_zero, List.set_cons_succ]
  refine E_take (v := ?v10) 10 rfl (by kernel_rfl) (by kernel_rfl) (by kernel_rfl) (by kernel_rfl) (by kernel_rfl) (by kernel_rfl) (fun _ _ _ h => h) rfl hS0 ?vh10 ?_
  case vh10 => intro W hW; obtain ⟨g0, g1⟩ := hW; go_simp; try with_reducible rfl
  simp only [Act.put, List.setIfInBounds_toArray, List.set_cons_zero, List.set_cons_succ]
  refine E_take (v := ?v11) 11 rfl (by kernel_rfl) (by kernel_rfl) (by kernel_rfl) (by kernel_rfl) (by kernel_rfl) (by kernel_rfl) (fun _ _ _ h => h) rfl hS0 ?vh11 ?_
  case vh11 => intro W hW; obtain ⟨g0, g1⟩ := hW; go_simp; try with_reducible rfl
  simp only [Act.put, List.setIfInBounds_toArray, List.set_cons_zero, List.set_cons_succ]
  refine E_take (v := ?v12) 12 rfl (by kernel_rfl) (by kernel_rfl) (by kernel_rfl) (by kernel_rfl) (by kernel_rfl) (by kernel_rfl) (fun _ _ _ h => h) rfl hS0 ?vh12 ?_
  case vh12 => intro W hW; obtain ⟨g0, g1⟩ := hW; go_simp; try with_reducible rfl
  simp only [Act.put, List.setIfInBounds_toArray, List.set_cons_zero, List.set_cons_succ]
  refine have FIN : ?G := ?FINp; ?main
  case main =>
    refine E_two 13 14 (by kernel_rfl) rfl rfl (fun K hK => ?g1) (fun K hK => ?g2)
    case g2 =>
      go_simp
      refine hK.out _ _ (fun _ => hS0) ?_
      clear hK K
      try simp only [Act.put, List.setIfInBounds_toArray, List.set_cons_zero, List.set_cons_succ]
      refine E_two 13 15 (by kernel_rfl) rfl rfl (fun K hK => ?g3) (fun K hK => ?g4)
      case g4 =>
        go_simp
        refine hK.out _ _ (fun _ => hS0) ?_
        clear hK K
        try simp only [Act.put, List.setIfInBounds_toArray, List.set_cons_zero, List.set_cons_succ]
        refine E_one 13 (by kernel_rfl) rfl (fun K hK => ?_)
        go_simp
        refine hK.out _ _ (fun _ => hS9) ?_
        clear hK K
        try simp only [Act.put, List.setIfInBounds_toArray, List.set_cons_zero, List.set_cons_succ]
        refine E_one 16 (by kernel_rfl) rfl (fun K hK => ?_)
        go_simp
        refine hK.out _ _ (fun _ => hS9) ?_
        clear hK K
        try simp only [Act.put, List.setIfInBounds_toArray, List.set_cons_zero, List.set_cons_succ]
        refine E_one 17 (by kernel_rfl) rfl (fun K hK => ?_)
        go_simp
        refine hK.out _ _ (fun h => absurd h (by decide)) ?_
        clear hK K
        try simp only [Act.put, List.setIfInBounds_toArray, List.set_cons_zero, List.set_cons_succ]
        refine E_done (by kernel_rfl) ?_
        exact FIN
      case g3 =>
        go_simp
        refine hK.out _ _ (fun _ => hS9) ?_
        clear hK K
        try simp only [Act.put, List.setIfInBounds_toArray, List.set_cons_zero, List.set_cons_succ]
        refine E_one 15 (by kernel_rfl) rfl (fun K hK => ?_)
        go_simp
        refine hK.out _ _ (fun _ => hS9) ?_
        clear hK K
        try simp only [Act.put, List.setIfInBounds_toArray, List.set_cons_zero, List.set_cons_succ]
        refine E_one 16 (by kernel_rfl) rfl (fun K hK => ?_)
        go_simp
        refine hK.out _ _ (fun _ => hS9) ?_
        clear hK K
        try simp only [Act.put, List.setIfInBounds_toArray, List.set_cons_zero, List.set_cons_succ]
        refine E_one 17 (by kernel_rfl) rfl (fun K hK => ?_)
        go_simp
        refine hK.out _ _ (fun h => absurd h (by decide)) ?_
        clear hK K
        try simp only [Act.put, List.setIfInBounds_toArray, List.set_cons_zero, List.set_cons_succ]
        refine E_done (by kernel_rfl) ?_
        exact FIN
    case g1 =>
      go_simp
      refine hK.out _ _ (fun _ => hS9) ?_
      clear hK K
      try simp only [Act.put, List.setIfInBounds_toArray, List.set_cons_zero, List.set_cons_succ]
      refine E_one 14 (by kernel_rfl) rfl (fun K hK => ?_)
      go_simp
      refine hK.out _ _ (fun _ => hS9) ?_
      clear hK K
      try simp only [Act.put, List.setIfInBounds_toArray, List.set_cons_zero, List.set_cons_succ]
      refine E_one 15 (by kernel_rfl) rfl (fun K hK => ?_)
      go_simp
      refine hK.out _ _ (fun _ => hS9) ?_
      clear hK K
      try simp only [Act.put, List.setIfInBounds_toArray, List.set_cons_zero, List.set_cons_succ]
      refine E_one 16 (by kernel_rfl) rfl (fun K hK => ?_)
      go_simp
      refine hK.out _ _ (fun _ => hS9) ?_
      clear hK K
      try simp only [Act.put, List.setIfInBounds_toArray, List.set_cons_zero, List.set_cons_succ]
      refine E_one 17 (by kernel_rfl) rfl (fun K hK => ?_)
      go_simp
      refine hK.out _ _ (fun h => absurd h (by decide)) ?_
      clear hK K
      try simp only [Act.put, List.setIfInBounds_toArray, List.set_cons_zero, List.set_cons_succ]
      refine E_done (by kernel_rfl) ?_
      exact FIN
  clear hS0 hS9 hg0 hf0 hg1b hf1b
  case FINp =>
  refine NoPanic.normal ?_
  have hB5 : w.heap.size ≤ w5.heap.size := Nat.le_trans (Nat.le_trans o1.size o2.size) hT5.size
  have hR := read_main w.heap.size w.heap.size (V1 x0 x1) (M1 L0 L1) 0 va3 _ 514 509 9 w5 hS5 hB5 (by decide) (by decide) (by decide) (by decide)
  simp only [List.length_cons, List.length_nil, Nat.zero_add, Nat.reduceAdd, Nat.reduceSub, show min 514 518 = 514 from rfl, show ((0 : Nat) : Int) = 0 from rfl, show ((514 : Nat) : Int) = 514 from rfl, show ((509 : Nat) : Int) = 509 from rfl, show ((9 : Nat) : Int) = 9 from rfl, show ((511 : Nat) : Int) = 511 from rfl] at hR
  replace hR := Lib.hid hR
  clear hS5 hnew
  go_wp2_with fail
  refine hR.out.mono ?_
  rintro r w6 hr
  obtain ⟨A, cr, rfl, hrd⟩ := read_ok hr
  obtain ⟨va6, hS6⟩ := hrd.sh
  have hown := hrd.own
  have hT6 := hT5.trans hrd.tn
  simp only [List.length_cons, List.length_nil, Nat.zero_add, Nat.reduceAdd, Nat.reduceSub, show min 514 518 = 514 from rfl, show ((0 : Nat) : Int) = 0 from rfl, show ((514 : Nat) : Int) = 514 from rfl, show ((509 : Nat) : Int) = 509 from rfl, show ((9 : Nat) : Int) = 9 from rfl, show ((511 : Nat) : Int) = 511 from rfl] at hown ⊢
  rw [readB_wk] at hown
  clear hr hrd hR hT5
  have hB6 : w.heap.size ≤ w6.heap.size := Nat.le_trans (Nat.le_trans o1.size o2.size) hT6.size
  have hK := trunc_main w.heap.size w.heap.size (V1 x0 x1) (M1 L0 L1) 0 va6 _ 514 511 w6 hS6 hB6 (by decide) (by decide) (by decide)
  simp only [List.length_cons, List.length_nil, Nat.zero_add, Nat.reduceAdd, Nat.reduceSub, show min 514 518 = 514 from rfl, show ((0 : Nat) : Int) = 0 from rfl, show ((514 : Nat) : Int) = 514 from rfl, show ((509 : Nat) : Int) = 509 from rfl, show ((9 : Nat) : Int) = 9 from rfl, show ((511 : Nat) : Int) = 511 from rfl] at hK
  replace hK := Lib.hid hK
  clear hS6
  go_wp2_with fail
  refine hK.out.mono ?_
  rintro r w7 hr
  obtain ⟨qb, ob, cb, Lb, b0, b1, rfl, hcb, rfl, hb0, hb0b, hb1, hb1b, hok0, hok1, -, hT7, hqb, e0, e1, e2, e3⟩ := told_wk hr trL_wk (trK_noD _ _ _)
  obtain ⟨y0, hy0, hv0, hm0, hn0, hB0⟩ := Cg.full hok0 (by rw [hb0b]; exact fun e => by have := LT_len; rw [e] at this; cases this)
  rw [hv0] at e1
  rw [Cg.hole hok1 hb1b] at e3
  rw [hb0b] at hB0
  have g0 : w7.cell? ⟨y0, 510, none⟩ = some (.int .u8 97) := hB0.at_ (x := 97) (by decide +kernel)
  have g1 : w7.cell? ⟨y0, 511, none⟩ = some (.int .u8 0) := hB0.at_ (x := 0) (by decide +kernel)
  have s0 : (convert 24 9 (.slice A 5 cr)).run Try.prog w7 = .ok (.string ⟨#[0, 97, 98, 99, 100]⟩) w7 := own_str (s := [0, 97, 98, 99, 100]) (row_turn hown hT7 (by decide)) (by decide)
  have hfin : Only (fun _ => False) w w7 := only_nil ((Turn.of (o1.trans o2)).trans (hT6.trans hT7))
  clear hr hK hok0 hok1 hy0 hv0 hB0 hown hT6 hT7 o1 o2 hS2 hb0 hb1 hb0b hb1b hn0 hm0
  go_wp2
  go_ret
  exact ⟨rfl, hfin⟩
end Go.Proofs.Ytpkadhgoaaphkaa
