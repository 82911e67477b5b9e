/-
  takes (func 10): changes are laid into a shelf.
-/
import Derived.Test.YtpkadhgoaaphkaaOv
namespace Go.Proofs.Ytpkadhgoaaphkaa
open Go Go.RowKit Go.Shelf
set_option linter.unusedVariables false
/-- Changes that rise, within the leaves. -/
def Ris (L : List Cg) : Prop := (∀ c ∈ L, c.lf < 64) ∧ ∀ (i : Nat) (a b : Cg), L[i]? = some a → L[i + 1]? = some b → a.lf < b.lf
theorem cgs_at : ∀ (L : List Cg) (i : Nat) (c : Cg), L[i]? = some c → (cgs L)[i * 2]? = some (.int .u32 c.lf) ∧ (cgs L)[i * 2 + 1]? = some c.val
  | [], i, c, h => by cases h
  | x :: r, 0, c, h => by cases h; exact ⟨rfl, rfl⟩
  | x :: r, i + 1, c, h => by
    have ih := cgs_at r i c h
    rw [show cgs (x :: r) = .int .u32 x.lf :: x.val :: cgs r from rfl, show (i + 1) * 2 = i * 2 + 1 + 1 by omega]
    simp only [List.getElem?_cons_succ]
    exact ih
/-- What lies while changes are laid in. -/
structure TkI (B g : Nat) (v : Nat → Value) (m : Nat → List UInt8) (bad : Nat) (va : Value) (ask : List Nat) (A : Option Addr) (L : List Cg) (w : World) (i : Nat) (W : World) : Prop where
  sh : ∃ v', Sh B g v' (ovM m ((L.take i).map Cg.pair)) bad va ask W ∧ v' 64 = v 64 ∧ v' 65 = v 65
  og : Only (fun k => k = g) w W
  rd : Reads W W.heap.size A (L.length * 2) (cgs L)
  ok : ∀ x ∈ L, x.ok B W
  tn : Turn B w W
theorem put_far (v : Nat → Value) {k j : Nat} (hk : k < 64) (hj : 64 ≤ j) (u : Value) : put v k u j = v j := by unfold put; rw [if_neg (by omega)]
/-- A row is laid at a leaf. -/
theorem sh_lay {B g : Nat} {v : Nat → Value} {m : Nat → List UInt8} {bad : Nat} {va : Value} {ask : List Nat} {w : World} (h : Sh B g v m bad va ask w) {k : Nat} (hk : k < 64) {u : Value} {l : List UInt8} (hu : w.ownsRow B 5 1 u l.length (Lib.byteCells l)) (hl : l.length = 0 ∨ l.length = 512) :
    Sh B g (put v k u) (putM m k l) bad va ask (w.setCell ⟨g, k, none⟩ u) := by
  have ht := h.ty
  refine ⟨(h.tb.set_ k u).congr fun i hi => ?_, fun j hj => ?_, fun j hj => ?_, row_put h.ak ht (by decide) u, h.gB, h.bd, fun X hX => ?_⟩
  · unfold put shf
    by_cases e : i = k
    · subst e; simp only [if_true, hk]
    · simp only [e, if_false]
  · unfold put putM
    by_cases e : j = k
    · subst e; simp only [if_true]; exact row_put hu ht (by decide) u
    · simp only [e, if_false]; exact row_put (h.lv j hj) ht (by decide) u
  · unfold putM
    by_cases e : j = k
    · simp only [e, if_true]; exact hl
    · simp only [e, if_false]; exact h.sz j hj
  · rw [put_far v hk (by omega)] at hX
    rw [put_far v hk (by omega)]
    exact ⟨(h.xb X hX).1.put ht (by decide) u, (h.xb X hX).2⟩
/-- A row that begins with a number of 32 bits is none of the shelf's own. -/
theorem Sh.far {B g : Nat} {v : Nat → Value} {m : Nat → List UInt8} {bad : Nat} {va : Value} {ask : List Nat} {w : World} (h : Sh B g v m bad va ask w) {q o n : Nat} (hq : w.cell? ⟨q, o, none⟩ = some (.int .u32 n)) : q ≠ g := fun e => by
  subst e
  have := (Blk.cell h.tb o).symm.trans hq
  by_cases ho : o < 66
  · rw [tab_get _ ho] at this
    unfold shf at this
    split at this
    · rename_i h64
      rcases (h.lv o h64).2 with ⟨e, _⟩ | ⟨_, _, _, e, _⟩
      · rw [e] at this; cases this
      · rw [e] at this; cases this
    · split at this
      · cases this
      · rcases h.ak.2 with ⟨e, _⟩ | ⟨_, _, _, e, _⟩
        · rw [e] at this; cases this
        · rw [e] at this; cases this
  · unfold tab at this
    rw [List.getElem?_toArray, List.getElem?_eq_none (by simp; omega)] at this
    cases this
theorem TkI.next {B g : Nat} {v : Nat → Value} {m : Nat → List UInt8} {bad : Nat} {va : Value} {ask : List Nat} {A : Option Addr} {L : List Cg} {w W W2 : World} {i : Nat} {x : Cg} {u : Value} (h : TkI B g v m bad va ask A L w i W) (hx : L[i]? = some x) (hl : x.lf < 64)
    (ho : Only (fun _ => False) W W2) (hu : W2.ownsRow B 5 1 u x.bs.length (Lib.byteCells x.bs)) (hb : x.bs.length = 0 ∨ x.bs.length = 512) : TkI B g v m bad va ask A L w (i + 1) (W2.setCell ⟨g, x.lf, none⟩ u) := by
  obtain ⟨v', hs, hv4, hv5⟩ := h.sh
  have hs2 := hs.only ho
  have hlt := (List.getElem?_eq_some_iff.1 hx).1
  have oo : Only (fun k => k = g) W (W2.setCell ⟨g, x.lf, none⟩ u) := (ho.mono fun _ _ e => e.elim).trans ((Only.refl (fun k => k = g) W2).setCell (p := ⟨g, x.lf, none⟩) (.inl rfl) u)
  have hA : ∀ a, A = some a → ¬ a.block = g := fun a e => by
    obtain ⟨b, o, e2, hb2, hc⟩ := h.rd.2 (by omega)
    rw [e] at e2
    cases e2
    have h0 : L[0]? = some L[0] := List.getElem?_eq_getElem (by omega)
    have := hc 0 _ (cgs_at L 0 _ h0).1
    exact hs.far this
  refine ⟨⟨put v' x.lf u, ?_, (put_far v' hl (by omega) u).trans hv4, (put_far v' hl (by omega) u).trans hv5⟩, h.og.trans oo, h.rd.keepA oo hA, fun y hy => (h.ok y hy).keep oo fun q e e2 => ?_, (h.tn.only ho).setCell ?_ u⟩
  · have e : (L.take (i + 1)).map Cg.pair = (L.take i).map Cg.pair ++ [(x.lf, x.bs)] := by
      rw [List.take_add_one, hx, List.map_append]; rfl
    rw [e, ovM_snoc]
    exact sh_lay hs2 hl hu hb
  · subst e2
    have := ((h.ok y hy).lt e).2.2.one hs.ty
    cases this
  · by_cases hg : g < w.heap.size
    · exact .inl (h.tn.tn hg ⟨hs.gB, .inl hs.ty⟩)
    · exact .inr (by show w.heap.size ≤ g; omega)

/-- A copy of a change's bytes. -/
theorem app_cpy {B : Nat} {W : World} {x : Cg} (h : x.ok B W) : ∃ (Au : Option Addr) (nu cu : Nat) (W2 : World), (Builtin.append_ #[24, 24] 24 #[.slice none 0 0, x.val]).run Try.prog W = .ok (.slice Au nu cu) W2 ∧ Only (fun _ => False) W W2 ∧ W2.ownsRow W.heap.size 5 1 (.slice Au nu cu) x.bs.length (Lib.byteCells x.bs) ∧ (x.bs.length = 0 ∨ x.bs.length = 512) := by
  unfold Cg.ok at h
  unfold Cg.val
  split at h
  · rename_i e
    obtain ⟨i, hi, _⟩ := info_of info5k
    rw [h]
    exact ⟨_, _, _, W, run_append_zero W 24 24 5 i und24 hi none none 0 0 0 (Nat.le_refl _) (fun _ => ⟨rfl, rfl⟩), Only.refl _ _, World.ownsRow_nil _ _ _ _, .inl rfl⟩
  · rename_i q e
    obtain ⟨hl, _, hb⟩ := h
    have hr : Reads W W.heap.size (some ⟨q, 0, none⟩) 512 (Lib.byteCells x.bs) := ⟨by rw [Lib.byteCells_length, hl], fun _ => ⟨q, 0, rfl, Blk.lt hb, fun j u hu => by rw [Blk.cell hb, List.getElem?_toArray, Nat.zero_add]; exact hu⟩⟩
    obtain ⟨g, cap, w', hrun, hown, hg⟩ := app_bytes (W := W) (base := W.heap.size) (vo := .slice none 0 0) (L := []) (l := x.bs) (A := some ⟨q, 0, none⟩) (n := 512) (c := 512) (World.ownsRow_nil _ _ _ _) (Nat.le_refl _) hr (by omega) (by simp)
    refine ⟨_, _, _, w', hrun, Only.of_grown hg, ?_, .inr hl⟩
    simp only [List.length_nil, Nat.zero_add, List.nil_append] at hown
    rw [hl]
    exact hown
theorem Ris.of {L : List Cg} (h : RisP (L.map Cg.pair)) : Ris L := by
  refine ⟨fun c hc => h.1 c.pair (List.mem_map.2 ⟨c, hc, rfl⟩), fun i a b ha hb => ?_⟩
  have h2 := List.pairwise_iff_getElem.1 h.2 i (i + 1) (by have := (List.getElem?_eq_some_iff.1 ha).1; rw [List.length_map]; exact this) (by have := (List.getElem?_eq_some_iff.1 hb).1; rw [List.length_map]; exact this) (by omega)
  rw [List.getElem_map, List.getElem_map, (List.getElem?_eq_some_iff.1 ha).2, (List.getElem?_eq_some_iff.1 hb).2] at h2
  exact h2
set_option maxRecDepth 20000 in
set_option maxHeartbeats 8000000 in
theorem takes_any (B g : Nat) (v : Nat → Value) (m : Nat → List UInt8) (bad : Nat) (va : Value) (ask : List Nat) (A : Option Addr) (c : Nat) (L : List Cg) (w : World) (h : Sh B g v m bad va ask w) (hB : B ≤ w.heap.size)
    (hr : Reads w w.heap.size A (L.length * 2) (cgs L)) (hc : L.length ≤ c) (hok : ∀ x ∈ L, x.ok B w) (hR : Ris L) (hL : L.length ≤ 1000) :
    Calls Try.prog 10 #[.pointer (some ⟨g, 0, none⟩), .slice A L.length c] w fun r w' => r = .returned (.bool true) ∧ TkI B g v m bad va ask A L w L.length w' := by
  have h0 : TkI B g v m bad va ask A L w 0 w := ⟨⟨v, h, rfl, rfl⟩, Only.refl _ _, hr, hok, Turn.refl _ _⟩
  replace hR := Lib.hid hR
  clear h hr hok
  go_enter Try.func10, Try.ntmps10
  go_wp2
  go_loopw [5] (fun t wr => ∃ i : Nat, t = .int .i64 i ∧ i ≤ L.length ∧ TkI B g v m bad va ask A L w i wr) (fun t _ => L.length - (intOf t).toNat)
  case atStart => exact ⟨0, rfl, by omega, h0⟩
  case round =>
    obtain ⟨i, rfl, hi, hI⟩ := hrel
    by_cases hlt : i < L.length
    · obtain ⟨x, hx⟩ : ∃ x, L[i]? = some x := ⟨_, List.getElem?_eq_getElem hlt⟩
      obtain ⟨b, o, eA, hb, hc⟩ := hI.rd.2 (by omega)
      subst eA
      have d0 := hc _ _ (cgs_at L i x hx).1
      have d1 := hc _ _ (cgs_at L i x hx).2
      rw [← Nat.add_assoc] at d1
      have hx64 := hR.out.1 x (List.mem_of_getElem? hx)
      have j0 : (0 : Int) ≤ (i : Int) := by omega
      have j1 : (i : Int) < (L.length : Int) := by omega
      have j2 : ¬ (64 : Int) ≤ (x.lf : Int) := by omega
      have hok := hI.ok x (List.mem_of_getElem? hx)
      have hnx : ∀ W2 u, Only (fun _ => False) wr W2 → W2.ownsRow B 5 1 u x.bs.length (Lib.byteCells x.bs) → (x.bs.length = 0 ∨ x.bs.length = 512) → TkI B g v m bad va ask (some ⟨b, o, none⟩) L w (i + 1) (W2.setCell ⟨g, x.lf, none⟩ u) := fun W2 u ho hu hb => hI.next hx hx64 ho hu hb
      cases hq : x.q with
      | none =>
        unfold Cg.val at d1
        rw [hq] at d1
        simp only at d1
        rcases Nat.eq_zero_or_pos i with rfl | hp
        · have i0 : ((0 : Nat) : Int) = 0 := rfl
          simp only [i0, Nat.zero_mul, Nat.add_zero] at *
          clear h0 hR hc hx hi hlt
          replace hI := Lib.hid hI
          replace hnx := Lib.hid hnx
          replace hok := Lib.hid hok
          go_upto_region 4 with fail
          go_quiet (fail)
          go_upto_region 6 with fail
          have ho1 : Only (fun _ => False) wr (wr.drewN nq) := (Only.refl _ _).drewN nq
          replace d0 : (wr.drewN nq).cell? ⟨b, o, none⟩ = _ := d0
          replace d1 : (wr.drewN nq).cell? ⟨b, o + 1, none⟩ = _ := d1
          replace hb : b < (wr.drewN nq).heap.size := hb
          generalize wr.drewN nq = W1 at *
          have ho2 := ho1.drew
          have hok2 : x.ok B W1.drew := hok.out.keep ho2 (fun _ _ x => x)
          obtain ⟨Au, nu, cu, W2, hrun, ho3, hown, hl5⟩ := app_cpy hok2
          unfold Cg.val at hrun
          rw [hq] at hrun
          simp only at hrun
          obtain ⟨v', hs, _, _⟩ := hI.out.sh
          have hB1 : B ≤ W1.drew.heap.size := Nat.le_trans (Nat.le_trans hB hI.out.tn.size) ho2.size
          have hs2 := hs.only (ho2.trans ho3)
          have hg0 := hs2.tb.cell x.lf (by omega)
          have hf0 := hs2.tb.frozen x.lf
          have hF := Lib.hid (hnx.out W2 (.slice Au nu cu) (ho2.trans ho3) (ownsRow_mono hown hB1) hl5)
          have hS0 : W1.drew.cell? ⟨b, o, none⟩ = some (.int .u32 x.lf) ∧ W1.drew.cell? ⟨b, o + 1, none⟩ = some (.slice none 0 0) := ⟨d0, d1⟩
          have hS9 : W2.cell? ⟨b, o, none⟩ = some (.int .u32 x.lf) ∧ W2.cell? ⟨b, o + 1, none⟩ = some (.slice none 0 0) := ⟨(Blk.cell_only ho3 (a := ⟨b, o, none⟩) hb (fun x => x)).trans d0, (Blk.cell_only ho3 (a := ⟨b, o + 1, none⟩) hb (fun x => x)).trans d1⟩
          have j3 : (x.lf : Int) < 64 := by omega
          generalize shf v' bad va x.lf = uo at hg0
          replace hrun := Lib.hid hrun
          clear hs hs2 hok2 ho1 ho2 ho3 hown hl5 hok hnx hI hB1 d0 d1
          refine wp_region_noPanic ?_
          refine wp_region_E 15 (fun W => W.cell? ⟨b, o, none⟩ = some (.int .u32 x.lf) ∧ W.cell? ⟨b, o + 1, none⟩ = some (.slice none 0 0)) (by kernel_rfl) ?_
          generalize W1.drew = wd at *
          refine E_take (v := ?p10) 0 rfl (by kernel_rfl) (by kernel_rfl) (by kernel_rfl) (by kernel_rfl) (by kernel_rfl) (by kernel_rfl) (fun _ _ _ h => h) rfl hS0 ?p1h0 ?_
          case p1h0 => intro W hW; obtain ⟨g0, g1⟩ := hW; go_simp; try with_reducible rfl
          simp only [Act.put, List.setIfInBounds_toArray, List.set_cons_zero, List.set_cons_succ]
          refine E_take (v := ?p11) 1 rfl (by kernel_rfl) (by kernel_rfl) (by kernel_rfl) (by kernel_rfl) (by kernel_rfl) (by kernel_rfl) (fun _ _ _ h => h) rfl hS0 ?p1h1 ?_
          case p1h1 => intro W hW; obtain ⟨g0, g1⟩ := hW; go_simp; try with_reducible rfl
          simp only [Act.put, List.setIfInBounds_toArray, List.set_cons_zero, List.set_cons_succ]
          refine E_take (v := ?p12) 2 rfl (by kernel_rfl) (by kernel_rfl) (by kernel_rfl) (by kernel_rfl) (by kernel_rfl) (by kernel_rfl) (fun _ _ _ h => h) rfl hS0 ?p1h2 ?_
          case p1h2 => intro W hW; obtain ⟨g0, g1⟩ := hW; go_simp; try with_reducible rfl
          simp only [Act.put, List.setIfInBounds_toArray, List.set_cons_zero, List.set_cons_succ]
          refine E_take (v := ?p13) 3 rfl (by kernel_rfl) (by kernel_rfl) (by kernel_rfl) (by kernel_rfl) (by kernel_rfl) (by kernel_rfl) (fun _ _ _ h => h) rfl hS0 ?p1h3 ?_
          case p1h3 => intro W hW; obtain ⟨g0, g1⟩ := hW; go_simp; try with_reducible rfl
          simp only [Act.put, List.setIfInBounds_toArray, List.set_cons_zero, List.set_cons_succ]
          refine E_take (v := ?p14) 4 rfl (by kernel_rfl) (by kernel_rfl) (by kernel_rfl) (by kernel_rfl) (by kernel_rfl) (by kernel_rfl) (fun _ _ _ h => h) rfl hS0 ?p1h4 ?_
          case p1h4 => intro W hW; obtain ⟨g0, g1⟩ := hW; go_simp; try with_reducible rfl
          simp only [Act.put, List.setIfInBounds_toArray, List.set_cons_zero, List.set_cons_succ]
          refine E_take (v := ?p15) 5 rfl (by kernel_rfl) (by kernel_rfl) (by kernel_rfl) (by kernel_rfl) (by kernel_rfl) (by kernel_rfl) (fun _ _ _ h => h) rfl hS0 ?p1h5 ?_
          case p1h5 => intro W hW; obtain ⟨g0, g1⟩ := hW; go_simp; try with_reducible rfl
          simp only [Act.put, List.setIfInBounds_toArray, List.set_cons_zero, List.set_cons_succ]
          refine E_take (v := ?p16) 6 rfl (by kernel_rfl) (by kernel_rfl) (by kernel_rfl) (by kernel_rfl) (by kernel_rfl) (by kernel_rfl) (fun _ _ _ h => h) rfl hS0 ?p1h6 ?_
          case p1h6 => intro W hW; obtain ⟨g0, g1⟩ := hW; go_simp; try with_reducible rfl
          simp only [Act.put, List.setIfInBounds_toArray, List.set_cons_zero, List.set_cons_succ]
          refine E_take (v := ?p17) 7 rfl (by kernel_rfl) (by kernel_rfl) (by kernel_rfl) (by kernel_rfl) (by kernel_rfl) (by kernel_rfl) (fun _ _ _ h => h) rfl hS0 ?p1h7 ?_
          case p1h7 => intro W hW; obtain ⟨g0, g1⟩ := hW; go_simp; try with_reducible rfl
          simp only [Act.put, List.setIfInBounds_toArray, List.set_cons_zero, List.set_cons_succ]
          refine E_take (v := ?p18) 8 rfl (by kernel_rfl) (by kernel_rfl) (by kernel_rfl) (by kernel_rfl) (by kernel_rfl) (by kernel_rfl) (fun _ _ _ h => h) rfl hS0 ?p1h8 ?_
          case p1h8 => intro W hW; obtain ⟨g0, g1⟩ := hW; go_simp; try with_reducible rfl
          simp only [Act.put, List.setIfInBounds_toArray, List.set_cons_zero, List.set_cons_succ]
          refine E_take (v := ?p19) 9 rfl (by kernel_rfl) (by kernel_rfl) (by kernel_rfl) (by kernel_rfl) (by kernel_rfl) (by kernel_rfl) (fun _ _ _ h => h) rfl hS0 ?p1h9 ?_
          case p1h9 => intro W hW; obtain ⟨g0, g1⟩ := hW; go_simp; try with_reducible rfl
          simp only [Act.put, List.setIfInBounds_toArray, List.set_cons_zero, List.set_cons_succ]
          refine E_take (v := ?p110) 10 rfl (by kernel_rfl) (by kernel_rfl) (by kernel_rfl) (by kernel_rfl) (by kernel_rfl) (by kernel_rfl) (fun _ _ _ h => h) rfl hS0 ?p1h10 ?_
          case p1h10 => intro W hW; obtain ⟨g0, g1⟩ := hW; go_simp; try with_reducible rfl
          simp only [Act.put, List.setIfInBounds_toArray, List.set_cons_zero, List.set_cons_succ]
          refine have FIN : ?p1G := ?p1FINp; ?p1main
          case p1main =>
            refine E_two 11 12 (by kernel_rfl) rfl rfl (fun K hK => ?p1g1) (fun K hK => ?p1g2)
            case p1g2 =>
              go_simp
              refine hK.out _ _ (fun _ => hS0) ?_
              clear hK K
              try simp only [Act.put, List.setIfInBounds_toArray, List.set_cons_zero, List.set_cons_succ]
              refine E_two 11 13 (by kernel_rfl) rfl rfl (fun K hK => ?p1g3) (fun K hK => ?p1g4)
              case p1g4 =>
                go_simp
                refine hK.out _ _ (fun _ => hS0) ?_
                clear hK K
                try simp only [Act.put, List.setIfInBounds_toArray, List.set_cons_zero, List.set_cons_succ]
                refine E_one 11 (by kernel_rfl) rfl (fun K hK => ?_)
                refine step_append_eq1 rfl (.const (.slice none 0 0)) (.tmp 64) 24 rfl _ _ _ _ (by rfl) (by rfl) hrun.out ?_
                refine hK.out _ _ (fun _ => hS9) ?_
                clear hK K
                try simp only [Act.put, List.setIfInBounds_toArray, List.set_cons_zero, List.set_cons_succ]
                refine E_one 14 (by kernel_rfl) rfl (fun K hK => ?_)
                go_simp
                refine hK.out _ _ (fun _ => hS9) ?_
                clear hK K
                try simp only [Act.put, List.setIfInBounds_toArray, List.set_cons_zero, List.set_cons_succ]
                refine E_one 15 (by kernel_rfl) rfl (fun K hK => ?_)
                go_simp
                refine hK.out _ _ (fun h => absurd h (by decide)) ?_
                clear hK K
                try simp only [Act.put, List.setIfInBounds_toArray, List.set_cons_zero, List.set_cons_succ]
                refine E_done (by kernel_rfl) ?_
                exact FIN
              case p1g3 =>
                refine step_append_eq1 rfl (.const (.slice none 0 0)) (.tmp 64) 24 rfl _ _ _ _ (by rfl) (by rfl) hrun.out ?_
                refine hK.out _ _ (fun _ => hS9) ?_
                clear hK K
                try simp only [Act.put, List.setIfInBounds_toArray, List.set_cons_zero, List.set_cons_succ]
                refine E_one 13 (by kernel_rfl) rfl (fun K hK => ?_)
                go_simp
                refine hK.out _ _ (fun _ => hS9) ?_
                clear hK K
                try simp only [Act.put, List.setIfInBounds_toArray, List.set_cons_zero, List.set_cons_succ]
                refine E_one 14 (by kernel_rfl) rfl (fun K hK => ?_)
                go_simp
                refine hK.out _ _ (fun _ => hS9) ?_
                clear hK K
                try simp only [Act.put, List.setIfInBounds_toArray, List.set_cons_zero, List.set_cons_succ]
                refine E_one 15 (by kernel_rfl) rfl (fun K hK => ?_)
                go_simp
                refine hK.out _ _ (fun h => absurd h (by decide)) ?_
                clear hK K
                try simp only [Act.put, List.setIfInBounds_toArray, List.set_cons_zero, List.set_cons_succ]
                refine E_done (by kernel_rfl) ?_
                exact FIN
            case p1g1 =>
              refine step_append_eq1 rfl (.const (.slice none 0 0)) (.tmp 64) 24 rfl _ _ _ _ (by rfl) (by rfl) hrun.out ?_
              refine hK.out _ _ (fun _ => hS9) ?_
              clear hK K
              try simp only [Act.put, List.setIfInBounds_toArray, List.set_cons_zero, List.set_cons_succ]
              refine E_one 12 (by kernel_rfl) rfl (fun K hK => ?_)
              go_simp
              refine hK.out _ _ (fun _ => hS9) ?_
              clear hK K
              try simp only [Act.put, List.setIfInBounds_toArray, List.set_cons_zero, List.set_cons_succ]
              refine E_one 13 (by kernel_rfl) rfl (fun K hK => ?_)
              go_simp
              refine hK.out _ _ (fun _ => hS9) ?_
              clear hK K
              try simp only [Act.put, List.setIfInBounds_toArray, List.set_cons_zero, List.set_cons_succ]
              refine E_one 14 (by kernel_rfl) rfl (fun K hK => ?_)
              go_simp
              refine hK.out _ _ (fun _ => hS9) ?_
              clear hK K
              try simp only [Act.put, List.setIfInBounds_toArray, List.set_cons_zero, List.set_cons_succ]
              refine E_one 15 (by kernel_rfl) rfl (fun K hK => ?_)
              go_simp
              refine hK.out _ _ (fun h => absurd h (by decide)) ?_
              clear hK K
              try simp only [Act.put, List.setIfInBounds_toArray, List.set_cons_zero, List.set_cons_succ]
              refine E_done (by kernel_rfl) ?_
              exact FIN
          case p1FINp =>
          refine NoPanic.normal ?_
          clear hS0 hS9 hrun hg0 hf0
          generalize W2.setCell ⟨g, x.lf, none⟩ (.slice Au nu cu) = W3 at *
          go_wp2
          go_roundw
          case rel => exact ⟨0 + 1, by go_num, by omega, hF.out⟩
          case measure => simp [intOf]; omega
        · obtain ⟨y, hy⟩ : ∃ y, L[i - 1]? = some y := ⟨_, List.getElem?_eq_getElem (by omega)⟩
          have hyx := hR.out.2 (i - 1) y x hy (by rw [show i - 1 + 1 = i by omega]; exact hx)
          have d2 := hc _ _ (cgs_at L (i - 1) y hy).1
          have j4 : (0 : Int) < (i : Int) := by omega
          have j10 : (i : Int) ≤ 1000 := by omega
          have j5 : ¬ (x.lf : Int) ≤ (y.lf : Int) := by omega
          have j6 : (0 : Int) ≤ (i : Int) - 1 := by omega
          have j7 : (i : Int) - 1 < (L.length : Int) := by omega
          have j8 : ((i : Int) - 1).toNat = i - 1 := by omega
          clear h0 hR hc hx hlt
          replace hI := Lib.hid hI
          replace hnx := Lib.hid hnx
          replace hok := Lib.hid hok
          go_upto_region 4 with fail
          go_quiet (fail)
          go_upto_region 6 with fail
          have ho1 : Only (fun _ => False) wr (wr.drewN nq) := (Only.refl _ _).drewN nq
          replace d0 : (wr.drewN nq).cell? ⟨b, o + i * 2, none⟩ = _ := d0
          replace d1 : (wr.drewN nq).cell? ⟨b, o + i * 2 + 1, none⟩ = _ := d1
          replace hb : b < (wr.drewN nq).heap.size := hb
          generalize wr.drewN nq = W1 at *
          have ho2 := ho1.drew
          have hok2 : x.ok B W1.drew := hok.out.keep ho2 (fun _ _ x => x)
          obtain ⟨Au, nu, cu, W2, hrun, ho3, hown, hl5⟩ := app_cpy hok2
          unfold Cg.val at hrun
          rw [hq] at hrun
          simp only at hrun
          obtain ⟨v', hs, _, _⟩ := hI.out.sh
          have hB1 : B ≤ W1.drew.heap.size := Nat.le_trans (Nat.le_trans hB hI.out.tn.size) ho2.size
          have hs2 := hs.only (ho2.trans ho3)
          have hg0 := hs2.tb.cell x.lf (by omega)
          have hf0 := hs2.tb.frozen x.lf
          have hF := Lib.hid (hnx.out W2 (.slice Au nu cu) (ho2.trans ho3) (ownsRow_mono hown hB1) hl5)
          have hS0 : W1.drew.cell? ⟨b, o + i * 2, none⟩ = some (.int .u32 x.lf) ∧ W1.drew.cell? ⟨b, o + i * 2 + 1, none⟩ = some (.slice none 0 0) := ⟨d0, d1⟩
          have hS9 : W2.cell? ⟨b, o + i * 2, none⟩ = some (.int .u32 x.lf) ∧ W2.cell? ⟨b, o + i * 2 + 1, none⟩ = some (.slice none 0 0) := ⟨(Blk.cell_only ho3 (a := ⟨b, o + i * 2, none⟩) hb (fun x => x)).trans d0, (Blk.cell_only ho3 (a := ⟨b, o + i * 2 + 1, none⟩) hb (fun x => x)).trans d1⟩
          have j3 : (x.lf : Int) < 64 := by omega
          generalize shf v' bad va x.lf = uo at hg0
          replace hrun := Lib.hid hrun
          clear hs hs2 hok2 ho1 ho2 ho3 hown hl5 hok hnx hI hB1 d0 d1
          refine wp_region_noPanic ?_
          refine wp_region_E 15 (fun W => W.cell? ⟨b, o + i * 2, none⟩ = some (.int .u32 x.lf) ∧ W.cell? ⟨b, o + i * 2 + 1, none⟩ = some (.slice none 0 0)) (by kernel_rfl) ?_
          generalize W1.drew = wd at *
          refine E_take (v := ?p20) 0 rfl (by kernel_rfl) (by kernel_rfl) (by kernel_rfl) (by kernel_rfl) (by kernel_rfl) (by kernel_rfl) (fun _ _ _ h => h) rfl hS0 ?p2h0 ?_
          case p2h0 => intro W hW; obtain ⟨g0, g1⟩ := hW; go_simp; try with_reducible rfl
          simp only [Act.put, List.setIfInBounds_toArray, List.set_cons_zero, List.set_cons_succ]
          refine E_take (v := ?p21) 1 rfl (by kernel_rfl) (by kernel_rfl) (by kernel_rfl) (by kernel_rfl) (by kernel_rfl) (by kernel_rfl) (fun _ _ _ h => h) rfl hS0 ?p2h1 ?_
          case p2h1 => intro W hW; obtain ⟨g0, g1⟩ := hW; go_simp; try with_reducible rfl
          simp only [Act.put, List.setIfInBounds_toArray, List.set_cons_zero, List.set_cons_succ]
          refine E_take (v := ?p22) 2 rfl (by kernel_rfl) (by kernel_rfl) (by kernel_rfl) (by kernel_rfl) (by kernel_rfl) (by kernel_rfl) (fun _ _ _ h => h) rfl hS0 ?p2h2 ?_
          case p2h2 => intro W hW; obtain ⟨g0, g1⟩ := hW; go_simp; try with_reducible rfl
          simp only [Act.put, List.setIfInBounds_toArray, List.set_cons_zero, List.set_cons_succ]
          refine E_take (v := ?p23) 3 rfl (by kernel_rfl) (by kernel_rfl) (by kernel_rfl) (by kernel_rfl) (by kernel_rfl) (by kernel_rfl) (fun _ _ _ h => h) rfl hS0 ?p2h3 ?_
          case p2h3 => intro W hW; obtain ⟨g0, g1⟩ := hW; go_simp; try with_reducible rfl
          simp only [Act.put, List.setIfInBounds_toArray, List.set_cons_zero, List.set_cons_succ]
          refine E_take (v := ?p24) 4 rfl (by kernel_rfl) (by kernel_rfl) (by kernel_rfl) (by kernel_rfl) (by kernel_rfl) (by kernel_rfl) (fun _ _ _ h => h) rfl hS0 ?p2h4 ?_
          case p2h4 => intro W hW; obtain ⟨g0, g1⟩ := hW; go_simp; try with_reducible rfl
          simp only [Act.put, List.setIfInBounds_toArray, List.set_cons_zero, List.set_cons_succ]
          refine E_take (v := ?p25) 5 rfl (by kernel_rfl) (by kernel_rfl) (by kernel_rfl) (by kernel_rfl) (by kernel_rfl) (by kernel_rfl) (fun _ _ _ h => h) rfl hS0 ?p2h5 ?_
          case p2h5 => intro W hW; obtain ⟨g0, g1⟩ := hW; go_simp; try with_reducible rfl
          simp only [Act.put, List.setIfInBounds_toArray, List.set_cons_zero, List.set_cons_succ]
          refine E_take (v := ?p26) 6 rfl (by kernel_rfl) (by kernel_rfl) (by kernel_rfl) (by kernel_rfl) (by kernel_rfl) (by kernel_rfl) (fun _ _ _ h => h) rfl hS0 ?p2h6 ?_
          case p2h6 => intro W hW; obtain ⟨g0, g1⟩ := hW; go_simp; try with_reducible rfl
          simp only [Act.put, List.setIfInBounds_toArray, List.set_cons_zero, List.set_cons_succ]
          refine E_take (v := ?p27) 7 rfl (by kernel_rfl) (by kernel_rfl) (by kernel_rfl) (by kernel_rfl) (by kernel_rfl) (by kernel_rfl) (fun _ _ _ h => h) rfl hS0 ?p2h7 ?_
          case p2h7 => intro W hW; obtain ⟨g0, g1⟩ := hW; go_simp; try with_reducible rfl
          simp only [Act.put, List.setIfInBounds_toArray, List.set_cons_zero, List.set_cons_succ]
          refine E_take (v := ?p28) 8 rfl (by kernel_rfl) (by kernel_rfl) (by kernel_rfl) (by kernel_rfl) (by kernel_rfl) (by kernel_rfl) (fun _ _ _ h => h) rfl hS0 ?p2h8 ?_
          case p2h8 => intro W hW; obtain ⟨g0, g1⟩ := hW; go_simp; try with_reducible rfl
          simp only [Act.put, List.setIfInBounds_toArray, List.set_cons_zero, List.set_cons_succ]
          refine E_take (v := ?p29) 9 rfl (by kernel_rfl) (by kernel_rfl) (by kernel_rfl) (by kernel_rfl) (by kernel_rfl) (by kernel_rfl) (fun _ _ _ h => h) rfl hS0 ?p2h9 ?_
          case p2h9 => intro W hW; obtain ⟨g0, g1⟩ := hW; go_simp; try with_reducible rfl
          simp only [Act.put, List.setIfInBounds_toArray, List.set_cons_zero, List.set_cons_succ]
          refine E_take (v := ?p210) 10 rfl (by kernel_rfl) (by kernel_rfl) (by kernel_rfl) (by kernel_rfl) (by kernel_rfl) (by kernel_rfl) (fun _ _ _ h => h) rfl hS0 ?p2h10 ?_
          case p2h10 => intro W hW; obtain ⟨g0, g1⟩ := hW; go_simp; try with_reducible rfl
          simp only [Act.put, List.setIfInBounds_toArray, List.set_cons_zero, List.set_cons_succ]
          refine have FIN : ?p2G := ?p2FINp; ?p2main
          case p2main =>
            refine E_two 11 12 (by kernel_rfl) rfl rfl (fun K hK => ?p2g1) (fun K hK => ?p2g2)
            case p2g2 =>
              go_simp
              refine hK.out _ _ (fun _ => hS0) ?_
              clear hK K
              try simp only [Act.put, List.setIfInBounds_toArray, List.set_cons_zero, List.set_cons_succ]
              refine E_two 11 13 (by kernel_rfl) rfl rfl (fun K hK => ?p2g3) (fun K hK => ?p2g4)
              case p2g4 =>
                go_simp
                refine hK.out _ _ (fun _ => hS0) ?_
                clear hK K
                try simp only [Act.put, List.setIfInBounds_toArray, List.set_cons_zero, List.set_cons_succ]
                refine E_one 11 (by kernel_rfl) rfl (fun K hK => ?_)
                refine step_append_eq1 rfl (.const (.slice none 0 0)) (.tmp 64) 24 rfl _ _ _ _ (by rfl) (by rfl) hrun.out ?_
                refine hK.out _ _ (fun _ => hS9) ?_
                clear hK K
                try simp only [Act.put, List.setIfInBounds_toArray, List.set_cons_zero, List.set_cons_succ]
                refine E_one 14 (by kernel_rfl) rfl (fun K hK => ?_)
                go_simp
                refine hK.out _ _ (fun _ => hS9) ?_
                clear hK K
                try simp only [Act.put, List.setIfInBounds_toArray, List.set_cons_zero, List.set_cons_succ]
                refine E_one 15 (by kernel_rfl) rfl (fun K hK => ?_)
                go_simp
                refine hK.out _ _ (fun h => absurd h (by decide)) ?_
                clear hK K
                try simp only [Act.put, List.setIfInBounds_toArray, List.set_cons_zero, List.set_cons_succ]
                refine E_done (by kernel_rfl) ?_
                exact FIN
              case p2g3 =>
                refine step_append_eq1 rfl (.const (.slice none 0 0)) (.tmp 64) 24 rfl _ _ _ _ (by rfl) (by rfl) hrun.out ?_
                refine hK.out _ _ (fun _ => hS9) ?_
                clear hK K
                try simp only [Act.put, List.setIfInBounds_toArray, List.set_cons_zero, List.set_cons_succ]
                refine E_one 13 (by kernel_rfl) rfl (fun K hK => ?_)
                go_simp
                refine hK.out _ _ (fun _ => hS9) ?_
                clear hK K
                try simp only [Act.put, List.setIfInBounds_toArray, List.set_cons_zero, List.set_cons_succ]
                refine E_one 14 (by kernel_rfl) rfl (fun K hK => ?_)
                go_simp
                refine hK.out _ _ (fun _ => hS9) ?_
                clear hK K
                try simp only [Act.put, List.setIfInBounds_toArray, List.set_cons_zero, List.set_cons_succ]
                refine E_one 15 (by kernel_rfl) rfl (fun K hK => ?_)
                go_simp
                refine hK.out _ _ (fun h => absurd h (by decide)) ?_
                clear hK K
                try simp only [Act.put, List.setIfInBounds_toArray, List.set_cons_zero, List.set_cons_succ]
                refine E_done (by kernel_rfl) ?_
                exact FIN
            case p2g1 =>
              refine step_append_eq1 rfl (.const (.slice none 0 0)) (.tmp 64) 24 rfl _ _ _ _ (by rfl) (by rfl) hrun.out ?_
              refine hK.out _ _ (fun _ => hS9) ?_
              clear hK K
              try simp only [Act.put, List.setIfInBounds_toArray, List.set_cons_zero, List.set_cons_succ]
              refine E_one 12 (by kernel_rfl) rfl (fun K hK => ?_)
              go_simp
              refine hK.out _ _ (fun _ => hS9) ?_
              clear hK K
              try simp only [Act.put, List.setIfInBounds_toArray, List.set_cons_zero, List.set_cons_succ]
              refine E_one 13 (by kernel_rfl) rfl (fun K hK => ?_)
              go_simp
              refine hK.out _ _ (fun _ => hS9) ?_
              clear hK K
              try simp only [Act.put, List.setIfInBounds_toArray, List.set_cons_zero, List.set_cons_succ]
              refine E_one 14 (by kernel_rfl) rfl (fun K hK => ?_)
              go_simp
              refine hK.out _ _ (fun _ => hS9) ?_
              clear hK K
              try simp only [Act.put, List.setIfInBounds_toArray, List.set_cons_zero, List.set_cons_succ]
              refine E_one 15 (by kernel_rfl) rfl (fun K hK => ?_)
              go_simp
              refine hK.out _ _ (fun h => absurd h (by decide)) ?_
              clear hK K
              try simp only [Act.put, List.setIfInBounds_toArray, List.set_cons_zero, List.set_cons_succ]
              refine E_done (by kernel_rfl) ?_
              exact FIN
          case p2FINp =>
          refine NoPanic.normal ?_
          clear hS0 hS9 hrun hg0 hf0
          generalize W2.setCell ⟨g, x.lf, none⟩ (.slice Au nu cu) = W3 at *
          go_wp2
          go_roundw
          case rel => exact ⟨i + 1, by go_num, by omega, hF.out⟩
          case measure => simp [intOf]; omega
      | some q =>
        unfold Cg.val at d1
        rw [hq] at d1
        simp only at d1
        rcases Nat.eq_zero_or_pos i with rfl | hp
        · have i0 : ((0 : Nat) : Int) = 0 := rfl
          simp only [i0, Nat.zero_mul, Nat.add_zero] at *
          clear h0 hR hc hx hi hlt
          replace hI := Lib.hid hI
          replace hnx := Lib.hid hnx
          replace hok := Lib.hid hok
          go_upto_region 4 with fail
          go_quiet (fail)
          go_upto_region 6 with fail
          have ho1 : Only (fun _ => False) wr (wr.drewN nq) := (Only.refl _ _).drewN nq
          replace d0 : (wr.drewN nq).cell? ⟨b, o, none⟩ = _ := d0
          replace d1 : (wr.drewN nq).cell? ⟨b, o + 1, none⟩ = _ := d1
          replace hb : b < (wr.drewN nq).heap.size := hb
          generalize wr.drewN nq = W1 at *
          have ho2 := ho1.drew
          have hok2 : x.ok B W1.drew := hok.out.keep ho2 (fun _ _ x => x)
          obtain ⟨Au, nu, cu, W2, hrun, ho3, hown, hl5⟩ := app_cpy hok2
          unfold Cg.val at hrun
          rw [hq] at hrun
          simp only at hrun
          obtain ⟨v', hs, _, _⟩ := hI.out.sh
          have hB1 : B ≤ W1.drew.heap.size := Nat.le_trans (Nat.le_trans hB hI.out.tn.size) ho2.size
          have hs2 := hs.only (ho2.trans ho3)
          have hg0 := hs2.tb.cell x.lf (by omega)
          have hf0 := hs2.tb.frozen x.lf
          have hF := Lib.hid (hnx.out W2 (.slice Au nu cu) (ho2.trans ho3) (ownsRow_mono hown hB1) hl5)
          have hS0 : W1.drew.cell? ⟨b, o, none⟩ = some (.int .u32 x.lf) ∧ W1.drew.cell? ⟨b, o + 1, none⟩ = some (.slice (some ⟨q, 0, none⟩) 512 512) := ⟨d0, d1⟩
          have hS9 : W2.cell? ⟨b, o, none⟩ = some (.int .u32 x.lf) ∧ W2.cell? ⟨b, o + 1, none⟩ = some (.slice (some ⟨q, 0, none⟩) 512 512) := ⟨(Blk.cell_only ho3 (a := ⟨b, o, none⟩) hb (fun x => x)).trans d0, (Blk.cell_only ho3 (a := ⟨b, o + 1, none⟩) hb (fun x => x)).trans d1⟩
          have j3 : (x.lf : Int) < 64 := by omega
          generalize shf v' bad va x.lf = uo at hg0
          replace hrun := Lib.hid hrun
          clear hs hs2 hok2 ho1 ho2 ho3 hown hl5 hok hnx hI hB1 d0 d1
          refine wp_region_noPanic ?_
          refine wp_region_E 15 (fun W => W.cell? ⟨b, o, none⟩ = some (.int .u32 x.lf) ∧ W.cell? ⟨b, o + 1, none⟩ = some (.slice (some ⟨q, 0, none⟩) 512 512)) (by kernel_rfl) ?_
          generalize W1.drew = wd at *
          refine E_take (v := ?p30) 0 rfl (by kernel_rfl) (by kernel_rfl) (by kernel_rfl) (by kernel_rfl) (by kernel_rfl) (by kernel_rfl) (fun _ _ _ h => h) rfl hS0 ?p3h0 ?_
          case p3h0 => intro W hW; obtain ⟨g0, g1⟩ := hW; go_simp; try with_reducible rfl
          simp only [Act.put, List.setIfInBounds_toArray, List.set_cons_zero, List.set_cons_succ]
          refine E_take (v := ?p31) 1 rfl (by kernel_rfl) (by kernel_rfl) (by kernel_rfl) (by kernel_rfl) (by kernel_rfl) (by kernel_rfl) (fun _ _ _ h => h) rfl hS0 ?p3h1 ?_
          case p3h1 => intro W hW; obtain ⟨g0, g1⟩ := hW; go_simp; try with_reducible rfl
          simp only [Act.put, List.setIfInBounds_toArray, List.set_cons_zero, List.set_cons_succ]
          refine E_take (v := ?p32) 2 rfl (by kernel_rfl) (by kernel_rfl) (by kernel_rfl) (by kernel_rfl) (by kernel_rfl) (by kernel_rfl) (fun _ _ _ h => h) rfl hS0 ?p3h2 ?_
          case p3h2 => intro W hW; obtain ⟨g0, g1⟩ := hW; go_simp; try with_reducible rfl
          simp only [Act.put, List.setIfInBounds_toArray, List.set_cons_zero, List.set_cons_succ]
          refine E_take (v := ?p33) 3 rfl (by kernel_rfl) (by kernel_rfl) (by kernel_rfl) (by kernel_rfl) (by kernel_rfl) (by kernel_rfl) (fun _ _ _ h => h) rfl hS0 ?p3h3 ?_
          case p3h3 => intro W hW; obtain ⟨g0, g1⟩ := hW; go_simp; try with_reducible rfl
          simp only [Act.put, List.setIfInBounds_toArray, List.set_cons_zero, List.set_cons_succ]
          refine E_take (v := ?p34) 4 rfl (by kernel_rfl) (by kernel_rfl) (by kernel_rfl) (by kernel_rfl) (by kernel_rfl) (by kernel_rfl) (fun _ _ _ h => h) rfl hS0 ?p3h4 ?_
          case p3h4 => intro W hW; obtain ⟨g0, g1⟩ := hW; go_simp; try with_reducible rfl
          simp only [Act.put, List.setIfInBounds_toArray, List.set_cons_zero, List.set_cons_succ]
          refine E_take (v := ?p35) 5 rfl (by kernel_rfl) (by kernel_rfl) (by kernel_rfl) (by kernel_rfl) (by kernel_rfl) (by kernel_rfl) (fun _ _ _ h => h) rfl hS0 ?p3h5 ?_
          case p3h5 => intro W hW; obtain ⟨g0, g1⟩ := hW; go_simp; try with_reducible rfl
          simp only [Act.put, List.setIfInBounds_toArray, List.set_cons_zero, List.set_cons_succ]
          refine E_take (v := ?p36) 6 rfl (by kernel_rfl) (by kernel_rfl) (by kernel_rfl) (by kernel_rfl) (by kernel_rfl) (by kernel_rfl) (fun _ _ _ h => h) rfl hS0 ?p3h6 ?_
          case p3h6 => intro W hW; obtain ⟨g0, g1⟩ := hW; go_simp; try with_reducible rfl
          simp only [Act.put, List.setIfInBounds_toArray, List.set_cons_zero, List.set_cons_succ]
          refine E_take (v := ?p37) 7 rfl (by kernel_rfl) (by kernel_rfl) (by kernel_rfl) (by kernel_rfl) (by kernel_rfl) (by kernel_rfl) (fun _ _ _ h => h) rfl hS0 ?p3h7 ?_
          case p3h7 => intro W hW; obtain ⟨g0, g1⟩ := hW; go_simp; try with_reducible rfl
          simp only [Act.put, List.setIfInBounds_toArray, List.set_cons_zero, List.set_cons_succ]
          refine E_take (v := ?p38) 8 rfl (by kernel_rfl) (by kernel_rfl) (by kernel_rfl) (by kernel_rfl) (by kernel_rfl) (by kernel_rfl) (fun _ _ _ h => h) rfl hS0 ?p3h8 ?_
          case p3h8 => intro W hW; obtain ⟨g0, g1⟩ := hW; go_simp; try with_reducible rfl
          simp only [Act.put, List.setIfInBounds_toArray, List.set_cons_zero, List.set_cons_succ]
          refine E_take (v := ?p39) 9 rfl (by kernel_rfl) (by kernel_rfl) (by kernel_rfl) (by kernel_rfl) (by kernel_rfl) (by kernel_rfl) (fun _ _ _ h => h) rfl hS0 ?p3h9 ?_
          case p3h9 => intro W hW; obtain ⟨g0, g1⟩ := hW; go_simp; try with_reducible rfl
          simp only [Act.put, List.setIfInBounds_toArray, List.set_cons_zero, List.set_cons_succ]
          refine E_take (v := ?p310) 10 rfl (by kernel_rfl) (by kernel_rfl) (by kernel_rfl) (by kernel_rfl) (by kernel_rfl) (by kernel_rfl) (fun _ _ _ h => h) rfl hS0 ?p3h10 ?_
          case p3h10 => intro W hW; obtain ⟨g0, g1⟩ := hW; go_simp; try with_reducible rfl
          simp only [Act.put, List.setIfInBounds_toArray, List.set_cons_zero, List.set_cons_succ]
          refine have FIN : ?p3G := ?p3FINp; ?p3main
          case p3main =>
            refine E_two 11 12 (by kernel_rfl) rfl rfl (fun K hK => ?p3g1) (fun K hK => ?p3g2)
            case p3g2 =>
              go_simp
              refine hK.out _ _ (fun _ => hS0) ?_
              clear hK K
              try simp only [Act.put, List.setIfInBounds_toArray, List.set_cons_zero, List.set_cons_succ]
              refine E_two 11 13 (by kernel_rfl) rfl rfl (fun K hK => ?p3g3) (fun K hK => ?p3g4)
              case p3g4 =>
                go_simp
                refine hK.out _ _ (fun _ => hS0) ?_
                clear hK K
                try simp only [Act.put, List.setIfInBounds_toArray, List.set_cons_zero, List.set_cons_succ]
                refine E_one 11 (by kernel_rfl) rfl (fun K hK => ?_)
                refine step_append_eq1 rfl (.const (.slice none 0 0)) (.tmp 64) 24 rfl _ _ _ _ (by rfl) (by rfl) hrun.out ?_
                refine hK.out _ _ (fun _ => hS9) ?_
                clear hK K
                try simp only [Act.put, List.setIfInBounds_toArray, List.set_cons_zero, List.set_cons_succ]
                refine E_one 14 (by kernel_rfl) rfl (fun K hK => ?_)
                go_simp
                refine hK.out _ _ (fun _ => hS9) ?_
                clear hK K
                try simp only [Act.put, List.setIfInBounds_toArray, List.set_cons_zero, List.set_cons_succ]
                refine E_one 15 (by kernel_rfl) rfl (fun K hK => ?_)
                go_simp
                refine hK.out _ _ (fun h => absurd h (by decide)) ?_
                clear hK K
                try simp only [Act.put, List.setIfInBounds_toArray, List.set_cons_zero, List.set_cons_succ]
                refine E_done (by kernel_rfl) ?_
                exact FIN
              case p3g3 =>
                refine step_append_eq1 rfl (.const (.slice none 0 0)) (.tmp 64) 24 rfl _ _ _ _ (by rfl) (by rfl) hrun.out ?_
                refine hK.out _ _ (fun _ => hS9) ?_
                clear hK K
                try simp only [Act.put, List.setIfInBounds_toArray, List.set_cons_zero, List.set_cons_succ]
                refine E_one 13 (by kernel_rfl) rfl (fun K hK => ?_)
                go_simp
                refine hK.out _ _ (fun _ => hS9) ?_
                clear hK K
                try simp only [Act.put, List.setIfInBounds_toArray, List.set_cons_zero, List.set_cons_succ]
                refine E_one 14 (by kernel_rfl) rfl (fun K hK => ?_)
                go_simp
                refine hK.out _ _ (fun _ => hS9) ?_
                clear hK K
                try simp only [Act.put, List.setIfInBounds_toArray, List.set_cons_zero, List.set_cons_succ]
                refine E_one 15 (by kernel_rfl) rfl (fun K hK => ?_)
                go_simp
                refine hK.out _ _ (fun h => absurd h (by decide)) ?_
                clear hK K
                try simp only [Act.put, List.setIfInBounds_toArray, List.set_cons_zero, List.set_cons_succ]
                refine E_done (by kernel_rfl) ?_
                exact FIN
            case p3g1 =>
              refine step_append_eq1 rfl (.const (.slice none 0 0)) (.tmp 64) 24 rfl _ _ _ _ (by rfl) (by rfl) hrun.out ?_
              refine hK.out _ _ (fun _ => hS9) ?_
              clear hK K
              try simp only [Act.put, List.setIfInBounds_toArray, List.set_cons_zero, List.set_cons_succ]
              refine E_one 12 (by kernel_rfl) rfl (fun K hK => ?_)
              go_simp
              refine hK.out _ _ (fun _ => hS9) ?_
              clear hK K
              try simp only [Act.put, List.setIfInBounds_toArray, List.set_cons_zero, List.set_cons_succ]
              refine E_one 13 (by kernel_rfl) rfl (fun K hK => ?_)
              go_simp
              refine hK.out _ _ (fun _ => hS9) ?_
              clear hK K
              try simp only [Act.put, List.setIfInBounds_toArray, List.set_cons_zero, List.set_cons_succ]
              refine E_one 14 (by kernel_rfl) rfl (fun K hK => ?_)
              go_simp
              refine hK.out _ _ (fun _ => hS9) ?_
              clear hK K
              try simp only [Act.put, List.setIfInBounds_toArray, List.set_cons_zero, List.set_cons_succ]
              refine E_one 15 (by kernel_rfl) rfl (fun K hK => ?_)
              go_simp
              refine hK.out _ _ (fun h => absurd h (by decide)) ?_
              clear hK K
              try simp only [Act.put, List.setIfInBounds_toArray, List.set_cons_zero, List.set_cons_succ]
              refine E_done (by kernel_rfl) ?_
              exact FIN
          case p3FINp =>
          refine NoPanic.normal ?_
          clear hS0 hS9 hrun hg0 hf0
          generalize W2.setCell ⟨g, x.lf, none⟩ (.slice Au nu cu) = W3 at *
          go_wp2
          go_roundw
          case rel => exact ⟨0 + 1, by go_num, by omega, hF.out⟩
          case measure => simp [intOf]; omega
        · obtain ⟨y, hy⟩ : ∃ y, L[i - 1]? = some y := ⟨_, List.getElem?_eq_getElem (by omega)⟩
          have hyx := hR.out.2 (i - 1) y x hy (by rw [show i - 1 + 1 = i by omega]; exact hx)
          have d2 := hc _ _ (cgs_at L (i - 1) y hy).1
          have j4 : (0 : Int) < (i : Int) := by omega
          have j10 : (i : Int) ≤ 1000 := by omega
          have j5 : ¬ (x.lf : Int) ≤ (y.lf : Int) := by omega
          have j6 : (0 : Int) ≤ (i : Int) - 1 := by omega
          have j7 : (i : Int) - 1 < (L.length : Int) := by omega
          have j8 : ((i : Int) - 1).toNat = i - 1 := by omega
          clear h0 hR hc hx hlt
          replace hI := Lib.hid hI
          replace hnx := Lib.hid hnx
          replace hok := Lib.hid hok
          go_upto_region 4 with fail
          go_quiet (fail)
          go_upto_region 6 with fail
          have ho1 : Only (fun _ => False) wr (wr.drewN nq) := (Only.refl _ _).drewN nq
          replace d0 : (wr.drewN nq).cell? ⟨b, o + i * 2, none⟩ = _ := d0
          replace d1 : (wr.drewN nq).cell? ⟨b, o + i * 2 + 1, none⟩ = _ := d1
          replace hb : b < (wr.drewN nq).heap.size := hb
          generalize wr.drewN nq = W1 at *
          have ho2 := ho1.drew
          have hok2 : x.ok B W1.drew := hok.out.keep ho2 (fun _ _ x => x)
          obtain ⟨Au, nu, cu, W2, hrun, ho3, hown, hl5⟩ := app_cpy hok2
          unfold Cg.val at hrun
          rw [hq] at hrun
          simp only at hrun
          obtain ⟨v', hs, _, _⟩ := hI.out.sh
          have hB1 : B ≤ W1.drew.heap.size := Nat.le_trans (Nat.le_trans hB hI.out.tn.size) ho2.size
          have hs2 := hs.only (ho2.trans ho3)
          have hg0 := hs2.tb.cell x.lf (by omega)
          have hf0 := hs2.tb.frozen x.lf
          have hF := Lib.hid (hnx.out W2 (.slice Au nu cu) (ho2.trans ho3) (ownsRow_mono hown hB1) hl5)
          have hS0 : W1.drew.cell? ⟨b, o + i * 2, none⟩ = some (.int .u32 x.lf) ∧ W1.drew.cell? ⟨b, o + i * 2 + 1, none⟩ = some (.slice (some ⟨q, 0, none⟩) 512 512) := ⟨d0, d1⟩
          have hS9 : W2.cell? ⟨b, o + i * 2, none⟩ = some (.int .u32 x.lf) ∧ W2.cell? ⟨b, o + i * 2 + 1, none⟩ = some (.slice (some ⟨q, 0, none⟩) 512 512) := ⟨(Blk.cell_only ho3 (a := ⟨b, o + i * 2, none⟩) hb (fun x => x)).trans d0, (Blk.cell_only ho3 (a := ⟨b, o + i * 2 + 1, none⟩) hb (fun x => x)).trans d1⟩
          have j3 : (x.lf : Int) < 64 := by omega
          generalize shf v' bad va x.lf = uo at hg0
          replace hrun := Lib.hid hrun
          clear hs hs2 hok2 ho1 ho2 ho3 hown hl5 hok hnx hI hB1 d0 d1
          refine wp_region_noPanic ?_
          refine wp_region_E 15 (fun W => W.cell? ⟨b, o + i * 2, none⟩ = some (.int .u32 x.lf) ∧ W.cell? ⟨b, o + i * 2 + 1, none⟩ = some (.slice (some ⟨q, 0, none⟩) 512 512)) (by kernel_rfl) ?_
          generalize W1.drew = wd at *
          refine E_take (v := ?p40) 0 rfl (by kernel_rfl) (by kernel_rfl) (by kernel_rfl) (by kernel_rfl) (by kernel_rfl) (by kernel_rfl) (fun _ _ _ h => h) rfl hS0 ?p4h0 ?_
          case p4h0 => intro W hW; obtain ⟨g0, g1⟩ := hW; go_simp; try with_reducible rfl
          simp only [Act.put, List.setIfInBounds_toArray, List.set_cons_zero, List.set_cons_succ]
          refine E_take (v := ?p41) 1 rfl (by kernel_rfl) (by kernel_rfl) (by kernel_rfl) (by kernel_rfl) (by kernel_rfl) (by kernel_rfl) (fun _ _ _ h => h) rfl hS0 ?p4h1 ?_
          case p4h1 => intro W hW; obtain ⟨g0, g1⟩ := hW; go_simp; try with_reducible rfl
          simp only [Act.put, List.setIfInBounds_toArray, List.set_cons_zero, List.set_cons_succ]
          refine E_take (v := ?p42) 2 rfl (by kernel_rfl) (by kernel_rfl) (by kernel_rfl) (by kernel_rfl) (by kernel_rfl) (by kernel_rfl) (fun _ _ _ h => h) rfl hS0 ?p4h2 ?_
          case p4h2 => intro W hW; obtain ⟨g0, g1⟩ := hW; go_simp; try with_reducible rfl
          simp only [Act.put, List.setIfInBounds_toArray, List.set_cons_zero, List.set_cons_succ]
          refine E_take (v := ?p43) 3 rfl (by kernel_rfl) (by kernel_rfl) (by kernel_rfl) (by kernel_rfl) (by kernel_rfl) (by kernel_rfl) (fun _ _ _ h => h) rfl hS0 ?p4h3 ?_
          case p4h3 => intro W hW; obtain ⟨g0, g1⟩ := hW; go_simp; try with_reducible rfl
          simp only [Act.put, List.setIfInBounds_toArray, List.set_cons_zero, List.set_cons_succ]
          refine E_take (v := ?p44) 4 rfl (by kernel_rfl) (by kernel_rfl) (by kernel_rfl) (by kernel_rfl) (by kernel_rfl) (by kernel_rfl) (fun _ _ _ h => h) rfl hS0 ?p4h4 ?_
          case p4h4 => intro W hW; obtain ⟨g0, g1⟩ := hW; go_simp; try with_reducible rfl
          simp only [Act.put, List.setIfInBounds_toArray, List.set_cons_zero, List.set_cons_succ]
          refine E_take (v := ?p45) 5 rfl (by kernel_rfl) (by kernel_rfl) (by kernel_rfl) (by kernel_rfl) (by kernel_rfl) (by kernel_rfl) (fun _ _ _ h => h) rfl hS0 ?p4h5 ?_
          case p4h5 => intro W hW; obtain ⟨g0, g1⟩ := hW; go_simp; try with_reducible rfl
          simp only [Act.put, List.setIfInBounds_toArray, List.set_cons_zero, List.set_cons_succ]
          refine E_take (v := ?p46) 6 rfl (by kernel_rfl) (by kernel_rfl) (by kernel_rfl) (by kernel_rfl) (by kernel_rfl) (by kernel_rfl) (fun _ _ _ h => h) rfl hS0 ?p4h6 ?_
          case p4h6 => intro W hW; obtain ⟨g0, g1⟩ := hW; go_simp; try with_reducible rfl
          simp only [Act.put, List.setIfInBounds_toArray, List.set_cons_zero, List.set_cons_succ]
          refine E_take (v := ?p47) 7 rfl (by kernel_rfl) (by kernel_rfl) (by kernel_rfl) (by kernel_rfl) (by kernel_rfl) (by kernel_rfl) (fun _ _ _ h => h) rfl hS0 ?p4h7 ?_
          case p4h7 => intro W hW; obtain ⟨g0, g1⟩ := hW; go_simp; try with_reducible rfl
          simp only [Act.put, List.setIfInBounds_toArray, List.set_cons_zero, List.set_cons_succ]
          refine E_take (v := ?p48) 8 rfl (by kernel_rfl) (by kernel_rfl) (by kernel_rfl) (by kernel_rfl) (by kernel_rfl) (by kernel_rfl) (fun _ _ _ h => h) rfl hS0 ?p4h8 ?_
          case p4h8 => intro W hW; obtain ⟨g0, g1⟩ := hW; go_simp; try with_reducible rfl
          simp only [Act.put, List.setIfInBounds_toArray, List.set_cons_zero, List.set_cons_succ]
          refine E_take (v := ?p49) 9 rfl (by kernel_rfl) (by kernel_rfl) (by kernel_rfl) (by kernel_rfl) (by kernel_rfl) (by kernel_rfl) (fun _ _ _ h => h) rfl hS0 ?p4h9 ?_
          case p4h9 => intro W hW; obtain ⟨g0, g1⟩ := hW; go_simp; try with_reducible rfl
          simp only [Act.put, List.setIfInBounds_toArray, List.set_cons_zero, List.set_cons_succ]
          refine E_take (v := ?p410) 10 rfl (by kernel_rfl) (by kernel_rfl) (by kernel_rfl) (by kernel_rfl) (by kernel_rfl) (by kernel_rfl) (fun _ _ _ h => h) rfl hS0 ?p4h10 ?_
          case p4h10 => intro W hW; obtain ⟨g0, g1⟩ := hW; go_simp; try with_reducible rfl
          simp only [Act.put, List.setIfInBounds_toArray, List.set_cons_zero, List.set_cons_succ]
          refine have FIN : ?p4G := ?p4FINp; ?p4main
          case p4main =>
            refine E_two 11 12 (by kernel_rfl) rfl rfl (fun K hK => ?p4g1) (fun K hK => ?p4g2)
            case p4g2 =>
              go_simp
              refine hK.out _ _ (fun _ => hS0) ?_
              clear hK K
              try simp only [Act.put, List.setIfInBounds_toArray, List.set_cons_zero, List.set_cons_succ]
              refine E_two 11 13 (by kernel_rfl) rfl rfl (fun K hK => ?p4g3) (fun K hK => ?p4g4)
              case p4g4 =>
                go_simp
                refine hK.out _ _ (fun _ => hS0) ?_
                clear hK K
                try simp only [Act.put, List.setIfInBounds_toArray, List.set_cons_zero, List.set_cons_succ]
                refine E_one 11 (by kernel_rfl) rfl (fun K hK => ?_)
                refine step_append_eq1 rfl (.const (.slice none 0 0)) (.tmp 64) 24 rfl _ _ _ _ (by rfl) (by rfl) hrun.out ?_
                refine hK.out _ _ (fun _ => hS9) ?_
                clear hK K
                try simp only [Act.put, List.setIfInBounds_toArray, List.set_cons_zero, List.set_cons_succ]
                refine E_one 14 (by kernel_rfl) rfl (fun K hK => ?_)
                go_simp
                refine hK.out _ _ (fun _ => hS9) ?_
                clear hK K
                try simp only [Act.put, List.setIfInBounds_toArray, List.set_cons_zero, List.set_cons_succ]
                refine E_one 15 (by kernel_rfl) rfl (fun K hK => ?_)
                go_simp
                refine hK.out _ _ (fun h => absurd h (by decide)) ?_
                clear hK K
                try simp only [Act.put, List.setIfInBounds_toArray, List.set_cons_zero, List.set_cons_succ]
                refine E_done (by kernel_rfl) ?_
                exact FIN
              case p4g3 =>
                refine step_append_eq1 rfl (.const (.slice none 0 0)) (.tmp 64) 24 rfl _ _ _ _ (by rfl) (by rfl) hrun.out ?_
                refine hK.out _ _ (fun _ => hS9) ?_
                clear hK K
                try simp only [Act.put, List.setIfInBounds_toArray, List.set_cons_zero, List.set_cons_succ]
                refine E_one 13 (by kernel_rfl) rfl (fun K hK => ?_)
                go_simp
                refine hK.out _ _ (fun _ => hS9) ?_
                clear hK K
                try simp only [Act.put, List.setIfInBounds_toArray, List.set_cons_zero, List.set_cons_succ]
                refine E_one 14 (by kernel_rfl) rfl (fun K hK => ?_)
                go_simp
                refine hK.out _ _ (fun _ => hS9) ?_
                clear hK K
                try simp only [Act.put, List.setIfInBounds_toArray, List.set_cons_zero, List.set_cons_succ]
                refine E_one 15 (by kernel_rfl) rfl (fun K hK => ?_)
                go_simp
                refine hK.out _ _ (fun h => absurd h (by decide)) ?_
                clear hK K
                try simp only [Act.put, List.setIfInBounds_toArray, List.set_cons_zero, List.set_cons_succ]
                refine E_done (by kernel_rfl) ?_
                exact FIN
            case p4g1 =>
              refine step_append_eq1 rfl (.const (.slice none 0 0)) (.tmp 64) 24 rfl _ _ _ _ (by rfl) (by rfl) hrun.out ?_
              refine hK.out _ _ (fun _ => hS9) ?_
              clear hK K
              try simp only [Act.put, List.setIfInBounds_toArray, List.set_cons_zero, List.set_cons_succ]
              refine E_one 12 (by kernel_rfl) rfl (fun K hK => ?_)
              go_simp
              refine hK.out _ _ (fun _ => hS9) ?_
              clear hK K
              try simp only [Act.put, List.setIfInBounds_toArray, List.set_cons_zero, List.set_cons_succ]
              refine E_one 13 (by kernel_rfl) rfl (fun K hK => ?_)
              go_simp
              refine hK.out _ _ (fun _ => hS9) ?_
              clear hK K
              try simp only [Act.put, List.setIfInBounds_toArray, List.set_cons_zero, List.set_cons_succ]
              refine E_one 14 (by kernel_rfl) rfl (fun K hK => ?_)
              go_simp
              refine hK.out _ _ (fun _ => hS9) ?_
              clear hK K
              try simp only [Act.put, List.setIfInBounds_toArray, List.set_cons_zero, List.set_cons_succ]
              refine E_one 15 (by kernel_rfl) rfl (fun K hK => ?_)
              go_simp
              refine hK.out _ _ (fun h => absurd h (by decide)) ?_
              clear hK K
              try simp only [Act.put, List.setIfInBounds_toArray, List.set_cons_zero, List.set_cons_succ]
              refine E_done (by kernel_rfl) ?_
              exact FIN
          case p4FINp =>
          refine NoPanic.normal ?_
          clear hS0 hS9 hrun hg0 hf0
          generalize W2.setCell ⟨g, x.lf, none⟩ (.slice Au nu cu) = W3 at *
          go_wp2
          go_roundw
          case rel => exact ⟨i + 1, by go_num, by omega, hF.out⟩
          case measure => simp [intOf]; omega
    · obtain rfl : i = L.length := by omega
      clear h0 hR
      replace hI := Lib.hid hI
      go_wp2
      go_ret
      exact ⟨rfl, hI.out⟩
end Go.Proofs.Ytpkadhgoaaphkaa
