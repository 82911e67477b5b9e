/-
  The closure of Walk that writes what was found (func 54).
-/
import Derived.Test.YtnclappdokhciaaK3
namespace Go.Proofs.Ytnclappdokhciaa
open Go Go.RowKit
set_option linter.unusedVariables false
theorem Only.weak {S : Nat → Prop} {w w' : World} (h : Only (fun _ => False) w w') : Only S w w' := h.mono fun _ _ h => h.elim
theorem Blk.set6 {w : World} {g : Nat} {t : TypeId} {a b c d e f a' b' c' d' e' f' : Value} (h : Blk w g t #[a, b, c, d, e, f]) : Blk ((((((w.setCell ⟨g, 0, none⟩ a').setCell ⟨g, 1, none⟩ b').setCell ⟨g, 2, none⟩ c').setCell ⟨g, 3, none⟩ d').setCell ⟨g, 4, none⟩ e').setCell ⟨g, 5, none⟩ f') g t #[a', b', c', d', e', f'] := by
  have := ((((((h.set_ 0 a').set_ 1 b').set_ 2 c').set_ 3 d').set_ 4 e').set_ 5 f')
  simpa using this
theorem Only.set6 {w w0 : World} {g : Nat} (h : Only (fun k => k = g) w0 w) (a' b' c' d' e' f' : Value) : Only (fun k => k = g) w0 ((((((w.setCell ⟨g, 0, none⟩ a').setCell ⟨g, 1, none⟩ b').setCell ⟨g, 2, none⟩ c').setCell ⟨g, 3, none⟩ d').setCell ⟨g, 4, none⟩ e').setCell ⟨g, 5, none⟩ f') :=
  (((((h.setCell (p := ⟨g, 0, none⟩) (.inl rfl) a').setCell (p := ⟨g, 1, none⟩) (.inl rfl) b').setCell (p := ⟨g, 2, none⟩) (.inl rfl) c').setCell (p := ⟨g, 3, none⟩) (.inl rfl) d').setCell (p := ⟨g, 4, none⟩) (.inl rfl) e').setCell (p := ⟨g, 5, none⟩) (.inl rfl) f'
theorem RowU.fresh {w w' : World} {A : Option Addr} {l : List Nat} {c g : Nat} (h : RowU w A l c) (ho : Only (fun k => k = g) w w') (hA : ∀ a, A = some a → ¬ a.block = g) : RowU w' A l c := by
  refine ⟨⟨h.1.1, fun hn => ?_⟩, h.2⟩
  obtain ⟨b, o, e, hb, hc⟩ := h.1.2 hn
  exact ⟨b, o, e, Nat.lt_of_lt_of_le hb ho.size, fun j u hu => (Blk.cell_only ho (a := ⟨b, o + j, none⟩) hb (hA ⟨b, o, none⟩ e)).trans (hc j u hu)⟩
theorem Blk.ne {w : World} {g g' t t' : Nat} {cs cs' : Array Value} (h : Blk w g t cs) (h' : Blk w g' t' cs') (hne : t ≠ t') : ¬ g = g' := fun e => by
  subst e
  exact hne (h.one h')
set_option maxRecDepth 20000 in
set_option maxHeartbeats 8000000 in
theorem found_any (part : ByteArray) (e : Ent) (pl : List Nat) (Ap : Option Addr) (cp gc gw gf : Nat) (x0 x2 : Value) (must : Bool) (x4 a1 b1 c1 d1 e1 f1 : Value) (w : World)
    (hc : Blk w gc 102 #[.pointer (some ⟨gw, 0, none⟩)]) (hw : Blk w gw 104 #[x0, .slice Ap pl.length cp, x2, .bool must, x4]) (hp : RowU w Ap pl cp) (hf : Blk w gf 49 #[a1, b1, c1, d1, e1, f1]) (hl : pl.length ≤ 10000) (h0 : 0 < pl.length) :
    Calls Try.prog 54 #[.string part, .agg e.cells.toArray, .pointer (some ⟨gc, 0, none⟩), .pointer (some ⟨gf, 0, none⟩)] w fun r w' => r = .returned (.tuple #[]) ∧ (∃ Au cu, Blk w' gf 49 #[.int .u16 (lastU pl), .string part, .int .u16 e.num, .int .u8 e.kind, .bool must, .slice Au pl.length cu] ∧ RowU w' Au pl cu ∧ ∀ a, Au = some a → ¬ a.block = gf) ∧ Only (fun k => k = gf) w w' := by
  have hgc := hc.ne hf (by decide)
  have hgw := hw.ne hf (by decide)
  have oa := (Only.refl (fun _ => False) w).alloc (.cells #[.string e.nm, .int .u16 e.num, .int .u8 e.kind] 63)
  have hx := Blk.new w 63 #[.string e.nm, .int .u16 e.num, .int .u8 e.kind]
  have hgx : ¬ w.heap.size = gf := fun h => by have := hf.lt; omega
  simp only [Ent.cells]
  go_enter Try.func54, Try.ntmps54
  go_wp2_with fail
  have od := oa.drew
  have hc1 := hc.only od (fun x => x)
  have hw1 := hw.only od (fun x => x)
  have hp1 := hp.only od (fun _ _ x => x)
  have hf1 := hf.only od (fun x => x)
  have hx1 : Blk (w.alloc (.cells #[.string e.nm, .int .u16 e.num, .int .u8 e.kind] 63)).drew w.heap.size 63 #[.string e.nm, .int .u16 e.num, .int .u8 e.kind] := hx
  clear hc hw hp hf hx oa
  generalize hwd : (w.alloc (.cells #[.string e.nm, .int .u16 e.num, .int .u8 e.kind] 63)).drew = wd at *
  replace hwd := Lib.hid hwd
  generalize w.heap.size = gx at *
  have F : ∀ W, Only (fun k => k = gf) wd W → W.cell? ⟨gc, 0, none⟩ = some (.pointer (some ⟨gw, 0, none⟩)) ∧ W.cell? ⟨gw, 1, none⟩ = some (.slice Ap pl.length cp) ∧ W.cell? ⟨gw, 3, none⟩ = some (.bool must) ∧ W.cell? ⟨gx, 1, none⟩ = some (.int .u16 e.num) ∧ W.cell? ⟨gx, 2, none⟩ = some (.int .u8 e.kind) := fun W hW => ⟨(hc1.only hW hgc).cell 0, (hw1.only hW hgw).cell 1, (hw1.only hW hgw).cell 3, (hx1.only hW hgx).cell 1, (hx1.only hW hgx).cell 2⟩
  replace F := Lib.hid F
  have hS0 := Only.refl (fun k => k = gf) wd
  refine wp_region_noPanic ?_
  refine wp_region_E 28 (fun W => Only (fun k => k = gf) wd W) (by kernel_rfl) ?_
  rw [hwd.out]
  refine E_take (v := ?v0) 0 rfl (by kernel_rfl) (by kernel_rfl) (by kernel_rfl) (by kernel_rfl) (by kernel_rfl) (by kernel_rfl) (fun _ _ _ h => h) rfl hS0 ?vh0 ?_
  case vh0 => intro W hW; obtain ⟨t0, t1, t2, t3, t4⟩ := F.out W hW; go_simp; try with_reducible rfl
  simp only [Act.put, List.setIfInBounds_toArray, List.set_cons_zero, List.set_cons_succ]
  refine E_take (v := ?v2) 2 rfl (by kernel_rfl) (by kernel_rfl) (by kernel_rfl) (by kernel_rfl) (by kernel_rfl) (by kernel_rfl) (fun _ _ _ h => h) rfl hS0 ?vh2 ?_
  case vh2 => intro W hW; obtain ⟨t0, t1, t2, t3, t4⟩ := F.out W hW; go_simp; try with_reducible rfl
  simp only [Act.put, List.setIfInBounds_toArray, List.set_cons_zero, List.set_cons_succ]
  refine E_take (v := ?v3) 3 rfl (by kernel_rfl) (by kernel_rfl) (by kernel_rfl) (by kernel_rfl) (by kernel_rfl) (by kernel_rfl) (fun _ _ _ h => h) rfl hS0 ?vh3 ?_
  case vh3 => intro W hW; obtain ⟨t0, t1, t2, t3, t4⟩ := F.out W hW; go_simp; try with_reducible rfl
  simp only [Act.put, List.setIfInBounds_toArray, List.set_cons_zero, List.set_cons_succ]
  refine E_take (v := ?v4) 4 rfl (by kernel_rfl) (by kernel_rfl) (by kernel_rfl) (by kernel_rfl) (by kernel_rfl) (by kernel_rfl) (fun _ _ _ h => h) rfl hS0 ?vh4 ?_
  case vh4 => intro W hW; obtain ⟨t0, t1, t2, t3, t4⟩ := F.out W hW; go_simp; try with_reducible rfl
  simp only [Act.put, List.setIfInBounds_toArray, List.set_cons_zero, List.set_cons_succ]
  refine E_take (v := ?v5) 5 rfl (by kernel_rfl) (by kernel_rfl) (by kernel_rfl) (by kernel_rfl) (by kernel_rfl) (by kernel_rfl) (fun _ _ _ h => h) rfl hS0 ?vh5 ?_
  case vh5 => intro W hW; obtain ⟨t0, t1, t2, t3, t4⟩ := F.out W hW; go_simp; try with_reducible rfl
  simp only [Act.put, List.setIfInBounds_toArray, List.set_cons_zero, List.set_cons_succ]
  refine E_take (v := ?v6) 6 rfl (by kernel_rfl) (by kernel_rfl) (by kernel_rfl) (by kernel_rfl) (by kernel_rfl) (by kernel_rfl) (fun _ _ _ h => h) rfl hS0 ?vh6 ?_
  case vh6 => intro W hW; obtain ⟨t0, t1, t2, t3, t4⟩ := F.out W hW; go_simp; try with_reducible rfl
  simp only [Act.put, List.setIfInBounds_toArray, List.set_cons_zero, List.set_cons_succ]
  refine E_take (v := ?v7) 7 rfl (by kernel_rfl) (by kernel_rfl) (by kernel_rfl) (by kernel_rfl) (by kernel_rfl) (by kernel_rfl) (fun _ _ _ h => h) rfl hS0 ?vh7 ?_
  case vh7 => intro W hW; obtain ⟨t0, t1, t2, t3, t4⟩ := F.out W hW; go_simp; try with_reducible rfl
  simp only [Act.put, List.setIfInBounds_toArray, List.set_cons_zero, List.set_cons_succ]
  refine E_take (v := ?v8) 8 rfl (by kernel_rfl) (by kernel_rfl) (by kernel_rfl) (by kernel_rfl) (by kernel_rfl) (by kernel_rfl) (fun _ _ _ h => h) rfl hS0 ?vh8 ?_
  case vh8 => intro W hW; obtain ⟨t0, t1, t2, t3, t4⟩ := F.out W hW; go_simp; try with_reducible rfl
  simp only [Act.put, List.setIfInBounds_toArray, List.set_cons_zero, List.set_cons_succ]
  refine E_take (v := ?v9) 9 rfl (by kernel_rfl) (by kernel_rfl) (by kernel_rfl) (by kernel_rfl) (by kernel_rfl) (by kernel_rfl) (fun _ _ _ h => h) rfl hS0 ?vh9 ?_
  case vh9 => intro W hW; obtain ⟨t0, t1, t2, t3, t4⟩ := F.out W hW; go_simp; try with_reducible rfl
  simp only [Act.put, List.setIfInBounds_toArray, List.set_cons_zero, List.set_cons_succ]
  refine E_take (v := ?v10) 10 rfl (by kernel_rfl) (by kernel_rfl) (by kernel_rfl) (by kernel_rfl) (by kernel_rfl) (by kernel_rfl) (fun _ _ _ h => h) rfl hS0 ?vh10 ?_
  case vh10 => intro W hW; obtain ⟨t0, t1, t2, t3, t4⟩ := F.out W hW; go_simp; try with_reducible rfl
  simp only [Act.put, List.setIfInBounds_toArray, List.set_cons_zero, List.set_cons_succ]
  refine E_take (v := ?v11) 11 rfl (by kernel_rfl) (by kernel_rfl) (by kernel_rfl) (by kernel_rfl) (by kernel_rfl) (by kernel_rfl) (fun _ _ _ h => h) rfl hS0 ?vh11 ?_
  case vh11 => intro W hW; obtain ⟨t0, t1, t2, t3, t4⟩ := F.out W hW; go_simp; try with_reducible rfl
  simp only [Act.put, List.setIfInBounds_toArray, List.set_cons_zero, List.set_cons_succ]
  refine E_take (v := ?v12) 12 rfl (by kernel_rfl) (by kernel_rfl) (by kernel_rfl) (by kernel_rfl) (by kernel_rfl) (by kernel_rfl) (fun _ _ _ h => h) rfl hS0 ?vh12 ?_
  case vh12 => intro W hW; obtain ⟨t0, t1, t2, t3, t4⟩ := F.out W hW; go_simp; try with_reducible rfl
  simp only [Act.put, List.setIfInBounds_toArray, List.set_cons_zero, List.set_cons_succ]
  refine E_take (v := ?v13) 13 rfl (by kernel_rfl) (by kernel_rfl) (by kernel_rfl) (by kernel_rfl) (by kernel_rfl) (by kernel_rfl) (fun _ _ _ h => h) rfl hS0 ?vh13 ?_
  case vh13 => intro W hW; obtain ⟨t0, t1, t2, t3, t4⟩ := F.out W hW; go_simp; try with_reducible rfl
  simp only [Act.put, List.setIfInBounds_toArray, List.set_cons_zero, List.set_cons_succ]
  refine E_take (v := ?v14) 14 rfl (by kernel_rfl) (by kernel_rfl) (by kernel_rfl) (by kernel_rfl) (by kernel_rfl) (by kernel_rfl) (fun _ _ _ h => h) rfl hS0 ?vh14 ?_
  case vh14 => intro W hW; obtain ⟨t0, t1, t2, t3, t4⟩ := F.out W hW; go_simp; try with_reducible rfl
  simp only [Act.put, List.setIfInBounds_toArray, List.set_cons_zero, List.set_cons_succ]
  refine E_one 1 (by kernel_rfl) rfl (fun K hK => ?_)
  go_simp
  refine (last_any pl Ap cp gw _ _ _ _ wd hw1 hp1 hl h0).mono ?_
  rintro r w2 ⟨rfl, ho2⟩
  refine hK.out _ _ (fun _ => ho2.weak) ?_
  clear hK K
  try simp only [Act.put, List.setIfInBounds_toArray, List.set_cons_zero, List.set_cons_succ]
  have hp2 := hp1.only ho2 (fun _ _ x => x)
  have hf2 := hf1.only ho2 (fun x => x)
  refine E_one 15 (by kernel_rfl) rfl (fun K hK => ?_)
  go_simp
  refine (cloneU_any pl Ap cp w2 hp2 hl h0).mono ?_
  rintro r w3 ⟨Au, cu, rfl, hu, hfr, ho3⟩
  have ho3w : Only (fun k => k = gf) wd w3 := (ho2.trans ho3).weak
  refine hK.out _ _ (fun _ => ho3w) ?_
  clear hK K
  try simp only [Act.put, List.setIfInBounds_toArray, List.set_cons_zero, List.set_cons_succ]
  have hf3 := hf2.only ho3 (fun x => x)
  have hAu : ∀ a, Au = some a → ¬ a.block = gf := fun a ea h => by
    have := hfr a ea
    have := hf2.lt
    omega
  have hgf : gf < w3.heap.size := hf3.lt
  clear hp1 hp2 hf1 hf2 hw1 hc1 hx1 ho2 ho3 hfr
  have r0 := hf3.frozen 0
  have p0 := hf3.cell 0
  have r1 := hf3.frozen 1
  have p1 := hf3.cell 1
  have r2 := hf3.frozen 2
  have p2 := hf3.cell 2
  have r3 := hf3.frozen 3
  have p3 := hf3.cell 3
  have r4 := hf3.frozen 4
  have p4 := hf3.cell 4
  have r5 := hf3.frozen 5
  have p5 := hf3.cell 5
  simp only [List.getElem?_toArray, List.getElem?_cons_zero, List.getElem?_cons_succ] at p0 p1 p2 p3 p4 p5
  have hb0 := hf3.set6 (a' := .int .u16 0) (b' := .string ⟨#[]⟩) (c' := .int .u16 0) (d' := .int .u8 0) (e' := .bool false) (f' := .slice none 0 0)
  have ht0 := (Only.refl (fun k => k = gf) w3).set6 (.int .u16 0) (.string ⟨#[]⟩) (.int .u16 0) (.int .u8 0) (.bool false) (.slice none 0 0)
  have hs0 := ho3w.set6 (.int .u16 0) (.string ⟨#[]⟩) (.int .u16 0) (.int .u8 0) (.bool false) (.slice none 0 0)
  refine E_one 16 (by kernel_rfl) rfl (fun K hK => ?_)
  go_simp
  refine hK.out _ _ (fun _ => hs0) ?_
  clear hK K r0 r1 r2 r3 r4 r5 p0 p1 p2 p3 p4 p5 hf3
  try simp only [Act.put, List.setIfInBounds_toArray, List.set_cons_zero, List.set_cons_succ]
  generalize hw4 : World.setCell _ _ _ = wv0 at *
  clear hw4
  refine E_one 17 (by kernel_rfl) rfl (fun K hK => ?_)
  go_simp
  refine hK.out _ _ (fun _ => hs0) ?_
  clear hK K
  try simp only [Act.put, List.setIfInBounds_toArray, List.set_cons_zero, List.set_cons_succ]
  have r0 := hb0.frozen 0
  have p0 := hb0.cell 0
  simp only [List.getElem?_toArray, List.getElem?_cons_zero, List.getElem?_cons_succ] at p0
  have hb1 := hb0.set_ 0 (.int .u16 (lastU pl))
  have hs1 : Only (fun k => k = gf) wd (wv0.setCell ⟨gf, 0, none⟩ (.int .u16 (lastU pl))) := hs0.setCell (p := ⟨gf, 0, none⟩) (.inl rfl) _
  have ht1 : Only (fun k => k = gf) w3 (wv0.setCell ⟨gf, 0, none⟩ (.int .u16 (lastU pl))) := ht0.setCell (p := ⟨gf, 0, none⟩) (.inl rfl) _
  simp only [List.setIfInBounds_toArray, List.set_cons_zero, List.set_cons_succ] at hb1
  clear hb0 hs0 ht0
  refine E_one 18 (by kernel_rfl) rfl (fun K hK => ?_)
  go_simp
  refine hK.out _ _ (fun _ => hs1) ?_
  clear hK K
  try simp only [Act.put, List.setIfInBounds_toArray, List.set_cons_zero, List.set_cons_succ]
  clear r0 p0
  generalize hw5 : World.setCell _ _ _ = wv1 at *
  clear hw5
  refine E_one 19 (by kernel_rfl) rfl (fun K hK => ?_)
  go_simp
  refine hK.out _ _ (fun _ => hs1) ?_
  clear hK K
  try simp only [Act.put, List.setIfInBounds_toArray, List.set_cons_zero, List.set_cons_succ]
  have r0 := hb1.frozen 1
  have p0 := hb1.cell 1
  simp only [List.getElem?_toArray, List.getElem?_cons_zero, List.getElem?_cons_succ] at p0
  have hb2 := hb1.set_ 1 (.string part)
  have hs2 : Only (fun k => k = gf) wd (wv1.setCell ⟨gf, 1, none⟩ (.string part)) := hs1.setCell (p := ⟨gf, 1, none⟩) (.inl rfl) _
  have ht2 : Only (fun k => k = gf) w3 (wv1.setCell ⟨gf, 1, none⟩ (.string part)) := ht1.setCell (p := ⟨gf, 1, none⟩) (.inl rfl) _
  simp only [List.setIfInBounds_toArray, List.set_cons_zero, List.set_cons_succ] at hb2
  clear hb1 hs1 ht1
  refine E_one 20 (by kernel_rfl) rfl (fun K hK => ?_)
  go_simp
  refine hK.out _ _ (fun _ => hs2) ?_
  clear hK K
  try simp only [Act.put, List.setIfInBounds_toArray, List.set_cons_zero, List.set_cons_succ]
  clear r0 p0
  generalize hw5 : World.setCell _ _ _ = wv2 at *
  clear hw5
  refine E_one 21 (by kernel_rfl) rfl (fun K hK => ?_)
  go_simp
  refine hK.out _ _ (fun _ => hs2) ?_
  clear hK K
  try simp only [Act.put, List.setIfInBounds_toArray, List.set_cons_zero, List.set_cons_succ]
  have r0 := hb2.frozen 2
  have p0 := hb2.cell 2
  simp only [List.getElem?_toArray, List.getElem?_cons_zero, List.getElem?_cons_succ] at p0
  have hb3 := hb2.set_ 2 (.int .u16 e.num)
  have hs3 : Only (fun k => k = gf) wd (wv2.setCell ⟨gf, 2, none⟩ (.int .u16 e.num)) := hs2.setCell (p := ⟨gf, 2, none⟩) (.inl rfl) _
  have ht3 : Only (fun k => k = gf) w3 (wv2.setCell ⟨gf, 2, none⟩ (.int .u16 e.num)) := ht2.setCell (p := ⟨gf, 2, none⟩) (.inl rfl) _
  simp only [List.setIfInBounds_toArray, List.set_cons_zero, List.set_cons_succ] at hb3
  clear hb2 hs2 ht2
  refine E_one 22 (by kernel_rfl) rfl (fun K hK => ?_)
  go_simp
  refine hK.out _ _ (fun _ => hs3) ?_
  clear hK K
  try simp only [Act.put, List.setIfInBounds_toArray, List.set_cons_zero, List.set_cons_succ]
  clear r0 p0
  generalize hw5 : World.setCell _ _ _ = wv3 at *
  clear hw5
  refine E_one 23 (by kernel_rfl) rfl (fun K hK => ?_)
  go_simp
  refine hK.out _ _ (fun _ => hs3) ?_
  clear hK K
  try simp only [Act.put, List.setIfInBounds_toArray, List.set_cons_zero, List.set_cons_succ]
  have r0 := hb3.frozen 3
  have p0 := hb3.cell 3
  simp only [List.getElem?_toArray, List.getElem?_cons_zero, List.getElem?_cons_succ] at p0
  have hb4 := hb3.set_ 3 (.int .u8 e.kind)
  have hs4 : Only (fun k => k = gf) wd (wv3.setCell ⟨gf, 3, none⟩ (.int .u8 e.kind)) := hs3.setCell (p := ⟨gf, 3, none⟩) (.inl rfl) _
  have ht4 : Only (fun k => k = gf) w3 (wv3.setCell ⟨gf, 3, none⟩ (.int .u8 e.kind)) := ht3.setCell (p := ⟨gf, 3, none⟩) (.inl rfl) _
  simp only [List.setIfInBounds_toArray, List.set_cons_zero, List.set_cons_succ] at hb4
  clear hb3 hs3 ht3
  refine E_one 24 (by kernel_rfl) rfl (fun K hK => ?_)
  go_simp
  refine hK.out _ _ (fun _ => hs4) ?_
  clear hK K
  try simp only [Act.put, List.setIfInBounds_toArray, List.set_cons_zero, List.set_cons_succ]
  clear r0 p0
  generalize hw5 : World.setCell _ _ _ = wv4 at *
  clear hw5
  refine E_one 25 (by kernel_rfl) rfl (fun K hK => ?_)
  go_simp
  refine hK.out _ _ (fun _ => hs4) ?_
  clear hK K
  try simp only [Act.put, List.setIfInBounds_toArray, List.set_cons_zero, List.set_cons_succ]
  have r0 := hb4.frozen 4
  have p0 := hb4.cell 4
  simp only [List.getElem?_toArray, List.getElem?_cons_zero, List.getElem?_cons_succ] at p0
  have hb5 := hb4.set_ 4 (.bool must)
  have hs5 : Only (fun k => k = gf) wd (wv4.setCell ⟨gf, 4, none⟩ (.bool must)) := hs4.setCell (p := ⟨gf, 4, none⟩) (.inl rfl) _
  have ht5 : Only (fun k => k = gf) w3 (wv4.setCell ⟨gf, 4, none⟩ (.bool must)) := ht4.setCell (p := ⟨gf, 4, none⟩) (.inl rfl) _
  simp only [List.setIfInBounds_toArray, List.set_cons_zero, List.set_cons_succ] at hb5
  clear hb4 hs4 ht4
  refine E_one 26 (by kernel_rfl) rfl (fun K hK => ?_)
  go_simp
  refine hK.out _ _ (fun _ => hs5) ?_
  clear hK K
  try simp only [Act.put, List.setIfInBounds_toArray, List.set_cons_zero, List.set_cons_succ]
  clear r0 p0
  generalize hw5 : World.setCell _ _ _ = wv5 at *
  clear hw5
  refine E_one 27 (by kernel_rfl) rfl (fun K hK => ?_)
  go_simp
  refine hK.out _ _ (fun _ => hs5) ?_
  clear hK K
  try simp only [Act.put, List.setIfInBounds_toArray, List.set_cons_zero, List.set_cons_succ]
  have r0 := hb5.frozen 5
  have p0 := hb5.cell 5
  simp only [List.getElem?_toArray, List.getElem?_cons_zero, List.getElem?_cons_succ] at p0
  have hb6 := hb5.set_ 5 (.slice Au pl.length cu)
  have hs6 : Only (fun k => k = gf) wd (wv5.setCell ⟨gf, 5, none⟩ (.slice Au pl.length cu)) := hs5.setCell (p := ⟨gf, 5, none⟩) (.inl rfl) _
  have ht6 : Only (fun k => k = gf) w3 (wv5.setCell ⟨gf, 5, none⟩ (.slice Au pl.length cu)) := ht5.setCell (p := ⟨gf, 5, none⟩) (.inl rfl) _
  simp only [List.setIfInBounds_toArray, List.set_cons_zero, List.set_cons_succ] at hb6
  clear hb5 hs5 ht5
  refine E_one 28 (by kernel_rfl) rfl (fun K hK => ?_)
  go_simp
  refine hK.out _ _ (fun h => absurd h (by decide)) ?_
  clear hK K
  try simp only [Act.put, List.setIfInBounds_toArray, List.set_cons_zero, List.set_cons_succ]
  clear r0 p0
  generalize hw5 : World.setCell _ _ _ = wv6 at *
  clear hw5
  refine E_done (by kernel_rfl) (NoPanic.normal ?_)
  have hu5 := hu.fresh ht6 hAu
  have hof := od.weak.trans hs6
  clear hu ht6 hs6 F hS0
  go_wp2

  first | go_end0 | (refine bodyPost_ret (results_none rfl _ _ _) rfl ?_)
  exact ⟨rfl, ⟨Au, cu, hb6, hu5, hAu⟩, hof⟩
end Go.Proofs.Ytnclappdokhciaa

