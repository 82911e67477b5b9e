/-
  kintsugilaw14.DirMaps (func 12).
-/
import Derived.Test.YtnclappdokhciaaD21
import Derived.Test.YtnclappdokhciaaD17
import Derived.Deep.CutBlock
namespace Go.Proofs.Ytnclappdokhciaa
open Go Go.RowKit
set_option linter.unusedVariables false
section
variable {P : Program} {ops : Array Oper} {rest : List Oper} {o : Oper} {a : Act} {w w' : World} {Q : Exit → Act → World → Prop}
theorem wpList_look_eq (hg : o.guard = none) (m x : Operand) (t : TypeId) (c : Bool) (hop : o.op = Op.lookup t m x c) (vm vx v : Value) (hm : a.eval m = vm) (hx : a.eval x = vx)
    (hr : (Instr.lookup t vm vx c).run P w = .ok v w) (hK : wpList P ops Q rest (a.put o.dst v) w) : wpList P ops Q (o :: rest) a w := by
  refine wpList_plain hg fun K' hK' => ?_
  unfold Oper.wp
  simp [execOp, hop, hm, hx, hr, Result.andThen]
  exact hK' _ _ hK
theorem wpList_update_eq (hg : o.guard = none) (m x v : Operand) (t : TypeId) (hop : o.op = Op.mapUpdate t m x v) (vm vx vv : Value) (hm : a.eval m = vm) (hx : a.eval x = vx) (hv : a.eval v = vv)
    (hr : (Instr.mapUpdate t vm vx vv).run P w = .ok () w') (hK : wpList P ops Q rest (a.put o.dst undef) w') : wpList P ops Q (o :: rest) a w := by
  refine wpList_plain hg fun K' hK' => ?_
  unfold Oper.wp
  simp [execOp, hop, hm, hx, hv, hr, Result.andThen]
  exact hK' _ _ hK
theorem wpList_delete_eq (hg : o.guard = none) (m x : Operand) (t k : TypeId) (hop : o.op = Op.call { callee := Callee.builtin Builtin.delete, args := #[m, x], argTypes := #[t, k] }) (vm vx v : Value) (hm : a.eval m = vm) (hx : a.eval x = vx)
    (hr : (Builtin.delete_ #[t, k] o.type #[vm, vx]).run P w = .ok v w') (hK : wpList P ops Q rest (a.put o.dst v) w') : wpList P ops Q (o :: rest) a w := by
  refine wpList_plain hg fun K' hK' => ?_
  unfold Oper.wp
  simp [execOp, hop, resolve, invoke, builtin, hm, hx, hr, Result.andThen]
  exact hK' _ _ hK
theorem wpList_len_eq (hg : o.guard = none) (m : Operand) (t : TypeId) (hop : o.op = Op.call { callee := Callee.builtin Builtin.len, args := #[m], argTypes := #[t] }) (vm v : Value) (hm : a.eval m = vm)
    (hr : (Builtin.len_ #[t] o.type #[vm]).run P w = .ok v w) (hK : wpList P ops Q rest (a.put o.dst v) w) : wpList P ops Q (o :: rest) a w := by
  refine wpList_plain hg fun K' hK' => ?_
  unfold Oper.wp
  simp [execOp, hop, resolve, invoke, builtin, hm, hr, Result.andThen]
  exact hK' _ _ hK
end
theorem quiet_look {P : Program} {C : World → Prop} {o : Oper} {a : Act} {K : Act → Prop} (t : TypeId) (m x : Operand) (c : Bool) (ho : o.op = .lookup t m x c) (vm vx v : Value) (hm : a.eval m = vm) (hx : a.eval x = vx)
    (hr : ∀ W, C W → (Instr.lookup t vm vx c).run P W = .ok v W) (hk : K (a.put o.dst v)) : o.quiet P a C K :=
  ⟨v, fun w hw => by
    unfold Oper.quietAt execOp
    simp only [ho, hm, hx, Sem.run_bind, hr w hw, Sem.run_pure, Result.andThen_ok]
    exact ⟨rfl, rfl⟩, hk⟩
theorem quiet_neq63 {C : World → Prop} {o : Oper} {a : Act} {K : Act → Prop} (t' : TypeId) (x y : Operand) (ho : o.op = .binOp .neq 63 x y t') (e : Ent) (hx : a.eval x = .agg #[.string e.nm, .int .u16 e.num, .int .u8 e.kind]) (hy : a.eval y = .agg #[.string e.nm, .int .u16 e.num, .int .u8 e.kind])
    (hk : K (a.put o.dst (.bool false))) : o.quiet Try.prog a C K :=
  ⟨.bool false, fun w hw => by
    unfold Oper.quietAt execOp
    simp only [ho, hx, hy]
    have h := neq63 e w
    simp [eqGuard, Sem.run_bind, h, Oper.quietUpon, Result.andThen], hk⟩
theorem MapE.mono {w : World} {b n n' : Nat} {hv : List Ent} (h : MapE w b n hv) (hn : n ≤ n') : MapE w b n' hv := by
  obtain ⟨D, hown, hr⟩ := h
  exact ⟨D, hown.mono hn, hr⟩
theorem addS_zero {l : List Ent} {e : Ent} (h : (addS l e).2 = 0) : findE l e.nm = none ∧ addS l e = (insE l e, 0) := by
  unfold addS at h ⊢
  by_cases hm : mayS e = 0
  · rw [if_pos hm] at h ⊢
    by_cases hf : (findE l e.nm).isSome = true
    · rw [if_pos hf] at h; cases h
    · rw [if_neg hf] at h ⊢
      by_cases hl : 64 ≤ l.length
      · rw [if_pos hl] at h; cases h
      · rw [if_neg hl]
        exact ⟨by simpa using hf, rfl⟩
  · rw [if_neg hm] at h
    exact absurd h hm
set_option maxRecDepth 100000 in
set_option maxHeartbeats 16000000 in
theorem mapsE_any (acts : List Act0) (A : Option Addr) (c : Nat) (bs : List UInt8) (A2 : Option Addr) (c2 : Nat) (w : World) (h : RowA w A acts) (h2 : RowB w A2 bs c2) :
    Calls Try.prog 12 #[.slice A acts.length c, .slice A2 bs.length c2] w fun r w' => r = .returned (.bool true) ∧ Only (fun _ => False) w w' := by
  by_cases h150 : 150 < acts.length
  · have i0 : (150 : Int) < (acts.length : Int) := by omega
    go_enter Try.func12, Try.ntmps12
    go_wp2_with fail
    refine (wakesE w).mono ?_
    rintro r w1 ⟨rfl, ho⟩
    go_wp2
    go_ret
    exact ⟨rfl, ho⟩
  have i0 : ¬ (150 : Int) < (acts.length : Int) := by omega
  by_cases h4000 : 4000 < bs.length
  · have i1 : (4000 : Int) < (bs.length : Int) := by omega
    go_enter Try.func12, Try.ntmps12
    go_wp2_with fail
    refine (wakesE w).mono ?_
    rintro r w1 ⟨rfl, ho⟩
    go_wp2
    go_ret
    exact ⟨rfl, ho⟩
  have i1 : ¬ (4000 : Int) < (bs.length : Int) := by omega
  have hm0 := MapE.made w
  have om := (Only.refl (fun _ => False) w).alloc (.map #[] 0)
  have hmk : (Instr.makeMap 89 none).run Try.prog w = .ok (.map (some w.heap.size)) (w.alloc (.map #[] 0)) := rfl
  go_enter Try.func12, Try.ntmps12
  go_wp2
  clear hmk
  go_loopw [6, 7] (fun s6 s7 wr => ∃ (i : Nat) (hv : List Ent) (A6 : Option Addr) (c6 : Nat), s7 = .int .i64 i ∧ i ≤ acts.length ∧ s6 = .slice A6 hv.length c6 ∧ RowE wr A6 hv c6 ∧ areS hv = true ∧ MapE wr w.heap.size i hv ∧ Only (fun _ => False) w wr) (fun _ s7 _ => acts.length - (intOf s7).toNat)
  case atStart => exact ⟨0, [], none, 0, rfl, by omega, rfl, RowE.nil _, kd7, hm0, om⟩
  case round =>
    obtain ⟨i, hv, A6, c6, rfl, hi, rfl, h6, hok, hm, ho⟩ := hrel
    by_cases hlt : i < acts.length
    · obtain ⟨x, hx⟩ : ∃ x, acts[i]? = some x := ⟨_, List.getElem?_eq_getElem hlt⟩
      obtain ⟨dx, e⟩ := x
      have j0 : (0 : Int) ≤ (i : Int) := by omega
      have j1 : (i : Int) < (acts.length : Int) := by omega
      have h64 := (are_ok hok).1
      have hR := Lib.hid (rise_of hok)
      replace hok := Lib.hid hok
      go_wp2_with fail
      have od := (Only.refl (fun _ => False) wr).drew
      have hod := ho.trans od
      have h6d := h6.only od (fun _ _ x => x)
      have hmd := hm.only od (fun x => x)
      clear od ho h6 hm hm0 om
      generalize hwd : wr.drew = wd at *
      replace hwd := Lib.hid hwd
      have ob := (Only.refl (fun _ => False) wd).alloc (.cells #[.string ⟨#[]⟩, .int .u16 0, .int .u8 0] 63)
      obtain ⟨b, o, rfl, hbb, d0, d1, d2, d3⟩ := (h.only hod) i _ hx
      replace hx := Lib.hid hx
      simp only at d0 d1 d2 d3
      have s0 : wd.cell? ⟨b, o + i * 4 + 1, none⟩ = some (.string e.nm) ∧ wd.cell? ⟨b, o + i * 4 + 2, none⟩ = some (.int .u16 e.num) ∧ wd.cell? ⟨b, o + i * 4 + 3, none⟩ = some (.int .u8 e.kind) := ⟨d1, d2, d3⟩
      have d0' := (Blk.cell_only ob (a := ⟨b, o + i * 4, none⟩) hbb (fun x => x)).trans d0
      have s2 := Lib.hid (show (wd.alloc (.cells #[.string ⟨#[]⟩, .int .u16 0, .int .u8 0] 63)).cell? ⟨b, o + i * 4 + 1, none⟩ = some (.string e.nm) ∧ (wd.alloc (.cells #[.string ⟨#[]⟩, .int .u16 0, .int .u8 0] 63)).cell? ⟨b, o + i * 4 + 2, none⟩ = some (.int .u16 e.num) ∧ (wd.alloc (.cells #[.string ⟨#[]⟩, .int .u16 0, .int .u8 0] 63)).cell? ⟨b, o + i * 4 + 3, none⟩ = some (.int .u8 e.kind) from ⟨(Blk.cell_only ob (a := ⟨b, _, none⟩) hbb (fun x => x)).trans d1, (Blk.cell_only ob (a := ⟨b, _, none⟩) hbb (fun x => x)).trans d2, (Blk.cell_only ob (a := ⟨b, _, none⟩) hbb (fun x => x)).trans d3⟩)
      refine wp_region_noPanic ?_
      refine wp_region_E 20 (fun W => W.cell? ⟨b, o + i * 4 + 1, none⟩ = some (.string e.nm) ∧ W.cell? ⟨b, o + i * 4 + 2, none⟩ = some (.int .u16 e.num) ∧ W.cell? ⟨b, o + i * 4 + 3, none⟩ = some (.int .u8 e.kind)) (by kernel_rfl) ?_
      rw [hwd.out]
      refine E_take (v := ?v0) 0 rfl (by kernel_rfl) (by kernel_rfl) (by kernel_rfl) (by kernel_rfl) (by kernel_rfl) (by kernel_rfl) (fun _ _ _ h => h) rfl s0 ?vh0 ?_
      case vh0 => intro W hW; obtain ⟨t0, t1, t2⟩ := hW; go_simp; try with_reducible rfl
      simp only [Act.put, List.setIfInBounds_toArray, List.set_cons_zero, List.set_cons_succ]
      refine E_take (v := ?v1) 1 rfl (by kernel_rfl) (by kernel_rfl) (by kernel_rfl) (by kernel_rfl) (by kernel_rfl) (by kernel_rfl) (fun _ _ _ h => h) rfl s0 ?vh1 ?_
      case vh1 => intro W hW; obtain ⟨t0, t1, t2⟩ := hW; go_simp; try with_reducible rfl
      simp only [Act.put, List.setIfInBounds_toArray, List.set_cons_zero, List.set_cons_succ]
      refine E_take (v := ?v2) 2 rfl (by kernel_rfl) (by kernel_rfl) (by kernel_rfl) (by kernel_rfl) (by kernel_rfl) (by kernel_rfl) (fun _ _ _ h => h) rfl s0 ?vh2 ?_
      case vh2 => intro W hW; obtain ⟨t0, t1, t2⟩ := hW; go_simp; try with_reducible rfl
      simp only [Act.put, List.setIfInBounds_toArray, List.set_cons_zero, List.set_cons_succ]
      refine E_take (v := ?v3) 3 rfl (by kernel_rfl) (by kernel_rfl) (by kernel_rfl) (by kernel_rfl) (by kernel_rfl) (by kernel_rfl) (fun _ _ _ h => h) rfl s0 ?vh3 ?_
      case vh3 => intro W hW; obtain ⟨t0, t1, t2⟩ := hW; go_simp; try with_reducible rfl
      simp only [Act.put, List.setIfInBounds_toArray, List.set_cons_zero, List.set_cons_succ]
      refine E_take (v := ?v4) 4 rfl (by kernel_rfl) (by kernel_rfl) (by kernel_rfl) (by kernel_rfl) (by kernel_rfl) (by kernel_rfl) (fun _ _ _ h => h) rfl s0 ?vh4 ?_
      case vh4 => intro W hW; obtain ⟨t0, t1, t2⟩ := hW; go_simp; try with_reducible rfl
      simp only [Act.put, List.setIfInBounds_toArray, List.set_cons_zero, List.set_cons_succ]
      refine E_take (v := ?v5) 5 rfl (by kernel_rfl) (by kernel_rfl) (by kernel_rfl) (by kernel_rfl) (by kernel_rfl) (by kernel_rfl) (fun _ _ _ h => h) rfl s0 ?vh5 ?_
      case vh5 => intro W hW; obtain ⟨t0, t1, t2⟩ := hW; go_simp; try with_reducible rfl
      simp only [Act.put, List.setIfInBounds_toArray, List.set_cons_zero, List.set_cons_succ]
      refine E_take (v := ?v6) 6 rfl (by kernel_rfl) (by kernel_rfl) (by kernel_rfl) (by kernel_rfl) (by kernel_rfl) (by kernel_rfl) (fun _ _ _ h => h) rfl s0 ?vh6 ?_
      case vh6 => intro W hW; obtain ⟨t0, t1, t2⟩ := hW; go_simp; try with_reducible rfl
      simp only [Act.put, List.setIfInBounds_toArray, List.set_cons_zero, List.set_cons_succ]
      refine E_take (v := ?v7) 7 rfl (by kernel_rfl) (by kernel_rfl) (by kernel_rfl) (by kernel_rfl) (by kernel_rfl) (by kernel_rfl) (fun _ _ _ h => h) rfl s0 ?vh7 ?_
      case vh7 => intro W hW; obtain ⟨t0, t1, t2⟩ := hW; go_simp; try with_reducible rfl
      simp only [Act.put, List.setIfInBounds_toArray, List.set_cons_zero, List.set_cons_succ]
      refine E_take (v := ?v8) 8 rfl (by kernel_rfl) (by kernel_rfl) (by kernel_rfl) (by kernel_rfl) (by kernel_rfl) (by kernel_rfl) (fun _ _ _ h => h) rfl s0 ?vh8 ?_
      case vh8 => intro W hW; obtain ⟨t0, t1, t2⟩ := hW; go_simp; try with_reducible rfl
      simp only [Act.put, List.setIfInBounds_toArray, List.set_cons_zero, List.set_cons_succ]
      refine E_take (v := ?v9) 9 rfl (by kernel_rfl) (by kernel_rfl) (by kernel_rfl) (by kernel_rfl) (by kernel_rfl) (by kernel_rfl) (fun _ _ _ h => h) rfl s0 ?vh9 ?_
      case vh9 => intro W hW; obtain ⟨t0, t1, t2⟩ := hW; go_simp; try with_reducible rfl
      simp only [Act.put, List.setIfInBounds_toArray, List.set_cons_zero, List.set_cons_succ]
      refine E_take (v := ?v10) 10 rfl (by kernel_rfl) (by kernel_rfl) (by kernel_rfl) (by kernel_rfl) (by kernel_rfl) (by kernel_rfl) (fun _ _ _ h => h) rfl s0 ?vh10 ?_
      case vh10 => intro W hW; obtain ⟨t0, t1, t2⟩ := hW; go_simp; try with_reducible rfl
      simp only [Act.put, List.setIfInBounds_toArray, List.set_cons_zero, List.set_cons_succ]
      refine E_take (v := ?v11) 11 rfl (by kernel_rfl) (by kernel_rfl) (by kernel_rfl) (by kernel_rfl) (by kernel_rfl) (by kernel_rfl) (fun _ _ _ h => h) rfl s0 ?vh11 ?_
      case vh11 => intro W hW; obtain ⟨t0, t1, t2⟩ := hW; go_simp; try with_reducible rfl
      simp only [Act.put, List.setIfInBounds_toArray, List.set_cons_zero, List.set_cons_succ]
      refine E_take (v := ?v12) 12 rfl (by kernel_rfl) (by kernel_rfl) (by kernel_rfl) (by kernel_rfl) (by kernel_rfl) (by kernel_rfl) (fun _ _ _ h => h) rfl s0 ?vh12 ?_
      case vh12 => intro W hW; obtain ⟨t0, t1, t2⟩ := hW; go_simp; try with_reducible rfl
      simp only [Act.put, List.setIfInBounds_toArray, List.set_cons_zero, List.set_cons_succ]
      refine E_take (v := ?v13) 13 rfl (by kernel_rfl) (by kernel_rfl) (by kernel_rfl) (by kernel_rfl) (by kernel_rfl) (by kernel_rfl) (fun _ _ _ h => h) rfl s0 ?vh13 ?_
      case vh13 => intro W hW; obtain ⟨t0, t1, t2⟩ := hW; go_simp; try with_reducible rfl
      simp only [Act.put, List.setIfInBounds_toArray, List.set_cons_zero, List.set_cons_succ]
      refine E_take (v := ?v14) 14 rfl (by kernel_rfl) (by kernel_rfl) (by kernel_rfl) (by kernel_rfl) (by kernel_rfl) (by kernel_rfl) (fun _ _ _ h => h) rfl s0 ?vh14 ?_
      case vh14 => intro W hW; obtain ⟨t0, t1, t2⟩ := hW; go_simp; try with_reducible rfl
      simp only [Act.put, List.setIfInBounds_toArray, List.set_cons_zero, List.set_cons_succ]
      refine E_take (v := ?v15) 15 rfl (by kernel_rfl) (by kernel_rfl) (by kernel_rfl) (by kernel_rfl) (by kernel_rfl) (by kernel_rfl) (fun _ _ _ h => h) rfl s0 ?vh15 ?_
      case vh15 => intro W hW; obtain ⟨t0, t1, t2⟩ := hW; go_simp; try with_reducible rfl
      simp only [Act.put, List.setIfInBounds_toArray, List.set_cons_zero, List.set_cons_succ]
      refine E_take (v := ?v16) 16 rfl (by kernel_rfl) (by kernel_rfl) (by kernel_rfl) (by kernel_rfl) (by kernel_rfl) (by kernel_rfl) (fun _ _ _ h => h) rfl s0 ?vh16 ?_
      case vh16 => intro W hW; obtain ⟨t0, t1, t2⟩ := hW; go_simp; try with_reducible rfl
      simp only [Act.put, List.setIfInBounds_toArray, List.set_cons_zero, List.set_cons_succ]
      refine E_take (v := ?v17) 17 rfl (by kernel_rfl) (by kernel_rfl) (by kernel_rfl) (by kernel_rfl) (by kernel_rfl) (by kernel_rfl) (fun _ _ _ h => h) rfl s0 ?vh17 ?_
      case vh17 => intro W hW; obtain ⟨t0, t1, t2⟩ := hW; go_simp; try with_reducible rfl
      simp only [Act.put, List.setIfInBounds_toArray, List.set_cons_zero, List.set_cons_succ]
      refine E_take (v := ?v18) 18 rfl (by kernel_rfl) (by kernel_rfl) (by kernel_rfl) (by kernel_rfl) (by kernel_rfl) (by kernel_rfl) (fun _ _ _ h => h) rfl s0 ?vh18 ?_
      case vh18 => intro W hW; obtain ⟨t0, t1, t2⟩ := hW; go_simp; try with_reducible rfl
      simp only [Act.put, List.setIfInBounds_toArray, List.set_cons_zero, List.set_cons_succ]
      refine E_one 19 (by kernel_rfl) rfl (fun K hK => ?_)
      go_simp
      refine hK.out _ _ (fun _ => s2.out) ?_
      clear hK K
      try simp only [Act.put, List.setIfInBounds_toArray, List.set_cons_zero, List.set_cons_succ]
      refine E_one 20 (by kernel_rfl) rfl (fun K hK => ?_)
      go_simp
      refine hK.out _ _ (fun h => absurd h (by decide)) ?_
      clear hK K
      try simp only [Act.put, List.setIfInBounds_toArray, List.set_cons_zero, List.set_cons_succ]
      refine E_done (by kernel_rfl) (NoPanic.normal ?_)
      have ob2 := (Only.refl (fun _ => False) wd).alloc (.cells #[.string e.nm, .int .u16 e.num, .int .u8 e.kind] 63)
      have hb8 := Blk.new wd 63 #[.string e.nm, .int .u16 e.num, .int .u8 e.kind]
      have d0' := (Blk.cell_only ob2 (a := ⟨b, o + i * 4, none⟩) hbb (fun x => x)).trans d0
      have ho1 := hod.trans ob2
      have h61 := h6d.only ob2 (fun _ _ x => x)
      have hm1 := hmd.only ob2 (fun x => x)
      have hbb1 := Nat.lt_of_lt_of_le hbb ob2.size
      have hm8 := Nat.le_refl wd.heap.size
      clear s0 s2 d0 d1 d2 d3 ob ob2 h6d hmd hbb hwd
      generalize hw1 : wd.alloc (.cells #[.string e.nm, .int .u16 e.num, .int .u8 e.kind] 63) = w1 at *
      generalize wd.heap.size = g at *
      clear hw1
      have q0 := hb8.cell 0
      have q1 := hb8.cell 1
      have q2 := hb8.cell 2
      simp only [List.getElem?_toArray, List.getElem?_cons_zero, List.getElem?_cons_succ] at q0 q1 q2
      by_cases h300 : 300 < e.nm.size
      · have g0 : (300 : Int) < (e.nm.size : Int) := by omega
        clear hm1 h61 hb8 d0' q1 q2
        go_wp2_with fail
        refine (wakesE w1).mono ?_
        rintro r w2 ⟨rfl, ho3⟩
        have ho4 := ho1.trans ho3
        clear ho1 ho3
        go_wp2
        go_ret
        exact ⟨rfl, ho4⟩
      have g0 : ¬ (300 : Int) < (e.nm.size : Int) := by omega
      have hlk := hm1.look_ok (s := e.nm) (by omega)
      obtain ⟨z, hz⟩ : ∃ z, (findE hv e.nm).getD noEnt = z := ⟨_, rfl⟩
      rw [hz] at hlk
      clear hz
      simp only [Ent.cells] at hlk
      have ob3 := (Only.refl (fun _ => False) w1).alloc (.cells #[.string z.nm, .int .u16 z.num, .int .u8 z.kind] 63)
      have hb82 := hb8.only ob3 (fun x => x)
      have d02 := (Blk.cell_only ob3 (a := ⟨b, o + i * 4, none⟩) hbb1 (fun x => x)).trans d0'
      have ho2 := ho1.trans ob3
      have h62 := h61.only ob3 (fun _ _ x => x)
      have hm2 := hm1.only ob3 (fun x => x)
      have p0 := hb82.cell 0
      have p1 := hb82.cell 1
      have p2 := hb82.cell 2
      simp only [List.getElem?_toArray, List.getElem?_cons_zero, List.getElem?_cons_succ] at p0 p1 p2
      clear hb8 hb82 d0' ob3 ho1 h61 hm1 q1 q2
      by_cases hd0 : dx = 0
      · subst hd0
        have cD := Lib.hid (fun W hW => drop_any hv A6 c6 e.nm W hW (by omega) hR.out)
        cases hbl : (findE hv e.nm).isSome with
        | true =>
          have hds : dropS hv e.nm = (dropL hv e.nm, 0) := by unfold dropS; rw [if_pos hbl]
          rw [hds] at cD
          rw [hbl] at hlk
          replace hbl := Lib.hid hbl
          clear hds
          go_wp2_with (at_lookup; refine wpList_look_eq rfl (.tmp 68) (.tmp 70) 89 true rfl _ _ _ (by simp [Act.eval]) (by simp [Act.eval]) hlk ?_)
          refine (cD.out _ h62).mono ?_
          rintro r w3 ⟨A11, c11, rfl, h11, ho3⟩
          have hm3 := hm2.only ho3 (fun x => x)
          obtain ⟨es3, cl3, hmap⟩ := hm3.isMap
          obtain ⟨w4, hdel, hm4, ho4⟩ := hm3.drop (s := e.nm) (by omega) hR.out hbl.out 0
          have h11b := RowE.map h11 hmap ho4
          have hof := Only.map (ho2.trans ho3) ho4 (Nat.le_refl _)
          have r0 := (Blk.cell_only ho3 (a := ⟨g, 0, none⟩) (by have := hm8; have := p0; exact World.block_lt_of_cell? _ _ p0) (fun x => x)).trans p0
          have had := Lib.hid (are_drop hok.out e.nm)
          clear hm3 h11 ho3 hlk h62 ho2 hm2 p0 p1 p2 d02 q0 cD hmap ho4
          go_wp2_with (at_delete; refine wpList_delete_eq rfl (.tmp 94) (.tmp 96) 89 9 rfl _ _ _ (by simp [Act.eval]) (by simp [Act.eval]) hdel ?_)
          go_roundw
          case rel => exact ⟨i + 1, _, A11, c11, by go_num, by omega, rfl, h11b, had.out, hm4.mono (by omega), hof⟩
          case measure => simp [intOf]; omega
        | false =>
          have hds : dropS hv e.nm = ([], 20) := by unfold dropS; rw [if_neg (by rw [hbl]; decide)]
          rw [hds] at cD
          rw [hbl] at hlk
          replace hbl := Lib.hid hbl
          clear hds
          go_wp2_with (at_lookup; refine wpList_look_eq rfl (.tmp 68) (.tmp 70) 89 true rfl _ _ _ (by simp [Act.eval]) (by simp [Act.eval]) hlk ?_)
          refine (cD.out _ h62).mono ?_
          rintro r w3 ⟨A11, c11, rfl, h11, ho3⟩
          have hm3 := (hm2.only ho3 (fun x => x)).mono (Nat.le_succ i)
          have h63 := h62.only ho3 (fun _ _ x => x)
          have hof := ho2.trans ho3
          clear h11 ho3 hlk h62 ho2 hm2 p0 p1 p2 d02 q0 cD
          go_wp2
          go_roundw
          case rel => exact ⟨i + 1, _, A6, c6, by go_num, by omega, rfl, h63, hok.out, hm3, hof⟩
          case measure => simp [intOf]; omega
      · have k0 : ((dx : Int) == 0) = false := by simp; omega
        have cD := Lib.hid (fun W hW => add_any hv A6 c6 e W hW (by omega) hR.out (by omega))
        simp only [Ent.cells] at cD
        by_cases hz : (addS hv e).2 = 0
        · obtain ⟨hfn, hae⟩ := addS_zero hz
          have hst := step_add hok.out e
          rw [hae] at cD hst
          rw [hfn] at hlk
          clear hz hae
          have hai : areS (insE hv e) = true := by
            rcases hst with h | h
            · exact h.2
            · exact absurd rfl h.1
          replace hai := Lib.hid hai
          replace hfn := Lib.hid hfn
          simp only [Option.isSome_none] at hlk
          clear hst
          go_wp2_with (at_lookup; refine wpList_look_eq rfl (.tmp 68) (.tmp 70) 89 true rfl _ _ _ (by simp [Act.eval]) (by simp [Act.eval]) hlk ?_)
          refine (cD.out _ h62).mono ?_
          rintro r w3 ⟨A11, c11, rfl, h11, ho3⟩
          have hm3 := hm2.only ho3 (fun x => x)
          obtain ⟨es3, cl3, hmap⟩ := hm3.isMap
          obtain ⟨w4, hupd, hm4, ho4⟩ := hm3.store (e := e) (by omega) (by omega) hR.out hfn.out
          simp only [Ent.cells] at hupd
          have h11b := RowE.map h11 hmap ho4
          have hof := Only.map (ho2.trans ho3) ho4 (Nat.le_refl _)
          have hgl := World.block_lt_of_cell? _ _ p0
          have r0 := (Blk.cell_only ho3 (a := ⟨g, 0, none⟩) hgl (fun x => x)).trans p0
          have r1 := (Blk.cell_only ho3 (a := ⟨g, 1, none⟩) hgl (fun x => x)).trans p1
          have r2 := (Blk.cell_only ho3 (a := ⟨g, 2, none⟩) hgl (fun x => x)).trans p2
          clear hm3 h11 ho3 hlk h62 ho2 hm2 p0 p1 p2 d02 q0 cD hmap ho4
          go_wp2_with (at_mapUpdate; refine wpList_update_eq rfl (.tmp 107) (.tmp 109) (.tmp 110) 89 rfl _ _ _ (by simp [Act.eval]) (by simp [Act.eval]) (by simp [Act.eval]) hupd ?_)
          go_roundw
          case rel => exact ⟨i + 1, _, A11, c11, by go_num, by omega, rfl, h11b, hai.out, hm4, hof⟩
          case measure => simp [intOf]; omega
        · generalize addS hv e = Pr at *
          obtain ⟨nx, er⟩ := Pr
          simp only at hz cD
          have he' : (er == 0) = false := beq_false_of_ne hz
          replace hz := Lib.hid hz
          go_wp2_with (at_lookup; refine wpList_look_eq rfl (.tmp 68) (.tmp 70) 89 true rfl _ _ _ (by simp [Act.eval]) (by simp [Act.eval]) hlk ?_)
          refine (cD.out _ h62).mono ?_
          rintro r w3 ⟨A11, c11, rfl, h11, ho3⟩
          have hm3 := (hm2.only ho3 (fun x => x)).mono (Nat.le_succ i)
          have h63 := h62.only ho3 (fun _ _ x => x)
          have hof := ho2.trans ho3
          clear h11 ho3 hlk h62 ho2 hm2 p0 p1 p2 d02 q0 cD
          go_wp2
          go_roundw
          case rel => exact ⟨i + 1, _, A6, c6, by go_num, by omega, rfl, h63, hok.out, hm3, hof⟩
          case measure => simp [intOf]; omega
    · obtain rfl : i = acts.length := by omega
      have hi' : ¬ (acts.length : Int) < (acts.length : Int) := by omega
      have h64 := (are_ok hok).1
      have g64 : ¬ (64 : Int) < (hv.length : Int) := by omega
      have hR := Lib.hid (rise_of hok)
      replace hok := Lib.hid hok
      have h2r := h2.only ho (fun _ _ x => x)
      have hlen := hm.len 3
      go_wp2_with (at_len; refine wpList_len_eq rfl (.tmp 113) 89 rfl _ _ (by simp [Act.eval]) hlen ?_)
      rename World => w9
      have hS := (Only.refl (fun _ => False) w9)
      go_loopw [15] (fun s15 W => ∃ j : Nat, s15 = .int .i64 j ∧ j ≤ hv.length ∧ Only (fun _ => False) w9 W) (fun s15 _ => hv.length - (intOf s15).toNat)
      case atStart => exact ⟨0, rfl, by omega, hS⟩
      case round =>
        obtain ⟨j, rfl, hj, ho2⟩ := hrel
        by_cases hlt : j < hv.length
        · obtain ⟨x, hx⟩ : ∃ x, hv[j]? = some x := ⟨_, List.getElem?_eq_getElem hlt⟩
          have h6r := h6.only ho2 (fun _ _ x => x)
          obtain ⟨b, o, rfl, hbb0, c0, c1, c2'⟩ := h6r.lit hx
          have hns : x.nm.size ≤ 1000000 := are_sz hok.out x (List.mem_of_getElem? hx)
          have hfs := findE_self hR.out hx
          have hF := findD_any hv (some ⟨b, o, none⟩) c6 x.nm wr h6r (by omega) hR.out
          rw [hfs] at hF
          simp only [Ent.cells, Option.getD_some, Option.isSome_some] at hF
          have j0 : (0 : Int) ≤ (j : Int) := by omega
          have j1 : (j : Int) < (hv.length : Int) := by omega
          replace hx := Lib.hid hx
          replace hfs := Lib.hid hfs
          replace hF := Lib.hid hF
          clear hlen hS
          go_wp2_with fail
          refine hF.out.mono ?_
          rintro r w1 ⟨rfl, ho3⟩
          have hb0 := Blk.new w1 63 #[.string x.nm, .int .u16 x.num, .int .u8 x.kind]
          have hoa := (Only.refl (fun _ => False) w1).alloc (.cells #[.string x.nm, .int .u16 x.num, .int .u8 x.kind] 63)
          have ho4 := (ho2.trans ho3).trans hoa
          have h62 := h6.only ho4 (fun _ _ x => x)
          have hbb := Nat.lt_of_lt_of_le hbb0 (ho3.trans hoa).size
          replace c0 := (Blk.cell_only (ho3.trans hoa) (a := ⟨b, o + j * 3, none⟩) hbb0 (fun x => x)).trans c0
          clear c1 c2' hF hoa ho3 ho2 h6r hbb0
          go_wp2_with fail
          generalize w1.alloc _ = w2 at *
          generalize w1.heap.size = g at *
          have hlk := Lib.hid (fun W (hW : Only (fun _ => False) w2 W) => (hm.only (ho4.trans hW) (fun x => x)).look hns)
          rw [hfs.out] at hlk
          simp only [Ent.cells, Option.getD_some] at hlk
          by_cases hj0 : j = 0
          · subst hj0
            simp only [show ((0 : Nat) : Int) = 0 from rfl]
            refine wp_region_class (fun W => Only (fun _ => False) w2 W) (by kernel_rfl) (by kernel_rfl) (Only.refl _ _).drew ?_
            repeat (first
              | go_big_quiet_skip
              | (go_big_quiet_want
                 first
                   | (refine quiet_load_cell 9 (.tmp 141) rfl ⟨b, o + 0 * 3, none⟩ rfl (.string x.nm) _ (fun W hW => (Blk.cell_only hW (a := ⟨b, o + 0 * 3, none⟩) hbb (fun x => x)).trans c0) rfl Try.underlying9 ?_; simp only [Act.put, List.setIfInBounds_toArray, List.set_cons_zero, List.set_cons_succ]; go_big_quiet_on)
                   | (refine quiet_look 89 (.tmp 137) (.tmp 142) false rfl _ _ _ rfl rfl (fun W hW => hlk.out W hW) ?_; simp only [Act.put, List.setIfInBounds_toArray, List.set_cons_zero, List.set_cons_succ]; go_big_quiet_on)
                   | (refine quiet_load_mid 63 (.tmp 146) rfl b (o + 0 * 3) rfl [.string x.nm, .int .u16 x.num, .int .u8 x.kind] _ (fun W hW => RowE.range (h62.only hW (fun _ _ x => x)) hx.out) Try.underlying63 rfl (by kernel_rfl) ?_; simp only [List.toArray]; simp only [Act.put, List.setIfInBounds_toArray, List.set_cons_zero, List.set_cons_succ]; go_big_quiet_on)
                   | (refine quiet_load_mid 63 (.tmp 157) rfl b (o + 0 * 3) rfl [.string x.nm, .int .u16 x.num, .int .u8 x.kind] _ (fun W hW => RowE.range (h62.only hW (fun _ _ x => x)) hx.out) Try.underlying63 rfl (by kernel_rfl) ?_; simp only [List.toArray]; simp only [Act.put, List.setIfInBounds_toArray, List.set_cons_zero, List.set_cons_succ]; go_big_quiet_on)
                   | (refine quiet_load_row 63 (.tmp 16) rfl g rfl 63 #[.string x.nm, .int .u16 x.num, .int .u8 x.kind] (0, 0) _ (fun _ h => hb0.only h (fun x => x)) Try.underlying63 rfl (by kernel_rfl) ?_; simp only [Act.put, List.setIfInBounds_toArray, List.set_cons_zero, List.set_cons_succ]; go_big_quiet_on)
                   | (refine quiet_neq63 _ (.tmp 143) (.tmp 147) rfl x rfl rfl ?_; simp only [Act.put, List.setIfInBounds_toArray, List.set_cons_zero, List.set_cons_succ]; go_big_quiet_on)
                   | (refine quiet_neq63 _ (.tmp 154) (.tmp 158) rfl x rfl rfl ?_; simp only [Act.put, List.setIfInBounds_toArray, List.set_cons_zero, List.set_cons_succ]; go_big_quiet_on)
                   | (go_big_quiet_op
                      first
                        | go_big_quiet_on
                        | (refine ⟨_, fun _ _ => by with_reducible rfl, ?_⟩; go_big_quiet_on))))
            refine wpQuiet_nil ?_
            intro w5 h5
            have ho5 := ho4.trans h5
            clear ho4 h5 h62 hlk hb0 c0
            go_wp2
            go_roundw
            case rel => exact ⟨1, rfl, by omega, ho5⟩
            case measure => simp [intOf]; omega
          · obtain ⟨m, rfl⟩ : ∃ m, j = m + 1 := ⟨j - 1, by omega⟩
            obtain ⟨y, hy⟩ : ∃ y, hv[m]? = some y := ⟨_, List.getElem?_eq_getElem (by omega)⟩
            obtain ⟨b', o', hbe, hyb, e0, _, _⟩ := h62.lit hy
            cases hbe
            have k0 : (0 : Int) < (m : Int) + 1 := by omega
            have k1 : (0 : Int) ≤ (m : Int) := by omega
            have k2 : (m : Int) < (hv.length : Int) := by omega
            have hgq := rise_geq hR.out (i := m + 1) (by omega) hy hx.out
            unfold lessB at hgq
            replace hgq : (!Op.bytesLess y.nm.toList x.nm.toList) = false := by rw [hgq]; rfl
            replace hgq := Lib.hid hgq
            replace hy := Lib.hid hy
            simp only [show ((m + 1 : Nat) : Int) = (m : Int) + 1 from rfl] at j0 j1 ⊢
            refine wp_region_class (fun W => Only (fun _ => False) w2 W) (by kernel_rfl) (by kernel_rfl) (Only.refl _ _).drew ?_
            repeat (first
              | go_big_quiet_skip
              | (go_big_quiet_want
                 first
                   | (refine quiet_load_cell 9 (.tmp 141) rfl ⟨b, o + (m + 1) * 3, none⟩ rfl (.string x.nm) _ (fun W hW => (Blk.cell_only hW (a := ⟨b, o + (m + 1) * 3, none⟩) hbb (fun x => x)).trans c0) rfl Try.underlying9 ?_; simp only [Act.put, List.setIfInBounds_toArray, List.set_cons_zero, List.set_cons_succ]; go_big_quiet_on)
                   | (refine quiet_look 89 (.tmp 137) (.tmp 142) false rfl _ _ _ rfl rfl (fun W hW => hlk.out W hW) ?_; simp only [Act.put, List.setIfInBounds_toArray, List.set_cons_zero, List.set_cons_succ]; go_big_quiet_on)
                   | (refine quiet_load_mid 63 (.tmp 146) rfl b (o + (m + 1) * 3) rfl [.string x.nm, .int .u16 x.num, .int .u8 x.kind] _ (fun W hW => RowE.range (h62.only hW (fun _ _ x => x)) hx.out) Try.underlying63 rfl (by kernel_rfl) ?_; simp only [List.toArray]; simp only [Act.put, List.setIfInBounds_toArray, List.set_cons_zero, List.set_cons_succ]; go_big_quiet_on)
                   | (refine quiet_load_mid 63 (.tmp 157) rfl b (o + (m + 1) * 3) rfl [.string x.nm, .int .u16 x.num, .int .u8 x.kind] _ (fun W hW => RowE.range (h62.only hW (fun _ _ x => x)) hx.out) Try.underlying63 rfl (by kernel_rfl) ?_; simp only [List.toArray]; simp only [Act.put, List.setIfInBounds_toArray, List.set_cons_zero, List.set_cons_succ]; go_big_quiet_on)
                   | (refine quiet_load_row 63 (.tmp 16) rfl g rfl 63 #[.string x.nm, .int .u16 x.num, .int .u8 x.kind] (0, 0) _ (fun _ h => hb0.only h (fun x => x)) Try.underlying63 rfl (by kernel_rfl) ?_; simp only [Act.put, List.setIfInBounds_toArray, List.set_cons_zero, List.set_cons_succ]; go_big_quiet_on)
                   | (refine quiet_neq63 _ (.tmp 143) (.tmp 147) rfl x rfl rfl ?_; simp only [Act.put, List.setIfInBounds_toArray, List.set_cons_zero, List.set_cons_succ]; go_big_quiet_on)
                   | (refine quiet_neq63 _ (.tmp 154) (.tmp 158) rfl x rfl rfl ?_; simp only [Act.put, List.setIfInBounds_toArray, List.set_cons_zero, List.set_cons_succ]; go_big_quiet_on)
                   | (refine quiet_load_cell 9 (.tmp 169) rfl ⟨b, o + m * 3, none⟩ rfl (.string y.nm) _ (fun W hW => (Blk.cell_only hW (a := ⟨b, o + m * 3, none⟩) hbb (fun x => x)).trans e0) rfl Try.underlying9 ?_; simp only [Act.put, List.setIfInBounds_toArray, List.set_cons_zero, List.set_cons_succ]; go_big_quiet_on)
                   | (refine quiet_load_cell 9 (.tmp 174) rfl ⟨b, o + (m + 1) * 3, none⟩ rfl (.string x.nm) _ (fun W hW => (Blk.cell_only hW (a := ⟨b, o + (m + 1) * 3, none⟩) hbb (fun x => x)).trans c0) rfl Try.underlying9 ?_; simp only [Act.put, List.setIfInBounds_toArray, List.set_cons_zero, List.set_cons_succ]; go_big_quiet_on)
                   | (refine quiet_geq 9 9 (.tmp 170) (.tmp 175) rfl y.nm x.nm rfl rfl false hgq.out ?_; simp only [Act.put, List.setIfInBounds_toArray, List.set_cons_zero, List.set_cons_succ]; go_big_quiet_on)
                   | (go_big_quiet_op
                      first
                        | go_big_quiet_on
                        | (refine ⟨_, fun _ _ => by with_reducible rfl, ?_⟩; go_big_quiet_on))))
            refine wpQuiet_nil ?_
            intro w5 h5
            have ho5 := ho4.trans h5
            clear ho4 h5 h62 hlk hb0 c0
            go_wp2
            go_roundw
            case rel => exact ⟨m + 2, by go_num, by omega, ho5⟩
            case measure => simp [intOf]; omega
        · obtain rfl : j = hv.length := by omega
          have hos := ho.trans ho2
          have h6s := h6.only ho2 (fun _ _ x => x)
          have h2s := h2r.only ho2 (fun _ _ x => x)
          have hput : putS hv = (putB hv, 0) := by unfold putS; rw [if_pos hok.out]
          have hpl : (putB hv).length ≤ 1792 := by
            have h1 := put_le hv
            rw [hput] at h1
            simpa using h1
          have hP := putD_any hv A6 c6 wr h6s (by omega) (are_sz hok.out)
          rw [hput] at hP
          have hT := Lib.hid (fun A c W (h : RowB W A (putB hv) c) => by
            have h1 := takeD_any (putB hv) A c W h (by omega)
            rw [take_put hok.out] at h1
            exact h1)
          have hlen2 : ¬ (hv.length : Int) < (hv.length : Int) := by omega
          generalize hpb : putB hv = pb at *
          replace hP := Lib.hid hP
          replace hpb := Lib.hid hpb
          clear hlen hS hput h6 hm ho ho2
          go_wp2_with fail
          refine hP.out.mono ?_
          rintro r w1 ⟨A18, c18, rfl, h18, ho3⟩
          go_wp2_with fail
          refine (hT.out A18 c18 w1 h18).mono ?_
          rintro r w2 ⟨A20, c20, rfl, h20, ho4⟩
          have ho34 := ho3.trans ho4
          have hos2 := hos.trans ho34
          have h6t := h6s.only ho34 (fun _ _ x => x)
          have h2t := h2s.only ho34 (fun _ _ x => x)
          clear hP hT h18 ho3 ho4 ho34 hos h6s h2s h2r
          rename_i Wd0
          go_wp2
          have hS2 := (Only.refl (fun _ => False) w2)
          go_loopw [22] (fun s22 W => ∃ j : Nat, s22 = .int .i64 j ∧ j ≤ hv.length ∧ Only (fun _ => False) w2 W) (fun s22 _ => hv.length - (intOf s22).toNat)
          case atStart => exact ⟨0, rfl, by omega, hS2⟩
          case round =>
            obtain ⟨j, rfl, hj, ho5⟩ := hrel
            by_cases hlt3 : j < hv.length
            · obtain ⟨x, hx⟩ : ∃ x, hv[j]? = some x := ⟨_, List.getElem?_eq_getElem hlt3⟩
              obtain ⟨b, o, rfl, _, d0, d1, d2⟩ := (h6t.only ho5 (fun _ _ x => x)).lit hx
              obtain ⟨b2, o2, rfl, _, e0, e1, e2⟩ := (h20.only ho5 (fun _ _ x => x)).lit hx
              have j0 : (0 : Int) ≤ (j : Int) := by omega
              have j1 : (j : Int) < (hv.length : Int) := by omega
              replace hx := Lib.hid hx
              go_wp2
              go_quiet (fail)
              have ho6 := ho5.drewN nq
              clear ho5 d0 d1 d2 e0 e1 e2
              generalize wr.drewN nq = wq at *
              go_wp2
              go_roundw
              case rel => exact ⟨j + 1, by go_num, by omega, ho6⟩
              case measure => simp [intOf]; omega
            · obtain rfl : j = hv.length := by omega
              have hos3 := hos2.trans ho5
              have h2u := h2t.only ho5 (fun _ _ x => x)
              have hT := takeD_any bs A2 c2 wr h2u (by omega)
              by_cases hg : (takeS bs).2 = 0
              · obtain ⟨ha, hb⟩ := put_take hg
                have htl := take_le bs
                have hPt : putS (takeS bs).1 = (bs, 0) := by unfold putS; rw [if_pos ha, hb]
                generalize takeS bs = T at *
                obtain ⟨tl, te⟩ := T
                simp only at hg ha hb htl hPt hT
                subst hg
                have hP := Lib.hid (fun A c W (h : RowE W A tl c) => by
                  have h1 := putD_any tl A c W h (by omega) (are_sz ha)
                  rw [hPt] at h1
                  exact h1)
                replace ha := Lib.hid ha
                replace hb := Lib.hid hb
                replace hT := Lib.hid hT
                clear hPt h6t h20 h2t ho5 hos2 hlen2 hlt hS2
                go_wp2_with fail
                refine hT.out.mono ?_
                rintro r w3 ⟨A23, c23, rfl, h23, ho6⟩
                go_wp2_with fail
                refine (hP.out A23 c23 w3 h23).mono ?_
                rintro r w4 ⟨A25, c25, rfl, h25, ho7⟩
                have ho67 := ho6.trans ho7
                have hos4 := hos3.trans ho67
                have hsa := h25.str
                have hsb := (h2u.only ho67 (fun _ _ x => x)).str
                clear hP hT ho6 ho7 ho67 hos3 h23 h25 h2u
                go_wp2_with fail
                refine (wakesE _).mono ?_
                rintro r w5 ⟨rfl, ho8⟩
                have hof := hos4.trans ho8
                clear hos4 ho8 hsa hsb
                go_wp2
                go_ret
                exact ⟨rfl, hof⟩
              · have htf := take_fail hg
                generalize takeS bs = T at *
                obtain ⟨tl, te⟩ := T
                simp only at hg htf hT
                subst htf
                have he' : (te == 0) = false := beq_false_of_ne hg
                have he2 : (te != 0) = true := by rw [bne, he']; rfl
                replace hg := Lib.hid hg
                replace hT := Lib.hid hT
                simp only [List.length_nil] at hT
                clear h6t h20 h2t ho5 hos2 hlen2 hlt hS2 h2u
                go_wp2_with fail
                refine hT.out.mono ?_
                rintro r w3 ⟨A23, c23, rfl, h23, ho6⟩
                have hos4 := hos3.trans ho6
                clear hos3 ho6 hT h23
                go_wp2_with fail
                refine (wakesE _).mono ?_
                rintro r w5 ⟨rfl, ho8⟩
                have hof := hos4.trans ho8
                clear hos4 ho8
                go_wp2
                go_ret
                exact ⟨rfl, hof⟩
end Go.Proofs.Ytnclappdokhciaa

