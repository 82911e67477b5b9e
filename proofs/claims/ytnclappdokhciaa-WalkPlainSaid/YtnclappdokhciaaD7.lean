/-
  dir.Put (func 35).
-/
import Derived.Test.YtnclappdokhciaaD6
import Derived.Test.YtnclappdokhciaaHeld
import Derived.RegionTactic
import Derived.BigRegion
import Derived.Deep.RegionHeld3
namespace Go.Proofs.Ytnclappdokhciaa
open Go Go.RowKit
set_option linter.unusedVariables false

def entB (e : Ent) : List UInt8 := [UInt8.ofNat e.nm.size] ++ e.nm.data.toList ++ le16 e.num ++ [UInt8.ofNat e.kind]
def putB (l : List Ent) : List UInt8 := l.flatMap entB
def putS (l : List Ent) : List UInt8 × Int := if areS l = true then (putB l, 0) else ([], 5)
theorem entB_len (e : Ent) : (entB e).length = e.nm.size + 4 := by
  unfold entB le16
  simp only [List.length_append, List.length_cons, List.length_nil, length_toList]
  omega
theorem putB_snoc (l : List Ent) (e : Ent) : putB (l ++ [e]) = putB l ++ entB e := by unfold putB; rw [List.flatMap_append]; simp
theorem putB_len : ∀ l : List Ent, (∀ e ∈ l, e.nm.size ≤ 24) → (putB l).length ≤ 28 * l.length
  | [], _ => Nat.le_refl _
  | e :: r, h => by
    have ih := putB_len r (fun x hx => h x (List.mem_cons_of_mem _ hx))
    have h0 := h e (List.mem_cons_self ..)
    have : putB (e :: r) = entB e ++ putB r := rfl
    rw [this, List.length_append, entB_len, List.length_cons]
    omega
theorem takeE_snoc (l : List Ent) (i : Nat) (x : Ent) (hx : l[i]? = some x) : l.take (i + 1) = l.take i ++ [x] := by
  rw [List.take_add_one, hx]; rfl
theorem may_ok {e : Ent} (h : mayS e = 0) : checkS e.nm = 0 ∧ 1 ≤ e.num ∧ e.num ≤ 255 ∧ 1 ≤ e.kind ∧ e.kind ≤ 3 := by
  unfold mayS at h
  by_cases hc : checkS e.nm = 0
  · rw [if_pos hc] at h
    split at h
    · cases h
    · refine ⟨hc, ?_⟩; omega
  · rw [if_neg hc] at h; exact absurd h hc
theorem check_ok {s : ByteArray} (h : checkS s = 0) : s.size ≤ 24 := by
  unfold checkS at h
  by_cases hf : fault s 47 = 0
  · rw [if_pos hf] at h
    split at h
    · cases h
    · split at h
      · cases h
      · omega
  · rw [if_neg hf] at h; exact absurd h hf
theorem areFrom_may (l : List Ent) : ∀ (f i : Nat), areFrom l f i = true → ∀ j e, i ≤ j → j < i + f → l[j]? = some e → okAt l j e = true
  | 0, i, _, j, e, h1, h2, _ => by omega
  | f + 1, i, h, j, e, h1, h2, he => by
    rw [areFrom, Bool.and_eq_true] at h
    by_cases hj : j = i
    · subst hj
      rw [he] at h; exact h.1
    · exact areFrom_may l f (i + 1) h.2 j e (by omega) (by omega) he
theorem are_ok {l : List Ent} (h : areS l = true) : l.length ≤ 64 ∧ ∀ (j : Nat) e, l[j]? = some e → okAt l j e = true := by
  unfold areS at h
  rw [Bool.and_eq_true] at h
  exact ⟨of_decide_eq_true h.2, fun j e he => areFrom_may l l.length 0 h.1 j e (Nat.zero_le _) (by have := (List.getElem?_eq_some_iff.1 he).1; omega) he⟩
theorem are_may {l : List Ent} (h : areS l = true) : ∀ e ∈ l, mayS e = 0 := fun e he => by
  obtain ⟨j, hj⟩ := List.getElem?_of_mem he
  have := (are_ok h).2 j e hj
  unfold okAt at this
  rw [Bool.and_eq_true] at this
  exact of_decide_eq_true this.1

theorem step_append_eq2 {P : Program} {w : World} {ops : Array Oper} {o : Oper} {a : Act} {K : Act → World → Prop} {Q : Exit → Act → World → Prop} {E : Prop}
    (hgd : o.guard = none) (s x : Operand) (t u : TypeId) (ho : o.op = .call { callee := .builtin .append, args := #[s, x], argTypes := #[t, u] }) (vs vx v' : Value) (w' : World)
    (hs : a.eval s = vs) (hx : a.eval x = vx) (hr : (Builtin.append_ #[t, u] o.type #[vs, vx]).run P w = .ok v' w') (h : K (a.put o.dst v') w') :
    if Region.wanted o (yielded ops a.tmps) = true then Oper.wp P o a w K Q else E := by
  have hw : Region.wanted o (yielded ops a.tmps) = true := by simp [Region.wanted, hgd]
  rw [if_pos hw]
  unfold Oper.wp execOp
  simp only [ho, resolve, invoke, builtin, Sem.run_bind, Sem.run_pure, Result.andThen_ok, List.map_toArray, List.map_cons, List.map_nil, hs, hx, hr]
  exact h
section
variable {P : Program} {md : Region.Mode} {ops : Array Oper} {Q : Exit → Act → World → Prop} {S : World → Prop} {z : Nat}
/-- One of two may come up. -/
theorem E_two (i j : Nat) {oi oj : Oper} {f : Nat} {l : Array Bool} {a : Act} {w : World} (hr : Region.ready md ops l = [i, j]) (hi : ops.toList[i]? = some oi) (hj : ops.toList[j]? = some oj)
    (h1 : ∀ K : Act → World → Prop, Shut (∀ a' w', ((l.setIfInBounds i true).getD z true = false → S w') → wpAnyE P md ops Q S z f (l.setIfInBounds i true) a' w' → K a' w') → if Region.wanted oi (yielded ops a.tmps) = true then oi.wp P a w K Q else K (a.put oi.dst undef) w)
    (h2 : ∀ K : Act → World → Prop, Shut (∀ a' w', ((l.setIfInBounds j true).getD z true = false → S w') → wpAnyE P md ops Q S z f (l.setIfInBounds j true) a' w' → K a' w') → if Region.wanted oj (yielded ops a.tmps) = true then oj.wp P a w K Q else K (a.put oj.dst undef) w) :
    wpAnyE P md ops Q S z (f + 1) l a w := by
  have hi' : ops[i]? = some oi := by rw [← Array.getElem?_toList]; exact hi
  have hj' : ops[j]? = some oj := by rw [← Array.getElem?_toList]; exact hj
  refine ⟨fun e => (by rw [hr] at e; cases e), fun k hk => ?_⟩
  rw [hr] at hk
  have hk2 : k = i ∨ k = j := by simpa using hk
  rcases hk2 with rfl | rfl
  · exact wpOp_step hi' fun K hK => h1 K (fun a' w' h1 h2 => hK a' w' ⟨h1, h2⟩)
  · exact wpOp_step hj' fun K hK => h2 K (fun a' w' h1 h2 => hK a' w' ⟨h1, h2⟩)
end
theorem PB.lt {w1 W : World} {l : List UInt8} {v : Value} (h : PB w1 l v W) {g : Nat} (hg : v.ownBlock = some g) : g < W.heap.size := by
  obtain ⟨A, c, _, _, _, hown, _⟩ := h
  exact (hown.lt g hg).2
theorem wrap8 (n : Nat) (h : n < 256) : IntKind.u8.wrap (n : Int) = (n : Int) := by
  rw [IntKind.wrap_u8]; omega
set_option maxRecDepth 10000 in
set_option maxHeartbeats 4000000 in
theorem putD_any (l : List Ent) (A : Option Addr) (c : Nat) (w : World) (h : RowE w A l c) (hn : l.length ≤ 100000) (hs : ∀ e ∈ l, e.nm.size ≤ 1000000) :
    Calls Try.prog 35 #[.slice A l.length c] w fun r w' => ∃ A' c', r = .returned (.tuple #[.slice A' (putS l).1.length c', .int .i64 (putS l).2]) ∧ RowB w' A' (putS l).1 c' ∧ Only (fun _ => False) w w' := by
  go_enter Try.func35, Try.ntmps35
  go_wp2_with fail
  refine (are_any l A c w h hn hs).mono ?_
  rintro r w1 ⟨rfl, ho1⟩
  have h1 := h.only ho1 (fun _ _ x => x)
  by_cases ha : areS l = true
  · have hput : putS l = (putB l, 0) := by unfold putS; rw [if_pos ha]
    rw [ha]
    replace hput := Lib.hid hput
    obtain ⟨h64, _⟩ := are_ok ha
    have hmay := are_may ha
    have hsz : ∀ e ∈ l, e.nm.size ≤ 24 := fun e he => check_ok (may_ok (hmay e he)).1
    have hpl : ∀ i, (putB (l.take i)).length ≤ 28 * 64 := fun i => by
      have a1 := putB_len (l.take i) (fun e he => hsz e (List.mem_of_mem_take he))
      have a2 : (l.take i).length ≤ l.length := by rw [List.length_take]; omega
      omega
    clear ha hs
    replace hmay := Lib.hid hmay
    replace hsz := Lib.hid hsz
    replace hpl := Lib.hid hpl
    go_wp2
    go_loopw [4, 12] (fun s4 k wr => ∃ (i : Nat), k = .int .i64 i ∧ i ≤ l.length ∧ PB w1 (putB (l.take i)) s4 wr) (fun _ k _ => l.length - (intOf k).toNat)
    case atStart => exact ⟨0, rfl, by omega, PB.nil w1⟩
    case round =>
      obtain ⟨i, rfl, hi, hp⟩ := hrel
      obtain ⟨A4, c4, rfl, hrow⟩ := hp.row
      by_cases hlt : i < l.length
      · obtain ⟨x, hx⟩ : ∃ x, l[i]? = some x := ⟨_, List.getElem?_eq_getElem hlt⟩
        obtain ⟨b, o, rfl, hb1, d0, d1, d2⟩ := (h1.only hp.only (fun _ _ x => x)).lit hx
        have i0 : (0 : Int) ≤ (i : Int) := by omega
        have i1 : (i : Int) < (l.length : Int) := by omega
        have hxm := List.mem_of_getElem? hx
        have hx24 := hsz.out x hxm
        obtain ⟨_, hn1, hn2, hk1, hk2⟩ := may_ok (hmay.out x hxm)
        have htk := Lib.hid (takeE_snoc l i x hx)
        replace hx := Lib.hid hx
        have hl4 := hpl.out i
        clear hxm hrow
        go_wp2_with fail
        generalize hL : putB (l.take i) = L at *
        have hb6 := Blk.new wr 63 #[.string x.nm, .int .u16 x.num, .int .u8 x.kind]
        have oa := (Only.refl (fun _ => False) wr).alloc (.cells #[.string x.nm, .int .u16 x.num, .int .u8 x.kind] 63)
        have hp2 := hp.next oa
        clear oa d0 d1 d2 hp
        generalize hg6 : wr.heap.size = g6 at *
        generalize hW : wr.alloc _ = w2 at *
        clear hW hg6
        have hq := Blk.new w2.drew 5 #[.int .u8 ((UInt8.ofNat x.nm.size).toNat : Int)]
        have ob := ((Only.refl (fun _ => False) w2).drew).alloc (.cells #[.int .u8 ((UInt8.ofNat x.nm.size).toNat : Int)] 5)
        obtain ⟨A5, c5, w3, hap, hp3, ho3, hat3⟩ := hp2.one ob (by omega) w2.drew.heap.size (UInt8.ofNat x.nm.size) hq
        rw [u8n _ (by omega)] at hap
        have hb63 : Blk w3 g6 63 #[.string x.nm, .int .u16 x.num, .int .u8 x.kind] := (hb6.only ob (fun x => x)).only ho3 (hp2.apart hb6 (by decide))
        have s2 : w2.cell? ⟨g6, 0, none⟩ = some (.string x.nm) := hb6.cell 0
        have s3 : w3.cell? ⟨g6, 0, none⟩ = some (.string x.nm) := hb63.cell 0
        have sb : (w2.drew.alloc (.cells #[.int .u8 (x.nm.size : Int)] 5)).cell? ⟨g6, 0, none⟩ = some (.string x.nm) := by
          have := (hb6.only ob (fun x => x)).cell 0
          rw [u8n _ (by omega)] at this
          exact this
        obtain ⟨A6, c6, w4, hap2, hp4, ho4⟩ := hp3.str (Only.refl _ _) (by rw [List.length_append]; simp only [List.length_cons, List.length_nil]; omega) x.nm (by omega)
        have hb64 : Blk w4 g6 63 #[.string x.nm, .int .u16 x.num, .int .u8 x.kind] := hb63.only ho4 (hp3.apart hb63 (by decide))
        have hlen2 : (L ++ [UInt8.ofNat x.nm.size]).length = L.length + 1 := by rw [List.length_append]; rfl
        rw [hlen2] at hap2 hp4
        clear hlen2
        have hbd : (x.nm.size : Int) % 256 = (x.nm.size : Int) := by omega
        replace hb6 := Lib.hid hb6
        clear hb63 hat3 hq ob ho3 ho4 hp2 hp3
        refine wp_region_noPanic ?_
        refine wp_region_E 10 (fun W => W.cell? ⟨g6, 0, none⟩ = some (.string x.nm)) (by kernel_rfl) ?_
        have hS0 : w2.drew.cell? ⟨g6, 0, none⟩ = some (.string x.nm) := s2
        refine E_take (v := ?v0) 0 rfl (by kernel_rfl) (by kernel_rfl) (by kernel_rfl) (by kernel_rfl) (by kernel_rfl) (by kernel_rfl) (fun _ _ _ h => h) rfl hS0 ?vh0 ?_
        case vh0 => intro W hW; have s1 := hW; go_simp; try with_reducible rfl
        simp only [Act.put, List.setIfInBounds_toArray, List.set_cons_zero, List.set_cons_succ]
        refine E_take (v := ?v1) 1 rfl (by kernel_rfl) (by kernel_rfl) (by kernel_rfl) (by kernel_rfl) (by kernel_rfl) (by kernel_rfl) (fun _ _ _ h => h) rfl hS0 ?vh1 ?_
        case vh1 => intro W hW; have s1 := hW; go_simp; try with_reducible rfl
        simp only [Act.put, List.setIfInBounds_toArray, List.set_cons_zero, List.set_cons_succ]
        refine E_take (v := ?v2) 2 rfl (by kernel_rfl) (by kernel_rfl) (by kernel_rfl) (by kernel_rfl) (by kernel_rfl) (by kernel_rfl) (fun _ _ _ h => h) rfl hS0 ?vh2 ?_
        case vh2 => intro W hW; have s1 := hW; go_simp; try with_reducible rfl
        simp only [Act.put, List.setIfInBounds_toArray, List.set_cons_zero, List.set_cons_succ]
        refine E_take (v := ?v3) 3 rfl (by kernel_rfl) (by kernel_rfl) (by kernel_rfl) (by kernel_rfl) (by kernel_rfl) (by kernel_rfl) (fun _ _ _ h => h) rfl hS0 ?vh3 ?_
        case vh3 => intro W hW; have s1 := hW; go_simp; try with_reducible rfl
        simp only [Act.put, List.setIfInBounds_toArray, List.set_cons_zero, List.set_cons_succ]
        refine E_take (v := ?v4) 4 rfl (by kernel_rfl) (by kernel_rfl) (by kernel_rfl) (by kernel_rfl) (by kernel_rfl) (by kernel_rfl) (fun _ _ _ h => h) rfl hS0 ?vh4 ?_
        case vh4 => intro W hW; have s1 := hW; go_simp; try with_reducible rfl
        simp only [Act.put, List.setIfInBounds_toArray, List.set_cons_zero, List.set_cons_succ]
        refine E_take (v := ?v7) 7 rfl (by kernel_rfl) (by kernel_rfl) (by kernel_rfl) (by kernel_rfl) (by kernel_rfl) (by kernel_rfl) (fun _ _ _ h => h) rfl hS0 ?vh7 ?_
        case vh7 => intro W hW; have s1 := hW; go_simp; try with_reducible rfl
        simp only [Act.put, List.setIfInBounds_toArray, List.set_cons_zero, List.set_cons_succ]
        refine E_take (v := ?v8) 8 rfl (by kernel_rfl) (by kernel_rfl) (by kernel_rfl) (by kernel_rfl) (by kernel_rfl) (by kernel_rfl) (fun _ _ _ h => h) rfl hS0 ?vh8 ?_
        case vh8 => intro W hW; have s1 := hW; go_simp; try with_reducible rfl
        simp only [Act.put, List.setIfInBounds_toArray, List.set_cons_zero, List.set_cons_succ]
        simp only [wrap8 x.nm.size (by omega)]
        refine E_one 5 (by kernel_rfl) rfl (fun K hK => ?_)
        go_simp
        refine hK.out _ _ (fun _ => sb) ?_
        clear hK K
        try simp only [Act.put, List.setIfInBounds_toArray, List.set_cons_zero, List.set_cons_succ]
        refine E_one 6 (by kernel_rfl) rfl (fun K hK => ?_)
        refine step_append_eq1 rfl (.tmp 16) (.tmp 21) 67 rfl (.slice A4 L.length c4) (.slice (some ⟨w2.drew.heap.size, 0, none⟩) 1 1) _ w3 (by simp [Act.eval]) (by simp [Act.eval]) hap ?_
        refine hK.out _ _ (fun _ => s3) ?_
        clear hK K
        try simp only [Act.put, List.setIfInBounds_toArray, List.set_cons_zero, List.set_cons_succ]
        refine E_one 9 (by kernel_rfl) rfl (fun K hK => ?_)
        refine step_append_eq2 rfl (.tmp 22) (.tmp 24) 67 9 rfl _ _ _ w4 (by simp [Act.eval]) (by simp [Act.eval]) hap2 ?_
        refine hK.out _ _ (fun _ => hb64.cell 0) ?_
        clear hK K
        try simp only [Act.put, List.setIfInBounds_toArray, List.set_cons_zero, List.set_cons_succ]
        refine E_one 10 (by kernel_rfl) rfl (fun K hK => ?_)
        go_simp
        refine hK.out _ _ (fun h => absurd h (by decide)) ?_
        clear hK K
        try simp only [Act.put, List.setIfInBounds_toArray, List.set_cons_zero, List.set_cons_succ]
        refine E_done (by kernel_rfl) (NoPanic.normal ?_)
        go_wp2_with fail
        have hEq : putB (l.take (i + 1)) = L ++ [UInt8.ofNat x.nm.size] ++ x.nm.data.toList ++ le16 x.num ++ [UInt8.ofNat x.kind] := by
          rw [htk.out, putB_snoc, hL]; simp [entB]
        have hL2l : (L ++ [UInt8.ofNat x.nm.size] ++ x.nm.data.toList).length ≤ 40000 := by simp only [List.length_append, List.length_cons, List.length_nil, length_toList]; omega
        replace hEq := Lib.hid hEq
        have hEq := hEq.out
        clear hap hap2 s2 s3 sb hS0 hL
        generalize L ++ [UInt8.ofNat x.nm.size] ++ x.nm.data.toList = L2 at *
        generalize Value.slice A6 (L.length + 1 + x.nm.size) c6 = v6 at *
        replace hEq := Lib.hid hEq
        have hp5 := hp4.next (Only.refl (fun _ => False) w4).drew
        have hb5 : Blk w4.drew g6 63 #[.string x.nm, .int .u16 x.num, .int .u8 x.kind] := hb64.drew
        have hne := hp4.apart hb64 (by decide)
        have hlt4 := fun g (e : v6.ownBlock = some g) => hp5.lt e
        clear hp4 hb64
        generalize hw4 : w4.drew = w4' at *
        replace hw4 := Lib.hid hw4
        have t0 : w4'.cell? ⟨g6, 1, none⟩ = some (.int .u16 x.num) ∧ w4'.cell? ⟨g6, 2, none⟩ = some (.int .u8 x.kind) := ⟨hb5.cell 1, hb5.cell 2⟩
        refine wp_region_noPanic ?_
        refine wp_region_E 8 (fun W => W.cell? ⟨g6, 1, none⟩ = some (.int .u16 x.num) ∧ W.cell? ⟨g6, 2, none⟩ = some (.int .u8 x.kind)) (by kernel_rfl) ?_
        rw [hw4.out]
        refine E_take (v := ?u0) 0 rfl (by kernel_rfl) (by kernel_rfl) (by kernel_rfl) (by kernel_rfl) (by kernel_rfl) (by kernel_rfl) (fun _ _ _ h => h) rfl t0 ?uh0 ?_
        case uh0 => intro W hW; obtain ⟨s1, s2⟩ := hW; go_simp; try with_reducible rfl
        simp only [Act.put, List.setIfInBounds_toArray, List.set_cons_zero, List.set_cons_succ]
        refine E_take (v := ?u1) 1 rfl (by kernel_rfl) (by kernel_rfl) (by kernel_rfl) (by kernel_rfl) (by kernel_rfl) (by kernel_rfl) (fun _ _ _ h => h) rfl t0 ?uh1 ?_
        case uh1 => intro W hW; obtain ⟨s1, s2⟩ := hW; go_simp; try with_reducible rfl
        simp only [Act.put, List.setIfInBounds_toArray, List.set_cons_zero, List.set_cons_succ]
        refine E_take (v := ?u2) 2 rfl (by kernel_rfl) (by kernel_rfl) (by kernel_rfl) (by kernel_rfl) (by kernel_rfl) (by kernel_rfl) (fun _ _ _ h => h) rfl t0 ?uh2 ?_
        case uh2 => intro W hW; obtain ⟨s1, s2⟩ := hW; go_simp; try with_reducible rfl
        simp only [Act.put, List.setIfInBounds_toArray, List.set_cons_zero, List.set_cons_succ]
        refine E_take (v := ?u4) 4 rfl (by kernel_rfl) (by kernel_rfl) (by kernel_rfl) (by kernel_rfl) (by kernel_rfl) (by kernel_rfl) (fun _ _ _ h => h) rfl t0 ?uh4 ?_
        case uh4 => intro W hW; obtain ⟨s1, s2⟩ := hW; go_simp; try with_reducible rfl
        simp only [Act.put, List.setIfInBounds_toArray, List.set_cons_zero, List.set_cons_succ]
        refine E_take (v := ?u5) 5 rfl (by kernel_rfl) (by kernel_rfl) (by kernel_rfl) (by kernel_rfl) (by kernel_rfl) (by kernel_rfl) (fun _ _ _ h => h) rfl t0 ?uh5 ?_
        case uh5 => intro W hW; obtain ⟨s1, s2⟩ := hW; go_simp; try with_reducible rfl
        simp only [Act.put, List.setIfInBounds_toArray, List.set_cons_zero, List.set_cons_succ]
        refine E_two 3 6 (by kernel_rfl) rfl rfl (fun K hK => ?_) (fun K hK => ?_)
        · go_simp
          refine (u16_any w1 L2 v6 w4' hp5 (by omega) x.num (by omega)).mono ?_
          rintro r w5 ⟨A7, c7, rfl, hp7, ho7⟩
          have hb7 := hb5.only ho7 hne
          refine hK.out _ _ (fun _ => ⟨hb7.cell 1, hb7.cell 2⟩) ?_
          clear hK K
          try simp only [Act.put, List.setIfInBounds_toArray, List.set_cons_zero, List.set_cons_succ]
          have hq := Blk.new w5 5 #[.int .u8 ((UInt8.ofNat x.kind).toNat : Int)]
          have oc := (Only.refl (fun _ => False) w5).alloc (.cells #[.int .u8 ((UInt8.ofNat x.kind).toNat : Int)] 5)
          have hb8 := hb7.only oc (fun x => x)
          obtain ⟨A8, c8, w6, hap8, hp8, ho8, _⟩ := hp7.one oc (by rw [List.length_append]; simp only [le16, List.length_cons, List.length_nil]; omega) w5.heap.size (UInt8.ofNat x.kind) hq
          have hb9 := hb8.only ho8 ((hp7.next oc).apart hb8 (by decide))
          rw [u8n _ (by omega)] at hap8 hb8
          refine E_one 6 (by kernel_rfl) rfl (fun K hK => ?_)
          go_simp
          refine hK.out _ _ (fun _ => ⟨hb8.cell 1, hb8.cell 2⟩) ?_
          clear hK K
          try simp only [Act.put, List.setIfInBounds_toArray, List.set_cons_zero, List.set_cons_succ]
          refine E_one 7 (by kernel_rfl) rfl (fun K hK => ?_)
          refine step_append_eq1 rfl (.tmp 29) (.tmp 32) 67 rfl _ _ _ w6 (by simp [Act.eval]) (by simp [Act.eval]) hap8 ?_
          refine hK.out _ _ (fun _ => ⟨hb9.cell 1, hb9.cell 2⟩) ?_
          clear hK K
          try simp only [Act.put, List.setIfInBounds_toArray, List.set_cons_zero, List.set_cons_succ]
          refine E_one 8 (by kernel_rfl) rfl (fun K hK => ?_)
          go_simp
          refine hK.out _ _ (fun h => absurd h (by decide)) ?_
          clear hK K
          try simp only [Act.put, List.setIfInBounds_toArray, List.set_cons_zero, List.set_cons_succ]
          refine E_done (by kernel_rfl) (NoPanic.normal ?_)
          have hpN := hp8
          rw [← hEq.out] at hpN
          rw [List.length_append] at hpN
          replace hpN := Lib.hid hpN
          clear hp8 hp7
          go_wp2
          go_roundw
          case rel => exact ⟨i + 1, by go_num, by omega, hpN.out⟩
          case measure => simp [intOf]; omega
        · have hq := Blk.new w4' 5 #[.int .u8 ((UInt8.ofNat x.kind).toNat : Int)]
          have oc := (Only.refl (fun _ => False) w4').alloc (.cells #[.int .u8 ((UInt8.ofNat x.kind).toNat : Int)] 5)
          have hb7 := hb5.only oc (fun x => x)
          have hp6 := hp5.next oc
          have hk2 : ((UInt8.ofNat x.kind).toNat : Int) = (x.kind : Int) := u8n _ (by omega)
          rw [hk2] at hb7 hp6 hq
          go_simp
          refine hK.out _ _ (fun _ => ⟨hb7.cell 1, hb7.cell 2⟩) ?_
          clear hK K
          try simp only [Act.put, List.setIfInBounds_toArray, List.set_cons_zero, List.set_cons_succ]
          refine E_one 3 (by kernel_rfl) rfl (fun K hK => ?_)
          go_simp
          refine (u16_any w1 L2 v6 _ hp6 (by omega) x.num (by omega)).mono ?_
          rintro r w5 ⟨A7, c7, rfl, hp7, ho7⟩
          have hb8 := hb7.only ho7 hne
          have hq5 := hq.only ho7 (fun e => by have := hlt4 _ e; omega)
          rw [← hk2] at hq5
          refine hK.out _ _ (fun _ => ⟨hb8.cell 1, hb8.cell 2⟩) ?_
          clear hK K
          try simp only [Act.put, List.setIfInBounds_toArray, List.set_cons_zero, List.set_cons_succ]
          obtain ⟨A8, c8, w6, hap8, hp8, ho8, _⟩ := hp7.one (Only.refl _ _) (by rw [List.length_append]; simp only [le16, List.length_cons, List.length_nil]; omega) w4'.heap.size (UInt8.ofNat x.kind) hq5
          have hb9 := hb8.only ho8 (hp7.apart hb8 (by decide))
          refine E_one 7 (by kernel_rfl) rfl (fun K hK => ?_)
          refine step_append_eq1 rfl (.tmp 29) (.tmp 32) 67 rfl _ _ _ w6 (by simp [Act.eval]) (by simp [Act.eval]) hap8 ?_
          refine hK.out _ _ (fun _ => ⟨hb9.cell 1, hb9.cell 2⟩) ?_
          clear hK K
          try simp only [Act.put, List.setIfInBounds_toArray, List.set_cons_zero, List.set_cons_succ]
          refine E_one 8 (by kernel_rfl) rfl (fun K hK => ?_)
          go_simp
          refine hK.out _ _ (fun h => absurd h (by decide)) ?_
          clear hK K
          try simp only [Act.put, List.setIfInBounds_toArray, List.set_cons_zero, List.set_cons_succ]
          refine E_done (by kernel_rfl) (NoPanic.normal ?_)
          have hpN := hp8
          rw [← hEq.out] at hpN
          rw [List.length_append] at hpN
          replace hpN := Lib.hid hpN
          clear hp8 hp7
          go_wp2
          go_roundw
          case rel => exact ⟨i + 1, by go_num, by omega, hpN.out⟩
          case measure => simp [intOf]; omega
      · obtain rfl : i = l.length := by omega
        rw [List.take_length] at hp hrow ⊢
        have ho := ho1.trans hp.only
        clear hp hpl hsz hmay
        generalize putB l = L at *
        go_wp2
        go_ret2
        exact ⟨A4, c4, by rw [hput.out]; rfl, by rw [hput.out]; exact hrow, ho⟩
  · have hput : putS l = ([], 5) := by unfold putS; rw [if_neg ha]
    replace ha : areS l = false := by simpa using ha
    rw [ha]
    replace hput := Lib.hid hput
    go_wp2
    go_ret2
    exact ⟨none, 0, by rw [hput.out]; rfl, by rw [hput.out]; exact RowB.nil w1, ho1⟩
end Go.Proofs.Ytnclappdokhciaa
