/-
  One leaf is asked for (Shelf.Leaf, func 32; content.leaf, func 15); what may be asked (content.may, func 13).
-/
import Derived.Test.YtpkadhgoaaphkaaSh
import Derived.Laws.MakeOwn
import Derived.Laws.CopyOwn
import Derived.Maps.AppendAt
import Derived.WalkSpells
import Derived.WalkLawsBesides
import Derived.Deep.QuietTactic
namespace Go.Proofs.Ytpkadhgoaaphkaa
open Go Go.RowKit
set_option linter.unusedVariables false
def isBad (bad off : Nat) : Bool := bits BinOp.and IntKind.u64 ((bad : Int) / 2 ^ off) 1 == 1
theorem isBad_zero (off : Nat) : isBad 0 off = false := by
  unfold isBad
  rw [show (((0 : Nat) : Int) / 2 ^ off) = 0 from Int.zero_ediv _]
  kernel_rfl
theorem und31 : Try.prog.underlying 31 = some (.slice 34) := by kernel_rfl
theorem info34k : (Try.prog.info? 34).map (fun i => (i.zero, i.size, i.bytes)) = some (some (.int .u32 0), 1, 4) := by kernel_rfl
theorem info_of {t : TypeId} {z : Value} {size bytes : Nat} (h : (Try.prog.info? t).map (fun i => (i.zero, i.size, i.bytes)) = some (some z, size, bytes)) : ∃ i, Try.prog.info? t = some i ∧ i.zero = some z ∧ i.size = size ∧ i.bytes = bytes := by
  cases hi : Try.prog.info? t with
  | none => rw [hi] at h; cases h
  | some i => rw [hi] at h; simp only [Option.map_some, Option.some.injEq, Prod.mk.injEq] at h; exact ⟨i, rfl, h.1, h.2.1, h.2.2⟩
/-- One number is appended to what was asked. -/
theorem ask_app {B g : Nat} {v : Nat → Value} {m : Nat → List UInt8} {bad : Nat} {va : Value} {ask : List Nat} {w : World} (h : Sh B g v m bad va ask w) (hB : B ≤ w.heap.size) (off : Nat) (hl : ask.length ≤ 1000000) :
    ∃ va' w', (Builtin.append_ #[31, 31] 31 #[va, .slice (some ⟨w.heap.size, 0, none⟩) 1 1]).run Try.prog (w.alloc (.cells #[.int .u32 (off : Int)] 34)) = .ok va' w' ∧
      w'.ownsRow B 34 1 va' (ask ++ [off]).length (u32s (ask ++ [off])) ∧ (w.alloc (.cells #[.int .u32 (off : Int)] 34)).grownBy w' va.ownBlock ∧ (va'.ownBlock = va.ownBlock ∨ va'.ownBlock = some (w.heap.size + 1)) := by
  obtain ⟨i, hi, hi0, hi1, hi2⟩ := info_of info34k
  have oa := (Only.refl (fun _ => False) w).alloc (.cells #[.int .u32 (off : Int)] 34)
  have hb := Blk.new w 34 #[.int .u32 (off : Int)]
  obtain ⟨v', w', hr, hown, hg, _, hblk⟩ := run_append_own_at (P := Try.prog) (w.alloc (.cells #[.int .u32 (off : Int)] 34)) B 31 31 34 i (.int .u32 0) 1 4 und31 hi hi0 hi1 hi2 rfl (by omega) va ask.length (u32s ask) (row_keep h.ak oa (fun _ _ x => x)) ⟨w.heap.size, 0, none⟩ 1 1 [.int .u32 (off : Int)] (by simp)
    (fun j u hu => by
      rw [add_lit]
      match j, hu with
      | 0, hu => cases hu; exact hb.cell 0
      | j + 1, hu => simp at hu) (fun u hu => by cases List.mem_singleton.1 hu; rfl) (by unfold maxLen; omega) (by omega) (by simp; omega)
  refine ⟨v', w', hr, ?_, hg, by simpa using hblk⟩
  rw [List.length_append, List.length_singleton]
  unfold u32s at hown ⊢
  rw [List.map_append]
  exact hown
theorem Sh.slice {B g : Nat} {v : Nat → Value} {m : Nat → List UInt8} {bad : Nat} {va : Value} {ask : List Nat} {w : World} (h : Sh B g v m bad va ask w) {k : Nat} (hk : k < 64) : ∃ A c, v k = .slice A (m k).length c ∧ Reads w w.heap.size A (m k).length (Lib.byteCells (m k)) ∧ (m k).length ≤ c := by
  have h1 := h.lv k hk
  rcases h1.2 with ⟨e1, e2⟩ | ⟨q, cap, cur, e1, hb, hh, hc, rest⟩
  · rw [e2] at h1 ⊢
    exact ⟨none, 0, e1, ⟨by simpa [Lib.byteCells_length] using e2, fun x => by omega⟩, Nat.le_refl _⟩
  · rw [e1] at h1
    exact ⟨_, cap, e1, Reads.of_own h1, hc⟩
/-- What is none of the shelf's own two blocks lies as it lay, and is none of them. -/
def Lk (va : Value) (g : Nat) (w : World) (va' : Value) (w' : World) : Prop := ∀ q, q < w.heap.size → q ≠ g → va.ownBlock ≠ some q → w'.heap[q]? = w.heap[q]? ∧ va'.ownBlock ≠ some q
theorem Lk.only {va va' : Value} {g : Nat} {w w1 w2 : World} (h : Lk va g w va' w1) (hz : w.heap.size ≤ w1.heap.size) (ho : Only (fun k => w1.heap.size ≤ k) w1 w2) : Lk va g w va' w2 := fun q h1 h2 h3 =>
  ⟨(ho.block q (by omega) (by omega)).trans (h q h1 h2 h3).1, (h q h1 h2 h3).2⟩
/-- The shelf behind one more question. -/
theorem Sh.asked {B g : Nat} {v : Nat → Value} {m : Nat → List UInt8} {bad : Nat} {va va' : Value} {ask ask' : List Nat} {w w1 : World} (h : Sh B g v m bad va ask w) (hg : w.grownBy w1 va.ownBlock) (hown : w1.ownsRow B 34 1 va' ask'.length (u32s ask')) (hX : ∀ X, v 64 = .pointer (some ⟨X, 0, none⟩) → va'.ownBlock ≠ some X) :
    Sh B g v m bad va' ask' (w1.setCell ⟨g, 65, none⟩ va') ∧ Turn B w (w1.setCell ⟨g, 65, none⟩ va') ∧ w1.cell? ⟨g, 65, none⟩ = some va ∧ w1.frozen? ⟨g, 65, none⟩ = false := by
  have ho : Only (fun k => va.ownBlock = some k) w w1 := Only.of_grown_own hg (fun g e => e)
  have hne := row_ne h.ak h.ty (by decide)
  have tb1 := h.tb.only ho hne
  have os := (Only.refl (fun k => k = g) w1).setCell (p := ⟨g, 65, none⟩) (.inl rfl) va'
  have hne' := row_ne hown (g := g) (t := 33) ⟨_, _, tb1⟩ (by decide)
  refine ⟨⟨?_, fun k hk => ?_, h.sz, row_keep hown os (fun k hk e => hne' (by rw [hk, e])), h.gB, h.bd, fun X hx => ⟨((h.xb X hx).1.only ho (h.xb X hx).2).only os (fun e => by subst e; have := (h.xb _ hx).1.ty.one h.ty; cases this), hX X hx⟩⟩, ?_, ?_, tb1.frozen 65⟩
  · refine (tb1.set_ 65 va').congr fun i hi => ?_
    unfold put shf
    split
    · rename_i e; subst e; rfl
    · by_cases h1 : i < 64
      · rw [if_pos h1, if_pos h1]
      · rw [if_neg h1, if_neg h1]
        by_cases h2 : i = 64
        · rw [if_pos h2, if_pos h2]
        · omega
  · have h1 := h.lv k hk
    have hn1 : ∀ q, (v k).ownBlock = some q → ¬ va.ownBlock = some q := fun q e1 e2 => by
      have a := (row_lt' h1 q e1).2.2
      have b := (row_lt' h.ak q e2).2.2
      exact absurd (a.one b) (by decide)
    have hn2 := row_ne h1 h.ty (by decide)
    exact row_keep (row_keep h1 ho hn1) os (fun q hq e => hn2 (by rw [hq, e]))
  · have h1 : Turn B w w1 := ho.mono fun k hk e => by
      have := row_lt' h.ak k e
      exact ⟨this.1, .inr this.2.2⟩
    exact h1.setCell (.inl ⟨h.gB, .inl h.ty⟩) va'
  · rw [tb1.cell 65 (by omega)]; rfl
set_option maxRecDepth 20000 in
set_option maxHeartbeats 8000000 in
theorem leafS_any (B g : Nat) (v : Nat → Value) (m : Nat → List UInt8) (bad : Nat) (va : Value) (ask : List Nat) (off : Nat) (w : World) (h : Sh B g v m bad va ask w) (hB : B ≤ w.heap.size) (ho : off < 64) (hl : ask.length ≤ 1000000) :
    Calls Try.prog 32 #[.pointer (some ⟨g, 0, none⟩), .int .u32 off] w fun r w' => r = .returned (.tuple #[if isBad bad off = true then .slice none 0 0 else v off, .int .i64 (if isBad bad off = true then 21 else 0)]) ∧ (∃ va', Sh B g v m bad va' (ask ++ [off]) w' ∧ Lk va g w va' w') ∧ Turn B w w' := by
  have c65 : w.cell? ⟨g, 65, none⟩ = some va := by rw [h.tb.cell 65 (by omega)]; rfl
  have hf65 := h.tb.frozen 65
  obtain ⟨va', w1, hr, hown, hgr, hblk⟩ := ask_app h hB off hl
  have oa := (Only.refl (fun _ => False) w).alloc (.cells #[.int .u32 (off : Int)] 34)
  obtain ⟨hS, hT, d65, df65⟩ := (h.only oa).asked hgr hown (fun X hx e => by
    rcases hblk with hb | hb
    · rw [hb] at e; exact (h.xb X hx).2 e
    · rw [hb] at e; cases e; have := (h.xb _ hx).1.lt; omega)
  have e64 : (w1.setCell ⟨g, 65, none⟩ va').cell? ⟨g, 64, none⟩ = some (.int .u64 bad) := by rw [hS.tb.cell 64 (by omega)]; rfl
  have eoff : (w1.setCell ⟨g, 65, none⟩ va').cell? ⟨g, off, none⟩ = some (v off) := by rw [hS.tb.cell off (by omega)]; unfold shf; rw [if_pos ho]
  obtain ⟨A, c, ev, _, _⟩ := h.slice ho
  have hT2 := (Turn.of oa).trans hT
  rw [ev] at eoff ⊢
  have hlk : Lk va g w va' (w1.setCell ⟨g, 65, none⟩ va') := fun q h1 h2 h3 => by
    refine ⟨(Below.heap_setCell w1 ⟨g, 65, none⟩ va' q h2).trans ((hgr.block q (by simp; omega) (fun e => h3 e.symm)).trans (Below.heap_alloc w _ q h1)), fun e => ?_⟩
    rcases hblk with hb | hb
    · rw [hb] at e; exact h3 e
    · rw [hb] at e; cases e; omega
  have hfin : (∃ va'', Sh B g v m bad va'' (ask ++ [off]) (w1.setCell ⟨g, 65, none⟩ va') ∧ Lk va g w va'' (w1.setCell ⟨g, 65, none⟩ va')) ∧ Turn B w (w1.setCell ⟨g, 65, none⟩ va') := ⟨⟨va', hS, hlk⟩, hT2⟩
  have hown2 := hown
  rw [List.length_append, List.length_singleton] at hown2
  obtain ⟨q, cap, eq⟩ := ownsRow_succ hown2
  have hbd := h.bd
  clear hown hown2 hgr oa hS hT hT2 h ev hlk hblk
  subst eq
  replace hfin := Lib.hid hfin
  replace hr := Lib.hid hr
  have i0 : ¬ (64 : Int) ≤ (off : Int) := by omega
  have i1 : (0 : Int) ≤ (off : Int) := by omega
  have i2 : (off : Int) < 64 := by omega
  cases hb : isBad bad off with
  | true =>
    have hb2 : (bits BinOp.and IntKind.u64 ((bad : Int) / 2 ^ off) 1 == 1) = true := hb
    clear hb
    go_enter Try.func32, Try.ntmps32
    go_wp2_with (at_builtin; refine wpList_append_eq1 rfl (.tmp 10) (.tmp 12) 31 rfl _ _ _ _ (by rfl) (by rfl) hr.out ?_)
    go_ret2
    exact ⟨rfl, hfin.out⟩
  | false =>
    have hb2 : (bits BinOp.and IntKind.u64 ((bad : Int) / 2 ^ off) 1 == 1) = false := hb
    clear hb
    go_enter Try.func32, Try.ntmps32
    go_wp2_with (at_builtin; refine wpList_append_eq1 rfl (.tmp 10) (.tmp 12) 31 rfl _ _ _ _ (by rfl) (by rfl) hr.out ?_)
    go_ret2
    exact ⟨rfl, hfin.out⟩

/-! A row of bytes of one's own. -/
def Z512 : List UInt8 := List.replicate 512 0
theorem Z512_len : Z512.length = 512 := List.length_replicate
/-- A block of bytes. -/
def BB (w : World) (q : Nat) (l : List UInt8) : Prop := Blk w q 5 (Lib.byteCells l).toArray
theorem made_rep (z : Value) (n : Nat) : madeCells #[z] n = (List.replicate n z).toArray := by
  refine Array.ext (by simp [size_madeCells]) fun i h1 h2 => ?_
  simp [madeCells, Nat.mod_one]
theorem made512 : madeCells #[Value.int .u8 0] 512 = (Lib.byteCells Z512).toArray := by
  rw [made_rep]
  unfold Lib.byteCells Z512
  rw [List.map_replicate]
  rfl
theorem und24 : Try.prog.underlying 24 = some (.slice 5) := by kernel_rfl
theorem info5k : (Try.prog.info? 5).map (fun i => (i.zero, i.size, i.bytes)) = some (some (.int .u8 0), 1, 1) := by kernel_rfl
theorem size5 : (Try.prog.info? 5).map (·.size) = some 1 := by kernel_rfl
theorem make512 (w : World) : (Instr.makeSlice 24 (.int .i64 512) (.int .i64 512)).run Try.prog w = .ok (.slice (some ⟨w.heap.size, 0, none⟩) 512 512) (w.alloc (.cells (Lib.byteCells Z512).toArray 5)) := by
  obtain ⟨i, hi, hi0, hi1, hi2⟩ := info_of info5k
  have := run_make (P := Try.prog) w 24 5 i (.int .u8 0) und24 hi hi0 .i64 .i64 512 512 (by omega) (by omega) (by rw [hi2]; omega) (by omega)
  rw [this, hi1]
  rw [show ((512 : Int).toNat * 1) = 512 from rfl, show (Value.int .u8 0).cells = #[Value.int .u8 0] from rfl, made512]
  rfl
theorem bytes_one (l : List UInt8) : ∀ u ∈ Lib.byteCells l, u.oneCell' = true := fun u hu => by
  obtain ⟨b, _, rfl⟩ := List.mem_map.1 hu
  rfl
theorem BB.new (w : World) (l : List UInt8) : BB (w.alloc (.cells (Lib.byteCells l).toArray 5)) w.heap.size l := Blk.new _ _ _
theorem BB.reads {w : World} {q : Nat} {l : List UInt8} (h : BB w q l) : Reads w w.heap.size (some ⟨q, 0, none⟩) l.length (Lib.byteCells l) :=
  ⟨Lib.byteCells_length l, fun _ => ⟨q, 0, rfl, Blk.lt h, fun j u hu => by rw [Nat.zero_add, Blk.cell h, List.getElem?_toArray]; exact hu⟩⟩
/-- copy(row[o:..], src), into a row of one's own. -/
theorem run_copy_b {w : World} {q o dLen dCap sLen sCap n : Nat} {cur src : List UInt8} {A : Option Addr} (ty : TypeId) (h : BB w q cur) (hs : Reads w w.heap.size A sLen (Lib.byteCells src)) (hn : n = min sLen dLen) (hfit : o + n ≤ cur.length) :
    ∃ w', (Builtin.copy_ #[24, 24] ty #[.slice (some ⟨q, o, none⟩) dLen dCap, .slice A sLen sCap]).run Try.prog w = .ok (.int .i64 n) w' ∧ BB w' q (cur.take o ++ src.take n ++ cur.drop (o + n)) ∧ Only (fun k => k = q) w w' := by
  have hsl : src.length = sLen := by have := hs.1; rwa [Lib.byteCells_length] at this
  by_cases h0 : n = 0
  · subst h0
    have hrun := run_copy_none (P := Try.prog) w 24 24 ty 5 (some ⟨q, o, none⟩) A dLen dCap sLen sCap und24 size5 hn.symm
    refine ⟨w, hrun, ?_, Only.refl _ _⟩
    rw [List.take_zero, List.append_nil, Nat.add_zero, List.take_append_drop]
    exact h
  · obtain ⟨b, off, rfl, hb, hc⟩ := hs.2 (by omega)
    have hln : (Lib.byteCells (src.take n)).length = n := by rw [Lib.byteCells_length, List.length_take]; omega
    have hl : (Lib.byteCells (src.take n)).length = Nat.min sLen dLen := hln.trans hn
    have hrun := run_copy_row (P := Try.prog) w 24 24 ty 5 q o dLen dCap ⟨b, off, none⟩ sLen sCap (Lib.byteCells cur).toArray 5 (Lib.byteCells (src.take n)) und24 size5 h hl
      (fun j v hv => by
        rw [add_lit]
        refine hc j v ?_
        unfold Lib.byteCells at hv ⊢
        rw [List.map_take, List.getElem?_take] at hv
        split at hv
        · exact hv
        · cases hv)
      (by rw [hln]; simp only [List.size_toArray, Lib.byteCells_length]; exact hfit) (bytes_one _)
    rw [hln] at hrun
    refine ⟨_, hrun, ?_, ?_⟩
    · have hset := setRow_heap w q (Lib.byteCells cur).toArray ((Lib.byteCells cur).take o ++ Lib.byteCells (src.take n) ++ (Lib.byteCells cur).drop (o + n)).toArray 5 (0, 0) h
      have e : Lib.byteCells (cur.take o ++ src.take n ++ cur.drop (o + n)) = (Lib.byteCells cur).take o ++ Lib.byteCells (src.take n) ++ (Lib.byteCells cur).drop (o + n) := by
        unfold Lib.byteCells
        rw [List.map_append, List.map_append, List.map_take, List.map_drop]
      unfold BB Blk
      rw [e]
      exact hset
    · exact ⟨rfl, rfl, rfl, by simp [World.setRow], fun k hk hne => setRow_other w q k _ hne⟩
theorem wpList_copy_eq1 {P : Program} {w : World} {ops : Array Oper} {rest : List Oper} {o : Oper} {a : Act} {Q : Exit → Act → World → Prop}
    (hgd : o.guard = none) (s x : Operand) (t : TypeId) (ho : o.op = .call { callee := .builtin .copy, args := #[s, x], argTypes := #[t, t] }) (vs vx v' : Value) (w' : World)
    (hs : a.eval s = vs) (hx : a.eval x = vx) (hr : (Builtin.copy_ #[t, t] o.type #[vs, vx]).run P w = .ok v' w') (h : wpList P ops Q rest (a.put o.dst v') w') : wpList P ops Q (o :: rest) a w :=
  wpList_plain hgd fun _ hK => by
    unfold Oper.wp execOp
    simp only [ho, resolve, invoke, builtin, Sem.run_bind, Sem.run_pure, Result.andThen_ok, List.map_toArray, List.map_cons, List.map_nil, hs, hx, hr]
    exact hK _ _ h
/-- A leaf's bytes; of a hole noughts. -/
def leafB (m : Nat → List UInt8) (k : Nat) : List UInt8 := if (m k).length = 0 then Z512 else m k
def leafPost (B g : Nat) (v : Nat → Value) (m : Nat → List UInt8) (bad : Nat) (va : Value) (ask : List Nat) (off : Nat) (w : World) (r : Ending) (w' : World) : Prop :=
  ∃ q, r = .returned (.tuple #[.slice (some ⟨q, 0, none⟩) 512 512, .bool (if isBad bad off = true then false else decide (0 < (m off).length)), .int .i64 (if isBad bad off = true then 21 else 0)]) ∧
    BB w' q (if isBad bad off = true then Z512 else leafB m off) ∧ w.heap.size ≤ q ∧ (∃ va', Sh B g v m bad va' (ask ++ [off]) w' ∧ Lk va g w va' w') ∧ Turn B w w'
set_option maxRecDepth 20000 in
set_option maxHeartbeats 8000000 in
theorem leaf_any (B g : Nat) (v : Nat → Value) (m : Nat → List UInt8) (bad : Nat) (va : Value) (ask : List Nat) (off : Nat) (w : World) (h : Sh B g v m bad va ask w) (hB : B ≤ w.heap.size) (ho : off < 64) (hl : ask.length ≤ 1000000) :
    Calls Try.prog 15 #[.iface 29 (.pointer (some ⟨g, 0, none⟩)), .int .u32 off] w fun r w' => leafPost B g v m bad va ask off w r w' := by
  have hL := leafS_any B g v m bad va ask off w h hB ho hl
  unfold leafPost
  obtain ⟨A, c, ev, hrd, hc⟩ := h.slice ho
  have hsz := h.sz off ho
  rw [ev] at hL
  have hmk := make512
  cases hb : isBad bad off with
  | true =>
    rw [hb] at hL
    simp only [if_true] at hL
    replace hL := Lib.hid hL
    replace hmk := hmk
    clear hb hrd ev h
    go_enter Try.func15, Try.ntmps15
    go_wp2_with fail
    refine hL.out.mono ?_
    rintro r w1 ⟨rfl, ⟨va', hS, hlk⟩, hT⟩
    have hz := BB.new w1 Z512
    have oa := (Only.refl (fun _ => False) w1).alloc (.cells (Lib.byteCells Z512).toArray 5)
    obtain ⟨w2, hcp, hq, ho2⟩ := run_copy_b (o := 0) (dLen := 512) (dCap := 512) (sLen := 0) (sCap := 0) (n := 0) (src := []) (A := none) 3 hz (Reads.nil_ _ _ _) rfl (by rw [Z512_len]; omega)
    have hT2 := (hT.only oa).new (ho2.mono fun k hk e => by subst e; exact hT.size)
    have hS2 := (hS.only oa).keep ho2 (by have := hS.lt; omega) (fun k hk => by have := (row_lt' hS.ak k hk).2.1; omega) (fun i k hi hk => by have := (row_lt' (hS.lv i hi) k hk).2.1; omega) (fun X _ hx => by have := (hS.xb X hx).1.lt; omega)
    have hsz1 := hT.size
    rw [List.take_zero, List.take_nil, List.nil_append, List.nil_append, Nat.add_zero, List.drop_zero] at hq
    have hfin : BB w2 w1.heap.size Z512 ∧ w.heap.size ≤ w1.heap.size ∧ (∃ va', Sh B g v m bad va' (ask ++ [off]) w2 ∧ Lk va g w va' w2) ∧ Turn B w w2 := ⟨hq, hsz1, ⟨va', hS2, hlk.only hT.size ((oa.mono fun k _ x => x.elim).trans_of ho2 (fun k hk e => by subst e; exact Nat.le_refl _))⟩, hT2⟩
    replace hfin := Lib.hid hfin
    replace hcp := Lib.hid hcp
    clear hL hz oa hq ho2 hT2 hS2 hsz1 hS hT hlk 
    go_wp2_with (refine wpList_copy_eq1 rfl (.tmp 17) (.tmp 18) 24 rfl _ _ _ _ (by rfl) (by rfl) hcp.out ?_)
    go_ret3
    exact ⟨_, rfl, hfin.out⟩
  | false =>
    rw [hb] at hL
    simp only [Bool.false_eq_true, if_false] at hL
    replace hL := Lib.hid hL
    clear hb hrd h
    go_enter Try.func15, Try.ntmps15
    go_wp2_with fail
    refine hL.out.mono ?_
    rintro r w1 ⟨rfl, ⟨va', hS, hlk⟩, hT⟩
    have hrd1 := (hS.slice ho)
    obtain ⟨A', c', ev', hrd1, _⟩ := hrd1
    rw [ev] at ev'
    cases ev'
    have hz := BB.new w1 Z512
    have oa := (Only.refl (fun _ => False) w1).alloc (.cells (Lib.byteCells Z512).toArray 5)
    have hrd2 := (hrd1.only (Nat.le_refl _) oa (fun _ _ x => x)).more oa.size
    obtain ⟨w2, hcp, hq, ho2⟩ := run_copy_b (o := 0) (dLen := 512) (dCap := 512) (sLen := (m off).length) (sCap := c) (n := (m off).length) (src := (m off)) (A := A) 3 hz hrd2 (by omega) (by rw [Z512_len]; omega)
    have hT2 := (hT.only oa).new (ho2.mono fun k hk e => by subst e; exact hT.size)
    have hS2 := (hS.only oa).keep ho2 (by have := hS.lt; omega) (fun k hk => by have := (row_lt' hS.ak k hk).2.1; omega) (fun i k hi hk => by have := (row_lt' (hS.lv i hi) k hk).2.1; omega) (fun X _ hx => by have := (hS.xb X hx).1.lt; omega)
    have hsz1 := hT.size
    have el : Z512.take 0 ++ (m off).take (m off).length ++ Z512.drop (0 + (m off).length) = leafB m off := by
      rw [List.take_zero, List.nil_append, List.take_length, Nat.zero_add]
      unfold leafB
      split
      · rename_i h0
        rw [h0, List.drop_zero, List.eq_nil_of_length_eq_zero h0, List.nil_append]
      · rw [List.drop_eq_nil_of_le (by rw [Z512_len]; omega), List.append_nil]
    rw [el] at hq
    have hfin : BB w2 w1.heap.size (leafB m off) ∧ w.heap.size ≤ w1.heap.size ∧ (∃ va', Sh B g v m bad va' (ask ++ [off]) w2 ∧ Lk va g w va' w2) ∧ Turn B w w2 := ⟨hq, hsz1, ⟨va', hS2, hlk.only hT.size ((oa.mono fun k _ x => x.elim).trans_of ho2 (fun k hk e => by subst e; exact Nat.le_refl _))⟩, hT2⟩
    replace hfin := Lib.hid hfin
    replace hcp := Lib.hid hcp
    clear hL hz oa hq ho2 hT2 hS2 hsz1 hS hT hlk el hrd2 hrd1 ev
    go_wp2_with (refine wpList_copy_eq1 rfl (.tmp 17) (.tmp 18) 24 rfl _ _ _ _ (by rfl) (by rfl) hcp.out ?_)
    go_ret3
    exact ⟨_, rfl, hfin.out⟩
end Go.Proofs.Ytpkadhgoaaphkaa
