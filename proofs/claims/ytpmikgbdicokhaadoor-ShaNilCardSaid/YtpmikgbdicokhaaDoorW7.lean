import Derived.Test.YtpmikgbdicokhaaDoorW6
import Derived.Deep.WholeRow
import Derived.WalkKit
import Derived.WalkLawsBesides
import Derived.WalkSpells
import Derived.BigQuiet
import Derived.BigRegion
import Derived.Deep.QuietTactic
import Derived.Deep.RegionHeld3
import Derived.StillTailTactics
import Derived.Deep.LoopGhost
import Derived.Outline
import Derived.Lib.Hide
namespace Go.Proofs.YtpmikgbdicokhaaDoor
open Go.RowKit
set_option linter.unusedVariables false

/-- A number's bytes, the highest first. -/
def len8 (v : Nat) : List Nat := [v / 72057594037927936 % 256, v / 281474976710656 % 256, v / 1099511627776 % 256, v / 4294967296 % 256, v / 16777216 % 256, v / 65536 % 256, v / 256 % 256, v % 256]
theorem len8_take (v : Nat) {j : Nat} (hj : j < 8) : (len8 v).take (j + 1) = (len8 v).take j ++ [v / 2 ^ (56 - 8 * j) % 256] := by
  match j, hj with
  | 0, _ | 1, _ | 2, _ | 3, _ | 4, _ | 5, _ | 6, _ | 7, _ => simp [len8]
theorem len8_lt (v : Nat) : ∀ x ∈ len8 v, x < 256 := by
  intro x hx
  simp only [len8, List.mem_cons, List.not_mem_nil, or_false] at hx
  omega
/-- The message filled up. -/
def fill (bs : List Nat) : List Nat := bs ++ 128 :: (List.replicate ((119 - bs.length % 64) % 64) 0 ++ len8 (8 * bs.length))
def S8.nth (s : S8) : Nat → Nat
  | 0 => s.a
  | 1 => s.b
  | 2 => s.c
  | 3 => s.d
  | 4 => s.e
  | 5 => s.f
  | 6 => s.g
  | _ => s.h
def dby (s : S8) (i : Nat) : Nat := s.nth (i / 4) / 256 ^ (3 - i % 4) % 256
def dval (s : S8) : Value := .agg (tab 32 fun i => ub (dby s i))
def sha (bs : List Nat) : S8 := stAt (fill bs) ((fill bs).length / 64)

theorem step_append_eq1 {P : Program} {w : World} {ops : Array Oper} {o : Oper} {a : Act} {K : Act → World → Prop} {Q : Exit → Act → World → Prop} {E : Prop}
    (hgd : o.guard = none) (s x : Operand) (t : TypeId) (ho : o.op = .call { callee := .builtin .append, args := #[s, x], argTypes := #[t, t] }) (vs vx v' : Value) (w' : World)
    (hs : a.eval s = vs) (hx : a.eval x = vx) (hr : (Builtin.append_ #[t, t] o.type #[vs, vx]).run P w = .ok v' w') (h : K (a.put o.dst v') w') :
    if Region.wanted o (yielded ops a.tmps) = true then Oper.wp P o a w K Q else E := by
  have hw : Region.wanted o (yielded ops a.tmps) = true := by simp [Region.wanted, hgd]
  rw [if_pos hw]
  unfold Oper.wp execOp
  simp only [ho, resolve, invoke, builtin, Sem.run_bind, Sem.run_pure, Result.andThen_ok, List.map_toArray, List.map_cons, List.map_nil, hs, hx, hr]
  exact h

/-- The first append of a Sum: a new row, the rest and one byte more. -/
theorem app_one {P : Program} (w1 W : World) (i : TypeInfo) (t : TypeId) (ht : P.underlying t = some (.slice 5)) (hi : P.info? 5 = some i) (hz : i.zero = some (.int .u8 0)) (hsize : i.size = 1) (hby : i.bytes = 1)
    (A : Option Addr) (r : Nat) (xs : List Value) (hA : A = none → r = 0) (hr : r ≤ 1000) (hx : Reads w1 w1.heap.size A r xs) (hW : Only (fun _ => False) w1 W) (g c : Nat) (u : Value) (hu : W.cell? ⟨g, 0, none⟩ = some u) (hg : g < W.heap.size) (h1 : u.oneCell' = true) :
    ∃ v' w', (Builtin.append_ #[t, t] t #[.slice A r r, .slice (some ⟨g, 0, none⟩) 1 c]).run P W = .ok v' w' ∧ w'.ownsRow w1.heap.size 5 1 v' (r + 1) (xs ++ [u]) ∧ Only (fun _ => False) w1 w' := by
  obtain ⟨v', w', hr, hown, hgr⟩ := run_append_full W t t 5 i (.int .u8 0) 1 ht hi hz hsize hby rfl A (some ⟨g, 0, none⟩) r 1 c _ W.heap.size xs [u] hA (hx.only (Nat.le_refl _) hW (fun _ _ x => x))
    ⟨rfl, fun _ => ⟨g, 0, rfl, hg, fun j v hv => by
      cases j with
      | zero => cases hv; exact hu
      | succ j => cases hv⟩⟩ (by intro v hv; cases List.mem_singleton.1 hv; exact h1) (by omega) (by unfold maxLen; omega) (by omega)
  refine ⟨v', w', hr, ?_, hW.trans (Only.of_grown hgr)⟩
  obtain ⟨hlen, h | ⟨g', cap, cur, rfl, hge, hrest⟩⟩ := hown
  · omega
  · exact ⟨hlen, .inr ⟨g', cap, cur, rfl, Nat.le_trans hW.size hge, hrest⟩⟩

/-- v is a row of the call's own (made since w1) that reads as the bytes l. -/
def PR (w1 : World) (l : List Nat) (n : Nat) (v : Value) (w' : World) : Prop := ∃ A c, v = .slice A n c ∧ (A = none → n = 0) ∧ n ≤ c ∧ w'.ownsRow w1.heap.size 5 1 v n (l.map ub) ∧ Only (fun _ => False) w1 w'
theorem PR.drew {w1 W : World} {l : List Nat} {n : Nat} {v : Value} (h : PR w1 l n v W) : PR w1 l n v W.drew := by
  obtain ⟨A, c, hv, h1, h2, h3, h4⟩ := h
  exact ⟨A, c, hv, h1, h2, h3.drew, h4.drew⟩
theorem PR.of {w1 W : World} {l : List Nat} {n : Nat} {v : Value} (h : W.ownsRow w1.heap.size 5 1 v n (l.map ub)) (ho : Only (fun _ => False) w1 W) : PR w1 l n v W := by
  rcases h.2 with ⟨e, e'⟩ | ⟨g, cap, cur, e, _, _, hc, _⟩
  · exact ⟨none, 0, by rw [e, e'], fun _ => e', by omega, h, ho⟩
  · exact ⟨_, cap, e, fun h => (by cases h), hc, h, ho⟩
theorem PR.len {w1 W : World} {l : List Nat} {n : Nat} {v : Value} (h : PR w1 l n v W) : l.length = n := by
  obtain ⟨_, _, _, _, _, h, _⟩ := h
  simpa using h.1
/-- One byte more. -/
theorem PR.byte {P : Program} {w1 W : World} {l : List Nat} {n : Nat} {v : Value} (h : PR w1 l n v W) (i : TypeInfo) (t : TypeId) (ht : P.underlying t = some (.slice 5)) (hi : P.info? 5 = some i) (hz : i.zero = some (.int .u8 0)) (hsize : i.size = 1) (hby : i.bytes = 1)
    (hn : n ≤ 1000000) (x : Nat) (kx : Int) (hkx : kx = (x : Int)) : ∃ v' w', (Builtin.append_ #[t, t] t #[v, .slice (some ⟨W.heap.size, 0, none⟩) 1 1]).run P (W.alloc (.cells #[.int .u8 kx] 5)) = .ok v' w' ∧ PR w1 (l ++ [x]) (n + 1) v' w' := by
  subst hkx
  obtain ⟨A, c, _, _, _, hown, ho⟩ := h
  have hb : Blk (W.alloc (.cells #[.int .u8 (x : Int)] 5)) W.heap.size 5 #[.int .u8 (x : Int)] := Blk.new W 5 _
  obtain ⟨v', w', hr, hown', hg, _⟩ := run_append_own (P := P) (W.alloc (.cells #[.int .u8 (x : Int)] 5)) w1.heap.size t t 5 i (.int .u8 0) 1 1 ht hi hz hsize hby rfl (by omega) v n _ (hown.alloc _) ⟨W.heap.size, 0, none⟩ 1 1 [.int .u8 (x : Int)] rfl
    (fun j u hu => by
      cases j with
      | zero => cases hu; exact hb.cell 0
      | succ j => cases hu) (by intro u hu; cases List.mem_singleton.1 hu; rfl) (by unfold maxLen; omega) (by omega) (by have := ho.size; simp; omega)
  refine ⟨v', w', hr, PR.of ?_ ?_⟩
  · rw [List.map_append]; exact hown'
  · exact (ho.alloc _).trans_of (Only.of_grown_own (S := fun k => w1.heap.size ≤ k) hg (fun g e => ((hown.alloc (.cells #[.int .u8 (x : Int)] 5)).lt g e).1)) (fun k hk hs => by omega)

theorem fill_length (bs : List Nat) : (fill bs).length = bs.length + 9 + (119 - bs.length % 64) % 64 := by
  simp [fill, len8]; omega
theorem fill_lt {bs : List Nat} (h : ∀ x ∈ bs, x < 256) : ∀ x ∈ fill bs, x < 256 := by
  intro x hx
  simp only [fill, List.mem_append, List.mem_cons, List.mem_replicate] at hx
  rcases hx with hx | hx | hx | hx
  · exact h x hx
  · omega
  · omega
  · exact len8_lt _ x hx
theorem fill_drop (bs : List Nat) {z k : Nat} (hz : z = (119 - bs.length % 64) % 64) (hk : k ≤ bs.length) : bs.drop k ++ [128] ++ List.replicate z 0 ++ (len8 (8 * bs.length)).take 8 = (fill bs).drop k := by
  subst hz
  unfold fill
  rw [List.drop_append_of_le_length hk, List.append_assoc, List.append_assoc]
  rfl
/-- Its first 64 bytes are a piece. -/
theorem Reads.piece {w : World} {B n : Nat} {A : Option Addr} {bs : List Nat} {c : Nat} (h : Reads w B A n ((bs.drop c).map ub)) (hB : B ≤ w.heap.size) (hl : ∀ x ∈ bs, x < 256) (hn : 64 ≤ n) (k : Nat) (hk : c = 64 * k) :
    ∃ bb bo, A = some ⟨bb, bo, none⟩ ∧ bb < B ∧ Piece w bb bo (pc bs k) := by
  obtain ⟨b, o, e, hb, hc⟩ := h.2 (by omega)
  refine ⟨b, o, e, hb, by omega, pc_lt hl k, fun i hi => ?_⟩
  refine hc i _ ?_
  have hlen := h.1
  rw [List.length_map, List.length_drop] at hlen
  rw [List.getElem?_map, List.getElem?_drop, hk]
  have hlt : 64 * k + i < bs.length := by omega
  rw [List.getElem?_eq_getElem hlt]
  show some (ub _) = some (ub _)
  unfold pc
  rw [List.getD_eq_getElem?_getD, List.getElem?_eq_getElem hlt]
  rfl

/-- The world behind a piece of Sum's. -/
def put8 (w : World) (g : Nat) (t : S8) : World :=
  (((((((w.setCell ⟨g, 0, none⟩ (.int .u32 t.a)).setCell ⟨g, 1, none⟩ (.int .u32 t.b)).setCell ⟨g, 2, none⟩ (.int .u32 t.c)).setCell ⟨g, 3, none⟩ (.int .u32 t.d)).setCell ⟨g, 4, none⟩ (.int .u32 t.e)).setCell ⟨g, 5, none⟩ (.int .u32 t.f)).setCell ⟨g, 6, none⟩ (.int .u32 t.g)).setCell ⟨g, 7, none⟩ (.int .u32 t.h)

theorem round3 (w1 wr w' : World) (L : List Nat) (q k m c' bb bo g : Nat) (x0 x1 x2 x3 x4 x5 x6 x7 : Value) (hg : w1.heap.size ≤ g) (h01 : 0 < w1.heap.size) (hqk : 64 * (q + k) ≤ L.length) (hm : L.length - 64 * (q + k) = m) (hge : 64 ≤ m) (hc' : m ≤ c')
    (hR : Reads wr g (some ⟨bb, bo, none⟩) m ((L.drop (64 * (q + k))).map ub)) (hb : Blk wr g 42 #[x0, x1, x2, x3, x4, x5, x6, x7]) (hk : KK wr) (ho : Only (fun _ => False) w1 wr) (hn : Only (fun _ => False) wr w') :
    ∃ (k' : Nat) (A' : Option Addr) (c2 : Nat), Value.slice (if c' = 64 then some ⟨bb, bo, none⟩ else some ⟨bb, bo + 64, none⟩) (m - 64) (c' - 64) = .slice A' (L.length - 64 * (q + k')) c2 ∧ 64 * (q + k') ≤ L.length ∧ L.length - 64 * (q + k') ≤ c2 ∧
      Reads (put8 w' g (taken (stAt L (q + k)) (pc L (q + k)))) g A' (L.length - 64 * (q + k')) ((L.drop (64 * (q + k'))).map ub) ∧
      Blk (put8 w' g (taken (stAt L (q + k)) (pc L (q + k)))) g 42 (ev (stAt L (q + k')).a (stAt L (q + k')).b (stAt L (q + k')).c (stAt L (q + k')).d (stAt L (q + k')).e (stAt L (q + k')).f (stAt L (q + k')).g (stAt L (q + k')).h) ∧
      KK (put8 w' g (taken (stAt L (q + k)) (pc L (q + k)))) ∧ Only (fun _ => False) w1 (put8 w' g (taken (stAt L (q + k)) (pc L (q + k)))) := by
  have hd := hR.drop (k := 64) (cap := c') hge hc'
  have e1 : m - 64 = L.length - 64 * (q + (k + 1)) := by omega
  have e2 : ((L.drop (64 * (q + k))).map ub).drop 64 = (L.drop (64 * (q + (k + 1)))).map ub := by rw [← List.map_drop, List.drop_drop]; congr 2
  rw [e1, e2] at hd
  simp only [Option.map_some, add_lit] at hd
  have hp : Only (· = g) w' (put8 w' g (taken (stAt L (q + k)) (pc L (q + k)))) := by
    unfold put8
    exact (((((((((Only.refl (· = g) w').setCell (p := ⟨g, 0, none⟩) (.inl rfl) _).setCell (p := ⟨g, 1, none⟩) (.inl rfl) _).setCell (p := ⟨g, 2, none⟩) (.inl rfl) _).setCell (p := ⟨g, 3, none⟩) (.inl rfl) _).setCell (p := ⟨g, 4, none⟩) (.inl rfl) _).setCell (p := ⟨g, 5, none⟩) (.inl rfl) _).setCell (p := ⟨g, 6, none⟩) (.inl rfl) _).setCell (p := ⟨g, 7, none⟩) (.inl rfl) _)
  have hB : g ≤ wr.heap.size := Nat.le_of_lt hb.lt
  have h1 := hd.only hB hn (fun _ _ x => x)
  have h2 := h1.only (Nat.le_trans hB hn.size) hp (fun i hi e => by subst e; exact Nat.lt_irrefl _ hi)
  refine ⟨k + 1, _, c' - 64, by rw [e1], by omega, by omega, h2, (hb.only hn (fun x => x)).set8 _ _ _ _ _ _ _ _, (hk.only hn (fun x => x)).only hp (by omega), (ho.trans hn).trans_of hp (fun i hi e => by omega)⟩

theorem S8.index (S : S8) {k : Nat} (hk : k < 8) : ∀ w, (Instr.index 42 (.agg #[.int .u32 (S.a : Int), .int .u32 (S.b : Int), .int .u32 (S.c : Int), .int .u32 (S.d : Int), .int .u32 (S.e : Int), .int .u32 (S.f : Int), .int .u32 (S.g : Int), .int .u32 (S.h : Int)]) (.int .i64 (k : Int))).run Tryd.prog w = .ok (.int .u32 (S.nth k : Int)) w := by
  intro w
  have i0 : (Instr.index 42 (.agg #[.int .u32 (S.a : Int), .int .u32 (S.b : Int), .int .u32 (S.c : Int), .int .u32 (S.d : Int), .int .u32 (S.e : Int), .int .u32 (S.f : Int), .int .u32 (S.g : Int), .int .u32 (S.h : Int)]) (.int .i64 ((0 : Nat) : Int))).run Tryd.prog w = .ok (.int .u32 (S.nth 0 : Int)) w := by kernel_rfl
  have i1 : (Instr.index 42 (.agg #[.int .u32 (S.a : Int), .int .u32 (S.b : Int), .int .u32 (S.c : Int), .int .u32 (S.d : Int), .int .u32 (S.e : Int), .int .u32 (S.f : Int), .int .u32 (S.g : Int), .int .u32 (S.h : Int)]) (.int .i64 ((1 : Nat) : Int))).run Tryd.prog w = .ok (.int .u32 (S.nth 1 : Int)) w := by kernel_rfl
  have i2 : (Instr.index 42 (.agg #[.int .u32 (S.a : Int), .int .u32 (S.b : Int), .int .u32 (S.c : Int), .int .u32 (S.d : Int), .int .u32 (S.e : Int), .int .u32 (S.f : Int), .int .u32 (S.g : Int), .int .u32 (S.h : Int)]) (.int .i64 ((2 : Nat) : Int))).run Tryd.prog w = .ok (.int .u32 (S.nth 2 : Int)) w := by kernel_rfl
  have i3 : (Instr.index 42 (.agg #[.int .u32 (S.a : Int), .int .u32 (S.b : Int), .int .u32 (S.c : Int), .int .u32 (S.d : Int), .int .u32 (S.e : Int), .int .u32 (S.f : Int), .int .u32 (S.g : Int), .int .u32 (S.h : Int)]) (.int .i64 ((3 : Nat) : Int))).run Tryd.prog w = .ok (.int .u32 (S.nth 3 : Int)) w := by kernel_rfl
  have i4 : (Instr.index 42 (.agg #[.int .u32 (S.a : Int), .int .u32 (S.b : Int), .int .u32 (S.c : Int), .int .u32 (S.d : Int), .int .u32 (S.e : Int), .int .u32 (S.f : Int), .int .u32 (S.g : Int), .int .u32 (S.h : Int)]) (.int .i64 ((4 : Nat) : Int))).run Tryd.prog w = .ok (.int .u32 (S.nth 4 : Int)) w := by kernel_rfl
  have i5 : (Instr.index 42 (.agg #[.int .u32 (S.a : Int), .int .u32 (S.b : Int), .int .u32 (S.c : Int), .int .u32 (S.d : Int), .int .u32 (S.e : Int), .int .u32 (S.f : Int), .int .u32 (S.g : Int), .int .u32 (S.h : Int)]) (.int .i64 ((5 : Nat) : Int))).run Tryd.prog w = .ok (.int .u32 (S.nth 5 : Int)) w := by kernel_rfl
  have i6 : (Instr.index 42 (.agg #[.int .u32 (S.a : Int), .int .u32 (S.b : Int), .int .u32 (S.c : Int), .int .u32 (S.d : Int), .int .u32 (S.e : Int), .int .u32 (S.f : Int), .int .u32 (S.g : Int), .int .u32 (S.h : Int)]) (.int .i64 ((6 : Nat) : Int))).run Tryd.prog w = .ok (.int .u32 (S.nth 6 : Int)) w := by kernel_rfl
  have i7 : (Instr.index 42 (.agg #[.int .u32 (S.a : Int), .int .u32 (S.b : Int), .int .u32 (S.c : Int), .int .u32 (S.d : Int), .int .u32 (S.e : Int), .int .u32 (S.f : Int), .int .u32 (S.g : Int), .int .u32 (S.h : Int)]) (.int .i64 ((7 : Nat) : Int))).run Tryd.prog w = .ok (.int .u32 (S.nth 7 : Int)) w := by kernel_rfl
  have h : k = 0 ∨ k = 1 ∨ k = 2 ∨ k = 3 ∨ k = 4 ∨ k = 5 ∨ k = 6 ∨ k = 7 := by omega
  rcases h with rfl | rfl | rfl | rfl | rfl | rfl | rfl | rfl <;> assumption
theorem S8.nth_lt {S : S8} (h : S.ok) {k : Nat} (hk : k < 8) : S.nth k < 4294967296 := by
  obtain ⟨h0, h1, h2, h3, h4, h5, h6, h7⟩ := h
  match k, hk with
  | 0, _ => exact h0
  | 1, _ => exact h1
  | 2, _ => exact h2
  | 3, _ => exact h3
  | 4, _ => exact h4
  | 5, _ => exact h5
  | 6, _ => exact h6
  | 7, _ => exact h7
theorem put4 (S : S8) (h : S.ok) {k : Nat} (hk : k < 8) : ∀ i, i < 32 → put (put (put (put (fun i => if i < 4 * k then ub (dby S i) else ub 0) (4 * k) (ub (S.nth k / 16777216))) (4 * k + 1) (ub (S.nth k / 65536 % 256))) (4 * k + 2) (ub (S.nth k / 256 % 256))) (4 * k + 3) (ub (S.nth k % 256)) i =
    if i < 4 * (k + 1) then ub (dby S i) else ub 0 := by
  intro i _
  have hl := S8.nth_lt h hk
  unfold put dby
  by_cases h3 : i = 4 * k + 3
  · subst h3
    rw [if_pos rfl, if_pos (by omega), show (4 * k + 3) / 4 = k by omega, show 3 - (4 * k + 3) % 4 = 0 by omega, Nat.pow_zero, Nat.div_one]
  rw [if_neg h3]
  by_cases h2 : i = 4 * k + 2
  · subst h2
    rw [if_pos rfl, if_pos (by omega), show (4 * k + 2) / 4 = k by omega, show 3 - (4 * k + 2) % 4 = 1 by omega, Nat.pow_one]
  rw [if_neg h2]
  by_cases h1 : i = 4 * k + 1
  · subst h1
    rw [if_pos rfl, if_pos (by omega), show (4 * k + 1) / 4 = k by omega, show 3 - (4 * k + 1) % 4 = 2 by omega]
  rw [if_neg h1]
  by_cases h0 : i = 4 * k
  · subst h0
    rw [if_pos rfl, if_pos (by omega), show (4 * k) / 4 = k by omega, show 3 - (4 * k) % 4 = 3 by omega]
    congr 1
    show _ = S.nth k / 16777216 % 256
    omega
  rw [if_neg h0]
  show (if i < 4 * k then ub _ else ub 0) = _
  by_cases hlt : i < 4 * k
  · rw [if_pos hlt, if_pos (by omega)]
  · rw [if_neg hlt, if_neg (by omega)]
theorem info24 (f : Nat → Value) : (Tryd.prog.info? 24).map (·.size) = some (tab 32 f).size := by rw [tab_size]; kernel_rfl

set_option maxRecDepth 10000 in
set_option maxHeartbeats 4000000 in
theorem sum_any (p : Nat) (hp0 : p ≠ 0) (bs : List Nat) (w : World) (hk : KK w) (hH : HashAt w p bs) (hN : bs.length ≤ 1152921504606846976) :
    Calls Tryd.prog 14 #[.pointer (some ⟨p, 0, none⟩)] w fun e w' => e = .returned (dval (sha bs)) ∧ Only (fun _ => False) w w' := by
  obtain ⟨i5, hi, hi0, hi1, hi2⟩ := info5
  obtain ⟨hlt, A, cap, hB, hrow⟩ := hH
  have hA : A = none → bs.length % 64 = 0 := by
    rintro rfl
    rcases hrow.2 with ⟨_, h⟩ | ⟨g, c, cur, h, _⟩
    · exact h
    · cases h
  have hcap : bs.length % 64 ≤ cap := by
    rcases hrow.2 with ⟨h, h'⟩ | ⟨g, c, cur, h, _, _, hc, _⟩
    · omega
    · cases h; exact hc
  have hplt : p < w.heap.size := by obtain ⟨s, h, _⟩ := hB; exact h.lt
  go_enter Tryd.func14, Tryd.ntmps14
  go_wp2
  have hT1 : Tab (w.alloc (.cells #[.int .u8 0, .int .u8 0, .int .u8 0, .int .u8 0, .int .u8 0, .int .u8 0, .int .u8 0, .int .u8 0, .int .u8 0, .int .u8 0, .int .u8 0, .int .u8 0, .int .u8 0, .int .u8 0, .int .u8 0, .int .u8 0, .int .u8 0, .int .u8 0, .int .u8 0, .int .u8 0, .int .u8 0, .int .u8 0, .int .u8 0, .int .u8 0, .int .u8 0, .int .u8 0, .int .u8 0, .int .u8 0, .int .u8 0, .int .u8 0, .int .u8 0, .int .u8 0] 24)) w.heap.size 24 32 (fun _ => ub 0) := Tab.new w 24 32 (fun _ => ub 0)
  have ho1 := (Only.refl (fun _ => False) w).alloc (.cells #[.int .u8 0, .int .u8 0, .int .u8 0, .int .u8 0, .int .u8 0, .int .u8 0, .int .u8 0, .int .u8 0, .int .u8 0, .int .u8 0, .int .u8 0, .int .u8 0, .int .u8 0, .int .u8 0, .int .u8 0, .int .u8 0, .int .u8 0, .int .u8 0, .int .u8 0, .int .u8 0, .int .u8 0, .int .u8 0, .int .u8 0, .int .u8 0, .int .u8 0, .int .u8 0, .int .u8 0, .int .u8 0, .int .u8 0, .int .u8 0, .int .u8 0, .int .u8 0] 24)
  have ho10 := ho1
  have hT1lt : w.heap.size < (w.alloc (.cells #[.int .u8 0, .int .u8 0, .int .u8 0, .int .u8 0, .int .u8 0, .int .u8 0, .int .u8 0, .int .u8 0, .int .u8 0, .int .u8 0, .int .u8 0, .int .u8 0, .int .u8 0, .int .u8 0, .int .u8 0, .int .u8 0, .int .u8 0, .int .u8 0, .int .u8 0, .int .u8 0, .int .u8 0, .int .u8 0, .int .u8 0, .int .u8 0, .int .u8 0, .int .u8 0, .int .u8 0, .int .u8 0, .int .u8 0, .int .u8 0, .int .u8 0, .int .u8 0] 24)).heap.size := by simp
  generalize w.alloc (.cells #[.int .u8 0, .int .u8 0, .int .u8 0, .int .u8 0, .int .u8 0, .int .u8 0, .int .u8 0, .int .u8 0, .int .u8 0, .int .u8 0, .int .u8 0, .int .u8 0, .int .u8 0, .int .u8 0, .int .u8 0, .int .u8 0, .int .u8 0, .int .u8 0, .int .u8 0, .int .u8 0, .int .u8 0, .int .u8 0, .int .u8 0, .int .u8 0, .int .u8 0, .int .u8 0, .int .u8 0, .int .u8 0, .int .u8 0, .int .u8 0, .int .u8 0, .int .u8 0] 24) = w1 at *
  have hk1 := hk.only ho1 (fun x => x)
  have hx1 : Reads w1 w1.heap.size A (bs.length % 64) ((bs.drop (64 * (bs.length / 64))).map ub) := ((Reads.of_own hrow).only (Nat.le_refl _) ho1 (fun _ _ x => x)).more ho1.size
  obtain ⟨s, hb0, hs⟩ := hB
  have hb1 := hb0.only ho1 (fun x => x)
  clear hk hrow hb0
  obtain ⟨_, y8, _, _, _⟩ := hcells_c hb1
  have e1 : ((bs.length % 64 : Nat) : Int) ≤ (cap : Int) := by omega
  have e2 : (0 : Int) ≤ ((bs.length % 64 : Nat) : Int) := by omega
  have e3 : (((bs.length % 64 : Nat) : Int)).toNat = bs.length % 64 := by omega
  have hrl : bs.length % 64 ≤ 1000 := by omega
  generalize hr : bs.length % 64 = r at *
  obtain ⟨v1, w2, happ, hown2, ho2⟩ := app_one (P := Tryd.prog) w1 ((w1.alloc (.cells #[.int .u8 128] 5)).drew) i5 22 und22 hi hi0 hi1 hi2 A r _ hA hrl hx1 ((Only.refl _ _).alloc _).drew w1.heap.size 1 (.int .u8 128)
    ((Blk.new w1 5 #[.int .u8 128]).cell 0) (by simp) rfl
  have y8' : w2.cell? ⟨p, 8, none⟩ = some (.slice A r cap) := ((hb1.only ho2 (fun x => x)).cell 8).trans rfl
  go_region_held3 (fun w' => w'.cell? ⟨p, 8, none⟩ = some (.slice A r cap)) (first | assumption | go_keep) (first | (refine step_append_eq1 rfl (.tmp 28) (.tmp 29) 22 rfl (.slice A r r) (.slice (some ⟨w1.heap.size, 0, none⟩) 1 1) v1 w2 (by simp [Act.eval]) (by simp [Act.eval]) happ ?_))
  clear y8 y8' e1 e2 e3
  have hb2 := hb1.only ho2 (fun x => x)
  have hT2 := hT1.only ho2 (fun x => x)
  have hk2 := hk1.only ho2 (fun x => x)
  have hTw := Lib.hid hT1
  clear hT1 hx1
  have hP2 : PR w1 (bs.drop (64 * (bs.length / 64)) ++ [128]) (r + 1) v1 w2 := PR.of (by rw [List.map_append]; exact hown2) ho2
  clear hown2 happ
  obtain ⟨A1, c1, rfl, hA1, hc1, _⟩ := id hP2
  have hr64 : r < 64 := by omega
  go_wp2
  go_loopw [3] (fun v wr => ∃ (z : Nat) (A' : Option Addr) (c' : Nat), v = .slice A' (r + 1 + z) c' ∧ r + 1 + z ≤ 200 ∧ (∀ j, j < z → (r + 1 + j) % 64 ≠ 56) ∧ PR w1 (bs.drop (64 * (bs.length / 64)) ++ [128] ++ List.replicate z 0) (r + 1 + z) v wr) (fun v _ => match v with | .slice _ n _ => 300 - n | _ => 0)
  case atStart => exact ⟨0, A1, c1, rfl, by omega, fun j hj => absurd hj (by omega), by simpa using hP2⟩
  case round =>
    obtain ⟨z, A', c', rfl, hz200, hz, hP⟩ := hrel
    have hzz : z ≤ (119 - r) % 64 := by
      apply Classical.byContradiction
      intro hne
      exact hz ((119 - r) % 64) (by omega) (by omega)
    by_cases hm : (r + 1 + z) % 64 = 56
    · have hmi : ((r : Int) + 1 + z) % 64 = 56 := by omega
      go_wp2
      clear hmi
      go_loopw [3, 4] (fun v t wr => ∃ (j : Nat) (A' : Option Addr) (c' : Nat), j ≤ 8 ∧ t = .int .i64 (56 - 8 * (j : Int)) ∧ v = .slice A' (r + 1 + z + j) c' ∧ PR w1 (bs.drop (64 * (bs.length / 64)) ++ [128] ++ List.replicate z 0 ++ (len8 (8 * bs.length)).take j) (r + 1 + z + j) v wr) (fun _ t _ => (intOf t + 8).toNat)
      case atStart => exact ⟨0, A', c', by omega, rfl, rfl, by simpa using hP⟩
      case round =>
        obtain ⟨j, A2, c2, hj, rfl, rfl, hP3⟩ := hrel
        by_cases hj8 : j < 8
        · have hji : (0 : Int) ≤ 56 - 8 * (j : Int) := by omega
          have hN8 : (8 : Int) * bs.length ≤ 18446744073709551615 := by omega
          obtain ⟨_, _, _, _, _, _, ho3⟩ := id hP3
          have y9 : wr.cell? ⟨p, 9, none⟩ = some (.int .u64 bs.length) := ((hb1.only ho3 (fun x => x)).cell 9).trans rfl
          obtain ⟨v', w', hap, hP'⟩ := hP3.byte (P := Tryd.prog) i5 22 und22 hi hi0 hi1 hi2 (by omega) (8 * bs.length / 2 ^ (56 - 8 * j) % 256) ((8 : Int) * bs.length / 2 ^ (56 - 8 * j) % 256) (by simp)
          go_wp2_with (at_builtin; refine wpList_append_eq1 rfl (.tmp 42) (.tmp 51) 22 rfl (.slice A2 (r + 1 + z + j) c2) (.slice (some ⟨wr.heap.size, 0, none⟩) 1 1) v' w' (by simp [Act.eval]) (by simp [Act.eval]) hap ?_)
          go_roundw
          case rel =>
            obtain ⟨A9, c9, rfl, _⟩ := id hP'
            refine ⟨j + 1, A9, c9, by omega, ?_, rfl, ?_⟩
            · congr 1; omega
            · rw [len8_take _ hj8, ← List.append_assoc]
              exact hP'
          case measure =>
            simp [intOf]; omega
        · obtain rfl : j = 8 := by omega
          have hze : z = (119 - bs.length % 64) % 64 := by rw [hr]; omega
          rw [fill_drop bs hze (by omega)] at hP3
          have hfl := fill_length bs
          rw [hr] at hfl hze
          obtain ⟨_, _, hv', hA2, hc2', hown3, ho3⟩ := hP3
          cases hv'
          have hb3 := hb1.only ho3 (fun x => x)
          have hnow := now_any p s A r cap bs.length _ wr hb3
          rw [hs] at hnow
          have hk3 := hk1.only ho3 (fun x => x)
          have hs0 : stAt bs (bs.length / 64) = stAt (fill bs) (bs.length / 64) := (stAt_append (by omega)).symm
          rw [hs0] at hnow
          have hn3 : r + 1 + z + 8 = (fill bs).length - 64 * (bs.length / 64) := by omega
          rw [hn3] at hown3 hA2 hc2' ⊢
          have hdiv : (fill bs).length % 64 = 0 := by omega
          have hq : 64 * (bs.length / 64) ≤ (fill bs).length := by omega
          have hLl := fill_lt hlt
          have hLb : (fill bs).length - 64 * (bs.length / 64) ≤ 1000 := by omega
          have hR3 := Reads.of_own hown3
          obtain ⟨L, hLe⟩ : ∃ L, L = fill bs := ⟨_, rfl⟩
          rw [← hLe] at hdiv hq hLl hLb hR3 hnow hA2 hc2' ⊢
          replace hLe := Lib.hid hLe
          clear hown3 hze hfl hn3 hs0 hs hb3 hP hP2 hb2 hT2 hk2 hb1 hk1 hz hm hlt
          generalize bs.length / 64 = q at *
          unfold S8.val uw at hnow
          go_wp2_with fail
          refine hnow.mono ?_
          rintro e w5 ⟨rfl, ho5⟩
          have hR5 := hR3.only (Nat.le_refl _) ho5 (fun _ _ x => x)
          have hR6 := (hR5.only ho5.size ((Only.refl (fun _ => False) w5).alloc (.cells (ev (stAt L q).a (stAt L q).b (stAt L q).c (stAt L q).d (stAt L q).e (stAt L q).f (stAt L q).g (stAt L q).h) 42)) (fun _ _ x => x)).more ho5.size
          have hk6 := hk3.only (ho5.alloc (.cells (ev (stAt L q).a (stAt L q).b (stAt L q).c (stAt L q).d (stAt L q).e (stAt L q).f (stAt L q).g (stAt L q).h) 42)) (fun x => x)
          have ho6 := (ho3.trans ho5).alloc (.cells (ev (stAt L q).a (stAt L q).b (stAt L q).c (stAt L q).d (stAt L q).e (stAt L q).f (stAt L q).g (stAt L q).h) 42)
          have hb6 := Blk.new w5 42 (ev (stAt L q).a (stAt L q).b (stAt L q).c (stAt L q).d (stAt L q).e (stAt L q).f (stAt L q).g (stAt L q).h)
          have hg5 : w1.heap.size ≤ w5.heap.size := (ho3.trans ho5).size
          have hsz6 : w.heap.size < w5.heap.size := Nat.lt_of_lt_of_le hT1lt ((ho3.trans ho5).size)
          go_wp2
          unfold ev uw at hR6 hk6 ho6 hb6
          generalize w5.alloc _ = w6 at hR6 hk6 ho6 hb6 ⊢
          clear hR5 hR3 hk3 hnow ho5 ho3
          go_loopw [3] (fun v wr => ∃ (k : Nat) (A' : Option Addr) (c' : Nat), v = .slice A' (L.length - 64 * (q + k)) c' ∧ 64 * (q + k) ≤ L.length ∧ L.length - 64 * (q + k) ≤ c' ∧ Reads wr w5.heap.size A' (L.length - 64 * (q + k)) ((L.drop (64 * (q + k))).map ub) ∧
            Blk wr w5.heap.size 42 (ev (stAt L (q + k)).a (stAt L (q + k)).b (stAt L (q + k)).c (stAt L (q + k)).d (stAt L (q + k)).e (stAt L (q + k)).f (stAt L (q + k)).g (stAt L (q + k)).h) ∧ KK wr ∧ Only (fun _ => False) w1 wr) (fun v _ => match v with | .slice _ n _ => n | _ => 0)
          case atStart => exact ⟨0, A2, c2, rfl, hq, hc2', hR6, hb6, hk6, ho6⟩
          case round =>
            obtain ⟨k, A', c', rfl, hqk, hc', hR, hb, hk, ho⟩ := hrel
            clear hR6 hb6 hk6 ho6 hc2' hA2 hq
            have hm1 : L.length - 64 * (q + k) ≤ 1000 := by omega
            have hso := stAt_ok L (q + k)
            unfold ev uw at hb
            by_cases hge : 64 ≤ L.length - 64 * (q + k)
            · have hB5 : w5.heap.size ≤ wr.heap.size := Nat.le_of_lt hb.lt
              obtain ⟨bb, bo, rfl, hbb, hpc⟩ := hR.piece hB5 hLl hge (q + k) rfl
              have htk := take_any bb bo 64 c' (pc L (q + k)) (stAt L (q + k)) hso
              have hstp : stAt L (q + (k + 1)) = taken (stAt L (q + k)) (pc L (q + k)) := rfl
              have hR' := hR.drop (k := 64) hge hc'
              generalize hm : L.length - 64 * (q + k) = m at *
              have hgi : (64 : Int) ≤ (m : Int) := by omega
              have hgc : (64 : Int) ≤ (c' : Int) := by omega
              obtain ⟨⟨y0, y1, y2, y3, y4, y5, y6, y7⟩, yf⟩ := hb.c8
              unfold S8.val uw at htk
              go_wp2
              go_region_with (first | (go_at_call 19; refine (htk _ (by first | exact hk | exact hk.only ((Only.refl (fun _ => False) wr).drewN _) (fun x => x)) (by first | exact hpc | exact hpc.only ((Only.refl (fun _ => False) wr).drewN _) (fun x => x)) (by omega) (by omega)).mono ?_; rintro e w' ⟨rfl, hn⟩; obtain ⟨⟨y0, y1, y2, y3, y4, y5, y6, y7⟩, yf⟩ := (Blk.only (by first | exact hb.drew | exact hb) hn (fun x => x)).c8))
              go_wp2
              go_roundw
              case rel =>
                exact round3 w1 wr w' L q k m c' bb bo w5.heap.size _ _ _ _ _ _ _ _ hg5 (by omega) hqk hm hge hc' hR hb hk ho ((Only.refl (fun _ => False) wr).drew.trans hn)
              case measure => show m - 64 < m; omega
            · have hm0 : L.length - 64 * (q + k) = 0 := by omega
              rw [hm0]
              have hT7 : Tab (wr.alloc (.cells (tab 32 fun _ => ub 0) 24)) wr.heap.size 24 32 (fun _ => ub 0) := Tab.new wr 24 32 (fun _ => ub 0)
              have hb7 := hb.alloc (.cells (tab 32 fun _ => ub 0) 24)
              have ho7 := ho.alloc (.cells (tab 32 fun _ => ub 0) 24)
              have htab : tab 32 (fun _ => ub 0) = #[.int .u8 0, .int .u8 0, .int .u8 0, .int .u8 0, .int .u8 0, .int .u8 0, .int .u8 0, .int .u8 0, .int .u8 0, .int .u8 0, .int .u8 0, .int .u8 0, .int .u8 0, .int .u8 0, .int .u8 0, .int .u8 0, .int .u8 0, .int .u8 0, .int .u8 0, .int .u8 0, .int .u8 0, .int .u8 0, .int .u8 0, .int .u8 0, .int .u8 0, .int .u8 0, .int .u8 0, .int .u8 0, .int .u8 0, .int .u8 0, .int .u8 0, .int .u8 0] := rfl
              rw [htab] at hT7 hb7 ho7
              obtain ⟨⟨y0, y1, y2, y3, y4, y5, y6, y7⟩, yf⟩ := hb7.c8
              go_wp2
              clear y0 y1 y2 y3 y4 y5 y6 y7 yf hb7 hb hk hR hc' hge hm1
              have hqk8 : (L.length) / 64 = q + k := by omega
              rw [← hqk8] at hso ⊢
              clear hqk8 hm0 hqk hdiv
              generalize hS : stAt L (L.length / 64) = S at *
              generalize hW7 : wr.alloc _ = w7 at *
              have hgw : w1.heap.size ≤ wr.heap.size := ho.size
              generalize hg7 : wr.heap.size = g7 at *
              have hT17 := hTw.out.only ho7 (fun x => x)
              go_loopw [8, 9, 66] (fun _ _ t wr' => ∃ (j : Nat), j ≤ 8 ∧ t = .int .i64 j ∧ Tab wr' g7 24 32 (fun i => if i < 4 * j then ub (dby S i) else ub 0) ∧ Only (fun _ => False) w1 wr') (fun _ _ t _ => 8 - (intOf t).toNat)
              case atStart => exact ⟨0, by omega, rfl, hT7.congr (by simp), ho7⟩
              case round =>
                obtain ⟨j, hj, rfl, hTj, hoj⟩ := hrel
                by_cases hj8 : j < 8
                · have hix := S8.index S hj8
                  go_wp2_with fail
                  refine (put_any _ _ _ _ hj8 (S8.nth_lt hso hj8) _ hTj).mono ?_
                  rintro e wn ⟨rfl, hTn, hon⟩
                  go_wp2
                  go_roundw
                  case rel => exact ⟨j + 1, by omega, by go_num, hTn.congr (put4 S hso hj8), hoj.trans_of hon (fun i hi e => by omega)⟩
                  case measure => simp [intOf]; omega
                · obtain rfl : j = 8 := by omega
                  have ht3 : Tab _ _ 24 32 (fun i => ub (dby S i)) := hTj.congr (fun i hi => by simp only [if_pos (show i < 4 * 8 by omega)])
                  have hT1j := hTw.out.only hoj (fun x => x)
                  obtain ⟨w9, hst, ht9, ho9⟩ := store_tab (P := Tryd.prog) (fun i => ub (dby S i)) hT1j (fun _ => rfl)
                  go_wp2_with (refine wpList_load_row rfl 24 (.tmp 6) rfl g7 rfl 24 (tab 32 fun i => ub (dby S i)) (0, 0) _ ht3 Tryd.underlying24 rfl (info24 _) ?_)
                  refine bodyPost_ret (v := dval S) (results_cell_row rfl _ _ w.heap.size 24 (tab 32 fun i => ub (dby S i)) (0, 0) _ rfl ht9 Tryd.underlying24 rfl (info24 _)) rfl ⟨?_, ?_⟩
                  · unfold sha; rw [← hLe.out, hS]
                  · exact (ho10.trans hoj).trans_of ho9 (fun i hi e => by omega)
    · have hmi : ¬ ((r : Int) + 1 + z) % 64 = 56 := by omega
      obtain ⟨v', w', hap, hP'⟩ := hP.byte (P := Tryd.prog) i5 22 und22 hi hi0 hi1 hi2 (by omega) 0 0 rfl
      go_wp2_with (at_builtin; refine wpList_append_eq1 rfl (.tmp 35) (.tmp 36) 22 rfl (.slice A' (r + 1 + z) c') (.slice (some ⟨wr.heap.size, 0, none⟩) 1 1) v' w' (by simp [Act.eval]) (by simp [Act.eval]) hap ?_)
      go_roundw
      case rel =>
        obtain ⟨A9, c9, rfl, _⟩ := id hP'
        refine ⟨z + 1, A9, c9, rfl, by omega, ?_, ?_⟩
        · intro j hj
          by_cases h : j < z
          · exact hz j h
          · obtain rfl : j = z := by omega
            exact hm
        · rw [List.replicate_succ', ← List.append_assoc]
          exact hP'
      case measure =>
        obtain ⟨A9, c9, rfl, _⟩ := id hP'
        show 300 - (r + 1 + z + 1) < 300 - (r + 1 + z)
        omega
end Go.Proofs.YtpmikgbdicokhaaDoor
