import Derived.Test.YtpmikgbdicokhaaDoorHst
import Derived.Deep.WholeRow
import Derived.WalkKit
import Derived.WalkLawsBesides
import Derived.WalkSpells
import Derived.BigQuiet
import Derived.BigRegion
import Derived.Deep.QuietTactic
import Derived.Deep.RegionHeld3
import Derived.StillTailTactics
import Derived.Deep.LoopGhost
import Derived.Outline
import Derived.Lib.Hide
namespace Go.Proofs.YtpmikgbdicokhaaDoor
open Go.RowKit
set_option linter.unusedVariables false

theorem und22 : Tryd.prog.underlying 22 = some (.slice 5) := by kernel_rfl
theorem info5 : ∃ i, Tryd.prog.info? 5 = some i ∧ i.zero = some (.int .u8 0) ∧ i.size = 1 ∧ i.bytes = 1 := by
  have h : (Tryd.prog.info? 5).map (fun i => (i.zero, i.size, i.bytes)) = some (some (.int .u8 0), 1, 1) := by kernel_rfl
  cases e : Tryd.prog.info? 5 with
  | none => rw [e] at h; cases h
  | some i =>
    rw [e] at h
    simp only [Option.map_some, Option.some.injEq, Prod.mk.injEq] at h
    exact ⟨i, rfl, h.1, h.2.1, h.2.2⟩

theorem wpList_append_eq1 {P : Program} {w : World} {ops : Array Oper} {rest : List Oper} {o : Oper} {a : Act} {Q : Exit → Act → World → Prop}
    (hgd : o.guard = none) (s x : Operand) (t : TypeId) (ho : o.op = .call { callee := .builtin .append, args := #[s, x], argTypes := #[t, t] }) (vs vx v' : Value) (w' : World)
    (hs : a.eval s = vs) (hx : a.eval x = vx) (hr : (Builtin.append_ #[t, t] o.type #[vs, vx]).run P w = .ok v' w') (h : wpList P ops Q rest (a.put o.dst v') w') : wpList P ops Q (o :: rest) a w :=
  wpList_plain hgd fun _ hK => by
    unfold Oper.wp execOp
    simp only [ho, resolve, invoke, builtin, Sem.run_bind, Sem.run_pure, Result.andThen_ok, List.map_toArray, List.map_cons, List.map_nil, hs, hx, hr]
    exact hK _ _ h

/-- The hash at block p has taken in k pieces of bs. -/
def HB (w : World) (p : Nat) (A : Option Addr) (r cap n k : Nat) (bs : List Nat) : Prop :=
  ∃ s, Blk w p 45 (hcells s A r cap n (decide (0 < k))) ∧ nowOf s (decide (0 < k)) = stAt bs k
/-- The hash at block p was given the bytes bs; what it keeps of them lies from block B on. -/
structure HashB (w : World) (p B : Nat) (bs : List Nat) : Prop where
  lt : ∀ x ∈ bs, x < 256
  hb : ∃ A cap, HB w p A (bs.length % 64) cap bs.length (bs.length / 64) bs ∧ w.ownsRow B 5 1 (.slice A (bs.length % 64) cap) (bs.length % 64) ((bs.drop (64 * (bs.length / 64))).map ub)
abbrev HashAt (w : World) (p : Nat) (bs : List Nat) : Prop := HashB w p (p + 1) bs
theorem ownsRow_mono {w : World} {B B' : Nat} {e : TypeId} {size : Nat} {v : Value} {n : Nat} {xs : List Value} (h : w.ownsRow B e size v n xs) (hb : B' ≤ B) : w.ownsRow B' e size v n xs := by
  refine ⟨h.1, ?_⟩
  rcases h.2 with hn | ⟨g, cap, cur, hv, hg, rest⟩
  · exact .inl hn
  · exact .inr ⟨g, cap, cur, hv, Nat.le_trans hb hg, rest⟩
theorem ownsRow_only {w w' : World} {S : Nat → Prop} {B : Nat} {e : TypeId} {size : Nat} {v : Value} {n : Nat} {xs : List Value} (h : w.ownsRow B e size v n xs) (ho : Only S w w') (hs : ∀ k, B ≤ k → ¬ S k) : w'.ownsRow B e size v n xs := by
  refine ⟨h.1, ?_⟩
  rcases h.2 with hn | ⟨g, cap, cur, hv, hg, hh, rest⟩
  · exact .inl hn
  · refine .inr ⟨g, cap, cur, hv, hg, ?_, rest⟩
    have hlt : g < w.heap.size := by
      rcases Nat.lt_or_ge g w.heap.size with h | h
      · exact h
      · rw [Array.getElem?_eq_none h] at hh; cases hh
    exact (ho.block g hlt (hs g hg)).trans hh
theorem HashB.mono {w : World} {p B B' : Nat} {bs : List Nat} (h : HashB w p B bs) (hb : B' ≤ B) : HashB w p B' bs := by
  obtain ⟨hl, A, cap, hB, hr⟩ := h
  exact ⟨hl, A, cap, hB, ownsRow_mono hr hb⟩
theorem HashB.only {w w' : World} {S : Nat → Prop} {p B : Nat} {bs : List Nat} (h : HashB w p B bs) (ho : Only S w w') (hp : ¬ S p) (hs : ∀ k, B ≤ k → ¬ S k) : HashB w' p B bs := by
  obtain ⟨hl, A, cap, ⟨s, hB, he⟩, hr⟩ := h
  exact ⟨hl, A, cap, ⟨s, hB.only ho hp, he⟩, ownsRow_only hr ho hs⟩
theorem HashB.plt {w : World} {p B : Nat} {bs : List Nat} (h : HashB w p B bs) : p < w.heap.size := by
  obtain ⟨_, _, _, ⟨_, h, _⟩, _⟩ := h
  exact h.lt

theorem ub_one {xs : List Nat} : ∀ u ∈ xs.map ub, u.oneCell' = true := by
  intro u hu; obtain ⟨x, _, rfl⟩ := List.mem_map.1 hu; rfl

/-- append onto nil. -/
theorem app_nil {P : Program} (w : World) (t ty e : TypeId) (i : TypeInfo) (z : Value) (ht : P.underlying t = some (.slice e)) (hi : P.info? e = some i) (hz : i.zero = some z)
    (hsize : i.size = 1) (hby : i.bytes = 1) (hzs : z.cells.size = 1) (p : Nat) (hp : p < w.heap.size)
    (A' : Option Addr) (m c : Nat) (ys : List Value) (hy : RN w p A' m ys) (h1 : ∀ u ∈ ys, u.oneCell' = true) (h63 : m ≤ 140737488355328) :
    ∃ A2 c2 w', (Builtin.append_ #[t, t] ty #[.slice none 0 0, .slice A' m c]).run P w = .ok (.slice A2 m c2) w' ∧ w'.ownsRow w.heap.size e 1 (.slice A2 m c2) m ys ∧ Only (fun _ => False) w w' := by
  rcases Nat.eq_zero_or_pos m with rfl | hm
  · obtain rfl : ys = [] := List.eq_nil_of_length_eq_zero hy.r.1
    exact ⟨none, 0, w, run_append_zero w t ty e i ht hi none A' 0 0 c (Nat.le_refl _) (fun _ => ⟨rfl, rfl⟩), World.ownsRow_nil _ _ _ _, Only.refl _ _⟩
  · obtain ⟨v', w', hr, hown, hg⟩ := run_append_full w t ty e i z 1 ht hi hz hsize hby hzs none A' 0 m c w.heap.size _ [] ys (fun _ => rfl) (Reads.nil_ _ _ _) hy.r h1 hm (by unfold maxLen; omega) (by omega)
    simp only [Nat.zero_add, List.nil_append] at hown
    obtain ⟨hlen, h | ⟨g, cap, cur, rfl, hge, hrest⟩⟩ := hown
    · omega
    · exact ⟨some ⟨g, 0, none⟩, cap, w', hr, ⟨hlen, .inr ⟨g, cap, cur, rfl, hge, hrest⟩⟩, Only.of_grown hg⟩

/-- What the region that takes a piece in needs of the world. -/
structure WS (w : World) (p : Nat) (cs : Array Value) (bb bo : Nat) (B : Nat → Nat) (w' : World) : Prop where
  blk : Blk w' p 45 cs
  kk : KK w'
  pc : Piece w' bb bo B
  only : Only (· = p) w w'
theorem WS.next {w : World} {p : Nat} {cs : Array Value} {bb bo : Nat} {B : Nat → Nat} {w' w'' : World} (h : WS w p cs bb bo B w') (ho : Only (fun _ => False) w' w'') : WS w p cs bb bo B w'' :=
  ⟨h.blk.only ho (fun x => x), h.kk.only ho (fun x => x), h.pc.only ho (fun x => x), h.only.trans_of ho (fun _ _ x => x.elim)⟩
theorem WS.drewN {w : World} {p : Nat} {cs : Array Value} {bb bo : Nat} {B : Nat → Nat} {w' : World} (h : WS w p cs bb bo B w') (n : Nat) : WS w p cs bb bo B (w'.drewN n) := h.next ((Only.refl _ _).drewN n)

/-- The world behind a piece. -/
def put9 (w : World) (p : Nat) (t : S8) : World :=
  ((((((((w.setCell ⟨p, 0, none⟩ (.int .u32 t.a)).setCell ⟨p, 1, none⟩ (.int .u32 t.b)).setCell ⟨p, 2, none⟩ (.int .u32 t.c)).setCell ⟨p, 3, none⟩ (.int .u32 t.d)).setCell ⟨p, 4, none⟩ (.int .u32 t.e)).setCell ⟨p, 5, none⟩ (.int .u32 t.f)).setCell ⟨p, 6, none⟩ (.int .u32 t.g)).setCell ⟨p, 7, none⟩ (.int .u32 t.h)).setCell ⟨p, 10, none⟩ (.bool true)
theorem put9_blk {w : World} {p : Nat} {s : S8} {A : Option Addr} {r cap n : Nat} {on : Bool} (h : Blk w p 45 (hcells s A r cap n on)) (t : S8) : Blk (put9 w p t) p 45 (hcells t A r cap n true) := by
  have h0 : Blk _ p 45 #[uw t.a, uw s.b, uw s.c, uw s.d, uw s.e, uw s.f, uw s.g, uw s.h, .slice A r cap, .int .u64 n, .bool on] := h.set_ 0 (.int .u32 t.a)
  have h1 : Blk _ p 45 #[uw t.a, uw t.b, uw s.c, uw s.d, uw s.e, uw s.f, uw s.g, uw s.h, .slice A r cap, .int .u64 n, .bool on] := h0.set_ 1 (.int .u32 t.b)
  have h2 : Blk _ p 45 #[uw t.a, uw t.b, uw t.c, uw s.d, uw s.e, uw s.f, uw s.g, uw s.h, .slice A r cap, .int .u64 n, .bool on] := h1.set_ 2 (.int .u32 t.c)
  have h3 : Blk _ p 45 #[uw t.a, uw t.b, uw t.c, uw t.d, uw s.e, uw s.f, uw s.g, uw s.h, .slice A r cap, .int .u64 n, .bool on] := h2.set_ 3 (.int .u32 t.d)
  have h4 : Blk _ p 45 #[uw t.a, uw t.b, uw t.c, uw t.d, uw t.e, uw s.f, uw s.g, uw s.h, .slice A r cap, .int .u64 n, .bool on] := h3.set_ 4 (.int .u32 t.e)
  have h5 : Blk _ p 45 #[uw t.a, uw t.b, uw t.c, uw t.d, uw t.e, uw t.f, uw s.g, uw s.h, .slice A r cap, .int .u64 n, .bool on] := h4.set_ 5 (.int .u32 t.f)
  have h6 : Blk _ p 45 #[uw t.a, uw t.b, uw t.c, uw t.d, uw t.e, uw t.f, uw t.g, uw s.h, .slice A r cap, .int .u64 n, .bool on] := h5.set_ 6 (.int .u32 t.g)
  have h7 : Blk _ p 45 #[uw t.a, uw t.b, uw t.c, uw t.d, uw t.e, uw t.f, uw t.g, uw t.h, .slice A r cap, .int .u64 n, .bool on] := h6.set_ 7 (.int .u32 t.h)
  exact h7.set_ 10 (.bool true)
theorem put9_only (w : World) (p : Nat) (t : S8) : Only (· = p) w (put9 w p t) := by
  unfold put9
  exact ((((((((((Only.refl (· = p) w).setCell (p := ⟨p, 0, none⟩) (.inl rfl) _).setCell (p := ⟨p, 1, none⟩) (.inl rfl) _).setCell (p := ⟨p, 2, none⟩) (.inl rfl) _).setCell (p := ⟨p, 3, none⟩) (.inl rfl) _).setCell (p := ⟨p, 4, none⟩) (.inl rfl) _).setCell (p := ⟨p, 5, none⟩) (.inl rfl) _).setCell (p := ⟨p, 6, none⟩) (.inl rfl) _).setCell (p := ⟨p, 7, none⟩) (.inl rfl) _).setCell (p := ⟨p, 10, none⟩) (.inl rfl) _)

theorem round_end (p : Nat) (hp0 : p ≠ 0) (w wr w' : World) (L : List Nat) (q k m c' bb bo r cap : Nat) (A : Option Addr) (s' : S8) (hqk : 64 * (q + k) ≤ L.length) (hm : L.length - 64 * (q + k) = m) (hge : 64 ≤ m) (hc' : m ≤ c')
    (hx : RN wr p (some ⟨bb, bo, none⟩) m ((L.drop (64 * (q + k))).map ub)) (h : WS wr p (hcells s' A r cap L.length (decide (0 < q + k))) bb bo (pc L (q + k)) w') (ho : Only (· = p) w wr) :
    ∃ (k' : Nat) (A' : Option Addr) (c2 : Nat), Value.slice (if c' = 64 then some ⟨bb, bo, none⟩ else some ⟨bb, bo + 64, none⟩) (m - 64) (c' - 64) = .slice A' (L.length - 64 * (q + k')) c2 ∧ 64 * (q + k') ≤ L.length ∧ L.length - 64 * (q + k') ≤ c2 ∧ (A' = none → L.length - 64 * (q + k') = 0) ∧
      RN (put9 w' p (taken (stAt L (q + k)) (pc L (q + k)))) p A' (L.length - 64 * (q + k')) ((L.drop (64 * (q + k'))).map ub) ∧ HB (put9 w' p (taken (stAt L (q + k)) (pc L (q + k)))) p A r cap L.length (q + k') L ∧
      KK (put9 w' p (taken (stAt L (q + k)) (pc L (q + k)))) ∧ Only (· = p) w (put9 w' p (taken (stAt L (q + k)) (pc L (q + k)))) := by
  have hd := hx.drop (k := 64) (cap := c') hge hc'
  have e1 : m - 64 = L.length - 64 * (q + (k + 1)) := by omega
  have e2 : ((L.drop (64 * (q + k))).map ub).drop 64 = (L.drop (64 * (q + (k + 1)))).map ub := by rw [← List.map_drop, List.drop_drop]; congr 2
  rw [e1, e2] at hd
  simp only [Option.map_some, add_lit] at hd
  have hp9 := put9_only w' p (taken (stAt L (q + k)) (pc L (q + k)))
  refine ⟨k + 1, _, c' - 64, by rw [e1], by omega, by omega, fun hn => ?_, (hd.only h.only).only hp9, ⟨taken (stAt L (q + k)) (pc L (q + k)), ?_, ?_⟩, h.kk.only hp9 (Ne.symm hp0), (ho.trans h.only).trans hp9⟩
  · split at hn <;> cases hn
  · have := put9_blk h.blk (taken (stAt L (q + k)) (pc L (q + k)))
    have ed : decide (0 < q + (k + 1)) = true := decide_eq_true (by omega)
    rw [ed]; exact this
  · have ed : decide (0 < q + (k + 1)) = true := decide_eq_true (by omega)
    rw [ed]; rfl

set_option maxRecDepth 10000 in
set_option maxHeartbeats 4000000 in
theorem write_fresh (p : Nat) (hp0 : p ≠ 0) (bs b : List Nat) (Ab : Option Addr) (cb : Nat) (w : World) (hk : KK w) (hH : HashAt w p bs) (hl : ∀ x ∈ b, x < 256) (hb : RN w p Ab b.length (b.map ub)) (hAb : Ab = none → b.length = 0)
    (hsz : b.length ≤ 70368744177664) (hN : bs.length ≤ 4611686018427387904) :
    Calls Tryd.prog 13 #[.pointer (some ⟨p, 0, none⟩), .slice Ab b.length cb] w fun e w' => e = .returned (.tuple #[]) ∧ HashB w' p w.heap.size (bs ++ b) ∧ Only (· = p) w w' := by
  obtain ⟨i5, hi, hi0, hi1, hi2⟩ := info5
  obtain ⟨hlt, A, cap, ⟨s, hblk, hs⟩, hrow⟩ := hH
  obtain ⟨⟨y0, y1, y2, y3, y4, y5, y6, y7⟩, y8, y9, y10, yf⟩ := hcells_c hblk
  have yf9 := yf 9
  have hA : A = none → bs.length % 64 = 0 := by
    rintro rfl
    rcases hrow.2 with ⟨_, h⟩ | ⟨g, c, cur, h, _⟩
    · exact h
    · cases h
  have hcap : bs.length % 64 ≤ cap := by
    rcases hrow.2 with ⟨h, h'⟩ | ⟨g, c, cur, h, _, _, hc, _⟩
    · omega
    · cases h; exact hc
  clear yf
  go_enter Tryd.func13, Tryd.ntmps13
  go_wp2
  have hblk2 : Blk (w.setCell ⟨p, 9, none⟩ (.int .u64 ((bs.length : Int) + b.length))) p 45 (hcells s A (bs.length % 64) cap (bs.length + b.length) (decide (0 < bs.length / 64))) := by
    have h := hblk.set_ 9 (.int .u64 ((bs.length : Int) + b.length))
    unfold hcells at h ⊢
    rw [← Int.natCast_add] at h ⊢
    exact h
  have ho2 : Only (· = p) w (w.setCell ⟨p, 9, none⟩ (.int .u64 ((bs.length : Int) + b.length))) := (Only.refl (· = p) w).setCell (p := ⟨p, 9, none⟩) (.inl rfl) _
  have hk2 := hk.only ho2 (Ne.symm hp0)
  have hb2 := hb.only ho2
  have hx2 : RN (w.setCell ⟨p, 9, none⟩ (.int .u64 ((bs.length : Int) + b.length))) p A (bs.length % 64) ((bs.drop (64 * (bs.length / 64))).map ub) := by
    refine RN.only ⟨Reads.of_own hrow, fun hn a ha => ?_⟩ ho2
    subst ha
    have := hrow.lt a.block rfl
    omega
  have hpw : p < (w.setCell ⟨p, 9, none⟩ (.int .u64 ((bs.length : Int) + b.length))).heap.size := hblk2.lt
  clear y0 y1 y2 y3 y4 y5 y6 y7 y8 y9 y10 yf9
  revert hblk2 ho2 hk2 hb2 hx2 hpw
  generalize w.setCell ⟨p, 9, none⟩ (.int .u64 ((bs.length : Int) + b.length)) = w2
  intro hblk2 ho2 hk2 hb2 hx2 hpw
  obtain ⟨ya, y8, yb, yc, yd⟩ := hcells_c hblk2
  clear hrow hblk hk hb
  have e1 : ((bs.length % 64 : Nat) : Int) ≤ (cap : Int) := by omega
  have e2 : (0 : Int) ≤ ((bs.length % 64 : Nat) : Int) := by omega
  have e3 : (((bs.length % 64 : Nat) : Int)).toNat = bs.length % 64 := by omega
  generalize hr : bs.length % 64 = r at *
  go_still_tail 16, (by kernel_rfl)
  change wpList _ _ _ _ _ w2.drew
  have ho3 := ho2.drew
  have hblk3 := hblk2.drew
  have hk3 := hk2.only (S := fun _ => False) (Only.refl _ w2).drew (fun x => x)
  have hx3 := hx2.only (Only.refl _ w2).drew
  have hb3 := hb2.only (Only.refl _ w2).drew
  have hpw3 : p < w2.drew.heap.size := hpw
  clear ho2 hblk2 hk2 hx2 hb2 hpw ya y8 yb yc yd e1 e2 e3
  generalize w2.drew = w3 at *
  obtain ⟨A2, c2, w4, happ, hc2, hA2, hx4, ho4⟩ := app_full (P := Tryd.prog) w3 22 22 5 i5 (.int .u8 0) und22 hi hi0 hi1 hi2 rfl p hpw3 A Ab r b.length cb _ _ hA hAb hx3 hb3 ub_one (by omega)
  have hblk4 := hblk3.only ho4 (fun x => x)
  have hk4 := hk3.only ho4 (fun x => x)
  have ho5 : Only (· = p) w w4 := ho3.trans_of ho4 (fun _ _ x => x.elim)
  rw [← List.map_append] at hx4
  have hX : bs.drop (64 * (bs.length / 64)) ++ b = (bs ++ b).drop (64 * (bs.length / 64)) := by rw [List.drop_append_of_le_length (by omega)]
  rw [hX] at hx4
  have hL : bs.length + b.length = (bs ++ b).length := by simp
  have hLl : ∀ x ∈ bs ++ b, x < 256 := by
    intro x hx
    rcases List.mem_append.1 hx with h | h
    · exact hlt x h
    · exact hl x h
  have hs4 : nowOf s (decide (0 < bs.length / 64)) = stAt (bs ++ b) (bs.length / 64) := by rw [stAt_append (by omega)]; exact hs
  have hB4 : HB w4 p A r cap (bs.length + b.length) (bs.length / 64) (bs ++ b) := ⟨s, hblk4, hs4⟩
  have hrb : r + b.length = (bs ++ b).length - 64 * (bs.length / 64) := by rw [← hL]; omega
  have hq : 64 * (bs.length / 64) ≤ (bs ++ b).length := by rw [← hL]; omega
  have hNL : (bs ++ b).length ≤ 5000000000000000000 := by rw [← hL]; omega
  have hRL : (bs ++ b).length - 64 * (bs.length / 64) ≤ 80000000000000 := by rw [← hL]; omega
  have hCL : c2 ≤ maxLen ∨ True := .inr trivial
  rw [hL] at hB4
  rw [hrb] at happ hc2 hA2 hx4
  clear hblk3 hk3 hx3 hb3 hpw3 ho3 ho4 hs hs4 hblk4 hX hL hAb hA hrb hlt hl hsz hN hCL
  generalize bs.length / 64 = q at *
  obtain ⟨L, hLe⟩ : ∃ L, L = bs ++ b := ⟨_, rfl⟩
  rw [← hLe] at hLl hNL happ hc2 hA2 hx4 hB4 hq hRL
  replace hLe := Lib.hid hLe
  go_wp2_with (at_builtin; refine wpList_append_eq1 rfl (.tmp 31) (.tmp 32) 22 rfl (.slice A r r) (.slice Ab b.length cb) _ w4 (by simp [Act.eval]) (by simp [Act.eval]) happ ?_)
  clear happ
  go_loopw [4] (fun v wr => ∃ (k : Nat) (A' : Option Addr) (c' : Nat), v = .slice A' (L.length - 64 * (q + k)) c' ∧ 64 * (q + k) ≤ L.length ∧ L.length - 64 * (q + k) ≤ c' ∧ (A' = none → L.length - 64 * (q + k) = 0) ∧
    RN wr p A' (L.length - 64 * (q + k)) ((L.drop (64 * (q + k))).map ub) ∧ HB wr p A r cap L.length (q + k) L ∧ KK wr ∧ Only (· = p) w wr) (fun v _ => match v with | .slice _ n _ => n | _ => 0)
  case atStart => exact ⟨0, A2, c2, rfl, hq, hc2, hA2, hx4, hB4, hk4, ho5⟩
  case round =>
    obtain ⟨k, A', c', rfl, hqk, hc', hA', hx, ⟨s', hb', hs'⟩, hk, ho⟩ := hrel
    clear hx4 hB4 hk4 ho5 hc2 hA2 hq
    have hR' : L.length - 64 * (q + k) ≤ 80000000000000 := by omega
    generalize hm : L.length - 64 * (q + k) = m at *
    by_cases hge : 64 ≤ m
    · obtain ⟨bb, bo, rfl, hbp, hpc⟩ := hx.piece hLl hge (q + k) rfl
      have hgi : (64 : Int) ≤ (m : Int) := by omega
      have hgc : (64 : Int) ≤ (c' : Int) := by omega
      have HS : WS wr p (hcells s' A r cap L.length (decide (0 < q + k))) bb bo (pc L (q + k)) wr := ⟨hb', hk, hpc, Only.refl _ _⟩
      have hnow := fun W (h : WS wr p (hcells s' A r cap L.length (decide (0 < q + k))) bb bo (pc L (q + k)) W) => now_any p s' A r cap L.length _ W h.blk
      have htake := fun W (h : ∃ s on, WS wr p (hcells s A r cap L.length on) bb bo (pc L (q + k)) W) => take_any bb bo 64 c' (pc L (q + k)) (stAt L (q + k)) (stAt_ok _ _) W (by obtain ⟨_, _, h⟩ := h; exact h.kk) (by obtain ⟨_, _, h⟩ := h; exact h.pc) (by omega) (by omega)
      rw [hs'] at hnow
      go_wp2
      unfold S8.val uw at hnow htake
      have HE := Lib.hid (round_end p hp0 w wr · L q k m c' bb bo r cap A s' hqk hm hge hc' hx · ho)
      clear hR' hgi hm hpc hb' hk ho hNL hRL hLl hr hcap hx hA' hqk hs'
      go_region_with (first | (go_at_call 18; refine (hnow _ (by first | exact HS | exact HS.drewN _)).mono ?_; rintro e w' ⟨rfl, hn⟩; have HS' := WS.next (by first | exact HS | exact HS.drewN _) hn) | (go_at_call 19; refine (htake _ (by first | exact ⟨_, _, HS'⟩ | exact ⟨_, _, HS'.drewN _⟩)).mono ?_; rintro e w' ⟨rfl, hn2⟩; have HS2 := WS.next (by first | exact HS' | exact HS'.drewN _) hn2; obtain ⟨⟨y0, y1, y2, y3, y4, y5, y6, y7⟩, _, _, y10, yf⟩ := hcells_c HS2.blk))
      go_wp2
      go_roundw
      case rel => exact HE.out _ HS2
      case measure => show m - 64 < m; omega
    · obtain ⟨A3, c3, w5, hap, hrow5, ho5⟩ := app_nil (P := Tryd.prog) wr 22 22 5 i5 (.int .u8 0) und22 hi hi0 hi1 hi2 rfl p hb'.lt A' m c' _ hx ub_one (by omega)
      have hb5 := hb'.only ho5 (fun x => x)
      have hkq : q + k = L.length / 64 := by omega
      have hmr : m = L.length % 64 := by omega
      have ho9 : Only (· = p) w (w5.setCell ⟨p, 8, none⟩ (.slice A3 m c3)) := (ho.trans_of ho5 (fun _ _ x => x.elim)).setCell (p := ⟨p, 8, none⟩) (.inl rfl) _
      have hHE : HashB (w5.setCell ⟨p, 8, none⟩ (.slice A3 m c3)) p w.heap.size L := by
        refine ⟨hLl, A3, c3, ⟨s', ?_, ?_⟩, ?_⟩
        · rw [← hmr, ← hkq]
          exact hb5.set_ 8 (.slice A3 m c3)
        · rw [← hkq]; exact hs'
        · rw [← hmr, ← hkq]
          exact ownsRow_mono (ownsRow_setCell_below hrow5 hb'.lt _) ho.size
      have ho6 : Only (· = p) w w5 := ho.trans_of ho5 (fun _ _ x => x.elim)
      clear hmr hkq
      obtain ⟨⟨y0, y1, y2, y3, y4, y5, y6, y7⟩, y8, y9, y10, yf⟩ := hcells_c hb5
      have yf8 := yf 8
      clear yf
      go_wp2_with (at_builtin; refine wpList_append_eq1 rfl (.const (.slice none 0 0)) (.tmp 51) 22 rfl (.slice none 0 0) (.slice A' m c') _ w5 (by simp [Act.eval]) (by simp [Act.eval]) hap ?_)
      go_end0
      rw [← hLe.out]
      exact ⟨rfl, hHE, ho9⟩
theorem write_any (p : Nat) (hp0 : p ≠ 0) (bs b : List Nat) (Ab : Option Addr) (cb : Nat) (w : World) (hk : KK w) (hH : HashAt w p bs) (hl : ∀ x ∈ b, x < 256) (hb : RN w p Ab b.length (b.map ub)) (hAb : Ab = none → b.length = 0)
    (hsz : b.length ≤ 70368744177664) (hN : bs.length ≤ 4611686018427387904) :
    Calls Tryd.prog 13 #[.pointer (some ⟨p, 0, none⟩), .slice Ab b.length cb] w fun e w' => e = .returned (.tuple #[]) ∧ HashAt w' p (bs ++ b) ∧ Only (· = p) w w' :=
  (write_fresh p hp0 bs b Ab cb w hk hH hl hb hAb hsz hN).mono fun _ _ ⟨h1, h2, h3⟩ => ⟨h1, h2.mono hH.plt, h3⟩
end Go.Proofs.YtpmikgbdicokhaaDoor
