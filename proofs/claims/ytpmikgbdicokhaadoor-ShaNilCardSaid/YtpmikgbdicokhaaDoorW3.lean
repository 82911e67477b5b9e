import Derived.Test.YtpmikgbdicokhaaDoorW2
import Derived.Deep.WholeRow
import Derived.WalkKit
import Derived.WalkLawsBesides
import Derived.WalkSpells
import Derived.BigQuiet
import Derived.BigRegion
import Derived.Deep.QuietTactic
import Derived.Deep.RegionHeld3
import Derived.StillTailTactics
import Derived.Deep.LoopGhost
import Derived.Outline
import Derived.Lib.Hide
namespace Go.Proofs.YtpmikgbdicokhaaDoor
open Go.RowKit
set_option linter.unusedVariables false

theorem quiet_l {P : Program} {f : FuncId} {args : Array Value} {w : World} {n : Nat} {v : Value}
    (h : Calls P f args (w.drewN n) fun e w' => e = .returned v ∧ w.drewN n = w') : Calls P f args (w.drewN n) fun e w'' => e = .returned v ∧ ∃ m, w'' = w.drewN m :=
  h.mono fun _ _ ⟨he, hm⟩ => ⟨he, n, hm.symm⟩

def S8.val (s : S8) : Value := .agg #[uw s.a, uw s.b, uw s.c, uw s.d, uw s.e, uw s.f, uw s.g, uw s.h]

/-- The table of the steps' constants lies at its place. -/
def KK (w : World) : Prop := 0 < w.heap.size ∧ ∀ i, i < 64 → w.cell? ⟨0, i, none⟩ = some (uw (kk.getD i 0))
theorem KK.only {w w' : World} {S : Nat → Prop} (h : KK w) (ho : Only S w w') (hs : ¬ S 0) : KK w' :=
  ⟨Nat.lt_of_lt_of_le h.1 ho.size, fun i hi => (Blk.cell_only ho (a := ⟨0, i, none⟩) h.1 hs).trans (h.2 i hi)⟩

def ev (a b c d e f g h : Nat) : Array Value := #[uw a, uw b, uw c, uw d, uw e, uw f, uw g, uw h]
theorem Blk.c8 {w : World} {p : Nat} {t : TypeId} {a b c d e f g h : Value} (hb : Blk w p t #[a, b, c, d, e, f, g, h]) :
    (w.cell? ⟨p, 0, none⟩ = some a ∧ w.cell? ⟨p, 1, none⟩ = some b ∧ w.cell? ⟨p, 2, none⟩ = some c ∧ w.cell? ⟨p, 3, none⟩ = some d ∧ w.cell? ⟨p, 4, none⟩ = some e ∧ w.cell? ⟨p, 5, none⟩ = some f ∧ w.cell? ⟨p, 6, none⟩ = some g ∧ w.cell? ⟨p, 7, none⟩ = some h) ∧ ∀ i, w.frozen? ⟨p, i, none⟩ = false :=
  ⟨⟨by rw [hb.cell]; rfl, by rw [hb.cell]; rfl, by rw [hb.cell]; rfl, by rw [hb.cell]; rfl, by rw [hb.cell]; rfl, by rw [hb.cell]; rfl, by rw [hb.cell]; rfl, by rw [hb.cell]; rfl⟩, fun i => hb.frozen i⟩

theorem Blk.far8 {w : World} {g : Nat} {t : TypeId} {cs : Array Value} (h : Blk w g t cs) (q : Nat) (hq : g ≠ q) (v0 v1 v2 v3 v4 v5 v6 v7 : Value) : Blk ((((((((w.setCell ⟨q, 0, none⟩ v0).setCell ⟨q, 1, none⟩ v1).setCell ⟨q, 2, none⟩ v2).setCell ⟨q, 3, none⟩ v3).setCell ⟨q, 4, none⟩ v4).setCell ⟨q, 5, none⟩ v5).setCell ⟨q, 6, none⟩ v6).setCell ⟨q, 7, none⟩ v7) g t cs :=
  (((((((h.far (p := ⟨q, 0, none⟩) hq v0).far (p := ⟨q, 1, none⟩) hq v1).far (p := ⟨q, 2, none⟩) hq v2).far (p := ⟨q, 3, none⟩) hq v3).far (p := ⟨q, 4, none⟩) hq v4).far (p := ⟨q, 5, none⟩) hq v5).far (p := ⟨q, 6, none⟩) hq v6).far (p := ⟨q, 7, none⟩) hq v7
theorem Blk.set8 {w : World} {g : Nat} {t : TypeId} {x0 x1 x2 x3 x4 x5 x6 x7 : Value} (h : Blk w g t #[x0, x1, x2, x3, x4, x5, x6, x7]) (v0 v1 v2 v3 v4 v5 v6 v7 : Value) : Blk ((((((((w.setCell ⟨g, 0, none⟩ v0).setCell ⟨g, 1, none⟩ v1).setCell ⟨g, 2, none⟩ v2).setCell ⟨g, 3, none⟩ v3).setCell ⟨g, 4, none⟩ v4).setCell ⟨g, 5, none⟩ v5).setCell ⟨g, 6, none⟩ v6).setCell ⟨g, 7, none⟩ v7) g t #[v0, v1, v2, v3, v4, v5, v6, v7] := by
  have h0 : Blk _ g t #[v0, x1, x2, x3, x4, x5, x6, x7] := h.set_ 0 v0
  have h1 : Blk _ g t #[v0, v1, x2, x3, x4, x5, x6, x7] := h0.set_ 1 v1
  have h2 : Blk _ g t #[v0, v1, v2, x3, x4, x5, x6, x7] := h1.set_ 2 v2
  have h3 : Blk _ g t #[v0, v1, v2, v3, x4, x5, x6, x7] := h2.set_ 3 v3
  have h4 : Blk _ g t #[v0, v1, v2, v3, v4, x5, x6, x7] := h3.set_ 4 v4
  have h5 : Blk _ g t #[v0, v1, v2, v3, v4, v5, x6, x7] := h4.set_ 5 v5
  have h6 : Blk _ g t #[v0, v1, v2, v3, v4, v5, v6, x7] := h5.set_ 6 v6
  have h7 : Blk _ g t #[v0, v1, v2, v3, v4, v5, v6, v7] := h6.set_ 7 v7
  exact h7

theorem Only.set8 {w w' : World} {S : Nat → Prop} (h : Only S w w') (q : Nat) (hq : w.heap.size ≤ q) (v0 v1 v2 v3 v4 v5 v6 v7 : Value) : Only S w ((((((((w'.setCell ⟨q, 0, none⟩ v0).setCell ⟨q, 1, none⟩ v1).setCell ⟨q, 2, none⟩ v2).setCell ⟨q, 3, none⟩ v3).setCell ⟨q, 4, none⟩ v4).setCell ⟨q, 5, none⟩ v5).setCell ⟨q, 6, none⟩ v6).setCell ⟨q, 7, none⟩ v7) :=
  (((((((h.setCell (p := ⟨q, 0, none⟩) (.inr hq) v0).setCell (p := ⟨q, 1, none⟩) (.inr hq) v1).setCell (p := ⟨q, 2, none⟩) (.inr hq) v2).setCell (p := ⟨q, 3, none⟩) (.inr hq) v3).setCell (p := ⟨q, 4, none⟩) (.inr hq) v4).setCell (p := ⟨q, 5, none⟩) (.inr hq) v5).setCell (p := ⟨q, 6, none⟩) (.inr hq) v6).setCell (p := ⟨q, 7, none⟩) (.inr hq) v7

/-- What holds of the world within take. -/
structure TW (w : World) (n1 : Nat) (s : S8) (B : Nat → Nat) (wr : World) : Prop where
  x1 : Blk wr w.heap.size 42 #[.int .u32 s.a, .int .u32 s.b, .int .u32 s.c, .int .u32 s.d, .int .u32 s.e, .int .u32 s.f, .int .u32 s.g, .int .u32 s.h]
  x2 : Blk wr (w.heap.size + 1) 42 #[.int .u32 0, .int .u32 0, .int .u32 0, .int .u32 0, .int .u32 0, .int .u32 0, .int .u32 0, .int .u32 0]
  x3 : Tab wr n1 52 64 (fun i => uw (wn B i))
  kk : KK wr
  only : Only (fun _ => False) w wr
theorem TW.drewN {w wr : World} {n1 : Nat} {s : S8} {B : Nat → Nat} (h : TW w n1 s B wr) (n : Nat) : TW w n1 s B (wr.drewN n) :=
  ⟨h.x1.drewN n, h.x2.drewN n, h.x3.drewN n, h.kk.only (S := fun _ => False) ((Only.refl _ _).drewN n) (fun x => x), h.only.drewN n⟩

theorem not32 (x : Nat) (h : x < 4294967296) : 4294967295 ^^^ x = 4294967295 - x := by
  have e := congrArg BitVec.toNat (BitVec.allOnes_xor (x := BitVec.ofNat 32 x))
  rw [BitVec.toNat_xor, BitVec.toNat_not, BitVec.toNat_allOnes, BitVec.toNat_ofNat, Nat.mod_eq_of_lt (show x < 2 ^ 32 from h)] at e
  exact e
theorem tsum (re rf rg rh kc wk : Nat) (l4 : re < 4294967296) (l5 : rf < 4294967296) (l6 : rg < 4294967296) :
    ((rh : Int) + bits .xor .u32 (bits .xor .u32 (rot 6 re : Nat) (rot 11 re : Nat)) (rot 25 re : Nat) + bits .xor .u32 (bits .and .u32 (re : Int) (rf : Int)) (bits .and .u32 (bits .xor .u32 (if IntKind.u32.signed = true then -1 else IntKind.u32.max) (re : Int)) (rg : Int)) + (kc : Int) + (wk : Int)) % 4294967296 =
      (((rh + bg1 re + ch re rf rg + kc + wk) % 4294967296 : Nat) : Int) := by
  have e1 : (if IntKind.u32.signed = true then -1 else IntKind.u32.max) = ((4294967295 : Nat) : Int) := by decide
  rw [e1, u32_xor_nat _ _ (rot_lt _ l4) (rot_lt _ l4), u32_xor_nat _ _ (xor_lt (rot_lt _ l4) (rot_lt _ l4)) (rot_lt _ l4), u32_and_nat _ _ l4 l5, u32_xor_nat _ _ (by omega) l4, not32 re l4, u32_and_nat _ _ (by omega) l6,
    u32_xor_nat _ _ (and_lt l4) (and_lt (by omega))]
  change ((rh : Int) + (bg1 re : Nat) + (ch re rf rg : Nat) + (kc : Int) + (wk : Int)) % 4294967296 = _
  generalize bg1 re = p
  generalize ch re rf rg = q
  omega
theorem usum (ra rb rc : Nat) (l0 : ra < 4294967296) (l1 : rb < 4294967296) (l2 : rc < 4294967296) :
    (bits .xor .u32 (bits .xor .u32 (rot 2 ra : Nat) (rot 13 ra : Nat)) (rot 22 ra : Nat) + bits .xor .u32 (bits .xor .u32 (bits .and .u32 (ra : Int) (rb : Int)) (bits .and .u32 (ra : Int) (rc : Int))) (bits .and .u32 (rb : Int) (rc : Int))) % 4294967296 =
      (((bg0 ra + maj ra rb rc) % 4294967296 : Nat) : Int) := by
  rw [u32_xor_nat _ _ (rot_lt _ l0) (rot_lt _ l0), u32_xor_nat _ _ (xor_lt (rot_lt _ l0) (rot_lt _ l0)) (rot_lt _ l0), u32_and_nat _ _ l0 l1, u32_and_nat _ _ l0 l2, u32_and_nat _ _ l1 l2, u32_xor_nat _ _ (and_lt l0) (and_lt l0),
    u32_xor_nat _ _ (xor_lt (and_lt l0) (and_lt l0)) (and_lt l1)]
  change (((bg0 ra : Nat) : Int) + (maj ra rb rc : Nat)) % 4294967296 = _
  generalize bg0 ra = p
  generalize maj ra rb rc = q
  omega

set_option maxRecDepth 10000 in
set_option maxHeartbeats 1000000 in
theorem take_any (bb bo len cap : Nat) (B : Nat → Nat) (s : S8) (hs : s.ok) (w : World) (hk : KK w) (hp : Piece w bb bo B) (hl : 64 ≤ len) (hl2 : len ≤ 1000000) :
    Calls Tryd.prog 19 #[s.val, .slice (some ⟨bb, bo, none⟩) len cap] w fun e w' => e = .returned (taken s B).val ∧ Only (fun _ => False) w w' := by
  obtain ⟨s, rfl⟩ : ∃ s' : S8, s' = s := ⟨s, rfl⟩
  have hz := zero52
  have hnew := fun W => run_storeCells_new (P := Tryd.prog) W 52 (tab 64 fun _ => uw 0) (tab 64 fun i => uw (wn B i)) (info52 _) (by simp [tab_size]) (by simp [tab]; intro x _; rfl)
  have ho0 := ((Only.refl (fun _ => False) w).alloc (.cells #[.int .u32 s.a, .int .u32 s.b, .int .u32 s.c, .int .u32 s.d, .int .u32 s.e, .int .u32 s.f, .int .u32 s.g, .int .u32 s.h] 42)).alloc (.cells #[.int .u32 0, .int .u32 0, .int .u32 0, .int .u32 0, .int .u32 0, .int .u32 0, .int .u32 0, .int .u32 0] 42)
  have hc := numbers_any bb bo len cap B _ (hp.only ho0 (fun x => x)) hl hl2
  have hb1 := (Blk.new w 42 #[.int .u32 s.a, .int .u32 s.b, .int .u32 s.c, .int .u32 s.d, .int .u32 s.e, .int .u32 s.f, .int .u32 s.g, .int .u32 s.h]).alloc (.cells #[.int .u32 0, .int .u32 0, .int .u32 0, .int .u32 0, .int .u32 0, .int .u32 0, .int .u32 0, .int .u32 0] 42)
  have hb2 := Blk.new (w.alloc (.cells #[.int .u32 s.a, .int .u32 s.b, .int .u32 s.c, .int .u32 s.d, .int .u32 s.e, .int .u32 s.f, .int .u32 s.g, .int .u32 s.h] 42)) 42 #[.int .u32 0, .int .u32 0, .int .u32 0, .int .u32 0, .int .u32 0, .int .u32 0, .int .u32 0, .int .u32 0]
  rw [World.size_alloc] at hb2
  unfold S8.val
  simp only [uw]
  go_enter Tryd.func19, Tryd.ntmps19
  go_wp2_with (go_at_call 25; refine hc.mono ?_; rintro e w1 ⟨rfl, ho1⟩)
  have ho2 : Only (fun _ => False) w (w1.alloc (.cells (tab 64 fun i => uw (wn B i)) 52)) := (ho0.trans ho1).alloc _
  have hx1 := (hb1.only ho1 (fun x => x)).alloc (.cells (tab 64 fun i => uw (wn B i)) 52)
  have hx2 := (hb2.only ho1 (fun x => x)).alloc (.cells (tab 64 fun i => uw (wn B i)) 52)
  have hx3 : Tab (w1.alloc (.cells (tab 64 fun i => uw (wn B i)) 52)) w1.heap.size 52 64 (fun i => uw (wn B i)) := Tab.new _ _ _ _
  have hk2 := hk.only ho2 (fun x => x)
  have hsz1 : w.heap.size + 1 < w1.heap.size := by have := ho1.size; simp at this; omega
  have hBB := hp.2.1
  clear hz hnew hc hb1 hb2 ho0 ho1 hp hk
  obtain ⟨W, hW⟩ : ∃ W, W = w1.alloc (.cells (tab 64 fun i => uw (wn B i)) 52) := ⟨_, rfl⟩
  rw [← hW] at ho2 hx1 hx2 hx3 hk2 ⊢
  clear hW
  obtain ⟨⟨y0, y1, y2, y3, y4, y5, y6, y7⟩, _⟩ := hx1.c8
  have HX : TW w w1.heap.size s B W := ⟨hx1, hx2, hx3, hk2, ho2⟩
  clear hx1 hx2 hx3 hk2 ho2
  go_quiet (fail)
  clear y0 y1 y2 y3 y4 y5 y6 y7
  go_wp2
  go_loopw [6, 7, 8, 9, 10, 11, 12, 13, 37] (fun v0 v1 v2 v3 v4 v5 v6 v7 t wr => ∃ k : Nat, k ≤ 64 ∧ t = .int .i64 k ∧ v0 = .int .u32 (stps B s k).a ∧ v1 = .int .u32 (stps B s k).b ∧ v2 = .int .u32 (stps B s k).c ∧ v3 = .int .u32 (stps B s k).d ∧
    v4 = .int .u32 (stps B s k).e ∧ v5 = .int .u32 (stps B s k).f ∧ v6 = .int .u32 (stps B s k).g ∧ v7 = .int .u32 (stps B s k).h ∧ TW w w1.heap.size s B wr) (fun _ _ _ _ _ _ _ _ t _ => 64 - (intOf t).toNat)
  case atStart => exact ⟨0, by omega, rfl, rfl, rfl, rfl, rfl, rfl, rfl, rfl, rfl, HX.drewN _⟩
  case round =>
    obtain ⟨k, hk, rfl, rfl, rfl, rfl, rfl, rfl, rfl, rfl, rfl, hw⟩ := hrel
    clear HX
    by_cases hlt : k < 64
    · have hso := stps_ok B hs k
      have HS := Lib.hid (show stps B s (k + 1) = stp (stps B s k) (kk.getD k 0) (wn B k) from rfl)
      have z1 := hw.kk.2 k hlt
      have z2 := hw.x3.cell k hlt
      unfold uw at z1 z2
      have lw := wn_lt B hBB k
      generalize stps B s k = r at hso HS
      obtain ⟨ra, rb, rc, rd, re, rf, rg, rh⟩ := r
      obtain ⟨l0, l1, l2, l3, l4, l5, l6, l7⟩ := hso
      simp only at l0 l1 l2 l3 l4 l5 l6 l7
      generalize kk.getD k 0 = kc at z1 HS
      generalize wn B k = wk at z2 lw HS
      clear hs
      go_wp2
      go_quiet ((go_at_call 26; exact quiet_l (rot_n _ _ (by assumption) (by decide) _)))
      go_wp2_with (go_at_call 26; refine (rot_n _ _ (by assumption) (by decide) _).mono ?_; rintro e w' ⟨rfl, rfl⟩)
      go_roundw
      case rel =>
        rw [tsum re rf rg rh kc wk l4 l5 l6, usum ra rb rc l0 l1 l2]
        exact ⟨k + 1, by omega, by go_num, by rw [HS.out]; rfl, by rw [HS.out]; rfl, by rw [HS.out]; rfl, by rw [HS.out]; rfl, by rw [HS.out]; rfl, by rw [HS.out]; rfl, by rw [HS.out]; rfl, by rw [HS.out]; rfl, hw.drewN _⟩
      case measure => simp [intOf]; omega
    · obtain rfl : k = 64 := by omega
      have hso := stps_ok B hs 64
      have HR : Hid (taken s B = ⟨(s.a + (stps B s 64).a) % 4294967296, (s.b + (stps B s 64).b) % 4294967296, (s.c + (stps B s 64).c) % 4294967296, (s.d + (stps B s 64).d) % 4294967296, (s.e + (stps B s 64).e) % 4294967296, (s.f + (stps B s 64).f) % 4294967296, (s.g + (stps B s 64).g) % 4294967296, (s.h + (stps B s 64).h) % 4294967296⟩) := rfl
      generalize stps B s 64 = r at hso HR
      obtain ⟨ra, rb, rc, rd, re, rf, rg, rh⟩ := r
      obtain ⟨l0, l1, l2, l3, l4, l5, l6, l7⟩ := hso
      simp only at l0 l1 l2 l3 l4 l5 l6 l7 HR
      obtain ⟨⟨y0, y1, y2, y3, y4, y5, y6, y7⟩, yf⟩ := hw.x1.c8
      obtain ⟨⟨x0, x1, x2, x3, x4, x5, x6, x7⟩, xf⟩ := hw.x2.c8
      obtain ⟨m0, m1, m2, m3, m4, m5, m6, m7⟩ := hs
      have i0 : ∀ w, (Instr.index 42 (.agg #[.int .u32 (ra : Int), .int .u32 rb, .int .u32 rc, .int .u32 rd, .int .u32 re, .int .u32 rf, .int .u32 rg, .int .u32 rh]) (.int .i64 0)).run Tryd.prog w = .ok (.int .u32 ra) w := fun _ => by kernel_rfl
      have i1 : ∀ w, (Instr.index 42 (.agg #[.int .u32 (ra : Int), .int .u32 rb, .int .u32 rc, .int .u32 rd, .int .u32 re, .int .u32 rf, .int .u32 rg, .int .u32 rh]) (.int .i64 1)).run Tryd.prog w = .ok (.int .u32 rb) w := fun _ => by kernel_rfl
      have i2 : ∀ w, (Instr.index 42 (.agg #[.int .u32 (ra : Int), .int .u32 rb, .int .u32 rc, .int .u32 rd, .int .u32 re, .int .u32 rf, .int .u32 rg, .int .u32 rh]) (.int .i64 2)).run Tryd.prog w = .ok (.int .u32 rc) w := fun _ => by kernel_rfl
      have i3 : ∀ w, (Instr.index 42 (.agg #[.int .u32 (ra : Int), .int .u32 rb, .int .u32 rc, .int .u32 rd, .int .u32 re, .int .u32 rf, .int .u32 rg, .int .u32 rh]) (.int .i64 3)).run Tryd.prog w = .ok (.int .u32 rd) w := fun _ => by kernel_rfl
      have i4 : ∀ w, (Instr.index 42 (.agg #[.int .u32 (ra : Int), .int .u32 rb, .int .u32 rc, .int .u32 rd, .int .u32 re, .int .u32 rf, .int .u32 rg, .int .u32 rh]) (.int .i64 4)).run Tryd.prog w = .ok (.int .u32 re) w := fun _ => by kernel_rfl
      have i5 : ∀ w, (Instr.index 42 (.agg #[.int .u32 (ra : Int), .int .u32 rb, .int .u32 rc, .int .u32 rd, .int .u32 re, .int .u32 rf, .int .u32 rg, .int .u32 rh]) (.int .i64 5)).run Tryd.prog w = .ok (.int .u32 rf) w := fun _ => by kernel_rfl
      have i6 : ∀ w, (Instr.index 42 (.agg #[.int .u32 (ra : Int), .int .u32 rb, .int .u32 rc, .int .u32 rd, .int .u32 re, .int .u32 rf, .int .u32 rg, .int .u32 rh]) (.int .i64 6)).run Tryd.prog w = .ok (.int .u32 rg) w := fun _ => by kernel_rfl
      have i7 : ∀ w, (Instr.index 42 (.agg #[.int .u32 (ra : Int), .int .u32 rb, .int .u32 rc, .int .u32 rd, .int .u32 re, .int .u32 rf, .int .u32 rg, .int .u32 rh]) (.int .i64 7)).run Tryd.prog w = .ok (.int .u32 rh) w := fun _ => by kernel_rfl
      have ho := hw.only
      have HX2 := Lib.hid hw.x2
      clear hw hBB
      go_wp2
      refine wp_loop_rounds 9 ?_
      rw [rounds_succ]
      go_wp2
      rw [rounds_succ]
      go_wp2
      rw [rounds_succ]
      go_wp2
      rw [rounds_succ]
      go_wp2
      rw [rounds_succ]
      go_wp2
      rw [rounds_succ]
      go_wp2
      rw [rounds_succ]
      go_wp2
      rw [rounds_succ]
      go_wp2
      rw [rounds_succ]
      go_wp2
      rw [HR.out]
      have hb := (HX2.out.far8 w.heap.size (by simp) (.int .u32 (((s.a : Int) + ra) % 4294967296)) (.int .u32 (((s.b : Int) + rb) % 4294967296)) (.int .u32 (((s.c : Int) + rc) % 4294967296)) (.int .u32 (((s.d : Int) + rd) % 4294967296)) (.int .u32 (((s.e : Int) + re) % 4294967296)) (.int .u32 (((s.f : Int) + rf) % 4294967296)) (.int .u32 (((s.g : Int) + rg) % 4294967296)) (.int .u32 (((s.h : Int) + rh) % 4294967296))).set8 (.int .u32 (((s.a : Int) + ra) % 4294967296)) (.int .u32 (((s.b : Int) + rb) % 4294967296)) (.int .u32 (((s.c : Int) + rc) % 4294967296)) (.int .u32 (((s.d : Int) + rd) % 4294967296)) (.int .u32 (((s.e : Int) + re) % 4294967296)) (.int .u32 (((s.f : Int) + rf) % 4294967296)) (.int .u32 (((s.g : Int) + rg) % 4294967296)) (.int .u32 (((s.h : Int) + rh) % 4294967296))
      obtain ⟨⟨v0, v1, v2, v3, v4, v5, v6, v7⟩, _⟩ := hb.c8
      refine bodyPost_ret (v := .agg #[.int .u32 (((s.a : Int) + ra) % 4294967296), .int .u32 (((s.b : Int) + rb) % 4294967296), .int .u32 (((s.c : Int) + rc) % 4294967296), .int .u32 (((s.d : Int) + rd) % 4294967296), .int .u32 (((s.e : Int) + re) % 4294967296), .int .u32 (((s.f : Int) + rf) % 4294967296), .int .u32 (((s.g : Int) + rg) % 4294967296), .int .u32 (((s.h : Int) + rh) % 4294967296)]) ?_ rfl ⟨?_, ?_⟩
      · simp [results, Tryd.results19, go_sem, v0, v1, v2, v3, v4, v5, v6, v7]
      · simp only [Int.natCast_emod, Int.natCast_add]; rfl
      · exact (ho.set8 w.heap.size (Nat.le_refl _) _ _ _ _ _ _ _ _).set8 (w.heap.size + 1) (by omega) _ _ _ _ _ _ _ _
end Go.Proofs.YtpmikgbdicokhaaDoor
