import Derived.Test.YtpmikgbdicokhaaDoorW1
import Derived.WalkKit
import Derived.WalkLawsBesides
import Derived.WalkSpells
import Derived.BigQuiet
import Derived.BigRegion
import Derived.Deep.QuietTactic
import Derived.Deep.RegionHeld3
import Derived.StillTailTactics
import Derived.Deep.LoopGhost
import Derived.Outline
import Derived.Lib.Hide
namespace Go.Proofs.YtpmikgbdicokhaaDoor
open Go.RowKit
set_option linter.unusedVariables false

def uw (x : Nat) : Value := .int .u32 (x : Int)
theorem zero52 (w : World) : (zeroValue 52).run Tryd.prog w = .ok (.agg (tab 64 (fun _ => uw 0))) w := by kernel_rfl

/-- The bytes of a piece lie behind an address. -/
def Piece (w : World) (bb bo : Nat) (B : Nat → Nat) : Prop := bb < w.heap.size ∧ (∀ i, B i < 256) ∧ ∀ i, i < 64 → w.cell? ⟨bb, bo + i, none⟩ = some (.int .u8 (B i : Int))
theorem Piece.only {w w' : World} {bb bo : Nat} {B : Nat → Nat} {S : Nat → Prop} (h : Piece w bb bo B) (ho : Only S w w') (hs : ¬ S bb) : Piece w' bb bo B :=
  ⟨Nat.lt_of_lt_of_le h.1 ho.size, h.2.1, fun i hi => (Blk.cell_only ho (a := ⟨bb, bo + i, none⟩) h.1 hs).trans (h.2.2 i hi)⟩

theorem info52 (f : Nat → Value) : (Tryd.prog.info? 52).map (·.size) = some (tab 64 f).size := by rw [tab_size]; kernel_rfl
theorem putw (B : Nat → Nat) (k : Nat) : ∀ i, i < 64 → put (fun i => uw (if i < k then wn B i else 0)) k (.int .u32 (wn B k : Int)) i = uw (if i < k + 1 then wn B i else 0) := by
  intro i _
  unfold put
  by_cases h : i = k
  · subst h; rw [if_pos rfl, if_pos (by omega)]; rfl
  · rw [if_neg h]
    by_cases h2 : i < k
    · simp only [if_pos h2, if_pos (show i < k + 1 by omega)]
    · simp only [if_neg h2, if_neg (show ¬ i < k + 1 by omega)]
theorem sched_sum (x16 x15 x7 x2 : Nat) (l15 : x15 < 4294967296) (l2 : x2 < 4294967296) :
    ((((x16 : Int) + bits .xor .u32 (bits .xor .u32 (rot 7 x15 : Nat) (rot 18 x15 : Nat)) ((x15 : Int) / 8)) % 4294967296 + (x7 : Int)) % 4294967296 + bits .xor .u32 (bits .xor .u32 (rot 17 x2 : Nat) (rot 19 x2 : Nat)) ((x2 : Int) / 1024)) % 4294967296 =
      (((x16 + sm0 x15 + x7 + sm1 x2) % 4294967296 : Nat) : Int) := by
  have e1 : (x15 : Int) / 8 = ((x15 / 8 : Nat) : Int) := by omega
  have e2 : (x2 : Int) / 1024 = ((x2 / 1024 : Nat) : Int) := by omega
  rw [e1, e2, u32_xor_nat _ _ (rot_lt _ l15) (rot_lt _ l15), u32_xor_nat _ _ (xor_lt (rot_lt _ l15) (rot_lt _ l15)) (div_lt _ l15),
    u32_xor_nat _ _ (rot_lt _ l2) (rot_lt _ l2), u32_xor_nat _ _ (xor_lt (rot_lt _ l2) (rot_lt _ l2)) (div_lt _ l2)]
  change ((((x16 : Int) + (sm0 x15 : Nat)) % 4294967296 + (x7 : Int)) % 4294967296 + (sm1 x2 : Nat)) % 4294967296 = _
  generalize sm0 x15 = p
  generalize sm1 x2 = q
  omega
theorem word_bits (a b c d : Nat) (ha : a < 256) (hb : b < 256) (hc : c < 256) (hd : d < 256) :
    bits .or .u32 (bits .or .u32 (bits .or .u32 ((a : Int) * 16777216) ((b : Int) * 65536)) ((c : Int) * 256)) (d : Int) = ((a * 16777216 + b * 65536 + c * 256 + d : Nat) : Int) := by
  have e1 : (a : Int) * 16777216 = ((a * 16777216 : Nat) : Int) := by omega
  have e2 : (b : Int) * 65536 = ((b * 65536 : Nat) : Int) := by omega
  have e3 : (c : Int) * 256 = ((c * 256 : Nat) : Int) := by omega
  rw [e1, e2, e3, u32_or_nat _ _ (by omega) (by omega), nat_join 24 _ _ (by omega) (by omega), u32_or_nat _ _ (by omega) (by omega), nat_join 16 _ _ (by omega) (by omega), u32_or_nat _ _ (by omega) (by omega), nat_join 8 _ _ (by omega) (by omega)]

set_option maxRecDepth 10000 in
set_option maxHeartbeats 1000000 in
theorem numbers_any (bb bo len cap : Nat) (B : Nat → Nat) (w : World) (hp : Piece w bb bo B) (hl : 64 ≤ len) (hl2 : len ≤ 1000000) :
    Calls Tryd.prog 25 #[.slice (some ⟨bb, bo, none⟩) len cap] w fun e w' => e = .returned (.agg (tab 64 fun i => uw (wn B i))) ∧ Only (fun _ => False) w w' := by
  have hz := zero52
  have hpl := hp.1
  go_enter Tryd.func25, Tryd.ntmps25
  go_wp2
  clear hz
  go_loopw [7] (fun t wr => ∃ k : Nat, k ≤ 64 ∧ t = .int .i64 k ∧ Tab wr w.heap.size 52 64 (fun _ => uw 0) ∧ Tab wr (w.heap.size + 1) 52 64 (fun i => uw (if i < k then wn B i else 0)) ∧ Only (fun _ => False) w wr) (fun t _ => 64 - (intOf t).toNat)
  case atStart =>
    refine ⟨0, by omega, rfl, (Tab.new w 52 64 _).alloc _, ?_, ((Only.refl _ _).alloc _).alloc _⟩
    have := Tab.new (w.alloc (.cells (tab 64 (fun _ => uw 0)) 52)) 52 64 (fun _ => uw 0)
    rw [World.size_alloc] at this
    exact this.congr (by simp)
  case round =>
    obtain ⟨k, hk, rfl, ht1, ht2, ho⟩ := hrel
    by_cases hlt : k < 64
    · by_cases h16 : k < 16
      · have hp' := hp.only ho (fun x => x)
        have x0 := hp'.2.2 (4 * k) (by omega)
        have x1 := hp'.2.2 (4 * k + 1) (by omega)
        have x2 := hp'.2.2 (4 * k + 2) (by omega)
        have x3 := hp'.2.2 (4 * k + 3) (by omega)
        have y0 := hp'.2.1 (4 * k)
        have y1 := hp'.2.1 (4 * k + 1)
        have y2 := hp'.2.1 (4 * k + 2)
        have y3 := hp'.2.1 (4 * k + 3)
        have z0 := ht2.cell k (by omega)
        have z1 := ht2.frozen k
        have HT := Lib.hid (And.intro ht1 ht2)
        clear hp hp' ht1 ht2
        have HW := Lib.hid (show _ = _ from (wn_low B k h16).symm)
        unfold word at HW
        generalize B (4 * k) = b0 at x0 y0 HW
        generalize B (4 * k + 1) = b1 at x1 y1 HW
        generalize B (4 * k + 2) = b2 at x2 y2 HW
        generalize B (4 * k + 3) = b3 at x3 y3 HW
        go_wp2
        go_region
        go_wp2
        go_roundw
        case rel =>
          rw [word_bits b0 b1 b2 b3 y0 y1 y2 y3, HW.out]
          exact ⟨k + 1, by omega, by go_num, (HT.out.1.far (by simp) _).drew, ((HT.out.2.set_ k _).congr (putw B k)).drew, (ho.setCell (.inr (by simp)) _).drew⟩
        case measure => simp [intOf]; omega
      · have z0 := ht2.cell k (by omega)
        have z1 := ht2.frozen k
        have c15 := ht2.cell (k - 15) (by omega)
        have c2 := ht2.cell (k - 2) (by omega)
        have c16 := ht2.cell (k - 16) (by omega)
        have c7 := ht2.cell (k - 7) (by omega)
        rw [if_pos (by omega)] at c15 c2 c16 c7
        have l15 := wn_lt B hp.2.1 (k - 15)
        have l2 := wn_lt B hp.2.1 (k - 2)
        have l16 := wn_lt B hp.2.1 (k - 16)
        have l7 := wn_lt B hp.2.1 (k - 7)
        have HW := Lib.hid (wn_high B k (by omega))
        have HT := Lib.hid (And.intro ht1 ht2)
        have h16' : 16 ≤ k := by omega
        clear hp ht1 ht2 h16
        generalize wn B (k - 15) = x15 at c15 l15 HW
        generalize wn B (k - 2) = x2 at c2 l2 HW
        generalize wn B (k - 16) = x16 at c16 l16 HW
        generalize wn B (k - 7) = x7 at c7 l7 HW
        unfold uw at c15 c2 c16 c7 z0
        go_wp2
        go_quiet (fail)
        go_wp2
        have w16 : IntKind.i64.wrap ((k : Int) - 16) = (k : Int) - 16 := IntWalk.i64_in _ (by omega)
        have w7 : IntKind.i64.wrap ((k : Int) - 7) = (k : Int) - 7 := IntWalk.i64_in _ (by omega)
        have g16 : (0 : Int) ≤ (k : Int) - 16 := by omega
        have g7 : (0 : Int) ≤ (k : Int) - 7 := by omega
        have g16' : (16 : Int) ≤ (k : Int) := by omega
        have g7' : (7 : Int) ≤ (k : Int) := by omega
        have u16 : (k : Int) - 16 < 64 := by omega
        have u7 : (k : Int) - 7 < 64 := by omega
        have t16 : ((k : Int) - 16).toNat = k - 16 := by omega
        have t7 : ((k : Int) - 7).toNat = k - 7 := by omega
        have kl : (k : Int) < 64 := by omega
        have kg : (0 : Int) ≤ (k : Int) := by omega
        go_region_held3 (fun w' => w'.cell? ⟨w.heap.size + 1, k - 16, none⟩ = some (.int .u32 x16) ∧ w'.cell? ⟨w.heap.size + 1, k - 7, none⟩ = some (.int .u32 x7)) (first | go_keep | (refine ⟨?_, ?_⟩ <;> (rw [World.cell?_setCell_other _ _ _ _ (by simp <;> omega)]; go_simp))) (first | (go_at_call 26; refine (rot_n _ _ (by assumption) (by decide) _).mono ?_; rintro e w' ⟨rfl, rfl⟩))
        go_wp2
        go_roundw
        case rel =>
          rw [sched_sum x16 x15 x7 x2 l15 l2, ← HW.out]
          exact ⟨k + 1, by omega, by go_num, (HT.out.1.drewN _).far (by simp) _, ((HT.out.2.drewN _).set_ k _).congr (putw B k), (ho.drewN _).setCell (.inr (by simp)) _⟩
        case measure => simp [intOf]; omega
    · obtain rfl : k = 64 := by omega
      have ht3 : Tab wr (w.heap.size + 1) 52 64 (fun i => uw (wn B i)) := ht2.congr (fun i hi => by simp only [if_pos hi])
      obtain ⟨w4, hst, ht4, ho4⟩ := store_tab (P := Tryd.prog) (fun i => uw (wn B i)) ht1 (fun _ => rfl)
      clear ht2 ht1 hp
      go_wp2_with (refine wpList_load_row rfl 52 (.tmp 3) rfl (w.heap.size + 1) rfl 52 (tab 64 fun i => uw (wn B i)) (0, 0) _ ht3 Tryd.underlying52 rfl (info52 _) ?_)
      refine bodyPost_ret (v := .agg (tab 64 fun i => uw (wn B i))) (results_cell_row rfl _ _ w.heap.size 52 (tab 64 fun i => uw (wn B i)) (0, 0) _ rfl ht4 Tryd.underlying52 rfl (info52 _)) rfl ⟨rfl, ?_⟩
      exact ho.trans_of ho4 (fun i hi e => by omega)
end Go.Proofs.YtpmikgbdicokhaaDoor
