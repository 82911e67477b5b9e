import Derived.Test.YtpmikgbdicokhaaDoorW7
import Derived.Deep.WholeRow
import Derived.WalkKit
import Derived.WalkLawsBesides
import Derived.WalkSpells
import Derived.BigQuiet
import Derived.BigRegion
import Derived.Deep.QuietTactic
import Derived.Deep.RegionHeld3
import Derived.StillTailTactics
import Derived.Deep.LoopGhost
import Derived.Outline
import Derived.Lib.Hide
namespace Go.Proofs.YtpmikgbdicokhaaDoor
open Go.RowKit
set_option linter.unusedVariables false

/-- A hash that was given nothing. -/
theorem hash_new (w : World) : HashAt (w.alloc (.cells (hcells ⟨0, 0, 0, 0, 0, 0, 0, 0⟩ none 0 0 0 false) 45)) w.heap.size [] :=
  ⟨fun _ hx => absurd hx List.not_mem_nil, none, 0, ⟨⟨0, 0, 0, 0, 0, 0, 0, 0⟩, Blk.new w 45 _, rfl⟩, World.ownsRow_nil _ _ _ _⟩

/-- A store of a whole row into the block of 32 zeros that func 9's and func 14's result lies in. -/
theorem z24 : tab 32 (fun _ => ub 0) = #[.int .u8 0, .int .u8 0, .int .u8 0, .int .u8 0, .int .u8 0, .int .u8 0, .int .u8 0, .int .u8 0, .int .u8 0, .int .u8 0, .int .u8 0, .int .u8 0, .int .u8 0, .int .u8 0, .int .u8 0, .int .u8 0, .int .u8 0, .int .u8 0, .int .u8 0, .int .u8 0, .int .u8 0, .int .u8 0, .int .u8 0, .int .u8 0, .int .u8 0, .int .u8 0, .int .u8 0, .int .u8 0, .int .u8 0, .int .u8 0, .int .u8 0, .int .u8 0] := rfl
theorem zero24 (w : World) : (zeroValue 24).run Tryd.prog w = .ok (.agg (tab 32 (fun _ => ub 0))) w := by kernel_rfl

set_option maxHeartbeats 1000000 in
/-- Sum of no hash. -/
theorem sum_nil (w : World) (hk : KK w) : Calls Tryd.prog 14 #[.pointer none] w fun e w' => e = .returned (dval (sha [])) ∧ Only (fun _ => False) w w' := by
  go_enter Tryd.func14, Tryd.ntmps14
  have hT1 := Tab.new w 24 32 (fun _ => ub 0)
  have ho1 := (Only.refl (fun _ => False) w).alloc (.cells (tab 32 (fun _ => ub 0)) 24)
  rw [z24] at hT1 ho1
  have hlt1 := hT1.lt
  go_wp2_with fail
  revert hT1 ho1 hlt1
  generalize w.alloc _ = w1
  intro hT1 ho1 hlt1
  refine (new_any _).mono ?_
  rintro e w2 ⟨rfl, h2⟩
  have hH := hash_new w1
  have ho2 := (Only.refl (fun _ => False) w1).alloc (.cells (hcells ⟨0, 0, 0, 0, 0, 0, 0, 0⟩ none 0 0 0 false) 45)
  rw [h2] at hH ho2
  have hk2 := (hk.only ho1 (fun x => x)).only ho2 (fun x => x)
  go_wp2_with fail
  refine (sum_any w1.heap.size (by omega) [] w2 hk2 hH (by simp)).mono ?_
  rintro e w3 ⟨rfl, ho3⟩
  obtain ⟨w9, hst, ht9, ho9⟩ := store_tab (P := Tryd.prog) (fun i => ub (dby (sha []) i)) ((hT1.only ho2 (fun x => x)).only ho3 (fun x => x)) (fun _ => rfl)
  unfold dval
  go_wp2
  refine bodyPost_ret (v := dval (sha [])) (results_cell_row rfl _ _ w.heap.size 24 (tab 32 fun i => ub (dby (sha []) i)) (0, 0) _ rfl ht9 Tryd.underlying24 rfl (info24 _)) rfl ⟨rfl, ?_⟩
  exact ((ho1.trans ho2).trans ho3).trans_of ho9 (fun i hi e => by omega)

set_option maxHeartbeats 1000000 in
/-- Sum of bytes. -/
theorem all_any (b : List Nat) (Ab : Option Addr) (cb : Nat) (w : World) (hk : KK w) (hl : ∀ x ∈ b, x < 256) (hb : Reads w w.heap.size Ab b.length (b.map ub)) (hAb : Ab = none → b.length = 0) (hsz : b.length ≤ 70368744177664) :
    Calls Tryd.prog 9 #[.slice Ab b.length cb] w fun e w' => e = .returned (dval (sha b)) ∧ Only (fun _ => False) w w' := by
  go_enter Tryd.func9, Tryd.ntmps9
  have hT1 := Tab.new w 24 32 (fun _ => ub 0)
  have ho1 := (Only.refl (fun _ => False) w).alloc (.cells (tab 32 (fun _ => ub 0)) 24)
  rw [z24] at hT1 ho1
  have hlt1 := hT1.lt
  go_wp2_with fail
  revert hT1 ho1 hlt1
  generalize w.alloc _ = w1
  intro hT1 ho1 hlt1
  refine (new_any _).mono ?_
  rintro e w2 ⟨rfl, h2⟩
  have hH := hash_new w1
  have ho2 := (Only.refl (fun _ => False) w1).alloc (.cells (hcells ⟨0, 0, 0, 0, 0, 0, 0, 0⟩ none 0 0 0 false) 45)
  rw [h2] at hH ho2
  have hk2 := (hk.only ho1 (fun x => x)).only ho2 (fun x => x)
  have hR2 := (hb.only (Nat.le_refl _) (ho1.trans ho2) (fun _ _ x => x)).more (ho1.trans ho2).size
  have hN2 : RN w2 w1.heap.size Ab b.length (b.map ub) := ⟨hR2, fun hn a ha => by
    obtain ⟨b', o', e, hlt, _⟩ := hb.2 hn
    rw [e] at ha; cases ha
    show b' ≠ _
    omega⟩
  go_wp2_with fail
  refine (write_any w1.heap.size (by omega) [] b Ab cb w2 hk2 hH hl hN2 hAb hsz (by simp)).mono ?_
  rintro e w3 ⟨rfl, hH3, ho3⟩
  have hk3 := hk2.only ho3 (by omega)
  rw [List.nil_append] at hH3
  go_wp2_with fail
  refine (sum_any w1.heap.size (by omega) b w3 hk3 hH3 (by omega)).mono ?_
  rintro e w4 ⟨rfl, ho4⟩
  obtain ⟨w9, hst, ht9, ho9⟩ := store_tab (P := Tryd.prog) (fun i => ub (dby (sha b) i)) (((hT1.only ho2 (fun x => x)).only ho3 (by omega)).only ho4 (fun x => x)) (fun _ => rfl)
  unfold dval
  go_wp2
  refine bodyPost_ret (v := dval (sha b)) (results_cell_row rfl _ _ w.heap.size 24 (tab 32 fun i => ub (dby (sha b) i)) (0, 0) _ rfl ht9 Tryd.underlying24 rfl (info24 _)) rfl ⟨rfl, ?_⟩
  exact (((ho1.trans ho2).trans_of ho3 (fun i hi e => by omega)).trans ho4).trans_of ho9 (fun i hi e => by omega)
end Go.Proofs.YtpmikgbdicokhaaDoor
