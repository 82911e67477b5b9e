import Derived.Test.YtpmikgbdicokhaaDoorW3
import Derived.Test.YtpmikgbdicokhaaDoorApp
import Derived.Deep.WholeRow
import Derived.WalkKit
import Derived.WalkLawsBesides
import Derived.WalkSpells
import Derived.BigQuiet
import Derived.BigRegion
import Derived.Deep.QuietTactic
import Derived.Deep.RegionHeld3
import Derived.StillTailTactics
import Derived.Deep.LoopGhost
import Derived.Outline
import Derived.Lib.Hide
namespace Go.Proofs.YtpmikgbdicokhaaDoor
open Go.RowKit
set_option linter.unusedVariables false

theorem first_any (w : World) : Calls Tryd.prog 24 #[] w fun e w' => e = .returned first8.val ∧ Only (fun _ => False) w w' := by
  go_enter Tryd.func24, Tryd.ntmps24
  go_wp2
  refine bodyPost_ret (v := first8.val) (by simp [results, Tryd.results24, go_sem]; rfl) rfl ⟨rfl, ?_⟩
  exact (Only.refl _ _).alloc _

def hcells (s : S8) (A : Option Addr) (rl cap : Nat) (n : Nat) (on : Bool) : Array Value :=
  #[uw s.a, uw s.b, uw s.c, uw s.d, uw s.e, uw s.f, uw s.g, uw s.h, .slice A rl cap, .int .u64 n, .bool on]

theorem hcells_c {w : World} {p : Nat} {s : S8} {A : Option Addr} {rl cap n : Nat} {on : Bool} (h : Blk w p 45 (hcells s A rl cap n on)) :
    (w.cell? ⟨p, 0, none⟩ = some (.int .u32 s.a) ∧ w.cell? ⟨p, 1, none⟩ = some (.int .u32 s.b) ∧ w.cell? ⟨p, 2, none⟩ = some (.int .u32 s.c) ∧ w.cell? ⟨p, 3, none⟩ = some (.int .u32 s.d) ∧
      w.cell? ⟨p, 4, none⟩ = some (.int .u32 s.e) ∧ w.cell? ⟨p, 5, none⟩ = some (.int .u32 s.f) ∧ w.cell? ⟨p, 6, none⟩ = some (.int .u32 s.g) ∧ w.cell? ⟨p, 7, none⟩ = some (.int .u32 s.h)) ∧
    w.cell? ⟨p, 8, none⟩ = some (.slice A rl cap) ∧ w.cell? ⟨p, 9, none⟩ = some (.int .u64 n) ∧ w.cell? ⟨p, 10, none⟩ = some (.bool on) ∧ ∀ i, w.frozen? ⟨p, i, none⟩ = false :=
  ⟨⟨by rw [h.cell]; rfl, by rw [h.cell]; rfl, by rw [h.cell]; rfl, by rw [h.cell]; rfl, by rw [h.cell]; rfl, by rw [h.cell]; rfl, by rw [h.cell]; rfl, by rw [h.cell]; rfl⟩, by rw [h.cell]; rfl, by rw [h.cell]; rfl, by rw [h.cell]; rfl, fun i => h.frozen i⟩

/-- The state that now tells. -/
def nowOf (s : S8) (on : Bool) : S8 := if on then s else first8

theorem now_any (p : Nat) (s : S8) (A : Option Addr) (rl cap n : Nat) (on : Bool) (w : World) (hb : Blk w p 45 (hcells s A rl cap n on)) :
    Calls Tryd.prog 18 #[.pointer (some ⟨p, 0, none⟩)] w fun e w' => e = .returned (nowOf s on).val ∧ Only (fun _ => False) w w' := by
  have hne : p ≠ w.heap.size := by have := hb.lt; omega
  have ho0 : Only (fun _ => False) w (w.alloc (.cells #[.int .u32 0, .int .u32 0, .int .u32 0, .int .u32 0, .int .u32 0, .int .u32 0, .int .u32 0, .int .u32 0] 42)) := (Only.refl _ _).alloc _
  have hn := Blk.new w 42 #[.int .u32 0, .int .u32 0, .int .u32 0, .int .u32 0, .int .u32 0, .int .u32 0, .int .u32 0, .int .u32 0]
  obtain ⟨⟨y0, y1, y2, y3, y4, y5, y6, y7⟩, _, _, y10, _⟩ := hcells_c (hb.alloc (.cells #[.int .u32 0, .int .u32 0, .int .u32 0, .int .u32 0, .int .u32 0, .int .u32 0, .int .u32 0, .int .u32 0] 42))
  have hsz : w.heap.size < (w.alloc (.cells #[.int .u32 0, .int .u32 0, .int .u32 0, .int .u32 0, .int .u32 0, .int .u32 0, .int .u32 0, .int .u32 0] 42)).heap.size := by simp
  clear hb
  have hf := first_any
  unfold first8 S8.val uw at hf
  cases on
  · go_enter Tryd.func18, Tryd.ntmps18
    go_wp2_with fail
    refine (hf _).mono ?_
    rintro e w' ⟨rfl, ho⟩
    have ho1 := (ho0.trans ho)
    have hb := hn.only ho (fun x => x)
    clear y0 y1 y2 y3 y4 y5 y6 y7 y10 ho0 ho hn
    obtain ⟨⟨x0, x1, x2, x3, x4, x5, x6, x7⟩, xf⟩ := hb.c8
    have xf0 := xf 0
    have xf1 := xf 1
    have xf2 := xf 2
    have xf3 := xf 3
    have xf4 := xf 4
    have xf5 := xf 5
    have xf6 := xf 6
    have xf7 := xf 7
    clear xf hsz hne hf
    go_wp2
    have hb' := hb.set8 (.int .u32 1779033703) (.int .u32 3144134277) (.int .u32 1013904242) (.int .u32 2773480762) (.int .u32 1359893119) (.int .u32 2600822924) (.int .u32 528734635) (.int .u32 1541459225)
    obtain ⟨⟨v0, v1, v2, v3, v4, v5, v6, v7⟩, _⟩ := hb'.c8
    refine bodyPost_ret (v := first8.val) ?_ rfl ⟨rfl, ?_⟩
    · simp [results, Tryd.results18, go_sem, v0, v1, v2, v3, v4, v5, v6, v7]; rfl
    · exact ho1.set8 w.heap.size (Nat.le_refl _) _ _ _ _ _ _ _ _
  · have hb' := hn.set8 (.int .u32 s.a) (.int .u32 s.b) (.int .u32 s.c) (.int .u32 s.d) (.int .u32 s.e) (.int .u32 s.f) (.int .u32 s.g) (.int .u32 s.h)
    obtain ⟨⟨x0, x1, x2, x3, x4, x5, x6, x7⟩, xf⟩ := hn.c8
    go_enter Tryd.func18, Tryd.ntmps18
    go_wp2
    obtain ⟨⟨v0, v1, v2, v3, v4, v5, v6, v7⟩, _⟩ := hb'.c8
    refine bodyPost_ret (v := s.val) ?_ rfl ⟨rfl, ?_⟩
    · simp [results, Tryd.results18, go_sem]; rfl
    · exact (Only.refl _ _).alloc _

theorem new_any (w : World) : Calls Tryd.prog 15 #[] w fun e w' => e = .returned (.pointer (some ⟨w.heap.size, 0, none⟩)) ∧ w.alloc (.cells (hcells ⟨0, 0, 0, 0, 0, 0, 0, 0⟩ none 0 0 0 false) 45) = w' := by
  go_enter Tryd.func15, Tryd.ntmps15
  go_wp2
  go_ret
  exact ⟨rfl, rfl⟩
end Go.Proofs.YtpmikgbdicokhaaDoor
