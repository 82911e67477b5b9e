/-
  kintsugilaw03.of; kintsugiref03.Same.
-/
import Derived.Test.YtnclappdokhciaaS4
import Derived.BigQuiet
import Derived.Deep.QuietTactic
namespace Go.Proofs.Ytnclappdokhciaa
open Go Go.RowKit
set_option linter.unusedVariables false

theorem res17 (tm : Array Value) (W : World) (g : Nat) (x y z : Value) (h2 : tm.getD 2 undef = .pointer (some ⟨g, 0, none⟩)) (hb : Blk W g 29 #[x, y, z]) :
    (results Try.f17 tm).run Try.prog W = .ok (.agg #[x, y, z]) W := by
  have hl := run_loadVar_row (P := Try.prog) W g 29 29 #[x, y, z] (0, 0) _ hb Try.underlying29 rfl (by kernel_rfl)
  unfold results
  rw [Try.results17]
  simp only [List.mapM_toArray, List.mapM_cons, List.mapM_nil, h2]
  simp [asAddr, hl]

set_option maxRecDepth 10000 in
set_option maxHeartbeats 2000000 in
/-- kintsugilaw03.of. -/
theorem of_any (a b : Bool) (A : Option Addr) (n c : Nat) (w : World) :
    Calls Try.prog 17 #[.agg #[.bool a, .slice A n c, .bool b]] w fun e w' => e = .returned (.agg #[.bool a, .slice A n c, .bool b]) ∧ Only (fun _ => False) w w' := by
  have hb1 := Lib.hid (Blk.new (w.alloc (.cells #[.bool a, .slice A n c, .bool b] 25)) 29 #[.bool a, .slice A n c, .bool b])
  go_enter Try.func17, Try.ntmps17
  go_wp2
  refine bodyPost_ret (res17 _ _ (w.heap.size + 1) _ _ _ rfl (by have := hb1.out; rwa [World.size_alloc] at this)) rfl ⟨rfl, ((Only.refl _ w).alloc _).alloc _⟩

theorem RowS.cell {w : World} {A : Option Addr} {l : List ByteArray} {c : Nat} (h : RowS w A l c) {i : Nat} {x : ByteArray} (hx : l[i]? = some x) : ∃ b o, A = some ⟨b, o, none⟩ ∧ b < w.heap.size ∧ w.cell? ⟨b, o + i, none⟩ = some (.string x) := by
  have hi := (List.getElem?_eq_some_iff.1 hx).1
  obtain ⟨b, o, e, hb, hc⟩ := h.1.2 (by omega)
  exact ⟨b, o, e, hb, hc i (.string x) (by unfold strs; rw [List.getElem?_map, hx]; rfl)⟩
set_option maxRecDepth 10000 in
set_option maxHeartbeats 2000000 in
/-- kintsugiref03.Same: of one path twice. -/
theorem same_true (a b : Bool) (l : List ByteArray) (A A' : Option Addr) (c c' : Nat) (w : World) (h : RowS w A l c) (h' : RowS w A' l c') (hl : l.length ≤ 1000000) :
    Calls Try.prog 16 #[.agg #[.bool a, .slice A l.length c, .bool b], .agg #[.bool a, .slice A' l.length c', .bool b]] w fun e w' => e = .returned (.bool true) ∧ Only (fun _ => False) w w' := by
  have hb1 := (Blk.new w 29 #[.bool a, .slice A l.length c, .bool b]).alloc (.cells #[.bool a, .slice A' l.length c', .bool b] 29)
  have hb2 := Blk.new (w.alloc (.cells #[.bool a, .slice A l.length c, .bool b] 29)) 29 #[.bool a, .slice A' l.length c', .bool b]
  rw [World.size_alloc] at hb2
  have ho : Only (fun _ => False) w ((w.alloc (.cells #[.bool a, .slice A l.length c, .bool b] 29)).alloc (.cells #[.bool a, .slice A' l.length c', .bool b] 29)) := ((Only.refl _ w).alloc _).alloc _
  have hH := Lib.hid (And.intro hb1 (And.intro hb2 ho))
  clear hb1 hb2 ho
  go_enter Try.func16, Try.ntmps16
  go_wp2
  generalize hW : (w.alloc _).alloc _ = w2 at *
  clear hW
  go_loopw [4, 5] (fun _ t wr => ∃ i : Nat, t = .int .i64 i ∧ i ≤ l.length ∧ Only (fun _ => False) w2 wr) (fun _ t _ => l.length - (intOf t).toNat)
  case atStart => exact ⟨0, rfl, by omega, Only.refl _ _⟩
  case round =>
    obtain ⟨i, rfl, hi, hor⟩ := hrel
    obtain ⟨hb1, hb2, ho⟩ := hH.out
    have c1 := (hb1.only hor (fun x => x)).cell 1
    have c2 := (hb2.only hor (fun x => x)).cell 1
    simp only [List.getElem?_toArray, List.getElem?_cons_zero, List.getElem?_cons_succ] at c1 c2
    have how := ho.trans hor
    have hx1 := h.only how (fun _ _ _ x => x)
    have hx2 := h'.only how (fun _ _ _ x => x)
    clear hb1 hb2 ho
    by_cases hlt : i < l.length
    · obtain ⟨x, hx⟩ : ∃ x, l[i]? = some x := ⟨_, List.getElem?_eq_getElem hlt⟩
      obtain ⟨b1, o1, rfl, hl1, d1⟩ := hx1.cell hx
      obtain ⟨b2, o2, rfl, hl2, d2⟩ := hx2.cell hx
      have i0 : (0 : Int) ≤ (i : Int) := by omega
      have i1 : (i : Int) < (l.length : Int) := by omega
      have hor2 := Lib.hid hor
      have hx4 := Lib.hid (And.intro h h')
      clear hx1 hx2 how hor h h' hx
      go_wp2
      go_quiet (fail)
      go_wp2
      go_roundw
      case rel => exact ⟨i + 1, by go_num, by omega, hor2.out.drewN nq⟩
      case measure => simp [intOf]; omega
    · have i1 : ¬ (i : Int) < (l.length : Int) := by omega
      clear hx1 hx2
      go_wp2
      go_ret
      exact ⟨rfl, how⟩
end Go.Proofs.Ytnclappdokhciaa
