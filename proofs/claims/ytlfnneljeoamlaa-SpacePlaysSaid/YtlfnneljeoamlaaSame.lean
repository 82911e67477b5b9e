/-
  The law's own 'same' (func 18): true where the space and the two disks say the same.
-/
import Derived.Test.YtlfnneljeoamlaaRel
import Derived.WalkKit
import Derived.WalkLawsBesides
import Derived.WalkSpells
import Derived.BigQuiet
import Derived.Deep.QuietTactic
import Derived.Deep.LoopGhost
import Derived.Lib.Hide
namespace Go.Proofs.Ytlfnneljeoamlaa
open Go.RowKit
set_option linter.unusedVariables false

theorem quiet_l {P : Program} {f : FuncId} {args : Array Value} {w : World} {n : Nat} {v : Value}
    (h : Calls P f args (w.drewN n) fun e w' => e = .returned v ∧ w.drewN n = w') : Calls P f args (w.drewN n) fun e w'' => e = .returned v ∧ ∃ m, w'' = w.drewN m :=
  h.mono fun _ _ ⟨he, hm⟩ => ⟨he, n, hm.symm⟩

/-- A space and two disks that say the same, and the row of the disks' pointers. -/
structure Both (w : World) (p : Nat) (b : Nat → Nat) (L : St) (gw B : Nat) (q : Nat → Nat) (d : Nat → Rd) (u h s : Nat → Value) : Prop where
  sat : Sat w p b L
  dk : ∀ j, j ≤ 1 → DkV w (q j) B (d j) (u j) (h j) (s j)
  row : ∀ j, j ≤ 1 → w.cell? ⟨gw, j, none⟩ = some (.pointer (some ⟨q j, 0, none⟩))
  lt : gw < w.heap.size
  rel : ∀ j, j ≤ 1 → Rel (L j) (d j)
theorem Both.next {w w' : World} {p : Nat} {b : Nat → Nat} {L : St} {gw B : Nat} {q : Nat → Nat} {d : Nat → Rd} {u h s : Nat → Value} (hB : Both w p b L gw B q d u h s) (ho : Only (fun _ => False) w w') : Both w' p b L gw B q d u h s :=
  ⟨hB.sat.only ho (fun x => x) (fun x => x) (fun x => x), fun j hj => (hB.dk j hj).only ho (fun _ _ x => x), fun j hj => (Blk.cell_only (a := ⟨gw, j, none⟩) ho hB.lt (fun x => x)).trans (hB.row j hj), Nat.lt_of_lt_of_le hB.lt ho.size, hB.rel⟩

set_option maxRecDepth 10000 in
set_option maxHeartbeats 4000000 in
theorem same_any {w : World} {p : Nat} {b : Nat → Nat} {L : St} {gw B : Nat} {q : Nat → Nat} {d : Nat → Rd} {u h s : Nat → Value} (hB : Both w p b L gw B q d u h s) (c : Nat) (hc : 2 ≤ c) :
    Calls Try.prog 18 #[.pointer (some ⟨p, 0, none⟩), .slice (some ⟨gw, 0, none⟩) 2 c] w fun e w' => e = .returned (.bool true) ∧ Only (fun _ => False) w w' := by
  go_enter Try.func18, Try.ntmps18
  go_wp2
  go_loopw [5, 6, 7] (fun t _ _ wr => ∃ (i : Nat), t = .int .i64 i ∧ i ≤ 2 ∧ Only (fun _ => False) w wr) (fun t _ _ _ => 2 - (intOf t).toNat)
  case atStart => exact ⟨0, rfl, by omega, Only.refl _ _⟩
  case round =>
    obtain ⟨i, rfl, hi, ho⟩ := hrel
    by_cases hlt : i < 2
    · have hb := hB.next ho
      have hR := hB.rel i (by omega)
      have hl := hb.sat.len i (by omega)
      obtain ⟨k1, k2, k3⟩ := rel_counts hR
      have k0 := rel_free hR
      obtain ⟨m1, m2, m3, m4⟩ := rel_small hR hl
      have hcnt := count_w hb.sat (i : Int) i rfl (by omega) hR.ok (.agg #[.int .i64 (((d i).n : Int) - 1 - (d i).u.length - (d i).h.length), .int .i64 ((d i).u.length : Int), .int .i64 ((d i).h.length : Int), .int .i64 ((d i).s.length : Int)]) (by unfold countOf; rw [k0, k1, k2, k3])
      have i0 : (0 : Int) ≤ (i : Int) := by omega
      have i1 : (i : Int) < 2 := by omega
      go_wp2_with fail
      refine hcnt.mono ?_
      rintro e w4 ⟨rfl, ho4⟩
      have ho5 := (ho.trans ho4).alloc (.cells #[.int .i64 (((d i).n : Int) - 1 - (d i).u.length - (d i).h.length), .int .i64 ((d i).u.length : Int), .int .i64 ((d i).h.length : Int), .int .i64 ((d i).s.length : Int)] 36)
      have hb5 := hB.next ho5
      have hn5 := Blk.new w4 36 #[.int .i64 (((d i).n : Int) - 1 - (d i).u.length - (d i).h.length), .int .i64 ((d i).u.length : Int), .int .i64 ((d i).h.length : Int), .int .i64 ((d i).s.length : Int)]
      have y0 := hn5.cell 0
      have y1 := hn5.cell 1
      have y2 := hn5.cell 2
      have hD := hb5.dk i (by omega)
      obtain ⟨Au, cu, hu, hRu, _⟩ := row_form hD.ru
      obtain ⟨Ah, ch, hh, hRh, _⟩ := row_form hD.rh
      obtain ⟨As, cs, hs, hRs, _⟩ := row_form hD.rs
      have z0 := hD.hd.cell 0
      have z1 := hD.hd.cell 1
      have z2 := hD.hd.cell 2
      have z3 := hD.hd.cell 3
      have zr := hb5.row i (by omega)
      rw [hu, hh, hs] at z0 z1 z2 z3
      simp only [List.getElem?_toArray, List.getElem?_cons_zero, List.getElem?_cons_succ] at y0 y1 y2 z0 z1 z2 z3
      have v1 : IntKind.i64.wrap (((d i).n : Int) - 1) = ((d i).n : Int) - 1 := IntWalk.i64_in _ (by omega)
      have v2 : IntKind.i64.wrap (((d i).n : Int) - 1 - (d i).u.length) = ((d i).n : Int) - 1 - (d i).u.length := IntWalk.i64_in _ (by omega)
      have v3 : IntKind.i64.wrap (((d i).n : Int) - 1 - (d i).u.length - (d i).h.length) = ((d i).n : Int) - 1 - (d i).u.length - (d i).h.length := IntWalk.i64_in _ (by omega)
      have v4 : IntKind.i64.wrap (((d i).n : Int) + 2) = ((d i).n : Int) + 2 := IntWalk.i64_in _ (by omega)
      have y3 := hn5.cell 3
      simp only [List.getElem?_toArray, List.getElem?_cons_zero, List.getElem?_cons_succ] at y3
      have HB5 := Lib.hid hb5
      have HO5 := Lib.hid ho5
      have Hhs := Lib.hid hs
      clear hb hR hl k0 k1 k2 k3 hcnt ho4 ho5 hb5 hn5 hD hRu hRh hRs hu hh hs ho
      go_wp2
      generalize hw5 : w4.alloc _ = w5 at *
      clear hw5
      go_quiet (fail)
      have HB6 := Lib.hid (HB5.out.next ((Only.refl (fun _ => False) w5).drewN nq))
      have HO6 := Lib.hid (HO5.out.drewN nq)
      clear HB5 HO5 y0 y1 y2 y3 z0 z1 z2 z3 zr v1 v2 v3
      generalize w5.drewN nq = w6 at *
      go_wp2
      go_loopw [7] (fun t wr' => ∃ (a : Nat), t = .int .i64 a ∧ a ≤ (d i).n + 2 ∧ Only (fun _ => False) w6 wr') (fun t _ => (d i).n + 2 - (intOf t).toNat)
      case atStart => exact ⟨0, rfl, by omega, Only.refl _ _⟩
      case round =>
        obtain ⟨a, rfl, ha, hoa⟩ := hrel
        have hb7 := HB6.out.next hoa
        have z0 : wr.cell? ⟨q i, 0, none⟩ = some (.int .i64 ((d i).n : Int)) := (hb7.dk i (by omega)).hd.cell 0
        have z3 : wr.cell? ⟨q i, 3, none⟩ = some (.slice As (d i).s.length cs) := by rw [← Hhs.out]; exact (hb7.dk i (by omega)).hd.cell 3
        have zr := hb7.row i (by omega)
        by_cases hat : a < (d i).n + 2
        · have u1 : IntKind.u16.wrap (a : Int) = (a : Int) := IntWalk.u16_in _ (by omega)
          have hlt2 : (a : Int) < ((d i).n : Int) + 2 := by omega
          have hr := rel_sickAt (hB.rel i (by omega)) a
          have hRs : Reads wr wr.heap.size As (d i).s.length ((d i).s.map uh) := by
            obtain ⟨A', c', e, hR', _⟩ := row_form (hb7.dk i (by omega)).rs
            rw [Hhs.out] at e
            cases e
            exact hR'
          have c1 := Lib.hid (fun n => is_w (hb7.sat.drewN n) (i : Int) i rfl (by omega) (a : Int) a rfl (by omega) _ hr)
          have c2 := Lib.hid (fun n => has_any (d i).s As (d i).s.length cs a (wr.drewN n) (hRs.only (Nat.le_refl _) ((Only.refl (fun _ => False) wr).drewN n) (fun _ _ x => x)) (by omega))
          generalize decide (a ∈ (d i).s) = r at *
          clear hr hRs hb7
          have hoa' := Lib.hid hoa
          clear hoa
          go_wp2
          go_quiet (first | (go_at_call 19; exact quiet_l (c1.out _)) | (go_at_call 25; exact quiet_l (c2.out _)))
          go_wp2
          go_roundw
          case rel => exact ⟨a + 1, by go_num, by omega, hoa'.out.drewN _⟩
          case measure => simp [intOf]; omega
        · have hlt2 : ¬ (a : Int) < ((d i).n : Int) + 2 := by omega
          have hof := HO6.out.trans hoa
          clear hb7 hoa
          go_wp2
          go_roundw
          case rel => exact ⟨i + 1, by go_num, by omega, hof⟩
          case measure => simp [intOf]; omega
    · obtain rfl : i = 2 := by omega
      go_wp2
      go_ret
      exact ⟨rfl, ho⟩
end Go.Proofs.Ytlfnneljeoamlaa
