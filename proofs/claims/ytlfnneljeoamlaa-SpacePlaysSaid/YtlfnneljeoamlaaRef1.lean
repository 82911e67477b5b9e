/-
  The reference's lists: Has (func 25), without (func 26).
-/
import Derived.Test.YtlfnneljeoamlaaOwn
import Derived.Test.YtlfnneljeoamlaaW6
namespace Go.Proofs.Ytlfnneljeoamlaa
open Go.RowKit
set_option linter.unusedVariables false

def uh (x : Nat) : Value := .int .u16 (x : Int)
theorem uh_one {xs : List Nat} : ∀ u ∈ xs.map uh, u.oneCell' = true := by
  intro u hu; obtain ⟨x, _, rfl⟩ := List.mem_map.1 hu; rfl
theorem und40 : Try.prog.underlying 40 = some (.slice 30) := by kernel_rfl
theorem info30 : ∃ i, Try.prog.info? 30 = some i ∧ i.zero = some (.int .u16 0) ∧ i.size = 1 ∧ i.bytes = 2 := by
  have h : (Try.prog.info? 30).map (fun i => (i.zero, i.size, i.bytes)) = some (some (.int .u16 0), 1, 2) := by kernel_rfl
  cases e : Try.prog.info? 30 with
  | none => rw [e] at h; cases h
  | some i =>
    rw [e] at h
    simp only [Option.map_some, Option.some.injEq, Prod.mk.injEq] at h
    exact ⟨i, rfl, h.1, h.2.1, h.2.2⟩

theorem not_in_take {l : List Nat} {x k : Nat} (hk : k < l.length) (h : ∀ j (hj : j < l.length), j < k → l[j] ≠ x) (hne : l[k] ≠ x) : ∀ j (hj : j < l.length), j < k + 1 → l[j] ≠ x := by
  intro j hj h1
  by_cases hjk : j < k
  · exact h j hj hjk
  · have : j = k := by omega
    subst this; exact hne

set_option maxHeartbeats 1000000 in
theorem has_any (l : List Nat) (A : Option Addr) (n c : Nat) (x : Nat) (w : World) (hR : Reads w w.heap.size A n (l.map uh)) (hn : n ≤ 100000) :
    Calls Try.prog 25 #[.slice A n c, .int .u16 (x : Int)] w fun e w' => e = .returned (.bool (decide (x ∈ l))) ∧ w = w' := by
  have hln : l.length = n := by have := hR.1; simpa using this
  go_enter Try.func25, Try.ntmps25
  go_wp2
  go_loopw [5] (fun t wr => ∃ (k : Nat), t = .int .i64 k ∧ k ≤ n ∧ (∀ j (hj : j < l.length), j < k → l[j] ≠ x) ∧ w = wr) (fun t _ => n - (intOf t).toNat)
  case atStart => exact ⟨0, rfl, by omega, fun j _ hj => absurd hj (by omega), rfl⟩
  case round =>
    obtain ⟨k, rfl, hk, hno, rfl⟩ := hrel
    by_cases hlt : k < n
    · obtain ⟨b, o, rfl, hb, hc⟩ := hR.2 (by omega)
      have hkl : k < l.length := by omega
      have y : w.cell? ⟨b, o + k, none⟩ = some (.int .u16 (l[k] : Int)) := hc k _ (by rw [List.getElem?_map, List.getElem?_eq_getElem hkl]; rfl)
      have k0 : (0 : Int) ≤ (k : Int) := by omega
      have k1 : (k : Int) < (n : Int) := by omega
      by_cases hx : l[k] = x
      · have hm : decide (x ∈ l) = true := decide_eq_true (hx ▸ List.getElem_mem hkl)
        rw [hx] at y
        have hxx : ((x : Int) == (x : Int)) = true := by simp
        replace hm := Lib.hid hm
        clear hno hc hR hx
        go_wp2
        go_ret
        exact ⟨by rw [hm.out]; rfl, rfl⟩
      · have hN := Lib.hid (not_in_take hkl hno hx)
        obtain ⟨u, hu⟩ : ∃ u, l[k] = u := ⟨_, rfl⟩
        rw [hu] at y hx
        have hx1 : ¬ (u : Int) = (x : Int) := by omega
        have hx2 : ((u : Int) == (x : Int)) = false := beq_false_of_ne hx1
        clear hno hc hx hu
        go_wp2
        go_roundw
        case rel => exact ⟨k + 1, by go_num, by omega, hN.out, by first | rfl | trivial⟩
        case measure => simp [intOf]; omega
    · obtain rfl : k = n := by omega
      have hm : decide (x ∈ l) = false := by
        refine decide_eq_false fun hmem => ?_
        obtain ⟨j, hj, e⟩ := List.getElem_of_mem hmem
        exact hno j hj (by omega) e
      replace hm := Lib.hid hm
      clear hno
      go_wp2
      go_ret
      exact ⟨by rw [hm.out]; rfl, rfl⟩

/-- A list without an address. -/
def less (l : List Nat) (x : Nat) : List Nat := l.filter fun y => y != x
theorem less_take (l : List Nat) (x k : Nat) (hk : k < l.length) : less (l.take (k + 1)) x = less (l.take k) x ++ (if l[k] = x then [] else [l[k]]) := by
  unfold less
  rw [List.take_add_one, List.getElem?_eq_getElem hk, List.filter_append]
  congr 1
  by_cases h : l[k] = x
  · simp [h]
  · simp [h]

set_option maxHeartbeats 1000000 in
theorem less_any (l : List Nat) (A : Option Addr) (n c : Nat) (x : Nat) (w : World) (hR : Reads w w.heap.size A n (l.map uh)) (hn : n ≤ 100000) :
    Calls Try.prog 26 #[.slice A n c, .int .u16 (x : Int)] w fun e w' => ∃ v, e = .returned v ∧ PV w 30 ((less l x).map uh) (less l x).length v w' := by
  have hln : l.length = n := by have := hR.1; simpa using this
  obtain ⟨i30, hi, hi0, hi1, hi2⟩ := info30
  go_enter Try.func26, Try.ntmps26
  go_wp2
  go_loopw [5, 6] (fun v t wr => ∃ (k : Nat), t = .int .i64 k ∧ k ≤ n ∧ PV w 30 ((less (l.take k) x).map uh) (less (l.take k) x).length v wr) (fun _ t _ => n - (intOf t).toNat)
  case atStart => exact ⟨0, rfl, by omega, by rw [List.take_zero]; exact PV.nil w 30⟩
  case round =>
    obtain ⟨k, rfl, hk, hP⟩ := hrel
    by_cases hlt : k < n
    · obtain ⟨b, o, rfl, hb, hc⟩ := hR.2 (by omega)
      have hkl : k < l.length := by omega
      have y : wr.cell? ⟨b, o + k, none⟩ = some (.int .u16 (l[k] : Int)) := (Blk.cell_only (a := ⟨b, o + k, none⟩) hP.only hb (fun x => x)).trans (hc k _ (by rw [List.getElem?_map, List.getElem?_eq_getElem hkl]; rfl))
      have k0 : (0 : Int) ≤ (k : Int) := by omega
      have k1 : (k : Int) < (n : Int) := by omega
      have hT := less_take l x k hkl
      have hle : (less (l.take k) x).length ≤ 100000 := Nat.le_trans (List.length_filter_le _ _) (by rw [List.length_take]; omega)
      obtain ⟨A1, c1, rfl, _⟩ := id hP
      obtain ⟨u, hu⟩ : ∃ u, l[k] = u := ⟨_, rfl⟩
      rw [hu] at y hT
      by_cases hx : u = x
      · rw [if_pos hx, List.append_nil] at hT
        subst hx
        have hxx : ((u : Int) != (u : Int)) = false := by simp
        replace hT := Lib.hid hT
        clear hc hR hu
        go_wp2
        go_roundw
        case rel => exact ⟨k + 1, by go_num, by omega, by rw [hT.out]; exact hP⟩
        case measure => simp [intOf]; omega
      · rw [if_neg hx] at hT
        have hx1 : ¬ (u : Int) = (x : Int) := by omega
        have hx2 : ((u : Int) != (x : Int)) = true := by simpa using hx1
        obtain ⟨v', w', hap, hP'⟩ := hP.one (P := Try.prog) i30 (.int .u16 0) 2 40 und40 hi hi0 hi1 hi2 rfl (by omega) (.int .u16 (u : Int)) rfl (by omega)
        replace hT := Lib.hid hT
        clear hc hR hu hx
        generalize less (l.take k) x = q at *
        go_wp2_with (at_builtin; refine wpList_append_eq1 rfl (.tmp 19) (.tmp 24) 40 rfl (.slice A1 q.length c1) (.slice (some ⟨wr.heap.size, 0, none⟩) 1 1) v' w' (by simp [Act.eval]) (by simp [Act.eval]) hap ?_)
        go_roundw
        case rel =>
          refine ⟨k + 1, by go_num, by omega, ?_⟩
          rw [hT.out, List.map_append, List.length_append]
          exact hP'
        case measure => simp [intOf]; omega
    · obtain rfl : k = n := by omega
      rw [List.take_of_length_le (by omega)] at hP
      go_wp2
      go_ret
      exact ⟨_, rfl, hP⟩
end Go.Proofs.Ytlfnneljeoamlaa
