/-
  The reference's Alloc (func 14).
-/
import Derived.Test.YtlfnneljeoamlaaDk
namespace Go.Proofs.Ytlfnneljeoamlaa
open Go.RowKit
set_option linter.unusedVariables false

def Rd.busy (d : Rd) (a : Nat) : Bool := decide (a ∈ d.u) || (decide (a ∈ d.h) || decide (a ∈ d.s))
/-- The first of f addresses from a on that is not busy; 0: there is none. -/
def firstR (d : Rd) : Nat → Nat → Nat
  | _, 0 => 0
  | a, f + 1 => if d.busy a then firstR d (a + 1) f else a
def Rd.first (d : Rd) : Nat := firstR d 1 (d.n - 1)
def Rd.alloc (d : Rd) : Rd := if d.first = 0 then d else { d with u := d.u ++ [d.first] }
/-- Not too long. -/
def Rd.small (d : Rd) : Prop := d.n ≤ 4096 ∧ d.u.length ≤ 90000 ∧ d.h.length ≤ 90000 ∧ d.s.length ≤ 90000

set_option maxRecDepth 10000 in
set_option maxHeartbeats 2000000 in
theorem allocR_any {w : World} {q B : Nat} {d : Rd} {u h s : Value} (hD : DkV w q B d u h s) (hB : B ≤ w.heap.size) (hs : d.small) (hn : 1 ≤ d.n) :
    Calls Try.prog 14 #[.pointer (some ⟨q, 0, none⟩)] w fun e w' => e = .returned (.int .u16 (d.first : Int)) ∧ ∃ u', DkV w' q B d.alloc u' h s ∧ Only (fun k => k = q ∨ u.ownBlock = some k) w w' ∧ ∀ g, u'.ownBlock = some g → u.ownBlock = some g ∨ w.heap.size ≤ g := by
  obtain ⟨s1, s2, s3, s4⟩ := hs
  obtain ⟨Au, cu, hu, hRu, _⟩ := row_form hD.ru
  obtain ⟨Ah, ch, hh, hRh, _⟩ := row_form hD.rh
  obtain ⟨As, cs, hs, hRs, _⟩ := row_form hD.rs
  have z0 := hD.hd.cell 0
  have z1 := hD.hd.cell 1
  have z2 := hD.hd.cell 2
  have z3 := hD.hd.cell 3
  have y0 : w.cell? ⟨q, 0, none⟩ = some (.int .i64 d.n) := z0
  have y1 : w.cell? ⟨q, 1, none⟩ = some (.slice Au d.u.length cu) := by rw [← hu]; exact z1
  have y2 : w.cell? ⟨q, 2, none⟩ = some (.slice Ah d.h.length ch) := by rw [← hh]; exact z2
  have y3 : w.cell? ⟨q, 3, none⟩ = some (.slice As d.s.length cs) := by rw [← hs]; exact z3
  clear z0 z1 z2 z3
  go_enter Try.func14, Try.ntmps14
  go_wp2
  go_loopw [3] (fun t wr => ∃ (k : Nat), t = .int .i64 k ∧ 1 ≤ k ∧ k ≤ d.n ∧ d.first = firstR d k (d.n - k) ∧ w = wr) (fun t _ => d.n - (intOf t).toNat)
  case atStart => exact ⟨1, rfl, by omega, by omega, rfl, rfl⟩
  case round =>
    obtain ⟨k, rfl, hk1, hkn, hF, rfl⟩ := hrel
    have hw : IntKind.u16.wrap (k : Int) = (k : Int) := IntWalk.u16_in _ (by omega)
    by_cases hlt : k < d.n
    · have k1 : (k : Int) < (d.n : Int) := by omega
      have cU := has_any d.u Au d.u.length cu k w hRu (by omega)
      have cH := has_any d.h Ah d.h.length ch k w hRh (by omega)
      have cS := has_any d.s As d.s.length cs k w hRs (by omega)
      have hF1 : firstR d k (d.n - k) = if d.busy k then firstR d (k + 1) (d.n - (k + 1)) else k := by
        rw [show d.n - k = (d.n - (k + 1)) + 1 by omega]; rfl
      by_cases hbu : d.busy k = true
      · rw [hF1, if_pos hbu] at hF
        replace hF := Lib.hid hF
        clear hF1
        by_cases h1 : k ∈ d.u
        · rw [decide_eq_true h1] at cU
          replace cU := Lib.hid cU
          clear cH cS hbu h1
          go_wp2_with (go_at_call 25; with_reducible refine cU.out.mono ?_; rintro e w' ⟨rfl, rfl⟩)
          go_roundw
          case rel => exact ⟨k + 1, by go_num, by omega, by omega, hF.out, by first | rfl | trivial⟩
          case measure => simp [intOf]; omega
        · rw [decide_eq_false h1] at cU
          replace cU := Lib.hid cU
          by_cases h2 : k ∈ d.h
          · rw [decide_eq_true h2] at cH
            replace cH := Lib.hid cH
            clear cS hbu h1 h2
            go_wp2_with (go_at_call 25; first | (with_reducible refine cU.out.mono ?_; rintro e w' ⟨rfl, rfl⟩) | (with_reducible refine cH.out.mono ?_; rintro e w' ⟨rfl, rfl⟩))
            go_roundw
            case rel => exact ⟨k + 1, by go_num, by omega, by omega, hF.out, by first | rfl | trivial⟩
            case measure => simp [intOf]; omega
          · rw [decide_eq_false h2] at cH
            replace cH := Lib.hid cH
            have h3 : k ∈ d.s := by
              unfold Rd.busy at hbu
              rw [decide_eq_false h1, decide_eq_false h2] at hbu
              simpa using hbu
            rw [decide_eq_true h3] at cS
            replace cS := Lib.hid cS
            clear hbu h1 h2 h3
            go_wp2_with (go_at_call 25; first | (with_reducible refine cU.out.mono ?_; rintro e w' ⟨rfl, rfl⟩) | (with_reducible refine cH.out.mono ?_; rintro e w' ⟨rfl, rfl⟩) | (with_reducible refine cS.out.mono ?_; rintro e w' ⟨rfl, rfl⟩))
            go_roundw
            case rel => exact ⟨k + 1, by go_num, by omega, by omega, hF.out, by first | rfl | trivial⟩
            case measure => simp [intOf]; omega
      · rw [hF1, if_neg hbu] at hF
        have hb' : d.busy k = false := by simpa using hbu
        unfold Rd.busy at hb'
        simp only [Bool.or_eq_false_iff] at hb'
        rw [hb'.1] at cU
        rw [hb'.2.1] at cH
        rw [hb'.2.2] at cS
        replace cU := Lib.hid cU
        replace cH := Lib.hid cH
        replace cS := Lib.hid cS
        have hx : Reads (w.alloc (.cells #[.int .u16 (k : Int)] 30)) (w.alloc (.cells #[.int .u16 (k : Int)] 30)).heap.size (some ⟨w.heap.size, 0, none⟩) 1 ([k].map uh) := ⟨rfl, fun _ => ⟨w.heap.size, 0, rfl, by simp, fun i v hv => by
          cases i with
          | zero => cases hv; exact (Blk.new w 30 #[.int .u16 (k : Int)]).cell 0
          | succ i => cases hv⟩⟩
        obtain ⟨v', w', hap, hown, hoo, hfr⟩ := app_at hD.ru hB (by omega) [k] _ 1 1 ((Only.refl _ w).alloc (.cells #[.int .u16 (k : Int)] 30)) (by omega) hx (by omega)
        obtain ⟨A9, c9, hv9, _⟩ := row_form hown
        subst hv9
        have hown' : w'.ownsRow B 30 1 (.slice A9 (d.u.length + 1) c9) (d.u ++ [k]).length ((d.u ++ [k]).map uh) := by rw [List.length_append]; exact hown
        have hD' := hD.set_u hoo (fun h => hD.qu h) (fun g hg h => hD.uh_ g h hg) (fun g hg h => hD.us_ g h hg) hown' hfr
        have hal : d.alloc = { d with u := d.u ++ [k] } := by
          unfold Rd.alloc
          rw [hF, if_neg (by omega)]
        have hdq := hD.hd.only hoo (fun h => hD.qu h)
        have st1 := hdq.cell 1
        have st1' : w'.cell? ⟨q, 1, none⟩ = some u := st1
        have st2 := hdq.frozen 1
        have hoq : Only (fun k => k = q ∨ u.ownBlock = some k) w (w'.setCell ⟨q, 1, none⟩ (.slice A9 (d.u.length + 1) c9)) := (hoo.mono (fun _ _ h => .inr h)).setCell (p := ⟨q, 1, none⟩) (.inl (.inl rfl)) _
        have hP := Lib.hid (And.intro hD' (And.intro hoq hfr))
        rw [hu] at hap
        replace hF := Lib.hid hF
        replace hal := Lib.hid hal
        clear hb' hbu hF1 hx hown hown' hoo hfr hD' hdq st1 hoq
        go_wp2_with (first | (go_at_call 25; first | (with_reducible refine cU.out.mono ?_; rintro e w' ⟨rfl, rfl⟩) | (with_reducible refine cH.out.mono ?_; rintro e w' ⟨rfl, rfl⟩) | (with_reducible refine cS.out.mono ?_; rintro e w' ⟨rfl, rfl⟩)) | (at_builtin; refine wpList_append_eq1 rfl (.tmp 44) (.tmp 47) 40 rfl (.slice Au d.u.length cu) (.slice (some ⟨w.heap.size, 0, none⟩) 1 1) _ w' (by simp [Act.eval]) (by simp [Act.eval]) hap ?_))
        go_ret
        exact ⟨by rw [hF.out]; rfl, _, by rw [hal.out]; exact hP.out.1, hP.out.2.1, hP.out.2.2⟩
    · obtain rfl : k = d.n := by omega
      rw [Nat.sub_self] at hF
      have hF0 : d.first = 0 := hF
      replace hF := Lib.hid hF0
      clear hF0
      go_wp2
      go_ret
      refine ⟨by rw [hF.out]; rfl, u, ?_, Only.refl _ _, fun g hg => .inl hg⟩
      unfold Rd.alloc
      rw [if_pos hF.out]
      exact hD
end Go.Proofs.Ytlfnneljeoamlaa
