/-
  kintsugiref03.between (func 49).
-/
import Derived.Test.YtnclappdokhciaaS6
namespace Go.Proofs.Ytnclappdokhciaa
open Go Go.RowKit
set_option linter.unusedVariables false

theorem pv_add {w1 W : World} {l : List ByteArray} {A : Option Addr} {n c : Nat} (h : PV w1 9 (strs l) n (.slice A n c) W) (x : ByteArray) (hn : n + 1 ≤ 1000000000) :
    ∃ A' c' w', (Builtin.append_ #[23, 23] 23 #[.slice A n c, .slice (some ⟨W.heap.size, 0, none⟩) 1 1]).run Try.prog (W.alloc (.cells #[.string x] 9)) = .ok (.slice A' (n + 1) c') w' ∧ PV w1 9 (strs (l ++ [x])) (n + 1) (.slice A' (n + 1) c') w' := by
  obtain ⟨i9, hi, hi0, hi1, hi2⟩ := info9
  obtain ⟨v', w', hr, hP⟩ := h.one (P := Try.prog) i9 (.string ⟨#[]⟩) 16 23 und23 hi hi0 hi1 hi2 rfl (by omega) (.string x) rfl hn
  obtain ⟨A', c', hv, h1, h2, h3, h4⟩ := hP
  subst hv
  exact ⟨A', c', w', hr, A', c', rfl, h1, h2, by unfold strs; rw [List.map_append]; exact h3, h4⟩
theorem pv_row {w1 W : World} {l : List ByteArray} {A : Option Addr} {n c : Nat} (h : PV w1 9 (strs l) n (.slice A n c) W) : l.length = n ∧ RowS W A l c ∧ ∀ b o, A = some ⟨b, o, none⟩ → w1.heap.size ≤ b := by
  obtain ⟨A', c', hv, _, _, h3, _⟩ := h
  have hlen : l.length = n := by have := h3.1; simpa [strs] using this
  obtain ⟨A2, c2, e, hr, hc, hA⟩ := row_form h3
  cases e
  subst hlen
  exact ⟨rfl, ⟨hr, hc, hA⟩, fun b o e => by subst e; exact (row_lt h3 b rfl).1⟩

set_option maxRecDepth 10000 in
set_option maxHeartbeats 4000000 in
theorem between_any (s : ByteArray) (hs : s.size ≤ 1000000) (w : World) :
    Calls Try.prog 49 #[.string s] w fun e w' => ∃ A c, e = .returned (.slice A (pieces s).length c) ∧ RowS w' A (pieces s) c ∧ (∀ b o, A = some ⟨b, o, none⟩ → w.heap.size ≤ b) ∧ Only (fun _ => False) w w' := by
  go_enter Try.func49, Try.ntmps49
  go_wp2
  go_loopw [3, 4, 5] (fun t a b wr => ∃ (i n c : Nat) (A : Option Addr), b = .int .i64 i ∧ a = .int .i64 (cut s i).1 ∧ t = .slice A n c ∧ i ≤ s.size ∧ PV w 9 (strs (cut s i).2) n (.slice A n c) wr) (fun _ _ b _ => s.size - (intOf b).toNat)
  case atStart => exact ⟨0, 0, 0, none, rfl, rfl, rfl, by omega, PV.nil w 9⟩
  case round =>
    obtain ⟨i, n, c, A, rfl, rfl, rfl, hi, hP⟩ := hrel
    have hcl := cut_le s i
    have hn : n ≤ i := by rw [← (pv_row hP).1]; exact cut_len s i
    by_cases hlt : i < s.size
    · have i0 : (0 : Int) ≤ (i : Int) := by omega
      have i1 : (i : Int) < (s.size : Int) := by omega
      have e0 : ((s[i]'hlt).toNat) = bt s i := (bt_at s i hlt).symm
      have hc := cut_succ s i
      by_cases h47 : bt s i = 47
      · rw [if_pos h47] at hc
        obtain ⟨A', c', w', hap, hP'⟩ := pv_add hP (s.extract (cut s i).1 i) (by omega)
        have hN := Lib.hid hP'
        replace hc := Lib.hid hc
        have k0 : (0 : Int) ≤ ((cut s i).1 : Int) := by omega
        have k1 : ((cut s i).1 : Int) ≤ (i : Int) := by omega
        have k2 : (i : Int) ≤ (s.size : Int) := by omega
        clear hP hP'
        go_wp2_with (at_builtin; refine wpList_append_eq1 rfl (.tmp 16) (.tmp 21) 23 rfl (.slice A n c) (.slice (some ⟨_, 0, none⟩) 1 1) _ w' (by simp [Act.eval]) (by simp [Act.eval]) hap ?_)
        go_roundw
        case rel => exact ⟨i + 1, n + 1, c', A', by go_num, by rw [hc.out]; go_num, rfl, by omega, by rw [hc.out]; exact hN.out⟩
        case measure => simp [intOf]; omega
      · rw [if_neg h47] at hc
        have h47b : ((bt s i : Int) == 47) = false := beq_false_of_ne (by omega)
        have hN := Lib.hid hP
        replace hc := Lib.hid hc
        clear hP
        go_wp2
        go_roundw
        case rel => exact ⟨i + 1, n, c, A, by go_num, by rw [hc.out], rfl, by omega, by rw [hc.out]; exact hN.out⟩
        case measure => simp [intOf]; omega
    · obtain rfl : i = s.size := by omega
      obtain ⟨A', c', w', hap, hP'⟩ := pv_add hP (s.extract (cut s s.size).1 s.size) (by omega)
      have hN := Lib.hid hP'
      have k0 : (0 : Int) ≤ ((cut s s.size).1 : Int) := by omega
      have k1 : ((cut s s.size).1 : Int) ≤ (s.size : Int) := by omega
      clear hP hP'
      go_wp2_with (at_builtin; refine wpList_append_eq1 rfl (.tmp 25) (.tmp 29) 23 rfl (.slice A n c) (.slice (some ⟨_, 0, none⟩) 1 1) _ w' (by simp [Act.eval]) (by simp [Act.eval]) hap ?_)
      go_ret
      obtain ⟨hl, hrow, hbs⟩ := pv_row hN.out
      exact ⟨A', c', by show Ending.returned (.slice A' (n + 1) c') = _; rw [← hl]; rfl, hrow, hbs, PV.only hN.out⟩
end Go.Proofs.Ytnclappdokhciaa
