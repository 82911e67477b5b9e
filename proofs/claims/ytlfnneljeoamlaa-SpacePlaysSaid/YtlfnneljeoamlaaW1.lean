/-
  Contracts of space.disk and space.Alloc: what each call answers and what it does to the memory of a space.
-/
import Derived.Test.YtlfnneljeoamlaaRows
import Derived.Test.YtlfnneljeoamlaaModel
import Derived.WalkKit
import Derived.WalkLawsBesides
import Derived.WalkSpells
import Derived.BigQuiet
import Derived.Deep.QuietTactic
import Derived.Deep.LoopGhost
import Derived.Outline
import Derived.Lib.Hide
namespace Go.Proofs.Ytlfnneljeoamlaa
open Go.RowKit

theorem disk_nil (i : Int) (w : World) :
    Calls Try.prog 20 #[.pointer none, .int .i64 i] w fun e w' => e = .returned (.slice none 0 0) ∧ w = w' := by
  go_enter Try.func20, Try.ntmps20
  go_wp2
  go_ret
  exact ⟨rfl, rfl⟩
theorem disk_out (p : Addr) (i : Int) (w : World) (h : i < 0 ∨ 1 < i) :
    Calls Try.prog 20 #[.pointer (some p), .int .i64 i] w fun e w' => e = .returned (.slice none 0 0) ∧ w = w' := by
  rcases h with h | h
  · go_enter Try.func20, Try.ntmps20
    go_wp2
    go_ret
    exact ⟨rfl, rfl⟩
  · have h' : ¬ i < 0 := by omega
    go_enter Try.func20, Try.ntmps20
    go_wp2
    go_ret
    exact ⟨rfl, rfl⟩
theorem disk_in (b : Nat) (i : Nat) (v : Value) (w : World) (h1 : i ≤ 1) (hc : w.cell? ⟨b, i, none⟩ = some v) :
    Calls Try.prog 20 #[.pointer (some ⟨b, 0, none⟩), .int .i64 i] w fun e w' => e = .returned v ∧ w = w' := by
  go_enter Try.func20, Try.ntmps20
  go_wp2
  go_ret
  exact ⟨rfl, rfl⟩

theorem alloc_nil (d : Int) (w : World) :
    Calls Try.prog 8 #[.pointer none, .int .i64 d] w fun e w' => e = .returned (.int .u16 0) ∧ w = w' := by
  go_enter Try.func8, Try.ntmps8
  go_wp2_with (go_at_call 20; refine (disk_nil _ _).mono ?_; rintro e w' ⟨rfl, rfl⟩)
  go_loop [13] (fun t => t = .int .i64 0) (fun _ => 0)
  case atStart => rfl
  case round =>
    subst hrel
    go_wp2
    go_ret
    exact ⟨rfl, rfl⟩
theorem alloc_out (p : Addr) (d : Int) (w : World) (h : d < 0 ∨ 1 < d) :
    Calls Try.prog 8 #[.pointer (some p), .int .i64 d] w fun e w' => e = .returned (.int .u16 0) ∧ w = w' := by
  go_enter Try.func8, Try.ntmps8
  go_wp2_with (go_at_call 20; refine (disk_out _ _ _ h).mono ?_; rintro e w' ⟨rfl, rfl⟩)
  go_loop [13] (fun t => t = .int .i64 0) (fun _ => 0)
  case atStart => rfl
  case round =>
    subst hrel
    go_wp2
    go_ret
    exact ⟨rfl, rfl⟩

theorem ret_u16 {a b : Int} (h : a = b) : Ending.returned (.int .u16 a) = .returned (.int .u16 b) := by rw [h]

set_option maxHeartbeats 400000 in
theorem alloc_core (p g : Nat) (j : Nat) (l : List Place) (w : World) (hj : j ≤ 1) (hn : l.length ≤ 4096)
    (hc : w.cell? ⟨p, j, none⟩ = some (.slice (some ⟨g, 0, none⟩) l.length l.length)) (hr : Row w g l) :
    Calls Try.prog 8 #[.pointer (some ⟨p, 0, none⟩), .int .i64 j] w fun e w' => e = .returned (.int .u16 (firstFrom 0 l)) ∧
      ((firstFrom 0 l = 0 ∧ w' = w) ∨ (0 < firstFrom 0 l ∧ w' = w.setCell ⟨g, firstFrom 0 l * 2, none⟩ (.int .i64 1))) := by
  go_enter Try.func8, Try.ntmps8
  go_wp2_with (go_at_call 20; refine (disk_in p j _ _ hj hc).mono ?_; rintro e w' ⟨rfl, rfl⟩)
  go_loop [13] (fun t => ∃ k : Nat, k ≤ l.length ∧ t = .int .i64 k ∧ Hid (∀ m x, m < k → l[m]? = some x → ¬ (0 < m ∧ x.1 = 0 ∧ x.2 = false))) (fun t => l.length - (intOf t).toNat)
  case atStart => exact ⟨0, by omega, rfl, fun m x hm => by omega⟩
  case round =>
    obtain ⟨k, hk, rfl, HK⟩ := hrel
    by_cases hlt : k < l.length
    · obtain ⟨x, hx⟩ : ∃ x, l[k]? = some x := ⟨l[k], List.getElem?_eq_getElem hlt⟩
      obtain ⟨h1, h2⟩ := hr.place hx
      have hf : w.frozen? ⟨g, k * 2, none⟩ = false := Blk.frozen hr _
      have HX := Lib.hid hx
      clear hx hc hr
      go_wp2
      · go_ret
        have h3 : 0 < k ∧ x.1 = 0 ∧ x.2 = false := ⟨by assumption, by assumption, by simpa using ‹(!x.2) = true›⟩
        have h4 : firstFrom 0 l = k := by
          rw [firstFrom_skip 0 l k (fun m y hm hy => by simpa using HK.out m y hm hy) (by omega)]
          simpa using firstFrom_hit HX.out h3
        refine ⟨ret_u16 (by rw [h4]), .inr ?_⟩
        rw [h4]
        exact ⟨h3.1, rfl⟩
      all_goals
        go_round
        case rel =>
          refine ⟨k + 1, by omega, by go_num, fun m y hm hy => ?_⟩
          by_cases hmk : m = k
          · subst hmk
            have e := HX.out
            rw [hy] at e
            cases e
            simp_all
          · exact HK.out m y (by omega) hy
        case measure => simp [intOf]; omega
    · go_wp2
      go_ret
      have h4 : firstFrom 0 l = 0 := by
        rw [firstFrom_skip 0 l k (fun m y hm hy => by simpa using HK.out m y hm hy) (by omega)]
        rw [List.drop_eq_nil_of_le (by omega)]; rfl
      exact ⟨ret_u16 (by rw [h4]; rfl), .inl ⟨h4, rfl⟩⟩

theorem alloc_in {w : World} {p : Nat} {b : Nat → Nat} {L : St} (hs : Sat w p b L) {j : Nat} (hj : j ≤ 1) :
    Calls Try.prog 8 #[.pointer (some ⟨p, 0, none⟩), .int .i64 j] w fun e w' => e = .returned (.int .u16 (firstFrom 0 (L j))) ∧ Sat w' p b (allocAt L j) ∧ Only (Rows2 b) w w' := by
  refine (alloc_core p (b j) j (L j) w hj (hs.len j hj) (hs.slice hj) (hs.row j hj)).mono ?_
  rintro e w' ⟨he, hw⟩
  refine ⟨he, ?_⟩
  unfold allocAt
  rcases hw with ⟨h0, rfl⟩ | ⟨h0, rfl⟩
  · rw [if_pos h0]; exact ⟨hs, Only.refl _ _⟩
  · rw [if_neg (by omega)]
    have hsp := firstFrom_spec (L j)
    have hx : (L j)[firstFrom 0 (L j)]? = some (0, false) := by
      rcases hsp with h | h
      · omega
      · exact h.2.2
    exact ⟨hs.set_is hj hx 1, (Only.refl _ _).setCell (.inl (Rows2.of hj)) _⟩
end Go.Proofs.Ytlfnneljeoamlaa
