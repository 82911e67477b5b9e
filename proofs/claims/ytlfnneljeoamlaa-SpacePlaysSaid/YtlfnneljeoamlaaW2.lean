/-
  Contracts of the closures of space.turn and Sick, of space.with, and of Mark, Give, Hold and Sick, for a space that is there.
-/
import Derived.Test.YtlfnneljeoamlaaW1
import Derived.WalkKit
import Derived.WalkLawsBesides
import Derived.WalkSpells
import Derived.BigQuiet
import Derived.Deep.QuietTactic
import Derived.Deep.RegionHeld3
import Derived.Deep.LoopGhost
import Derived.Outline
import Derived.Lib.Hide
namespace Go.Proofs.Ytlfnneljeoamlaa
open Go.RowKit
/-- The closure that turn makes: f and t lie in two cells. -/
theorem turn1_no (g o c d : Nat) (x f : Int) (w : World) (hx : w.cell? ⟨g, o, none⟩ = some (.int .i64 x)) (hf : w.cell? ⟨c, 0, none⟩ = some (.int .i64 f)) (hne : (x != f) = true) :
    Calls Try.prog 27 #[.pointer (some ⟨g, o, none⟩), .pointer (some ⟨c, 0, none⟩), .pointer (some ⟨d, 0, none⟩)] w fun e w' => e = .returned (.bool false) ∧ ∃ n, w' = w.drewN n := by
  go_enter Try.func27, Try.ntmps27
  go_wp2
  go_quiet (fail)
  go_wp2
  go_ret
  exact ⟨rfl, _, rfl⟩
theorem turn1_yes (g o c d : Nat) (x f t : Int) (w : World) (hx : w.cell? ⟨g, o, none⟩ = some (.int .i64 x)) (hf : w.cell? ⟨c, 0, none⟩ = some (.int .i64 f)) (ht : w.cell? ⟨d, 0, none⟩ = some (.int .i64 t)) (hz : w.frozen? ⟨g, o, none⟩ = false) (hne : (x != f) = false) :
    Calls Try.prog 27 #[.pointer (some ⟨g, o, none⟩), .pointer (some ⟨c, 0, none⟩), .pointer (some ⟨d, 0, none⟩)] w fun e w' => e = .returned (.bool true) ∧ ∃ n, w' = (w.drewN n).setCell ⟨g, o, none⟩ (.int .i64 t) := by
  go_enter Try.func27, Try.ntmps27
  go_wp2
  go_quiet (fail)
  go_wp2
  go_ret
  exact ⟨rfl, _, rfl⟩
theorem sick1 (g o : Nat) (s : Bool) (w : World) (hx : w.cell? ⟨g, o + 1, none⟩ = some (.bool s)) (hz : w.frozen? ⟨g, o + 1, none⟩ = false) :
    Calls Try.prog 23 #[.pointer (some ⟨g, o, none⟩)] w fun e w' => e = .returned (.bool true) ∧ w' = w.setCell ⟨g, o + 1, none⟩ (.bool true) := by
  go_enter Try.func23, Try.ntmps23
  go_wp2
  go_ret
  exact ⟨rfl, rfl⟩
theorem turn_any (f t : Int) (w : World) :
    Calls Try.prog 22 #[.int .i64 f, .int .i64 t] w fun e w' => e = .returned (.func (.func 27) #[] #[.pointer (some ⟨w.heap.size, 0, none⟩), .pointer (some ⟨w.heap.size + 1, 0, none⟩)]) ∧
      (w.alloc (.cells #[.int .i64 f] 3)).alloc (.cells #[.int .i64 t] 3) = w' := by
  go_enter Try.func22, Try.ntmps22
  go_wp2
  go_ret
  exact ⟨rfl, rfl⟩
theorem with_nil (d : Int) (a : Int) (f : Value) (w : World) :
    Calls Try.prog 21 #[.pointer none, .int .i64 d, .int .u16 a, f] w fun e w' => e = .returned (.int .i64 2) ∧ w = w' := by
  go_enter Try.func21, Try.ntmps21
  go_wp2_with (go_at_call 20; refine (disk_nil _ _).mono ?_; rintro e w' ⟨rfl, rfl⟩)
  go_ret
  exact ⟨rfl, rfl⟩
theorem with_out (p : Addr) (d : Int) (a : Int) (f : Value) (w : World) (h : d < 0 ∨ 1 < d) (ha : 0 ≤ a) (ha' : a ≤ 65535) :
    Calls Try.prog 21 #[.pointer (some p), .int .i64 d, .int .u16 a, f] w fun e w' => e = .returned (.int .i64 1) ∧ w = w' := by
  by_cases h0 : a = 0
  · subst h0
    go_enter Try.func21, Try.ntmps21
    go_wp2_with (go_at_call 20; refine (disk_out _ _ _ h).mono ?_; rintro e w' ⟨rfl, rfl⟩)
    go_ret
    exact ⟨rfl, rfl⟩
  · have hb : (a == 0) = false := beq_eq_false_iff_ne.2 h0
    go_enter Try.func21, Try.ntmps21
    go_wp2_with (go_at_call 20; refine (disk_out _ _ _ h).mono ?_; rintro e w' ⟨rfl, rfl⟩)
    go_ret
    exact ⟨rfl, rfl⟩
theorem with_bad {w : World} {p : Nat} {b : Nat → Nat} {L : St} (hs : Sat w p b L) {j : Nat} (hj : j ≤ 1) (a : Nat) (f : Value) (ha : a = 0 ∨ (L j).length ≤ a) (ha' : a ≤ 65535) :
    Calls Try.prog 21 #[.pointer (some ⟨p, 0, none⟩), .int .i64 j, .int .u16 a, f] w fun e w' => e = .returned (.int .i64 1) ∧ w = w' := by
  have hc := hs.slice hj
  by_cases h0 : a = 0
  · subst h0
    go_enter Try.func21, Try.ntmps21
    go_wp2_with (go_at_call 20; refine (disk_in p j _ _ hj hc).mono ?_; rintro e w' ⟨rfl, rfl⟩)
    go_ret
    exact ⟨rfl, rfl⟩
  · have hb : ((a : Int) == 0) = false := beq_eq_false_iff_ne.2 (by omega)
    have hl : (L j).length ≤ a := by omega
    go_enter Try.func21, Try.ntmps21
    go_wp2_with (go_at_call 20; refine (disk_in p j _ _ hj hc).mono ?_; rintro e w' ⟨rfl, rfl⟩)
    go_ret
    exact ⟨rfl, rfl⟩

theorem with_turn_core {w : World} {p g : Nat} {l : List Place} {j : Nat} (hj : j ≤ 1) (hc : w.cell? ⟨p, j, none⟩ = some (.slice (some ⟨g, 0, none⟩) l.length l.length)) (hr : Row w g l) (a c d : Nat) (f t : Int) {x : Place} (hx : l[a]? = some x) (ha : 0 < a) (ha' : a ≤ 65535)
    (hf : w.cell? ⟨c, 0, none⟩ = some (.int .i64 f)) (ht : w.cell? ⟨d, 0, none⟩ = some (.int .i64 t)) :
    Calls Try.prog 21 #[.pointer (some ⟨p, 0, none⟩), .int .i64 j, .int .u16 a, .func (.func 27) #[] #[.pointer (some ⟨c, 0, none⟩), .pointer (some ⟨d, 0, none⟩)]] w
      fun e w' => (x.1 ≠ f ∧ e = .returned (.int .i64 5) ∧ ∃ n, w' = w.drewN n) ∨ (x.1 = f ∧ e = .returned (.int .i64 0) ∧ ∃ n, w' = (w.drewN n).setCell ⟨g, a * 2, none⟩ (.int .i64 t)) := by
  obtain ⟨h1, _⟩ := hr.place hx
  have hz : w.frozen? ⟨g, a * 2, none⟩ = false := Blk.frozen hr _
  have hb : ((a : Int) == 0) = false := beq_eq_false_iff_ne.2 (by omega)
  have hlt : a < l.length := (List.getElem?_eq_some_iff.1 hx).1
  clear hx hr
  by_cases hxf : x.1 = f
  · have hne : (x.1 != f) = false := by simp [hxf]
    have HX := Lib.hid hxf
    clear hxf
    go_enter Try.func21, Try.ntmps21
    go_wp2_with (first | (go_at_call 20; refine (disk_in p j _ _ hj hc).mono ?_; rintro e w' ⟨rfl, rfl⟩) | (go_at_call 27; refine (turn1_yes g _ c d x.1 f t _ h1 hf ht hz hne).mono ?_; rintro e w' ⟨rfl, n, rfl⟩))
    go_ret
    exact .inr ⟨HX.out, rfl, _, rfl⟩
  · have hne : (x.1 != f) = true := by simp [hxf]
    have HX := Lib.hid hxf
    clear hxf
    go_enter Try.func21, Try.ntmps21
    go_wp2_with (first | (go_at_call 20; refine (disk_in p j _ _ hj hc).mono ?_; rintro e w' ⟨rfl, rfl⟩) | (go_at_call 27; refine (turn1_no g _ c d x.1 f _ h1 hf hne).mono ?_; rintro e w' ⟨rfl, n, rfl⟩))
    go_ret
    exact .inl ⟨HX.out, rfl, _, rfl⟩

theorem with_sick_core {w : World} {p g : Nat} {l : List Place} {j : Nat} (hj : j ≤ 1) (hc : w.cell? ⟨p, j, none⟩ = some (.slice (some ⟨g, 0, none⟩) l.length l.length)) (hr : Row w g l) (a : Nat) {x : Place} (hx : l[a]? = some x) (ha : 0 < a) (ha' : a ≤ 65535) :
    Calls Try.prog 21 #[.pointer (some ⟨p, 0, none⟩), .int .i64 j, .int .u16 a, .func (.func 23) #[] #[]] w
      fun e w' => e = .returned (.int .i64 0) ∧ w' = w.setCell ⟨g, a * 2 + 1, none⟩ (.bool true) := by
  obtain ⟨_, h1⟩ := hr.place hx
  have hz : w.frozen? ⟨g, a * 2 + 1, none⟩ = false := Blk.frozen hr _
  have hb : ((a : Int) == 0) = false := beq_eq_false_iff_ne.2 (by omega)
  have hlt : a < l.length := (List.getElem?_eq_some_iff.1 hx).1
  clear hx hr
  go_enter Try.func21, Try.ntmps21
  go_wp2_with (first | (go_at_call 20; refine (disk_in p j _ _ hj hc).mono ?_; rintro e w' ⟨rfl, rfl⟩) | (go_at_call 23; refine (sick1 g _ x.2 _ h1 hz).mono ?_; rintro e w' ⟨rfl, rfl⟩))
  go_ret
  exact ⟨rfl, rfl⟩

theorem with_turn {w : World} {p : Nat} {b : Nat → Nat} {L : St} (hs : Sat w p b L) {j : Nat} (hj : j ≤ 1) (a c d : Nat) (ha' : a ≤ 65535) (f t : Int)
    (hf : w.cell? ⟨c, 0, none⟩ = some (.int .i64 f)) (ht : w.cell? ⟨d, 0, none⟩ = some (.int .i64 t)) :
    Calls Try.prog 21 #[.pointer (some ⟨p, 0, none⟩), .int .i64 j, .int .u16 a, .func (.func 27) #[] #[.pointer (some ⟨c, 0, none⟩), .pointer (some ⟨d, 0, none⟩)]] w
      fun e w' => e = .returned (.int .i64 (turnAt f t L j a).1) ∧ Sat w' p b (turnAt f t L j a).2 ∧ Only (Rows2 b) w w' := by
  unfold turnAt
  by_cases h0 : a = 0 ∨ (L j).length ≤ a
  · rw [if_pos h0]
    refine (with_bad hs hj a _ h0 ha').mono ?_
    rintro e w' ⟨rfl, rfl⟩
    exact ⟨rfl, hs, Only.refl _ _⟩
  · rw [if_neg h0]
    obtain ⟨x, hx⟩ : ∃ x, (L j)[a]? = some x := ⟨(L j)[a]'(by omega), List.getElem?_eq_getElem _⟩
    rw [hx]
    refine (with_turn_core hj (hs.slice hj) (hs.row j hj) a c d f t hx (by omega) ha' hf ht).mono ?_
    rintro e w' (⟨h1, rfl, n, rfl⟩ | ⟨h1, rfl, n, rfl⟩)
    · simp only [if_neg h1]
      exact ⟨trivial, hs.drewN n, (Only.refl _ _).drewN n⟩
    · simp only [if_pos h1]
      exact ⟨trivial, (hs.drewN n).set_is hj hx t, ((Only.refl _ _).drewN n).setCell (.inl (Rows2.of hj)) _⟩

theorem with_sick {w : World} {p : Nat} {b : Nat → Nat} {L : St} (hs : Sat w p b L) {j : Nat} (hj : j ≤ 1) (a : Nat) (ha' : a ≤ 65535) :
    Calls Try.prog 21 #[.pointer (some ⟨p, 0, none⟩), .int .i64 j, .int .u16 a, .func (.func 23) #[] #[]] w
      fun e w' => e = .returned (.int .i64 (sickAt L j a).1) ∧ Sat w' p b (sickAt L j a).2 ∧ Only (Rows2 b) w w' := by
  unfold sickAt
  by_cases h0 : a = 0 ∨ (L j).length ≤ a
  · rw [if_pos h0]
    refine (with_bad hs hj a _ h0 ha').mono ?_
    rintro e w' ⟨rfl, rfl⟩
    exact ⟨rfl, hs, Only.refl _ _⟩
  · rw [if_neg h0]
    obtain ⟨x, hx⟩ : ∃ x, (L j)[a]? = some x := ⟨(L j)[a]'(by omega), List.getElem?_eq_getElem _⟩
    rw [hx]
    refine (with_sick_core hj (hs.slice hj) (hs.row j hj) a hx (by omega) ha').mono ?_
    rintro e w' ⟨rfl, rfl⟩
    exact ⟨rfl, hs.set_sick hj hx true, (Only.refl _ _).setCell (.inl (Rows2.of hj)) _⟩

theorem two_new (w : World) (x y : Value) (t t' : TypeId) : ((w.alloc (.cells #[x] t)).alloc (.cells #[y] t')).cell? ⟨w.heap.size, 0, none⟩ = some x ∧ ((w.alloc (.cells #[x] t)).alloc (.cells #[y] t')).cell? ⟨w.heap.size + 1, 0, none⟩ = some y := by
  have h1 := (Blk.new w t #[x]).alloc (.cells #[y] t')
  have h2 := Blk.new (w.alloc (.cells #[x] t)) t' #[y]
  rw [World.size_alloc] at h2
  exact ⟨by rw [Blk.cell h1]; rfl, by rw [Blk.cell h2]; rfl⟩

/-- Mark, Give, Hold, Sick of a space. -/
theorem mark_in {w : World} {p : Nat} {b : Nat → Nat} {L : St} (hs : Sat w p b L) {j : Nat} (hj : j ≤ 1) (a : Nat) (ha' : a ≤ 65535) :
    Calls Try.prog 16 #[.pointer (some ⟨p, 0, none⟩), .int .i64 j, .int .u16 a] w
      fun e w' => e = .returned (.int .i64 (turnAt 0 1 L j a).1) ∧ Sat w' p b (turnAt 0 1 L j a).2 ∧ Only (Rows2 b) w w' := by
  have hn := two_new w (.int .i64 0) (.int .i64 1) 3 3
  have ho := ((Only.refl (Rows2 b) w).alloc (.cells #[.int .i64 0] 3)).alloc (.cells #[.int .i64 1] 3)
  have hc := with_turn ((hs.alloc (.cells #[.int .i64 0] 3)).alloc (.cells #[.int .i64 1] 3)) hj a w.heap.size (w.heap.size + 1) ha' 0 1 hn.1 hn.2
  clear hn
  go_enter Try.func16, Try.ntmps16
  go_wp2_with (first | (go_at_call 22; refine (turn_any _ _ _).mono ?_; rintro e w' ⟨rfl, rfl⟩) | (go_at_call 21; refine hc.mono ?_; rintro e w' ⟨rfl, hs', ho'⟩))
  go_ret
  exact ⟨rfl, hs', ho.trans ho'⟩
theorem give_in {w : World} {p : Nat} {b : Nat → Nat} {L : St} (hs : Sat w p b L) {j : Nat} (hj : j ≤ 1) (a : Nat) (ha' : a ≤ 65535) :
    Calls Try.prog 9 #[.pointer (some ⟨p, 0, none⟩), .int .i64 j, .int .u16 a] w
      fun e w' => e = .returned (.int .i64 (turnAt 1 0 L j a).1) ∧ Sat w' p b (turnAt 1 0 L j a).2 ∧ Only (Rows2 b) w w' := by
  have hn := two_new w (.int .i64 1) (.int .i64 0) 3 3
  have ho := ((Only.refl (Rows2 b) w).alloc (.cells #[.int .i64 1] 3)).alloc (.cells #[.int .i64 0] 3)
  have hc := with_turn ((hs.alloc (.cells #[.int .i64 1] 3)).alloc (.cells #[.int .i64 0] 3)) hj a w.heap.size (w.heap.size + 1) ha' 1 0 hn.1 hn.2
  clear hn
  go_enter Try.func9, Try.ntmps9
  go_wp2_with (first | (go_at_call 22; refine (turn_any _ _ _).mono ?_; rintro e w' ⟨rfl, rfl⟩) | (go_at_call 21; refine hc.mono ?_; rintro e w' ⟨rfl, hs', ho'⟩))
  go_ret
  exact ⟨rfl, hs', ho.trans ho'⟩
theorem hold_in {w : World} {p : Nat} {b : Nat → Nat} {L : St} (hs : Sat w p b L) {j : Nat} (hj : j ≤ 1) (a : Nat) (ha' : a ≤ 65535) :
    Calls Try.prog 10 #[.pointer (some ⟨p, 0, none⟩), .int .i64 j, .int .u16 a] w
      fun e w' => e = .returned (.int .i64 (turnAt 1 2 L j a).1) ∧ Sat w' p b (turnAt 1 2 L j a).2 ∧ Only (Rows2 b) w w' := by
  have hn := two_new w (.int .i64 1) (.int .i64 2) 3 3
  have ho := ((Only.refl (Rows2 b) w).alloc (.cells #[.int .i64 1] 3)).alloc (.cells #[.int .i64 2] 3)
  have hc := with_turn ((hs.alloc (.cells #[.int .i64 1] 3)).alloc (.cells #[.int .i64 2] 3)) hj a w.heap.size (w.heap.size + 1) ha' 1 2 hn.1 hn.2
  clear hn
  go_enter Try.func10, Try.ntmps10
  go_wp2_with (first | (go_at_call 22; refine (turn_any _ _ _).mono ?_; rintro e w' ⟨rfl, rfl⟩) | (go_at_call 21; refine hc.mono ?_; rintro e w' ⟨rfl, hs', ho'⟩))
  go_ret
  exact ⟨rfl, hs', ho.trans ho'⟩
theorem sick_in {w : World} {p : Nat} {b : Nat → Nat} {L : St} (hs : Sat w p b L) {j : Nat} (hj : j ≤ 1) (a : Nat) (ha' : a ≤ 65535) :
    Calls Try.prog 11 #[.pointer (some ⟨p, 0, none⟩), .int .i64 j, .int .u16 a] w
      fun e w' => e = .returned (.int .i64 (sickAt L j a).1) ∧ Sat w' p b (sickAt L j a).2 ∧ Only (Rows2 b) w w' := by
  have hc := with_sick hs hj a ha'
  go_enter Try.func11, Try.ntmps11
  go_wp2_with (go_at_call 21; refine hc.mono ?_; rintro e w' ⟨rfl, hs', ho'⟩)
  go_ret
  exact ⟨rfl, hs', ho'⟩
end Go.Proofs.Ytlfnneljeoamlaa
