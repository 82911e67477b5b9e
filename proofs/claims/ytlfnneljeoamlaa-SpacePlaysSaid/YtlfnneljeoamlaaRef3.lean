/-
  The reference's Act (func 15).
-/
import Derived.Test.YtlfnneljeoamlaaDk2
namespace Go.Proofs.Ytlfnneljeoamlaa
open Go.RowKit
set_option linter.unusedVariables false

/-- What Act tells, and the disk behind it: 0 Mark, 1 Give, 2 Hold, any other Sick. -/
def Rd.act (d : Rd) (k x : Nat) : Int × Rd :=
  if x = 0 ∨ d.n ≤ x then (1, d)
  else if k = 0 then (if x ∈ d.u ∨ x ∈ d.h then (5, d) else (0, { d with u := d.u ++ [x] }))
  else if k = 1 then (if x ∈ d.u then (0, { d with u := less d.u x }) else (5, d))
  else if k = 2 then (if x ∈ d.u then (0, { d with u := less d.u x, h := d.h ++ [x] }) else (5, d))
  else (0, { d with s := less d.s x ++ [x] })

set_option maxRecDepth 10000 in
set_option maxHeartbeats 2000000 in
theorem act_zero {w : World} {q B : Nat} {d : Rd} {u h s : Value} (hD : DkV w q B d u h s) (hB : B ≤ w.heap.size) (hs : d.small) (x : Nat) (hx : x ≤ 65535) (h0 : x = 0) (k : Int) :
    Calls Try.prog 15 #[.pointer (some ⟨q, 0, none⟩), .int .i64 k, .int .u16 (x : Int)] w fun e w' => e = .returned (.int .i64 1) ∧ DkNext w q B u h s d w' := by
  obtain ⟨s1, s2, s3, s4⟩ := hs
  obtain ⟨Au, cu, hu, hRu, _⟩ := row_form hD.ru
  obtain ⟨Ah, ch, hh, hRh, _⟩ := row_form hD.rh
  obtain ⟨As, cs, hs, hRs, _⟩ := row_form hD.rs
  have y0 : w.cell? ⟨q, 0, none⟩ = some (.int .i64 d.n) := hD.hd.cell 0
  have y1 : w.cell? ⟨q, 1, none⟩ = some (.slice Au d.u.length cu) := by rw [← hu]; exact hD.hd.cell 1
  have y2 : w.cell? ⟨q, 2, none⟩ = some (.slice Ah d.h.length ch) := by rw [← hh]; exact hD.hd.cell 2
  have y3 : w.cell? ⟨q, 3, none⟩ = some (.slice As d.s.length cs) := by rw [← hs]; exact hD.hd.cell 3
  have hN := Lib.hid (DkNext.refl hD)
  clear hD
  subst h0
  go_enter Try.func15, Try.ntmps15
  go_wp2
  go_ret
  exact ⟨rfl, hN.out⟩
set_option maxRecDepth 10000 in
set_option maxHeartbeats 2000000 in
theorem act_far {w : World} {q B : Nat} {d : Rd} {u h s : Value} (hD : DkV w q B d u h s) (hB : B ≤ w.heap.size) (hs : d.small) (x : Nat) (hx : x ≤ 65535) (h0 : d.n ≤ x) (k : Int) :
    Calls Try.prog 15 #[.pointer (some ⟨q, 0, none⟩), .int .i64 k, .int .u16 (x : Int)] w fun e w' => e = .returned (.int .i64 1) ∧ DkNext w q B u h s d w' := by
  obtain ⟨s1, s2, s3, s4⟩ := hs
  obtain ⟨Au, cu, hu, hRu, _⟩ := row_form hD.ru
  obtain ⟨Ah, ch, hh, hRh, _⟩ := row_form hD.rh
  obtain ⟨As, cs, hs, hRs, _⟩ := row_form hD.rs
  have y0 : w.cell? ⟨q, 0, none⟩ = some (.int .i64 d.n) := hD.hd.cell 0
  have y1 : w.cell? ⟨q, 1, none⟩ = some (.slice Au d.u.length cu) := by rw [← hu]; exact hD.hd.cell 1
  have y2 : w.cell? ⟨q, 2, none⟩ = some (.slice Ah d.h.length ch) := by rw [← hh]; exact hD.hd.cell 2
  have y3 : w.cell? ⟨q, 3, none⟩ = some (.slice As d.s.length cs) := by rw [← hs]; exact hD.hd.cell 3
  have hN := Lib.hid (DkNext.refl hD)
  clear hD
  have x1 : (d.n : Int) ≤ (x : Int) := by omega
  go_enter Try.func15, Try.ntmps15
  by_cases hz : x = 0
  · subst hz
    go_wp2
    go_ret
    exact ⟨rfl, hN.out⟩
  · have x0 : ¬ (x : Int) = 0 := by omega
    have x0b : ((x : Int) == 0) = false := beq_false_of_ne x0
    go_wp2
    go_ret
    exact ⟨rfl, hN.out⟩
set_option maxRecDepth 10000 in
set_option maxHeartbeats 2000000 in
theorem mark_used {w : World} {q B : Nat} {d : Rd} {u h s : Value} (hD : DkV w q B d u h s) (hB : B ≤ w.heap.size) (hs : d.small) (x : Nat) (hx : x ≤ 65535) (h1 : 1 ≤ x) (h2 : x < d.n) (hm : x ∈ d.u) :
    Calls Try.prog 15 #[.pointer (some ⟨q, 0, none⟩), .int .i64 0, .int .u16 (x : Int)] w fun e w' => e = .returned (.int .i64 5) ∧ DkNext w q B u h s d w' := by
  obtain ⟨s1, s2, s3, s4⟩ := hs
  obtain ⟨Au, cu, hu, hRu, _⟩ := row_form hD.ru
  obtain ⟨Ah, ch, hh, hRh, _⟩ := row_form hD.rh
  obtain ⟨As, cs, hs, hRs, _⟩ := row_form hD.rs
  have y0 : w.cell? ⟨q, 0, none⟩ = some (.int .i64 d.n) := hD.hd.cell 0
  have y1 : w.cell? ⟨q, 1, none⟩ = some (.slice Au d.u.length cu) := by rw [← hu]; exact hD.hd.cell 1
  have y2 : w.cell? ⟨q, 2, none⟩ = some (.slice Ah d.h.length ch) := by rw [← hh]; exact hD.hd.cell 2
  have y3 : w.cell? ⟨q, 3, none⟩ = some (.slice As d.s.length cs) := by rw [← hs]; exact hD.hd.cell 3
  have hN := Lib.hid (DkNext.refl hD)
  clear hD
  have x0 : ¬ (x : Int) = 0 := by omega
  have x0b : ((x : Int) == 0) = false := beq_false_of_ne x0
  have x1 : ¬ (d.n : Int) ≤ (x : Int) := by omega
  have x2 : (x : Int) < (d.n : Int) := by omega
  have cU := has_any d.u Au d.u.length cu x w hRu (by omega)
  have cH := has_any d.h Ah d.h.length ch x w hRh (by omega)
  rw [decide_eq_true hm] at cU
  replace cU := Lib.hid cU
  clear cH hm
  go_enter Try.func15, Try.ntmps15
  go_wp2_with (go_at_call 25; with_reducible refine cU.out.mono ?_; rintro e w' ⟨rfl, rfl⟩)
  go_ret
  exact ⟨rfl, hN.out⟩
set_option maxRecDepth 10000 in
set_option maxHeartbeats 2000000 in
theorem mark_held {w : World} {q B : Nat} {d : Rd} {u h s : Value} (hD : DkV w q B d u h s) (hB : B ≤ w.heap.size) (hs : d.small) (x : Nat) (hx : x ≤ 65535) (h1 : 1 ≤ x) (h2 : x < d.n) (hm : x ∉ d.u) (hm2 : x ∈ d.h) :
    Calls Try.prog 15 #[.pointer (some ⟨q, 0, none⟩), .int .i64 0, .int .u16 (x : Int)] w fun e w' => e = .returned (.int .i64 5) ∧ DkNext w q B u h s d w' := by
  obtain ⟨s1, s2, s3, s4⟩ := hs
  obtain ⟨Au, cu, hu, hRu, _⟩ := row_form hD.ru
  obtain ⟨Ah, ch, hh, hRh, _⟩ := row_form hD.rh
  obtain ⟨As, cs, hs, hRs, _⟩ := row_form hD.rs
  have y0 : w.cell? ⟨q, 0, none⟩ = some (.int .i64 d.n) := hD.hd.cell 0
  have y1 : w.cell? ⟨q, 1, none⟩ = some (.slice Au d.u.length cu) := by rw [← hu]; exact hD.hd.cell 1
  have y2 : w.cell? ⟨q, 2, none⟩ = some (.slice Ah d.h.length ch) := by rw [← hh]; exact hD.hd.cell 2
  have y3 : w.cell? ⟨q, 3, none⟩ = some (.slice As d.s.length cs) := by rw [← hs]; exact hD.hd.cell 3
  have hN := Lib.hid (DkNext.refl hD)
  clear hD
  have x0 : ¬ (x : Int) = 0 := by omega
  have x0b : ((x : Int) == 0) = false := beq_false_of_ne x0
  have x1 : ¬ (d.n : Int) ≤ (x : Int) := by omega
  have x2 : (x : Int) < (d.n : Int) := by omega
  have cU := has_any d.u Au d.u.length cu x w hRu (by omega)
  have cH := has_any d.h Ah d.h.length ch x w hRh (by omega)
  rw [decide_eq_false hm] at cU
  rw [decide_eq_true hm2] at cH
  replace cU := Lib.hid cU
  replace cH := Lib.hid cH
  clear hm hm2
  go_enter Try.func15, Try.ntmps15
  go_wp2_with (go_at_call 25; first | (with_reducible refine cU.out.mono ?_; rintro e w' ⟨rfl, rfl⟩) | (with_reducible refine cH.out.mono ?_; rintro e w' ⟨rfl, rfl⟩))
  go_ret
  exact ⟨rfl, hN.out⟩
set_option maxRecDepth 10000 in
set_option maxHeartbeats 2000000 in
theorem mark_yes {w : World} {q B : Nat} {d : Rd} {u h s : Value} (hD : DkV w q B d u h s) (hB : B ≤ w.heap.size) (hs : d.small) (x : Nat) (hx : x ≤ 65535) (h1 : 1 ≤ x) (h2 : x < d.n) (hm : x ∉ d.u) (hm2 : x ∉ d.h) :
    Calls Try.prog 15 #[.pointer (some ⟨q, 0, none⟩), .int .i64 0, .int .u16 (x : Int)] w fun e w' => e = .returned (.int .i64 0) ∧ DkNext w q B u h s { d with u := d.u ++ [x] } w' := by
  obtain ⟨s1, s2, s3, s4⟩ := hs
  obtain ⟨Au, cu, hu, hRu, _⟩ := row_form hD.ru
  obtain ⟨Ah, ch, hh, hRh, _⟩ := row_form hD.rh
  obtain ⟨As, cs, hs, hRs, _⟩ := row_form hD.rs
  have y0 : w.cell? ⟨q, 0, none⟩ = some (.int .i64 d.n) := hD.hd.cell 0
  have y1 : w.cell? ⟨q, 1, none⟩ = some (.slice Au d.u.length cu) := by rw [← hu]; exact hD.hd.cell 1
  have y2 : w.cell? ⟨q, 2, none⟩ = some (.slice Ah d.h.length ch) := by rw [← hh]; exact hD.hd.cell 2
  have y3 : w.cell? ⟨q, 3, none⟩ = some (.slice As d.s.length cs) := by rw [← hs]; exact hD.hd.cell 3
  have x0 : ¬ (x : Int) = 0 := by omega
  have x0b : ((x : Int) == 0) = false := beq_false_of_ne x0
  have x1 : ¬ (d.n : Int) ≤ (x : Int) := by omega
  have x2 : (x : Int) < (d.n : Int) := by omega
  have cU := has_any d.u Au d.u.length cu x w hRu (by omega)
  have cH := has_any d.h Ah d.h.length ch x w hRh (by omega)
  rw [decide_eq_false hm] at cU
  rw [decide_eq_false hm2] at cH
  replace cU := Lib.hid cU
  replace cH := Lib.hid cH
  obtain ⟨A9, c9, w1, hap, hN, st1, st2⟩ := push_u hD hB x (by omega)
  rw [hu] at hap
  replace hN := Lib.hid hN
  clear hD hm hm2
  go_enter Try.func15, Try.ntmps15
  go_wp2_with (first | (go_at_call 25; first | (with_reducible refine cU.out.mono ?_; rintro e w' ⟨rfl, rfl⟩) | (with_reducible refine cH.out.mono ?_; rintro e w' ⟨rfl, rfl⟩)) | (at_builtin; refine wpList_append_eq1 rfl (.tmp 53) (.tmp 55) 40 rfl (.slice Au d.u.length cu) (.slice (some ⟨_, 0, none⟩) 1 1) _ w1 (by simp [Act.eval]) (by simp [Act.eval]) hap ?_))
  go_ret
  exact ⟨rfl, hN.out⟩
set_option maxRecDepth 10000 in
set_option maxHeartbeats 2000000 in
theorem give_no {w : World} {q B : Nat} {d : Rd} {u h s : Value} (hD : DkV w q B d u h s) (hB : B ≤ w.heap.size) (hs : d.small) (x : Nat) (hx : x ≤ 65535) (h1 : 1 ≤ x) (h2 : x < d.n) (hm : x ∉ d.u) :
    Calls Try.prog 15 #[.pointer (some ⟨q, 0, none⟩), .int .i64 1, .int .u16 (x : Int)] w fun e w' => e = .returned (.int .i64 5) ∧ DkNext w q B u h s d w' := by
  obtain ⟨s1, s2, s3, s4⟩ := hs
  obtain ⟨Au, cu, hu, hRu, _⟩ := row_form hD.ru
  obtain ⟨Ah, ch, hh, hRh, _⟩ := row_form hD.rh
  obtain ⟨As, cs, hs, hRs, _⟩ := row_form hD.rs
  have y0 : w.cell? ⟨q, 0, none⟩ = some (.int .i64 d.n) := hD.hd.cell 0
  have y1 : w.cell? ⟨q, 1, none⟩ = some (.slice Au d.u.length cu) := by rw [← hu]; exact hD.hd.cell 1
  have y2 : w.cell? ⟨q, 2, none⟩ = some (.slice Ah d.h.length ch) := by rw [← hh]; exact hD.hd.cell 2
  have y3 : w.cell? ⟨q, 3, none⟩ = some (.slice As d.s.length cs) := by rw [← hs]; exact hD.hd.cell 3
  have hN := Lib.hid (DkNext.refl hD)
  clear hD
  have x0 : ¬ (x : Int) = 0 := by omega
  have x0b : ((x : Int) == 0) = false := beq_false_of_ne x0
  have x1 : ¬ (d.n : Int) ≤ (x : Int) := by omega
  have x2 : (x : Int) < (d.n : Int) := by omega
  have cU := has_any d.u Au d.u.length cu x w hRu (by omega)
  have cH := has_any d.h Ah d.h.length ch x w hRh (by omega)
  rw [decide_eq_false hm] at cU
  replace cU := Lib.hid cU
  clear hm cH
  go_enter Try.func15, Try.ntmps15
  go_wp2_with (go_at_call 25; with_reducible refine cU.out.mono ?_; rintro e w' ⟨rfl, rfl⟩)
  go_ret
  exact ⟨rfl, hN.out⟩
set_option maxRecDepth 10000 in
set_option maxHeartbeats 2000000 in
theorem hold_no {w : World} {q B : Nat} {d : Rd} {u h s : Value} (hD : DkV w q B d u h s) (hB : B ≤ w.heap.size) (hs : d.small) (x : Nat) (hx : x ≤ 65535) (h1 : 1 ≤ x) (h2 : x < d.n) (hm : x ∉ d.u) :
    Calls Try.prog 15 #[.pointer (some ⟨q, 0, none⟩), .int .i64 2, .int .u16 (x : Int)] w fun e w' => e = .returned (.int .i64 5) ∧ DkNext w q B u h s d w' := by
  obtain ⟨s1, s2, s3, s4⟩ := hs
  obtain ⟨Au, cu, hu, hRu, _⟩ := row_form hD.ru
  obtain ⟨Ah, ch, hh, hRh, _⟩ := row_form hD.rh
  obtain ⟨As, cs, hs, hRs, _⟩ := row_form hD.rs
  have y0 : w.cell? ⟨q, 0, none⟩ = some (.int .i64 d.n) := hD.hd.cell 0
  have y1 : w.cell? ⟨q, 1, none⟩ = some (.slice Au d.u.length cu) := by rw [← hu]; exact hD.hd.cell 1
  have y2 : w.cell? ⟨q, 2, none⟩ = some (.slice Ah d.h.length ch) := by rw [← hh]; exact hD.hd.cell 2
  have y3 : w.cell? ⟨q, 3, none⟩ = some (.slice As d.s.length cs) := by rw [← hs]; exact hD.hd.cell 3
  have hN := Lib.hid (DkNext.refl hD)
  clear hD
  have x0 : ¬ (x : Int) = 0 := by omega
  have x0b : ((x : Int) == 0) = false := beq_false_of_ne x0
  have x1 : ¬ (d.n : Int) ≤ (x : Int) := by omega
  have x2 : (x : Int) < (d.n : Int) := by omega
  have cU := has_any d.u Au d.u.length cu x w hRu (by omega)
  have cH := has_any d.h Ah d.h.length ch x w hRh (by omega)
  rw [decide_eq_false hm] at cU
  replace cU := Lib.hid cU
  clear hm cH
  go_enter Try.func15, Try.ntmps15
  go_wp2_with (go_at_call 25; with_reducible refine cU.out.mono ?_; rintro e w' ⟨rfl, rfl⟩)
  go_ret
  exact ⟨rfl, hN.out⟩
set_option maxRecDepth 10000 in
set_option maxHeartbeats 2000000 in
theorem give_yes {w : World} {q B : Nat} {d : Rd} {u h s : Value} (hD : DkV w q B d u h s) (hB : B ≤ w.heap.size) (hs : d.small) (x : Nat) (hx : x ≤ 65535) (h1 : 1 ≤ x) (h2 : x < d.n) (hm : x ∈ d.u) :
    Calls Try.prog 15 #[.pointer (some ⟨q, 0, none⟩), .int .i64 1, .int .u16 (x : Int)] w fun e w' => e = .returned (.int .i64 0) ∧ DkNext w q B u h s { d with u := less d.u x } w' := by
  obtain ⟨s1, s2, s3, s4⟩ := hs
  obtain ⟨Au, cu, hu, hRu, _⟩ := row_form hD.ru
  obtain ⟨Ah, ch, hh, hRh, _⟩ := row_form hD.rh
  obtain ⟨As, cs, hs, hRs, _⟩ := row_form hD.rs
  have y0 : w.cell? ⟨q, 0, none⟩ = some (.int .i64 d.n) := hD.hd.cell 0
  have y1 : w.cell? ⟨q, 1, none⟩ = some (.slice Au d.u.length cu) := by rw [← hu]; exact hD.hd.cell 1
  have y2 : w.cell? ⟨q, 2, none⟩ = some (.slice Ah d.h.length ch) := by rw [← hh]; exact hD.hd.cell 2
  have y3 : w.cell? ⟨q, 3, none⟩ = some (.slice As d.s.length cs) := by rw [← hs]; exact hD.hd.cell 3
  have x0 : ¬ (x : Int) = 0 := by omega
  have x0b : ((x : Int) == 0) = false := beq_false_of_ne x0
  have x1 : ¬ (d.n : Int) ≤ (x : Int) := by omega
  have x2 : (x : Int) < (d.n : Int) := by omega
  have cU := has_any d.u Au d.u.length cu x w hRu (by omega)
  have cH := has_any d.h Ah d.h.length ch x w hRh (by omega)
  rw [decide_eq_true hm] at cU
  replace cU := Lib.hid cU
  have cL := Lib.hid (less_any d.u Au d.u.length cu x w hRu (by omega))
  clear hm cH
  go_enter Try.func15, Try.ntmps15
  go_wp2_with fail
  with_reducible refine cU.out.mono ?_
  rintro e w' ⟨rfl, rfl⟩
  go_wp2_with fail
  with_reducible refine cL.out.mono ?_
  rintro e w1 ⟨v, rfl, hP⟩
  obtain ⟨hN, st1, st2⟩ := new_u hD hB hP
  obtain ⟨A9, c9, rfl, _⟩ := id hP
  replace hN := Lib.hid hN
  clear hD hP cL cU
  go_wp2
  go_ret
  exact ⟨rfl, hN.out⟩
set_option maxRecDepth 10000 in
set_option maxHeartbeats 2000000 in
theorem hold_yes {w : World} {q B : Nat} {d : Rd} {u h s : Value} (hD : DkV w q B d u h s) (hB : B ≤ w.heap.size) (hs : d.small) (x : Nat) (hx : x ≤ 65535) (h1 : 1 ≤ x) (h2 : x < d.n) (hm : x ∈ d.u) :
    Calls Try.prog 15 #[.pointer (some ⟨q, 0, none⟩), .int .i64 2, .int .u16 (x : Int)] w fun e w' => e = .returned (.int .i64 0) ∧ DkNext w q B u h s { d with u := less d.u x, h := d.h ++ [x] } w' := by
  obtain ⟨s1, s2, s3, s4⟩ := hs
  obtain ⟨Au, cu, hu, hRu, _⟩ := row_form hD.ru
  obtain ⟨Ah, ch, hh, hRh, _⟩ := row_form hD.rh
  obtain ⟨As, cs, hs, hRs, _⟩ := row_form hD.rs
  have y0 : w.cell? ⟨q, 0, none⟩ = some (.int .i64 d.n) := hD.hd.cell 0
  have y1 : w.cell? ⟨q, 1, none⟩ = some (.slice Au d.u.length cu) := by rw [← hu]; exact hD.hd.cell 1
  have y2 : w.cell? ⟨q, 2, none⟩ = some (.slice Ah d.h.length ch) := by rw [← hh]; exact hD.hd.cell 2
  have y3 : w.cell? ⟨q, 3, none⟩ = some (.slice As d.s.length cs) := by rw [← hs]; exact hD.hd.cell 3
  have x0 : ¬ (x : Int) = 0 := by omega
  have x0b : ((x : Int) == 0) = false := beq_false_of_ne x0
  have x1 : ¬ (d.n : Int) ≤ (x : Int) := by omega
  have x2 : (x : Int) < (d.n : Int) := by omega
  have cU := has_any d.u Au d.u.length cu x w hRu (by omega)
  have cH := has_any d.h Ah d.h.length ch x w hRh (by omega)
  rw [decide_eq_true hm] at cU
  replace cU := Lib.hid cU
  have cL := Lib.hid (less_any d.u Au d.u.length cu x w hRu (by omega))
  clear hm cH
  go_enter Try.func15, Try.ntmps15
  go_wp2_with fail
  with_reducible refine cU.out.mono ?_
  rintro e w' ⟨rfl, rfl⟩
  go_wp2_with fail
  with_reducible refine cL.out.mono ?_
  rintro e w2 ⟨v, rfl, hP⟩
  obtain ⟨⟨u', h', s', hD2, ho2, hf2⟩, st1, st2⟩ := new_u hD hB hP
  obtain ⟨A9, c9, rfl, _⟩ := id hP
  have hcell := hD2.hd.cell 2
  obtain ⟨Ah', ch', hh', _, _⟩ := row_form hD2.rh
  have y2' : (w2.setCell ⟨q, 1, none⟩ (.slice A9 (less d.u x).length c9)).cell? ⟨q, 2, none⟩ = some (.slice Ah' d.h.length ch') := by rw [← hh']; exact hcell
  have hB2 : B ≤ (w2.setCell ⟨q, 1, none⟩ (.slice A9 (less d.u x).length c9)).heap.size := Nat.le_trans hB ho2.size
  obtain ⟨A8, c8, w1, hap, hN, st3, st4⟩ := push_h hD2 hB2 x (by show d.h.length ≤ _; omega)
  replace hN := Lib.hid (DkNext.trans ho2 hf2 hN)
  have hap2 := hap
  rw [hh'] at hap2
  have st3' := st3
  clear hD hP cL cU hD2 ho2 hf2 hap
  go_wp2_with (first | (at_builtin; refine wpList_append_eq1 rfl (.tmp 79) (.tmp 81) 40 rfl (.slice Ah' d.h.length ch') (.slice (some ⟨_, 0, none⟩) 1 1) _ w1 (by simp [Act.eval]) (by simp [Act.eval]) hap2 ?_))
  go_ret
  exact ⟨rfl, hN.out⟩
set_option maxRecDepth 10000 in
set_option maxHeartbeats 2000000 in
theorem sick_yes {w : World} {q B : Nat} {d : Rd} {u h s : Value} (hD : DkV w q B d u h s) (hB : B ≤ w.heap.size) (hs : d.small) (x : Nat) (hx : x ≤ 65535) (h1 : 1 ≤ x) (h2 : x < d.n) :
    Calls Try.prog 15 #[.pointer (some ⟨q, 0, none⟩), .int .i64 3, .int .u16 (x : Int)] w fun e w' => e = .returned (.int .i64 0) ∧ DkNext w q B u h s { d with s := less d.s x ++ [x] } w' := by
  obtain ⟨s1, s2, s3, s4⟩ := hs
  obtain ⟨Au, cu, hu, hRu, _⟩ := row_form hD.ru
  obtain ⟨Ah, ch, hh, hRh, _⟩ := row_form hD.rh
  obtain ⟨As, cs, hs, hRs, _⟩ := row_form hD.rs
  have y0 : w.cell? ⟨q, 0, none⟩ = some (.int .i64 d.n) := hD.hd.cell 0
  have y1 : w.cell? ⟨q, 1, none⟩ = some (.slice Au d.u.length cu) := by rw [← hu]; exact hD.hd.cell 1
  have y2 : w.cell? ⟨q, 2, none⟩ = some (.slice Ah d.h.length ch) := by rw [← hh]; exact hD.hd.cell 2
  have y3 : w.cell? ⟨q, 3, none⟩ = some (.slice As d.s.length cs) := by rw [← hs]; exact hD.hd.cell 3
  have x0 : ¬ (x : Int) = 0 := by omega
  have x0b : ((x : Int) == 0) = false := beq_false_of_ne x0
  have x1 : ¬ (d.n : Int) ≤ (x : Int) := by omega
  have x2 : (x : Int) < (d.n : Int) := by omega
  have cU := has_any d.u Au d.u.length cu x w hRu (by omega)
  have cH := has_any d.h Ah d.h.length ch x w hRh (by omega)
  by_cases hm : x ∈ d.u
  case' pos => rw [decide_eq_true hm] at cU
  case' neg => rw [decide_eq_false hm] at cU
  all_goals
    replace cU := Lib.hid cU
    have cL := Lib.hid (less_any d.s As d.s.length cs x w hRs (by omega))
    clear hm cH
    go_enter Try.func15, Try.ntmps15
    go_wp2_with fail
    with_reducible refine cU.out.mono ?_
    rintro e w' ⟨rfl, rfl⟩
    go_wp2_with fail
    with_reducible refine cL.out.mono ?_
    rintro e w2 ⟨v, rfl, hP⟩
    have hle : (less d.s x).length ≤ 100000 := Nat.le_trans (List.length_filter_le _ _) (by omega)
    obtain ⟨i30, hi, hi0, hi1, hi2⟩ := info30
    obtain ⟨v', w1, hap, hP'⟩ := hP.one (P := Try.prog) i30 (.int .u16 0) 2 40 und40 hi hi0 hi1 hi2 rfl (by omega) (.int .u16 (x : Int)) rfl (by omega)
    have hP2 : PV w 30 ((less d.s x ++ [x]).map uh) (less d.s x ++ [x]).length v' w1 := by rw [List.map_append, List.length_append]; exact hP'
    obtain ⟨hN, st1, st2⟩ := new_s hD hB hP2
    obtain ⟨A9, c9, rfl, _⟩ := id hP
    obtain ⟨A8, c8, rfl, _⟩ := id hP2
    replace hN := Lib.hid hN
    clear hD hP hP' hP2 cL cU
    generalize hlen : (less d.s x ++ [x]).length = len at *
    clear hlen
    go_wp2_with (first | (at_builtin; refine wpList_append_eq1 rfl (.tmp 32) (.tmp 34) 40 rfl (.slice A9 (less d.s x).length c9) (.slice (some ⟨_, 0, none⟩) 1 1) _ w1 (by simp [Act.eval]) (by simp [Act.eval]) hap ?_))
    go_ret
    exact ⟨rfl, hN.out⟩
end Go.Proofs.Ytlfnneljeoamlaa
