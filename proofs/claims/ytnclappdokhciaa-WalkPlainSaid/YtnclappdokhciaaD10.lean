/-
  slices.Grow of a nil slice, slices.Concat, at entries (func 94, 87) and at strings (func 91, 76).
-/
import Derived.Test.YtnclappdokhciaaD9
import Derived.Lib.AppendZerosOnto
namespace Go.Proofs.Ytnclappdokhciaa
open Go Go.RowKit
set_option linter.unusedVariables false
/-- A row among rows. -/
structure Part where
  A : Option Addr
  n : Nat
  c : Nat
  xs : List Value
def Part.v (p : Part) : Value := .slice p.A p.n p.c
def Part.ok (w : World) (size : Nat) (p : Part) : Prop := Reads w w.heap.size p.A (p.n * size) p.xs ∧ p.n ≤ p.c ∧ (p.A = none → p.n = 0 ∧ p.c = 0) ∧ ∀ u ∈ p.xs, u.oneCell' = true
theorem Part.ok.only {w w' : World} {size : Nat} {p : Part} (h : p.ok w size) (ho : Only (fun _ => False) w w') : p.ok w' size := ⟨(h.1.only (Nat.le_refl _) ho (fun _ _ x => x)).more ho.size, h.2⟩
def tot (ps : List Part) : Nat := (ps.map Part.n).sum
def cat (ps : List Part) : List Value := ps.flatMap Part.xs
theorem tot_take (ps : List Part) (i : Nat) (p : Part) (h : ps[i]? = some p) : tot (ps.take (i + 1)) = tot (ps.take i) + p.n := by
  unfold tot
  rw [List.take_add_one, h]; simp
theorem cat_take (ps : List Part) (i : Nat) (p : Part) (h : ps[i]? = some p) : cat (ps.take (i + 1)) = cat (ps.take i) ++ p.xs := by
  unfold cat
  rw [List.take_add_one, h]; simp
theorem tot_take_le : ∀ (ps : List Part) (i : Nat), tot (ps.take i) ≤ tot ps
  | [], _ => by simp
  | p :: ps, 0 => Nat.zero_le _
  | p :: ps, i + 1 => by
    have ih := tot_take_le ps i
    unfold tot at *
    simp only [List.take_succ_cons, List.map_cons, List.sum_cons]
    omega
/-- A row is appended to a row of the call's own. -/
theorem app_part {P : Program} {t e : TypeId} {size bytes : Nat} {i : TypeInfo} {z : Value} {w w0 : World} {n : Nat} {v : Value} {xs : List Value} (h : w.ownsRow w0.heap.size e size v n xs) (ho : Only (fun _ => False) w0 w)
    (hu : P.underlying t = some (.slice e)) (hi : P.info? e = some i) (hi0 : i.zero = some z) (hi1 : i.size = size) (hi2 : i.bytes = bytes) (hz : z.cells.size = size) (hs : 0 < size) (hb : bytes ≤ 100) (p : Part) (hp : p.ok w size) (hn : n + p.n ≤ 100000) :
    ∃ v' w', (Builtin.append_ #[t, t] t #[v, .slice p.A p.n p.c]).run P w = .ok v' w' ∧ w'.ownsRow w0.heap.size e size v' (n + p.n) (xs ++ p.xs) ∧ Only (fun _ => False) w0 w' := by
  by_cases h0 : p.n = 0
  · have hx : p.xs = [] := List.eq_nil_of_length_eq_zero (by rw [hp.1.1, h0, Nat.zero_mul])
    rw [h0, hx, List.append_nil, Nat.add_zero]
    rcases h.2 with ⟨h1, h2⟩ | ⟨g, cap, cur, h1, _, _, hc, _⟩
    · subst h1
      exact ⟨_, w, run_append_zero w t t e i hu hi none p.A 0 0 p.c (Nat.le_refl _) (fun _ => ⟨rfl, rfl⟩), h, ho⟩
    · subst h1
      exact ⟨_, w, run_append_zero w t t e i hu hi _ p.A n cap p.c hc (fun h => by cases h), h, ho⟩
  · obtain ⟨b, o, e1, hlt, hc⟩ := hp.1.2 (Nat.mul_pos (by omega) hs)
    rw [e1]
    have hbs : (n + p.n) * bytes ≤ 140737488355328 := Nat.le_trans (Nat.mul_le_mul hn hb) (by omega)
    obtain ⟨v', w', hr, hown, hg, _⟩ := run_append_own_at (P := P) w w0.heap.size t t e i z size bytes hu hi hi0 hi1 hi2 hz hs v n xs h ⟨b, o, none⟩ p.n p.c p.xs hp.1.1 (fun j u hj => by rw [add_lit]; exact hc j u hj) hp.2.2.2 (by unfold maxLen; omega) hbs ho.size
    exact ⟨v', w', hr, hown, ho.trans_of (Only.of_grown_own (S := fun k => w0.heap.size ≤ k) hg (fun g e => (row_lt h g e).1)) (fun k hk hs => by omega)⟩

set_option maxRecDepth 10000 in
set_option maxHeartbeats 2000000 in
theorem grow_94 (n : Nat) (hn : n ≤ 100000) (w : World) :
    Calls Try.prog 94 #[.slice none 0 0, .int .i64 n] w fun r w' => ∃ v, r = .returned v ∧ w'.ownsRow w.heap.size 63 3 v 0 [] ∧ Only (fun _ => False) w w' := by
  by_cases h0 : n = 0
  · subst h0
    go_enter Try.func94, Try.ntmps94
    go_wp2
    go_ret
    exact ⟨_, rfl, World.ownsRow_nil _ _ _ _, Only.refl _ _⟩
  · obtain ⟨i, hi, hi0, hi1, hi2⟩ := info_of info63k
    have hold := run_firstCells_none (P := Try.prog) w.drew i.size 0 0 0
    have hap := fun ty => Lib.run_append_grow_zeros (P := Try.prog) w 59 3 ty 63 i _ .i64 .i64 und59 (by kernel_rfl) hi hi0 none 0 0 [] hold n (by omega) (by omega) (by omega) (by omega) (by rw [hi2]; omega) (by rw [hi2]; unfold Builtin.nextslicecap; split <;> (try split) <;> omega)
    have hc1 := grownCap_ge w (0 + n) 0 63
    have hc2 := grownCap_le_maxLen w (0 + n) 0 63 (by unfold maxLen; omega)
    rw [Nat.zero_add] at hap hc1 hc2
    generalize grownCap w n 0 63 = gc at *
    unfold maxLen at hc2
    have i0 : (0 : Int) < n := by omega
    have hown : ∀ cs : Array Value, cs.size = gc * 3 → (w.drew.alloc (.cells cs 63)).ownsRow w.heap.size 63 3 (.slice (some ⟨w.heap.size, 0, none⟩) 0 gc) 0 [] := fun cs hcs =>
      ⟨by simp, .inr ⟨w.heap.size, gc, cs, rfl, Nat.le_refl _, Blk.new w.drew 63 cs, Nat.zero_le _, by unfold maxLen; omega, hcs, by simp⟩⟩
    have hO : ∀ cs : Array Value, Only (fun _ => False) w (w.drew.alloc (.cells cs 63)) := fun cs => (Only.refl _ _).drew.alloc _
    have hsz : ∀ z : Value, z.cells.size = 3 → ((#[] : Array Value) ++ Builtin.zeroCells z.cells n ++ Builtin.zeroCells z.cells (gc - n)).size = gc * 3 := fun z hz => by
      simp only [Array.size_append, Builtin.zeroCells, hz]
      simp
      omega
    have hsz2 := hsz _ (show ((.agg #[.string ⟨#[]⟩, .int .u16 0, .int .u8 0] : Value)).cells.size = 3 from rfl)
    generalize (#[] : Array Value) ++ Builtin.zeroCells _ n ++ Builtin.zeroCells _ (gc - n) = cs at *
    have hown2 := Lib.hid (hown cs hsz2)
    have hO2 := Lib.hid (hO cs)
    clear hown hO hsz hsz2 hold h0
    replace hap := Lib.hid hap
    go_enter Try.func94, Try.ntmps94
    go_wp2_with (at_builtin; refine Lib.wpList_append_run _ rfl _ _ _ _ rfl _ _ rfl rfl _ _ (hap.out _) ?_)
    go_ret
    exact ⟨_, rfl, hown2.out, hO2.out⟩

set_option maxRecDepth 10000 in
set_option maxHeartbeats 4000000 in
theorem concat_87 (ps : List Part) (q : Nat) (w : World) (hq : Blk w q 59 (ps.map Part.v).toArray) (hp : ∀ p ∈ ps, p.ok w 3) (htot : tot ps ≤ 100000) (hps : ps.length ≤ 1000) :
    Calls Try.prog 87 #[.slice (some ⟨q, 0, none⟩) ps.length ps.length] w fun r w' => ∃ v, r = .returned v ∧ w'.ownsRow w.heap.size 63 3 v (tot ps) (cat ps) ∧ Only (fun _ => False) w w' := by
  obtain ⟨inf, hi, hi0, hi1, hi2⟩ := info_of info63k
  replace hp := Lib.hid hp
  go_enter Try.func87, Try.ntmps87
  go_wp2
  go_loop [3, 11] (fun s3 s11 => ∃ i : Nat, s11 = .int .i64 i ∧ i ≤ ps.length ∧ s3 = .int .i64 (tot (ps.take i) : Nat)) (fun _ s11 => ps.length - (intOf s11).toNat)
  case atStart => exact ⟨0, rfl, by omega, rfl⟩
  case round =>
    obtain ⟨i, rfl, hil, rfl⟩ := hrel
    by_cases hlt : i < ps.length
    · obtain ⟨p, hpi⟩ : ∃ p, ps[i]? = some p := ⟨_, List.getElem?_eq_getElem hlt⟩
      have htk := tot_take ps i p hpi
      have hle := tot_take_le ps (i + 1)
      have d0 : w.cell? ⟨q, i, none⟩ = some (.slice p.A p.n p.c) := by rw [hq.cell i]; simp [hpi, Part.v]
      generalize tot (ps.take i) = t0 at *
      have i0 : (0 : Int) ≤ (i : Int) := by omega
      have i1 : (i : Int) < (ps.length : Int) := by omega
      have i2 : (0 : Int) ≤ (t0 : Int) := by omega
      have i3 : (0 : Int) ≤ (p.n : Int) := by omega
      have i4 : (t0 : Int) + (p.n : Int) ≤ 100000 := by omega
      have i5 : ¬ (t0 : Int) + (p.n : Int) < 0 := by omega
      replace htk := Lib.hid htk
      replace hpi := Lib.hid hpi
      go_wp2
      go_round
      case rel => exact ⟨i + 1, by go_num, by omega, by rw [htk.out]; go_num⟩
      case measure => simp [intOf]; omega
    · obtain rfl : i = ps.length := by omega
      rw [List.take_length]
      go_wp2_with fail
      refine (grow_94 (tot ps) htot w).mono ?_
      rintro r w1 ⟨v1, rfl, hown1, ho1⟩
      have hq1 := hq.only ho1 (fun x => x)
      go_wp2
      go_loopw [6, 27] (fun s6 s27 wr => ∃ i : Nat, s27 = .int .i64 i ∧ i ≤ ps.length ∧ wr.ownsRow w.heap.size 63 3 s6 (tot (ps.take i)) (cat (ps.take i)) ∧ Only (fun _ => False) w wr) (fun _ s27 _ => ps.length - (intOf s27).toNat)
      case atStart => exact ⟨0, rfl, by omega, hown1, ho1⟩
      case round =>
        obtain ⟨i, rfl, hil, hown, ho⟩ := hrel
        clear hown1 ho1
        by_cases hlt : i < ps.length
        · obtain ⟨p, hpi⟩ : ∃ p, ps[i]? = some p := ⟨_, List.getElem?_eq_getElem hlt⟩
          have htk := tot_take ps i p hpi
          have hck := cat_take ps i p hpi
          have hle := tot_take_le ps (i + 1)
          have hpo := (hp.out p (List.mem_of_getElem? hpi)).only ho
          have d0 : wr.cell? ⟨q, i, none⟩ = some (.slice p.A p.n p.c) := by rw [(hq.only ho (fun x => x)).cell i]; simp [hpi, Part.v]
          obtain ⟨v', w', hap, hown', ho'⟩ := app_part (P := Try.prog) (t := 59) (e := 63) (size := 3) (bytes := 24) hown ho und59 hi hi0 hi1 hi2 rfl (by omega) (by omega) p hpo (by omega)
          rw [← htk, ← hck] at hown'
          have i0 : (0 : Int) ≤ (i : Int) := by omega
          have i1 : (i : Int) < (ps.length : Int) := by omega
          clear htk hck hle hpo hown
          replace hpi := Lib.hid hpi
          go_wp2_with (at_builtin; refine wpList_append_eq1 rfl (.tmp 31) (.tmp 32) 59 rfl _ _ _ w' (by simp [Act.eval]) (by simp [Act.eval]) hap ?_)
          go_roundw
          case rel => exact ⟨i + 1, by go_num, by omega, hown', ho'⟩
          case measure => simp [intOf]; omega
        · obtain rfl : i = ps.length := by omega
          rw [List.take_length] at hown
          go_wp2
          go_ret
          exact ⟨_, rfl, hown, ho⟩

set_option maxRecDepth 10000 in
set_option maxHeartbeats 2000000 in
theorem grow_91 (n : Nat) (hn : n ≤ 100000) (w : World) :
    Calls Try.prog 91 #[.slice none 0 0, .int .i64 n] w fun r w' => ∃ v, r = .returned v ∧ w'.ownsRow w.heap.size 9 1 v 0 [] ∧ Only (fun _ => False) w w' := by
  by_cases h0 : n = 0
  · subst h0
    go_enter Try.func91, Try.ntmps91
    go_wp2
    go_ret
    exact ⟨_, rfl, World.ownsRow_nil _ _ _ _, Only.refl _ _⟩
  · obtain ⟨i, hi, hi0, hi1, hi2⟩ := info_of info9k
    have hold := run_firstCells_none (P := Try.prog) w.drew i.size 0 0 0
    have hap := fun ty => Lib.run_append_grow_zeros (P := Try.prog) w 23 3 ty 9 i _ .i64 .i64 und23 (by kernel_rfl) hi hi0 none 0 0 [] hold n (by omega) (by omega) (by omega) (by omega) (by rw [hi2]; omega) (by rw [hi2]; unfold Builtin.nextslicecap; split <;> (try split) <;> omega)
    have hc1 := grownCap_ge w (0 + n) 0 9
    have hc2 := grownCap_le_maxLen w (0 + n) 0 9 (by unfold maxLen; omega)
    rw [Nat.zero_add] at hap hc1 hc2
    generalize grownCap w n 0 9 = gc at *
    unfold maxLen at hc2
    have i0 : (0 : Int) < n := by omega
    have hown : ∀ cs : Array Value, cs.size = gc * 1 → (w.drew.alloc (.cells cs 9)).ownsRow w.heap.size 9 1 (.slice (some ⟨w.heap.size, 0, none⟩) 0 gc) 0 [] := fun cs hcs =>
      ⟨by simp, .inr ⟨w.heap.size, gc, cs, rfl, Nat.le_refl _, Blk.new w.drew 9 cs, Nat.zero_le _, by unfold maxLen; omega, hcs, by simp⟩⟩
    have hO : ∀ cs : Array Value, Only (fun _ => False) w (w.drew.alloc (.cells cs 9)) := fun cs => (Only.refl _ _).drew.alloc _
    have hsz : ∀ z : Value, z.cells.size = 1 → ((#[] : Array Value) ++ Builtin.zeroCells z.cells n ++ Builtin.zeroCells z.cells (gc - n)).size = gc * 1 := fun z hz => by
      simp only [Array.size_append, Builtin.zeroCells, hz]
      simp
      omega
    have hsz2 := hsz _ (show ((.string ⟨#[]⟩ : Value)).cells.size = 1 from rfl)
    generalize (#[] : Array Value) ++ Builtin.zeroCells _ n ++ Builtin.zeroCells _ (gc - n) = cs at *
    have hown2 := Lib.hid (hown cs hsz2)
    have hO2 := Lib.hid (hO cs)
    clear hown hO hsz hsz2 hold h0
    replace hap := Lib.hid hap
    go_enter Try.func91, Try.ntmps91
    go_wp2_with (at_builtin; refine Lib.wpList_append_run _ rfl _ _ _ _ rfl _ _ rfl rfl _ _ (hap.out _) ?_)
    go_ret
    exact ⟨_, rfl, hown2.out, hO2.out⟩

set_option maxRecDepth 10000 in
set_option maxHeartbeats 4000000 in
theorem concat_76 (ps : List Part) (q : Nat) (w : World) (hq : Blk w q 23 (ps.map Part.v).toArray) (hp : ∀ p ∈ ps, p.ok w 1) (htot : tot ps ≤ 100000) (hps : ps.length ≤ 1000) :
    Calls Try.prog 76 #[.slice (some ⟨q, 0, none⟩) ps.length ps.length] w fun r w' => ∃ v, r = .returned v ∧ w'.ownsRow w.heap.size 9 1 v (tot ps) (cat ps) ∧ Only (fun _ => False) w w' := by
  obtain ⟨inf, hi, hi0, hi1, hi2⟩ := info_of info9k
  replace hp := Lib.hid hp
  go_enter Try.func76, Try.ntmps76
  go_wp2
  go_loop [3, 11] (fun s3 s11 => ∃ i : Nat, s11 = .int .i64 i ∧ i ≤ ps.length ∧ s3 = .int .i64 (tot (ps.take i) : Nat)) (fun _ s11 => ps.length - (intOf s11).toNat)
  case atStart => exact ⟨0, rfl, by omega, rfl⟩
  case round =>
    obtain ⟨i, rfl, hil, rfl⟩ := hrel
    by_cases hlt : i < ps.length
    · obtain ⟨p, hpi⟩ : ∃ p, ps[i]? = some p := ⟨_, List.getElem?_eq_getElem hlt⟩
      have htk := tot_take ps i p hpi
      have hle := tot_take_le ps (i + 1)
      have d0 : w.cell? ⟨q, i, none⟩ = some (.slice p.A p.n p.c) := by rw [hq.cell i]; simp [hpi, Part.v]
      generalize tot (ps.take i) = t0 at *
      have i0 : (0 : Int) ≤ (i : Int) := by omega
      have i1 : (i : Int) < (ps.length : Int) := by omega
      have i2 : (0 : Int) ≤ (t0 : Int) := by omega
      have i3 : (0 : Int) ≤ (p.n : Int) := by omega
      have i4 : (t0 : Int) + (p.n : Int) ≤ 100000 := by omega
      have i5 : ¬ (t0 : Int) + (p.n : Int) < 0 := by omega
      replace htk := Lib.hid htk
      replace hpi := Lib.hid hpi
      go_wp2
      go_round
      case rel => exact ⟨i + 1, by go_num, by omega, by rw [htk.out]; go_num⟩
      case measure => simp [intOf]; omega
    · obtain rfl : i = ps.length := by omega
      rw [List.take_length]
      go_wp2_with fail
      refine (grow_91 (tot ps) htot w).mono ?_
      rintro r w1 ⟨v1, rfl, hown1, ho1⟩
      have hq1 := hq.only ho1 (fun x => x)
      go_wp2
      go_loopw [6, 27] (fun s6 s27 wr => ∃ i : Nat, s27 = .int .i64 i ∧ i ≤ ps.length ∧ wr.ownsRow w.heap.size 9 1 s6 (tot (ps.take i)) (cat (ps.take i)) ∧ Only (fun _ => False) w wr) (fun _ s27 _ => ps.length - (intOf s27).toNat)
      case atStart => exact ⟨0, rfl, by omega, hown1, ho1⟩
      case round =>
        obtain ⟨i, rfl, hil, hown, ho⟩ := hrel
        clear hown1 ho1
        by_cases hlt : i < ps.length
        · obtain ⟨p, hpi⟩ : ∃ p, ps[i]? = some p := ⟨_, List.getElem?_eq_getElem hlt⟩
          have htk := tot_take ps i p hpi
          have hck := cat_take ps i p hpi
          have hle := tot_take_le ps (i + 1)
          have hpo := (hp.out p (List.mem_of_getElem? hpi)).only ho
          have d0 : wr.cell? ⟨q, i, none⟩ = some (.slice p.A p.n p.c) := by rw [(hq.only ho (fun x => x)).cell i]; simp [hpi, Part.v]
          obtain ⟨v', w', hap, hown', ho'⟩ := app_part (P := Try.prog) (t := 23) (e := 9) (size := 1) (bytes := 16) hown ho und23 hi hi0 hi1 hi2 rfl (by omega) (by omega) p hpo (by omega)
          rw [← htk, ← hck] at hown'
          have i0 : (0 : Int) ≤ (i : Int) := by omega
          have i1 : (i : Int) < (ps.length : Int) := by omega
          clear htk hck hle hpo hown
          replace hpi := Lib.hid hpi
          go_wp2_with (at_builtin; refine wpList_append_eq1 rfl (.tmp 31) (.tmp 32) 23 rfl _ _ _ w' (by simp [Act.eval]) (by simp [Act.eval]) hap ?_)
          go_roundw
          case rel => exact ⟨i + 1, by go_num, by omega, hown', ho'⟩
          case measure => simp [intOf]; omega
        · obtain rfl : i = ps.length := by omega
          rw [List.take_length] at hown
          go_wp2
          go_ret
          exact ⟨_, rfl, hown, ho⟩
end Go.Proofs.Ytnclappdokhciaa
