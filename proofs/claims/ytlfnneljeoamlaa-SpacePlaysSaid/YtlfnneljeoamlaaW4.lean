/-
  Contracts of space.Count, and of space.New where a number is out of bounds.
-/
import Derived.Test.YtlfnneljeoamlaaW3
import Derived.WalkKit
import Derived.WalkLawsBesides
import Derived.WalkSpells
import Derived.BigQuiet
import Derived.Deep.QuietTactic
import Derived.Deep.RegionHeld3
import Derived.Deep.LoopGhost
import Derived.Outline
import Derived.Lib.Hide
namespace Go.Proofs.Ytlfnneljeoamlaa
open Go.RowKit
def isq (v : Int) (x : Place) : Bool := x.1 == v
def cntTo (q : Place → Bool) (k : Nat) (l : List Place) : Nat := howMany q (l.take k)
theorem cntTo_small (q : Place → Bool) (k : Nat) (l : List Place) (h : k ≤ 1) : cntTo q k l = 0 := by
  unfold cntTo howMany
  rw [List.drop_eq_nil_of_le (by simp; omega)]; rfl
theorem cntTo_succ (q : Place → Bool) (k : Nat) (l : List Place) (x : Place) (h : 1 ≤ k) (hx : l[k]? = some x) : cntTo q (k + 1) l = cntTo q k l + if q x then 1 else 0 := by
  obtain ⟨hlt, he⟩ := List.getElem?_eq_some_iff.1 hx
  unfold cntTo howMany
  rw [List.take_succ_eq_append_getElem hlt, he, List.drop_append_of_le_length (by simp; omega), List.countP_append, List.countP_singleton]
theorem cntTo_all (q : Place → Bool) (k : Nat) (l : List Place) (h : l.length ≤ k) : cntTo q k l = howMany q l := by
  unfold cntTo; rw [List.take_of_length_le h]
theorem cntTo_le (q : Place → Bool) (k : Nat) (l : List Place) : cntTo q k l ≤ k := by
  unfold cntTo howMany
  refine Nat.le_trans List.countP_le_length ?_
  simp; omega

/-- Every place is free, used or held. -/
def Okl (l : List Place) : Prop := ∀ x ∈ l, x.1 = 0 ∨ x.1 = 1 ∨ x.1 = 2

def countOf (l : List Place) : Value := .agg #[.int .i64 (howMany (isq 0) l), .int .i64 (howMany (isq 1) l), .int .i64 (howMany (isq 2) l), .int .i64 (howMany (·.2) l)]

theorem count_empty (p : Option Addr) (d : Int) (w : World) (hd : ∀ w : World, Calls Try.prog 20 #[.pointer p, .int .i64 d] w fun e w' => e = .returned (.slice none 0 0) ∧ w = w') :
    Calls Try.prog 13 #[.pointer p, .int .i64 d] w fun e w' => e = .returned (.agg #[.int .i64 0, .int .i64 0, .int .i64 0, .int .i64 0]) ∧ Only (fun _ => False) w w' := by
  have HD := Lib.hid hd
  clear hd
  go_enter Try.func13, Try.ntmps13
  go_wp2_with (go_at_call 20; refine (HD.out _).mono ?_; rintro e w' ⟨rfl, rfl⟩)
  go_loop [6, 14] (fun s t => s = .int .i64 0 ∧ t = .int .i64 0) (fun _ _ => 0)
  case atStart => exact ⟨rfl, rfl⟩
  case round =>
    obtain ⟨rfl, rfl⟩ := hrel
    go_wp2
    refine bodyPost_ret (v := .agg #[.int .i64 0, .int .i64 0, .int .i64 0, .int .i64 0]) (by simp [results, Try.results13, go_sem]) rfl ⟨rfl, ?_⟩
    repeat (first | exact ((Only.refl _ _).alloc _).alloc _ | refine Only.setCell ?_ (.inr (by simp)) _)
theorem count_nil (d : Int) (w : World) :
    Calls Try.prog 13 #[.pointer none, .int .i64 d] w fun e w' => e = .returned (.agg #[.int .i64 0, .int .i64 0, .int .i64 0, .int .i64 0]) ∧ Only (fun _ => False) w w' :=
  count_empty _ _ _ fun _ => disk_nil _ _
theorem count_out (p : Addr) (d : Int) (w : World) (h : d < 0 ∨ 1 < d) :
    Calls Try.prog 13 #[.pointer (some p), .int .i64 d] w fun e w' => e = .returned (.agg #[.int .i64 0, .int .i64 0, .int .i64 0, .int .i64 0]) ∧ Only (fun _ => False) w w' :=
  count_empty _ _ _ fun _ => disk_out _ _ _ h

theorem Blk.c3 {w : World} {g : Nat} {t : TypeId} {a b c : Value} (h : Blk w g t #[a, b, c]) :
    w.cell? ⟨g, 0, none⟩ = some a ∧ w.cell? ⟨g, 1, none⟩ = some b ∧ w.cell? ⟨g, 2, none⟩ = some c ∧ w.frozen? ⟨g, 0, none⟩ = false ∧ w.frozen? ⟨g, 1, none⟩ = false ∧ w.frozen? ⟨g, 2, none⟩ = false :=
  ⟨by rw [h.cell]; rfl, by rw [h.cell]; rfl, by rw [h.cell]; rfl, h.frozen _, h.frozen _, h.frozen _⟩
theorem Blk.c4 {w : World} {g : Nat} {t : TypeId} {a b c d : Value} (h : Blk w g t #[a, b, c, d]) :
    w.cell? ⟨g, 0, none⟩ = some a ∧ w.cell? ⟨g, 1, none⟩ = some b ∧ w.cell? ⟨g, 2, none⟩ = some c ∧ w.cell? ⟨g, 3, none⟩ = some d ∧
    w.frozen? ⟨g, 0, none⟩ = false ∧ w.frozen? ⟨g, 1, none⟩ = false ∧ w.frozen? ⟨g, 2, none⟩ = false ∧ w.frozen? ⟨g, 3, none⟩ = false :=
  ⟨by rw [h.cell]; rfl, by rw [h.cell]; rfl, by rw [h.cell]; rfl, by rw [h.cell]; rfl, h.frozen _, h.frozen _, h.frozen _, h.frozen _⟩

set_option maxHeartbeats 1000000 in
theorem count_core (p g : Nat) (j : Nat) (l : List Place) (w : World) (hj : j ≤ 1) (hn : l.length ≤ 4096)
    (hc : w.cell? ⟨p, j, none⟩ = some (.slice (some ⟨g, 0, none⟩) l.length l.length)) (hr : Row w g l) (hok : Okl l) :
    Calls Try.prog 13 #[.pointer (some ⟨p, 0, none⟩), .int .i64 j] w fun e w' => e = .returned (countOf l) ∧ Only (fun _ => False) w w' := by
  have h1 := hc
  have hp : p ≠ w.heap.size ∧ p ≠ w.heap.size + 1 := by have := World.block_lt_of_cell? _ _ hc; simp at this; omega
  have hg : g < w.heap.size := hr.lt
  have hd := disk_in p j _ ((w.alloc (.cells #[.int .i64 0, .int .i64 0, .int .i64 0, .int .i64 0] 36)).alloc (.cells #[.int .i64 0, .int .i64 0, .int .i64 0] 62)) hj (by
    rw [World.cell?_alloc_old _ _ _ (by simpa using hp.2), World.cell?_alloc_old _ _ _ (by simpa using hp.1)]; exact hc)
  clear hc h1
  go_enter Try.func13, Try.ntmps13
  go_wp2_with (go_at_call 20; refine hd.mono ?_; rintro e w' ⟨rfl, rfl⟩)
  clear hd
  go_loopw [6, 14] (fun s t wr => ∃ k : Nat, k ≤ l.length ∧ t = .int .i64 k ∧ s = .int .i64 (cntTo (·.2) k l) ∧ Blk wr w.heap.size 36 #[.int .i64 0, .int .i64 0, .int .i64 0, .int .i64 0] ∧
    Blk wr (w.heap.size + 1) 62 #[.int .i64 (cntTo (isq 0) k l), .int .i64 (cntTo (isq 1) k l), .int .i64 (cntTo (isq 2) k l)] ∧ Only (fun _ => False) w wr) (fun _ t _ => l.length - (intOf t).toNat)
  case atStart =>
    refine ⟨0, by omega, rfl, by rw [cntTo_small _ _ _ (by omega)]; rfl, (Blk.new w 36 _).alloc _, ?_, ((Only.refl _ _).alloc _).alloc _⟩
    rw [cntTo_small _ _ _ (by omega), cntTo_small _ _ _ (by omega), cntTo_small _ _ _ (by omega)]
    have := Blk.new (w.alloc (.cells #[.int .i64 0, .int .i64 0, .int .i64 0, .int .i64 0] 36)) 62 #[.int .i64 0, .int .i64 0, .int .i64 0]
    rw [World.size_alloc] at this
    exact this
  case round =>
    obtain ⟨k, hk, rfl, rfl, hb1, hb2, ho⟩ := hrel
    by_cases hlt : k < l.length
    · obtain ⟨x, hx⟩ : ∃ x, l[k]? = some x := ⟨l[k], List.getElem?_eq_getElem hlt⟩
      have hr' : Row wr g l := Blk.only hr ho (fun h => h)
      obtain ⟨h1, h2⟩ := hr'.place hx
      by_cases hk0 : k = 0
      · subst hk0
        clear hx
        go_wp2
        go_roundw
        case rel =>
          refine ⟨1, by omega, by go_num, ?_, hb1, ?_, ho⟩
          · rw [cntTo_small _ _ _ (by omega), cntTo_small _ _ _ (by omega)]
          · simpa [cntTo_small] using hb2
        case measure => simp [intOf]; omega
      · have hk1 : 1 ≤ k := by omega
        have hkb : ((k : Int) == 0) = false := beq_eq_false_iff_ne.2 (by omega)
        have hx1 := hok x (List.mem_of_getElem? hx)
        have e0 := cntTo_succ (isq 0) k l x hk1 hx
        have e1 := cntTo_succ (isq 1) k l x hk1 hx
        have e2 := cntTo_succ (isq 2) k l x hk1 hx
        have e3 := cntTo_succ (·.2) k l x hk1 hx
        have l0 := cntTo_le (isq 0) k l
        have l1 := cntTo_le (isq 1) k l
        have l2 := cntTo_le (isq 2) k l
        have l3 := cntTo_le (·.2) k l
        obtain ⟨is, sk⟩ := x
        obtain ⟨c0, c1, c2, z0, z1, z2⟩ := hb2.c3
        have HB := Lib.hid (And.intro hb1 hb2)
        simp only at hx1 h1 h2 e3
        have HE := Lib.hid (And.intro e0 (And.intro e1 (And.intro e2 e3)))
        clear hx e0 e1 e2 e3 hb1 hb2 hk0 hr' hok
        rcases hx1 with rfl | rfl | rfl <;> cases sk
        all_goals
          go_wp2
          go_roundw
          case rel =>
            obtain ⟨e0, e1, e2, e3⟩ := HE.out
            refine ⟨k + 1, by omega, by go_num, ?_, HB.out.1.far (by simp) _, ?_, ho.setCell (.inr (by simp)) _⟩
            · rw [e3]; simp
            · rw [e0, e1, e2]; simp [isq]; exact HB.out.2.set_ _ _
          case measure => simp [intOf]; omega
    · obtain ⟨c0, c1, c2, z0, z1, z2⟩ := hb2.c3
      obtain ⟨a0, a1, a2, a3, y0, y1, y2, y3⟩ := hb1.c4
      have HB := Lib.hid (And.intro hb1 hb2)
      clear hb1 hb2 hok hr
      go_wp2
      have e : countOf l = .agg #[.int .i64 (cntTo (isq 0) k l), .int .i64 (cntTo (isq 1) k l), .int .i64 (cntTo (isq 2) k l), .int .i64 (cntTo (·.2) k l)] := by
        unfold countOf; rw [cntTo_all _ _ _ (by omega), cntTo_all _ _ _ (by omega), cntTo_all _ _ _ (by omega), cntTo_all _ _ _ (by omega)]
      rw [e]
      refine bodyPost_ret (v := .agg #[.int .i64 (cntTo (isq 0) k l), .int .i64 (cntTo (isq 1) k l), .int .i64 (cntTo (isq 2) k l), .int .i64 (cntTo (·.2) k l)]) ?_ rfl ⟨rfl, ?_⟩
      · have hb := (((HB.out.1.set_ 0 (.int .i64 (cntTo (isq 0) k l))).set_ 1 (.int .i64 (cntTo (isq 1) k l))).set_ 2 (.int .i64 (cntTo (isq 2) k l))).set_ 3 (.int .i64 (cntTo (·.2) k l))
        obtain ⟨a0, a1, a2, a3, _⟩ := Blk.c4 (a := .int .i64 (cntTo (isq 0) k l)) (b := .int .i64 (cntTo (isq 1) k l)) (c := .int .i64 (cntTo (isq 2) k l)) (d := .int .i64 (cntTo (·.2) k l)) hb
        simp [results, Try.results13, go_sem, a0, a1, a2, a3]
      · repeat (first | exact ho | refine Only.setCell ?_ (.inr (by simp)) _)

theorem count_in {w : World} {p : Nat} {b : Nat → Nat} {L : St} (hs : Sat w p b L) {j : Nat} (hj : j ≤ 1) (hok : Okl (L j)) :
    Calls Try.prog 13 #[.pointer (some ⟨p, 0, none⟩), .int .i64 j] w fun e w' => e = .returned (countOf (L j)) ∧ Only (fun _ => False) w w' :=
  count_core p (b j) j (L j) w hj (hs.len j hj) (hs.slice hj) (hs.row j hj) hok

/-! ### New -/
theorem Try.info57 : (Try.prog.info? 57).map (fun i => (i.zero, i.size, i.bytes)) = some (some (.agg #[.int .i64 0, .bool false]), 2, 16) := by kernel_rfl

theorem madeCells_place (n : Nat) : madeCells (Value.agg #[.int .i64 0, .bool false]).cells (n * 2) = (cellsOf (List.replicate n (0, false))).toArray := by
  have hl : ∀ n, (cellsOf (List.replicate n (0, false))).length = n * 2 := by
    intro n
    induction n with
    | zero => rfl
    | succ n ih => rw [List.replicate_succ, cellsOf_cons]; simp [ih]; omega
  have hz : (Value.agg #[.int .i64 0, .bool false]).cells = #[.int .i64 0, .bool false] := by kernel_rfl
  rw [hz]
  apply Array.ext
  · simp [madeCells, hl]
  · intro i h1 h2
    have hi : i < n * 2 := by simpa [madeCells] using h1
    have hg := cellsOf_get (List.replicate n (0, false)) (i / 2)
    have hn : i / 2 < n := by omega
    simp only [List.getElem?_replicate, hn, if_true, Option.map_some] at hg
    simp only [madeCells, Array.getElem_map, Array.getElem_range, List.getElem_toArray]
    have hm : i % 2 = 0 ∨ i % 2 = 1 := by omega
    rcases hm with hm | hm
    · have e : i / 2 * 2 = i := by omega
      rw [e] at hg
      have := (List.getElem?_eq_some_iff.1 hg.1).2
      rw [this]
      simp [hm]
    · have e : i / 2 * 2 + 1 = i := by omega
      rw [e] at hg
      have := (List.getElem?_eq_some_iff.1 hg.2).2
      rw [this]
      simp [hm]

theorem run_mk (n : Nat) (hn : n ≤ 4096) (W : World) : (Instr.makeSlice 49 (.int .i64 (n : Int)) (.int .i64 (n : Int))).run Try.prog W =
    .ok (.slice (some ⟨W.heap.size, 0, none⟩) n n) (W.alloc (.cells (cellsOf (List.replicate n (0, false))).toArray 57)) := by
  obtain ⟨i, hi, hz, hs, hb⟩ := info_parts Try.info57
  have h := run_make (P := Try.prog) W 49 57 i _ Try.underlying49 hi hz .i64 .i64 (n : Int) (n : Int) (by omega) (by omega) (by rw [hb]; omega) (by omega)
  rw [Int.toNat_natCast, hs, madeCells_place] at h
  exact h

theorem new_bad1 (a b : Int) (w : World) (h : a < 1 ∨ 4096 < a) :
    Calls Try.prog 7 #[.int .i64 a, .int .i64 b] w fun e w' => e = .returned (.tuple #[.pointer none, .int .i64 1]) ∧ Only (fun _ => False) w w' := by
  have i0 : ∀ w, (Instr.index 53 (.agg #[.int .i64 a, .int .i64 b]) (.int .i64 0)).run Try.prog w = .ok (.int .i64 a) w := fun _ => by kernel_rfl
  rcases h with h | h
  · go_enter Try.func7, Try.ntmps7
    go_wp2
    refine wp_loop_rounds 1 ?_
    rw [rounds_succ]
    go_wp2
    go_ret2
    exact ⟨rfl, (Only.refl _ _).alloc _⟩
  · have h' : ¬ a < 1 := by omega
    go_enter Try.func7, Try.ntmps7
    go_wp2
    refine wp_loop_rounds 1 ?_
    rw [rounds_succ]
    go_wp2
    go_ret2
    exact ⟨rfl, (Only.refl _ _).alloc _⟩
end Go.Proofs.Ytlfnneljeoamlaa
