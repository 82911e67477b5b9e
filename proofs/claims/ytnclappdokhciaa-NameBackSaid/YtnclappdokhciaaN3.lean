/-
  kintsugilaw03.NameBack (func 5).
-/
import Derived.Test.YtnclappdokhciaaS7
import Derived.Test.YtnclappdokhciaaL4
import Derived.BigQuiet
import Derived.Deep.QuietTactic
namespace Go.Proofs.Ytnclappdokhciaa
open Go Go.RowKit
set_option linter.unusedVariables false

theorem split_cases (s : ByteArray) : (∃ e : Int, e ≠ 0 ∧ split s = ⟨false, [], false, e⟩) ∨ (0 < s.size ∧ s.size ≤ 256 ∧ fault s 0 = 0 ∧ longB (pieces s) = false ∧ split s = ⟨decide (bt s 0 = 47), (pieces s).filter keepB, endB s || dotsB (lastNE (pieces s)), 0⟩) := by
  unfold split
  by_cases h0 : s.size = 0
  · rw [if_pos h0]; exact .inl ⟨20, by omega, rfl⟩
  rw [if_neg h0]
  by_cases h1 : 256 < s.size
  · rw [if_pos h1]; exact .inl ⟨33, by omega, rfl⟩
  rw [if_neg h1]
  by_cases h2 : fault s 0 = 0
  · rw [if_neg (fun h => h h2)]
    by_cases h3 : longB (pieces s) = true
    · rw [if_pos h3]; exact .inl ⟨33, by omega, rfl⟩
    · rw [if_neg h3]; exact .inr ⟨by omega, by omega, h2, by simpa using h3, rfl⟩
  · rw [if_pos h2]; exact .inl ⟨_, h2, rfl⟩
theorem joinL_le (s : ByteArray) : (joinL ((pieces s).filter keepB)).length ≤ s.size := by
  by_cases h : (pieces s).filter keepB = []
  · rw [h]; exact Nat.zero_le _
  · have h1 := join_cB _ h
    have h2 := cB_filter keepB (pieces s)
    have h3 := size_cB s
    unfold joinL
    omega
theorem parts_len (s : ByteArray) (h : s.size ≤ 256) : ((pieces s).filter keepB).length ≤ 1000 := by
  have := List.length_filter_le keepB (pieces s)
  have : (pieces s).length ≤ s.size + 1 := by
    unfold pieces; rw [List.length_append]
    have := cut_len s s.size
    simp only [List.length_cons, List.length_nil]; omega
  omega
/-- What holds of the world in NameBack. -/
structure BW (w : World) (g3 g5 : Nat) (a sl : Bool) (l : List ByteArray) (A A2 : Option Addr) (c c2 : Nat) (W : World) : Prop where
  b3 : Blk W g3 25 #[.bool a, .slice A l.length c, .bool sl]
  b5 : Blk W g5 25 #[.bool a, .slice A2 l.length c2, .bool sl]
  r3 : RowS W A l c
  r5 : RowS W A2 l c2
  on : Only (fun _ => False) w W
theorem BW.next {w : World} {g3 g5 : Nat} {a sl : Bool} {l : List ByteArray} {A A2 : Option Addr} {c c2 : Nat} {W W' : World} (h : BW w g3 g5 a sl l A A2 c c2 W) (ho : Only (fun _ => False) W W') : BW w g3 g5 a sl l A A2 c c2 W' :=
  ⟨h.b3.only ho (fun x => x), h.b5.only ho (fun x => x), h.r3.only ho (fun _ _ _ x => x), h.r5.only ho (fun _ _ _ x => x), h.on.trans ho⟩

set_option maxRecDepth 10000 in
set_option maxHeartbeats 4000000 in
theorem back_any (s : ByteArray) (w : World) :
    Calls Try.prog 5 #[.string s] w fun e w' => e = .returned (.bool true) ∧ Only (fun _ => False) w w' := by
  by_cases h : 400 < s.size
  · have g1 : (400 : Int) < (s.size : Int) := by omega
    go_enter Try.func5, Try.ntmps5
    go_wp2_with fail
    refine (wakes_true w).mono ?_
    rintro e w1 ⟨rfl, ho⟩
    go_wp2
    go_ret
    exact ⟨rfl, ho⟩
  have g1 : ¬ (400 : Int) < (s.size : Int) := by omega
  have hA := split_any s w
  rcases split_cases s with ⟨k, hk, hT⟩ | ⟨h0, h1, hf, hl, hT⟩
  · rw [hT] at hA
    have hk2 : (k == 0) = false := beq_false_of_ne hk
    clear hT
    go_enter Try.func5, Try.ntmps5
    go_wp2_with fail
    refine hA.mono ?_
    rintro e w1 ⟨A, c, rfl, hr1, ho1⟩
    have ho2 := ho1.alloc (.cells #[.bool false, .slice A 0 c, .bool false] 25)
    clear hr1
    go_wp2_with fail
    refine (wakes_true _).mono ?_
    rintro e w2 ⟨rfl, ho⟩
    go_wp2
    go_ret
    exact ⟨rfl, ho2.trans ho⟩
  · obtain ⟨hb1, hb2⟩ := back_law s h0 h1 hf hl
    have hnames : ∀ x ∈ (pieces s).filter keepB, x.toList = [46, 46] ∨ checkS x = 0 := fun x hx => part_fine hf hl hx
    have hjl := joinL_le s
    have hpl := parts_len s h1
    have hxs : ∀ x ∈ (pieces s).filter keepB, x.size ≤ 24 := fun x hx => piece_short hl (List.mem_filter.1 hx).1
    rw [hT] at hA
    clear hT hl hf
    have hB := fun w => split_any (joinS (decide (bt s 0 = 47)) ((pieces s).filter keepB) (endB s || dotsB (lastNE (pieces s)))) w
    rw [hb1] at hB
    clear hb1
    generalize (endB s || dotsB (lastNE (pieces s))) = sl at *
    generalize (pieces s).filter keepB = l at *
    generalize decide (bt s 0 = 47) = a at *
    have hJ := fun (A : Option Addr) (c : Nat) (w : World) (h : RowS w A l c) => join_any a sl l hpl A c w h (by omega)
    generalize joinS a l sl = J at *
    simp only at hA hB
    have hlt : ¬ ((s.size : Int) < (J.size : Int)) := by omega
    go_enter Try.func5, Try.ntmps5
    go_wp2_with fail
    refine hA.mono ?_
    rintro e w1 ⟨A, c, rfl, hr1, ho1⟩
    have oa := (Only.refl (fun _ => False) w1).alloc (.cells #[.bool a, .slice A l.length c, .bool sl] 25)
    have hb3 := Blk.new w1 25 #[.bool a, .slice A l.length c, .bool sl]
    have hr3 := hr1.only oa (fun _ _ _ x => x)
    have ho3 := ho1.trans oa
    clear hr1 ho1 oa hA
    go_wp2_with fail
    refine (hJ A c _ hr3).mono ?_
    rintro e w2 ⟨rfl, ho4⟩
    go_wp2_with fail
    refine (hB _).mono ?_
    rintro e w3 ⟨A2, c2, rfl, hr5, ho5⟩
    have hb4 := (hb3.only ho4 (fun x => x)).only ho5 (fun x => x)
    have hr4 := (hr3.only ho4 (fun _ _ _ x => x)).only ho5 (fun _ _ _ x => x)
    have ho6 := (ho3.trans ho4).trans ho5
    have ob := (Only.refl (fun _ => False) w3).alloc (.cells #[.bool a, .slice A2 l.length c2, .bool sl] 25)
    have hBW : BW w w1.heap.size w3.heap.size a sl l A A2 c c2 (w3.alloc (.cells #[.bool a, .slice A2 l.length c2, .bool sl] 25)) := ⟨hb4.only ob (fun x => x), Blk.new w3 25 _, hr4.only ob (fun _ _ _ x => x), hr5.only ob (fun _ _ _ x => x), ho6.trans ob⟩
    clear hb3 hr3 ho3 ho4 hb4 hr4 ho5 ho6 ob hr5 hB
    generalize w1.heap.size = g3 at *
    go_wp2_with fail
    generalize hg5 : w3.heap.size = g5 at *
    generalize hW : w3.alloc _ = w4 at *
    clear hW hg5
    have c1 := Lib.hid (of_any a sl A l.length c)
    have c2' := Lib.hid (of_any a sl A2 l.length c2)
    have c3 := Lib.hid (fun W (hW : BW w g3 g5 a sl l A A2 c c2 W) => same_true a sl l A A2 c c2 W hW.r3 hW.r5 (by omega))
    have c4 := Lib.hid (fun W (hW : BW w g3 g5 a sl l A A2 c c2 W) => hJ A c W hW.r3)
    clear hJ
    refine wp_region_class (BW w g3 g5 a sl l A A2 c c2) (by kernel_rfl) (by kernel_rfl) (hBW.next (Only.refl _ _).drew) ?_
    repeat (first
      | go_big_quiet_skip
      | (go_big_quiet_want
         first
           | (refine quiet_load_row 25 (.tmp 3) rfl g3 rfl 25 #[.bool a, .slice A l.length c, .bool sl] (0, 0) _ (fun _ h => h.b3) Try.underlying25 rfl (by kernel_rfl) ?_; simp only [Act.put, List.setIfInBounds_toArray, List.set_cons_zero, List.set_cons_succ]; go_big_quiet_on)
           | (refine quiet_load_row 25 (.tmp 5) rfl g5 rfl 25 #[.bool a, .slice A2 l.length c2, .bool sl] (0, 0) _ (fun _ h => h.b5) Try.underlying25 rfl (by kernel_rfl) ?_; simp only [Act.put, List.setIfInBounds_toArray, List.set_cons_zero, List.set_cons_succ]; go_big_quiet_on)
           | (go_big_quiet_op
              first
                | go_big_quiet_on
                | (refine ⟨_, fun _ _ => by with_reducible rfl, ?_⟩; go_big_quiet_on)
                | (apply Exists.intro
                   refine ⟨fun W hW => ?_, ?_⟩
                   · first
                       | (go_at_call 17; first | (with_reducible refine (c1.out _).mono ?_; rintro x w' ⟨rfl, hn⟩; exact ⟨rfl, BW.next hW hn⟩) | (with_reducible refine (c2'.out _).mono ?_; rintro x w' ⟨rfl, hn⟩; exact ⟨rfl, BW.next hW hn⟩))
                       | (go_at_call 16; with_reducible refine (c3.out _ hW).mono ?_; rintro x w' ⟨rfl, hn⟩; exact ⟨rfl, BW.next hW hn⟩)
                       | (go_at_call 18; with_reducible refine (c4.out _ hW).mono ?_; rintro x w' ⟨rfl, hn⟩; exact ⟨rfl, BW.next hW hn⟩)
                   go_big_quiet_on))))
    refine wpQuiet_nil ?_
    intro w5 h5
    clear hBW c1 c2' c3 c4 hjl
    go_wp2
    simp only [show decide (s.size < J.size) = false from decide_eq_false (by omega)]
    clear hlt hb2
    go_loopw [2, 7] (fun _ t wr => ∃ i : Nat, t = .int .i64 i ∧ i ≤ l.length ∧ BW w g3 g5 a sl l A A2 c c2 wr) (fun _ t _ => l.length - (intOf t).toNat)
    case atStart => exact ⟨0, rfl, by omega, h5⟩
    case round =>
      clear h5
      obtain ⟨i, rfl, hi, hbw⟩ := hrel
      have q1 := hbw.b3.cell 1
      simp only [List.getElem?_toArray, List.getElem?_cons_zero, List.getElem?_cons_succ] at q1
      by_cases hlt : i < l.length
      · obtain ⟨x, hx⟩ : ∃ x, l[i]? = some x := ⟨_, List.getElem?_eq_getElem hlt⟩
        obtain ⟨b1, o1, rfl, hl1, d1⟩ := hbw.r3.cell hx
        have i0 : (0 : Int) ≤ (i : Int) := by omega
        have i1 : (i : Int) < (l.length : Int) := by omega
        have hxm := List.mem_of_getElem? hx
        have hx24 := hxs x hxm
        have hxn := hnames x hxm
        replace hbw := Lib.hid hbw
        clear hx hxm hnames hxs
        by_cases hdd : x.toList = [46, 46]
        · go_wp2
          go_roundw
          case rel => exact ⟨i + 1, by go_num, by omega, hbw.out⟩
          case measure => simp [intOf]; omega
        · have hddb : (x.toList == [46, 46]) = false := beq_false_of_ne hdd
          have hck := hxn.resolve_left hdd
          clear hxn
          go_wp2_with fail
          refine (check_any x (by omega) wr).mono ?_
          rintro e w6 ⟨rfl, ho6⟩
          rw [hck]
          have hb6 := Lib.hid (hbw.out.next ho6)
          clear hbw ho6 hck
          go_wp2
          go_roundw
          case rel => exact ⟨i + 1, by go_num, by omega, hb6.out⟩
          case measure => simp [intOf]; omega
      · have i1 : ¬ (i : Int) < (l.length : Int) := by omega
        have hon := hbw.on
        clear hbw hnames hxs
        go_wp2_with fail
        refine (wakes_true wr).mono ?_
        rintro e w6 ⟨rfl, ho6⟩
        go_wp2
        go_ret
        exact ⟨rfl, hon.trans ho6⟩
end Go.Proofs.Ytnclappdokhciaa
