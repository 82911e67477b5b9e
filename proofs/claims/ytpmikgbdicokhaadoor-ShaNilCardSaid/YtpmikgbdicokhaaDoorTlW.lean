/-
  The walks of kintsugilaw01.ShaTells (func 3) and ShaNil (func 5).
-/
import Derived.Test.YtpmikgbdicokhaaDoorR5
namespace Go.Proofs.YtpmikgbdicokhaaDoor
open Go.RowKit
set_option linter.unusedVariables false

/-- What holds of the world within ShaTells. -/
structure TQ (w : World) (A : Option Addr) (bs : List Nat) (q : Nat) (w' : World) : Prop where
  b : Reads w' w.heap.size A bs.length (bs.map ub)
  kk : KK w'
  t : Tab w' q 24 32 (fun i => ub (dby (sha bs) i))
  o : Only (fun _ => False) w w'
theorem TQ.next {w : World} {A : Option Addr} {bs : List Nat} {q : Nat} {w' w'' : World} (h : TQ w A bs q w') (ho : Only (fun _ => False) w' w'') : TQ w A bs q w'' :=
  ⟨h.b.only h.o.size ho (fun _ _ x => x), h.kk.only ho (fun x => x), h.t.only ho (fun x => x), h.o.trans ho⟩

set_option maxRecDepth 10000 in
set_option maxHeartbeats 2000000 in
theorem shaTells_walk (A : Option Addr) (bs : List Nat) (cb : Nat) (w : World) (hk : KK w) (hl : ∀ x ∈ bs, x < 256) (hR : Reads w w.heap.size A bs.length (bs.map ub)) (hA : A = none → bs.length = 0) (hb1 : bs.length ≤ cb) :
    Calls Tryd.prog 3 #[.slice A bs.length cb] w fun x w' => x = .returned (.bool true) ∧ Only (fun _ => False) w w' := by
  by_cases h1 : bs.length ≤ 4000
  case neg =>
    have g1 : (4000 : Int) < (bs.length : Int) := by omega
    go_enter Tryd.func3, Tryd.ntmps3
    go_wp2_with fail
    refine (wakes_any w hk).mono ?_
    rintro e w1 ⟨rfl, ho⟩
    go_wp2
    exact bodyPost_ret (v := .bool true) (by simp [results, Tryd.results3, go_sem]) rfl ⟨rfl, ho⟩
  case pos =>
    have g1 : ¬ (4000 : Int) < (bs.length : Int) := by omega
    go_enter Tryd.func3, Tryd.ntmps3
    go_wp2_with fail
    refine (all_agg bs bs.length rfl A cb w hk hl hR hA (by omega)).mono ?_
    rintro e w4 ⟨rfl, ho4⟩
    have hnew := fun W => run_storeCells_new (P := Tryd.prog) W 24 (tab 32 fun _ => ub 0) (tab 32 fun i => ub (dby (sha bs) i)) (info24 _) (by simp [tab_size]) (by simp [tab]; intro x _; rfl)
    have hz := zero24
    go_wp2
    have hQ : TQ w A bs w4.heap.size (w4.alloc (.cells (tab 32 fun i => ub (dby (sha bs) i)) 24)) := ⟨hR.only (Nat.le_refl _) (ho4.alloc _) (fun _ _ x => x), hk.only (ho4.alloc _) (fun x => x), Tab.new w4 24 32 _, ho4.alloc _⟩
    obtain ⟨S1, hS1⟩ : ∃ S : ByteArray, S = ⟨(hexl (dby (sha bs)) 32).toArray⟩ := ⟨_, rfl⟩
    have c1 := Lib.hid (fun W (hW : TQ w A bs w4.heap.size W) => rsum_any A bs cb W hl (hW.b.more hW.o.size) hA (by omega))
    have c2 := Lib.hid (fun W (hW : TQ w A bs w4.heap.size W) => hex_str (dby (sha bs)) (dby_lt32 _) hS1 W)
    have c3 := Lib.hid (fun W (hW : TQ w A bs w4.heap.size W) => rhex_str (dby (sha bs)) (dby_lt32 _) hS1 W)
    have hq := fun W => eq24 (sha bs) W
    clear hnew hz ho4 hS1
    refine wp_region_class (TQ w A bs w4.heap.size) (by kernel_rfl) (by kernel_rfl) (hQ.next (Only.refl _ _).drew) ?_
    clear hQ
    generalize w4.heap.size = q4 at *
    repeat (first
      | go_big_quiet_skip
      | (go_big_quiet_want
         first
           | (refine quiet_load_row 24 (.tmp 3) rfl q4 rfl 24 (tab 32 fun i => ub (dby (sha bs) i)) (0, 0) _ (fun _ h => h.t) Tryd.underlying24 rfl (info24 _) ?_; simp only [Act.put, List.setIfInBounds_toArray, List.set_cons_zero, List.set_cons_succ]; go_big_quiet_on)
           | (go_big_quiet_op
              first
                | go_big_quiet_on
                | (refine ⟨_, fun _ _ => by with_reducible rfl, ?_⟩; go_big_quiet_on)
                | (apply Exists.intro
                   refine ⟨fun W hW => ?_, ?_⟩
                   · first
                       | (go_at_call 10; with_reducible refine (c1.out W hW).mono ?_; rintro x w' ⟨rfl, hn⟩; exact ⟨rfl, TQ.next hW hn⟩)
                       | (go_at_call 11; with_reducible refine (c2.out W hW).mono ?_; rintro x w' ⟨rfl, hn⟩; exact ⟨rfl, TQ.next hW hn⟩)
                       | (go_at_call 12; with_reducible refine (c3.out W hW).mono ?_; rintro x w' ⟨rfl, hn⟩; exact ⟨rfl, TQ.next hW hn⟩)
                       | (go_at_call 8; with_reducible refine (wakes_any W hW.kk).mono ?_; rintro x w' ⟨rfl, hn⟩; exact ⟨rfl, TQ.next hW hn⟩)
                   go_big_quiet_on))))
    refine wpQuiet_nil ?_
    intro w5 hK5
    go_wp2
    exact bodyPost_ret (v := .bool true) (by simp [results, Tryd.results3, go_sem]) rfl ⟨rfl, hK5.o⟩

/-- A write to no hash. -/
theorem write_nil (A : Option Addr) (n c : Nat) (w : World) : Calls Tryd.prog 13 #[.pointer none, .slice A n c] w fun e w' => e = .returned (.tuple #[]) ∧ w = w' := by
  go_enter Tryd.func13, Tryd.ntmps13
  go_wp2
  exact bodyPost_ret (v := .tuple #[]) (by simp [results, Tryd.results13, go_sem]) rfl ⟨rfl, rfl⟩
theorem sumnil_agg (w : World) (hk : KK w) : Calls Tryd.prog 14 #[.pointer none] w fun e w' => e = .returned (.agg (tab 32 fun i => ub (dby (sha []) i))) ∧ Only (fun _ => False) w w' := sum_nil w hk
theorem rsumnil_agg (w : World) : Calls Tryd.prog 10 #[.slice none 0 0] w fun e w' => e = .returned (.agg (tab 32 fun i => ub (dby (sha []) i))) ∧ Only (fun _ => False) w w' :=
  rsum_any none [] 0 w (fun _ h => absurd h List.not_mem_nil) (Reads.nil_ _ _ _) (fun _ => rfl) (by simp)

set_option maxRecDepth 10000 in
set_option maxHeartbeats 2000000 in
theorem shaNil_walk (A : Option Addr) (bs : List Nat) (cb : Nat) (w : World) (hk : KK w) :
    Calls Tryd.prog 5 #[.slice A bs.length cb] w fun x w' => x = .returned (.bool true) ∧ Only (fun _ => False) w w' := by
  have hp0 : w.heap.size ≠ 0 := by have := hk.1; omega
  by_cases h1 : bs.length ≤ 4000
  case neg =>
    have g1 : (4000 : Int) < (bs.length : Int) := by omega
    go_enter Tryd.func5, Tryd.ntmps5
    go_wp2_with fail
    refine (wakes_any w hk).mono ?_
    rintro e w1 ⟨rfl, ho⟩
    go_wp2
    exact bodyPost_ret (v := .bool true) (by simp [results, Tryd.results5, go_sem]) rfl ⟨rfl, ho⟩
  case pos =>
    have g1 : ¬ (4000 : Int) < (bs.length : Int) := by omega
    have hq := fun W => eq24 (sha []) W
    go_enter Tryd.func5, Tryd.ntmps5
    go_wp2_with fail
    refine (write_nil A bs.length cb w).mono ?_
    rintro e w1 ⟨rfl, rfl⟩
    go_wp2_with fail
    refine (sumnil_agg w hk).mono ?_
    rintro e w2 ⟨rfl, ho2⟩
    have hk2 := hk.only ho2 (fun x => x)
    go_wp2_with fail
    refine (rsumnil_agg w2).mono ?_
    rintro e w3 ⟨rfl, ho3⟩
    have hk3 := hk2.only ho3 (fun x => x)
    have ho3' := ho2.trans ho3
    clear hk2 ho2 ho3
    go_wp2_with fail
    refine (new_any w3).mono ?_
    rintro e w4 ⟨rfl, hw4⟩
    have hH4 := hash_new w3
    have ho4 := (Only.refl (fun _ => False) w3).alloc (.cells (hcells ⟨0, 0, 0, 0, 0, 0, 0, 0⟩ none 0 0 0 false) 45)
    rw [hw4] at hH4 ho4
    clear hw4
    have hk4 := hk3.only ho4 (fun x => x)
    have ho4' := ho3'.trans ho4
    have hp3 : w3.heap.size ≠ 0 := by have := hk3.1; omega
    clear hk3 ho3' ho4
    go_wp2_with fail
    refine (sum_agg w3.heap.size hp3 [] w4 hk4 hH4 (by simp)).mono ?_
    rintro e w5 ⟨rfl, ho5⟩
    have hk5 := hk4.only ho5 (fun x => x)
    have ho5' := ho4'.trans ho5
    clear hk4 ho4' ho5 hH4
    go_wp2_with fail
    refine (rsumnil_agg w5).mono ?_
    rintro e w6 ⟨rfl, ho6⟩
    have hk6 := hk5.only ho6 (fun x => x)
    have ho6' := ho5'.trans ho6
    clear hk5 ho5' ho6
    go_wp2_with fail
    refine (wakes_any w6 hk6).mono ?_
    rintro e w7 ⟨rfl, ho7⟩
    go_wp2
    exact bodyPost_ret (v := .bool true) (by simp [results, Tryd.results5, go_sem]) rfl ⟨rfl, ho6'.trans ho7⟩
end Go.Proofs.YtpmikgbdicokhaaDoor
