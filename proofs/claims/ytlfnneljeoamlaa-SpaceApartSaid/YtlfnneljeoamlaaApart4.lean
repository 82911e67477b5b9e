/-
  The law SpaceApart: its loop, and its walk whole (4 of 4).
-/
import Derived.Test.YtlfnneljeoamlaaApart2
import Derived.Test.YtlfnneljeoamlaaApart3
import Derived.WalkKit
import Derived.WalkLawsBesides
import Derived.WalkSpells
import Derived.BigQuiet
import Derived.Deep.QuietTactic
import Derived.Deep.RegionHeld3
import Derived.Deep.LoopGhost
import Derived.Outline
import Derived.Lib.Hide
namespace Go.Proofs.Ytlfnneljeoamlaa
open Go.RowKit
set_option linter.unusedVariables false

set_option maxRecDepth 100000 in
theorem lit239 (g : Nat → Value) : ((List.range 239).map g).toArray = #[g 0, g 1, g 2, g 3, g 4, g 5, g 6, g 7, g 8, g 9, g 10, g 11, g 12, g 13, g 14, g 15, g 16, g 17, g 18, g 19, g 20, g 21, g 22, g 23, g 24, g 25, g 26, g 27, g 28, g 29, g 30, g 31, g 32, g 33, g 34, g 35, g 36, g 37, g 38, g 39, g 40, g 41, g 42, g 43, g 44, g 45, g 46, g 47, g 48, g 49, g 50, g 51, g 52, g 53, g 54, g 55, g 56, g 57, g 58, g 59, g 60, g 61, g 62, g 63, g 64, g 65, g 66, g 67, g 68, g 69, g 70, g 71, g 72, g 73, g 74, g 75, g 76, g 77, g 78, g 79, g 80, g 81, g 82, g 83, g 84, g 85, g 86, g 87, g 88, g 89, g 90, g 91, g 92, g 93, g 94, g 95, g 96, g 97, g 98, g 99, g 100, g 101, g 102, g 103, g 104, g 105, g 106, g 107, g 108, g 109, g 110, g 111, g 112, g 113, g 114, g 115, g 116, g 117, g 118, g 119, g 120, g 121, g 122, g 123, g 124, g 125, g 126, g 127, g 128, g 129, g 130, g 131, g 132, g 133, g 134, g 135, g 136, g 137, g 138, g 139, g 140, g 141, g 142, g 143, g 144, g 145, g 146, g 147, g 148, g 149, g 150, g 151, g 152, g 153, g 154, g 155, g 156, g 157, g 158, g 159, g 160, g 161, g 162, g 163, g 164, g 165, g 166, g 167, g 168, g 169, g 170, g 171, g 172, g 173, g 174, g 175, g 176, g 177, g 178, g 179, g 180, g 181, g 182, g 183, g 184, g 185, g 186, g 187, g 188, g 189, g 190, g 191, g 192, g 193, g 194, g 195, g 196, g 197, g 198, g 199, g 200, g 201, g 202, g 203, g 204, g 205, g 206, g 207, g 208, g 209, g 210, g 211, g 212, g 213, g 214, g 215, g 216, g 217, g 218, g 219, g 220, g 221, g 222, g 223, g 224, g 225, g 226, g 227, g 228, g 229, g 230, g 231, g 232, g 233, g 234, g 235, g 236, g 237, g 238] := by kernel_rfl
set_option maxRecDepth 100000 in
theorem frame239 (n p o : Nat) (A : Option Addr) (c : Nat) (acts : List ActV) (k : Nat) (t : Array Value) (hs : t.size = 239) (g : Nat → Value) (hg : g = fun i => t.getD i undef)
    (s0 : g 0 = .int .i64 n) (s1 : g 1 = .slice A acts.length c) (s5 : g 5 = .pointer (some ⟨p, 0, none⟩)) (s7 : g 7 = .pointer (some ⟨o, 0, none⟩)) (s8 : g 8 = .pointer (some ⟨o + 1, 0, none⟩)) (s9 : g 9 = .pointer (some ⟨o + 1 + 1, 0, none⟩)) (s10 : g 10 = .int .i64 k) :
    t = #[.int .i64 n, .slice A acts.length c, g 2, g 3, g 4, .pointer (some ⟨p, 0, none⟩), g 6, .pointer (some ⟨o, 0, none⟩), .pointer (some ⟨o + 1, 0, none⟩), .pointer (some ⟨o + 1 + 1, 0, none⟩), .int .i64 k, g 11, g 12, g 13, g 14, g 15, g 16, g 17, g 18, g 19, g 20, g 21, g 22, g 23, g 24, g 25, g 26, g 27, g 28, g 29, g 30, g 31, g 32, g 33, g 34, g 35, g 36, g 37, g 38, g 39, g 40, g 41, g 42, g 43, g 44, g 45, g 46, g 47, g 48, g 49, g 50, g 51, g 52, g 53, g 54, g 55, g 56, g 57, g 58, g 59, g 60, g 61, g 62, g 63, g 64, g 65, g 66, g 67, g 68, g 69, g 70, g 71, g 72, g 73, g 74, g 75, g 76, g 77, g 78, g 79, g 80, g 81, g 82, g 83, g 84, g 85, g 86, g 87, g 88, g 89, g 90, g 91, g 92, g 93, g 94, g 95, g 96, g 97, g 98, g 99, g 100, g 101, g 102, g 103, g 104, g 105, g 106, g 107, g 108, g 109, g 110, g 111, g 112, g 113, g 114, g 115, g 116, g 117, g 118, g 119, g 120, g 121, g 122, g 123, g 124, g 125, g 126, g 127, g 128, g 129, g 130, g 131, g 132, g 133, g 134, g 135, g 136, g 137, g 138, g 139, g 140, g 141, g 142, g 143, g 144, g 145, g 146, g 147, g 148, g 149, g 150, g 151, g 152, g 153, g 154, g 155, g 156, g 157, g 158, g 159, g 160, g 161, g 162, g 163, g 164, g 165, g 166, g 167, g 168, g 169, g 170, g 171, g 172, g 173, g 174, g 175, g 176, g 177, g 178, g 179, g 180, g 181, g 182, g 183, g 184, g 185, g 186, g 187, g 188, g 189, g 190, g 191, g 192, g 193, g 194, g 195, g 196, g 197, g 198, g 199, g 200, g 201, g 202, g 203, g 204, g 205, g 206, g 207, g 208, g 209, g 210, g 211, g 212, g 213, g 214, g 215, g 216, g 217, g 218, g 219, g 220, g 221, g 222, g 223, g 224, g 225, g 226, g 227, g 228, g 229, g 230, g 231, g 232, g 233, g 234, g 235, g 236, g 237, g 238] := by
  rw [← s0, ← s1, ← s5, ← s7, ← s8, ← s9, ← s10, ← lit239 g, hg]
  exact tmps_lit t 239 hs

set_option maxRecDepth 100000 in
set_option maxHeartbeats 1000000 in
theorem apart_round (n p o : Nat) (b : Nat → Nat) (A : Option Addr) (c : Nat) (acts : List ActV) (w : World) (hA : ActsAt w A acts) (h1 : 1 ≤ n) (h2 : n ≤ 60) (hlen : acts.length ≤ 300) (a : Act) (wr : World) (k : Nat) (hI : ApI n p o b A c acts w k a wr)
    (K : Act → World → Prop) (Q : Exit → Act → World → Prop) (hK : ∀ a w', ApI n p o b A c acts w (k + 1) a w' → K a w')
    (hexit : ∀ (t : Array Value) w', t.size = 239 → Below w.heap.size w w' → Q (.exit 0) ⟨t, []⟩ w') : Code.wp Try.prog body3 (Exit.then K Q) a wr := by
  obtain ⟨tm, df⟩ := a
  obtain ⟨hsz, hdf, s0, s1, s5, s7, s8, s9, s10, hle, hw⟩ := hI
  simp only at hsz hdf s0 s1 s5 s7 s8 s9 s10
  subst hdf
  obtain ⟨g, hg⟩ : ∃ g : Nat → Value, g = fun i => tm.getD i undef := ⟨_, rfl⟩
  have hfr := frame239 n p o A c acts k tm hsz g hg (by rw [hg]; exact s0) (by rw [hg]; exact s1) (by rw [hg]; exact s5) (by rw [hg]; exact s7) (by rw [hg]; exact s8) (by rw [hg]; exact s9) (by rw [hg]; exact s10)
  rw [hfr]
  clear hfr hg s0 s1 s5 s7 s8 s9 s10 hsz
  by_cases hlt : k < acts.length
  · obtain ⟨x, hx⟩ : ∃ x, acts[k]? = some x := ⟨acts[k], List.getElem?_eq_getElem hlt⟩
    obtain ⟨ab, ao, rfl, hab, c0, c1, c2, r0, r1, r2, r3⟩ := hA k x hx
    have hb := hw.below
    replace c0 := (hb.cell (p := ⟨ab, ao + k * 3, none⟩) hab).trans c0
    replace c1 := (hb.cell (p := ⟨ab, ao + k * 3 + 1, none⟩) hab).trans c1
    replace c2 := (hb.cell (p := ⟨ab, ao + k * 3 + 2, none⟩) hab).trans c2
    obtain ⟨⟨L, fo, fk, fs, q1, q2, q3, q4, q5⟩, q6, q7⟩ := hw
    have hrw : RW n p o b w wr L fo fk fs := ⟨q1, q2, q3, q4, q5, q6, q7⟩
    obtain ⟨dd, dk, da⟩ := x
    simp only at c0 c1 c2 r0 r1 r2 r3
    clear hexit hA hx
    by_cases d0 : dk < 0
    · exact round_neg n p o b c acts w wr ab ao k hlt hlen h1 h2 dd dk da g c0 c1 c2 r2 r3 L fo fk fs hrw d0 K Q hK
    by_cases d1 : 1 < dk
    · exact round_big n p o b c acts w wr ab ao k hlt hlen h1 h2 dd dk da g c0 c1 c2 r2 r3 L fo fk fs hrw (by omega) d1 K Q hK
    by_cases e0 : dd = 0
    · exact round_al n p o b c acts w wr ab ao k hlt hlen h1 h2 dd dk da g c0 c1 c2 r2 r3 L fo fk fs hrw (by omega) (by omega) e0 K Q hK
    by_cases e2 : dd = 2
    · exact round_give n p o b c acts w wr ab ao k hlt hlen h1 h2 dd dk da g c0 c1 c2 r2 r3 L fo fk fs hrw (by omega) (by omega) e2 K Q hK
    by_cases e3 : dd = 3
    · exact round_hold n p o b c acts w wr ab ao k hlt hlen h1 h2 dd dk da g c0 c1 c2 r2 r3 L fo fk fs hrw (by omega) (by omega) e3 K Q hK
    by_cases e4 : dd = 4
    · exact round_sick n p o b c acts w wr ab ao k hlt hlen h1 h2 dd dk da g c0 c1 c2 r2 r3 L fo fk fs hrw (by omega) (by omega) e4 K Q hK
    by_cases e5 : dd = 5
    · exact round_rel n p o b c acts w wr ab ao k hlt hlen h1 h2 dd dk da g c0 c1 c2 r2 r3 L fo fk fs hrw (by omega) (by omega) e5 K Q hK
    exact round_else n p o b c acts w wr ab ao k hlt hlen h1 h2 dd dk da g c0 c1 c2 r2 r3 L fo fk fs hrw (by omega) (by omega) e0 e2 e3 e4 e5 K Q hK
  · have hx := hexit
    clear hexit hK hA
    conv => arg 2; whnf
    go_wp2
    exact hx _ _ rfl hw.below

theorem apart_loop (n p o : Nat) (b : Nat → Nat) (A : Option Addr) (c : Nat) (acts : List ActV) (w : World) (hA : ActsAt w A acts) (h1 : 1 ≤ n) (h2 : n ≤ 60) (hlen : acts.length ≤ 300) (a : Act) (wr : World) (hI : ApI n p o b A c acts w 0 a wr)
    (Q : Exit → Act → World → Prop) (hexit : ∀ (t : Array Value) w', t.size = 239 → Below w.heap.size w w' → Q (.exit 0) ⟨t, []⟩ w') : (Code.loop body3).wp Try.prog Q a wr := by
  refine wp_loop_k (fun a w' => ∃ k, ApI n p o b A c acts w k a w') (fun a _ => acts.length - (intOf (a.tmps.getD 10 undef)).toNat) ⟨0, hI⟩ ?_
  rintro a wr ⟨k, hk⟩ K hK
  refine apart_round n p o b A c acts w hA h1 h2 hlen a wr k hk K Q (fun a' w' h => hK a' w' ⟨⟨k + 1, h⟩, ?_⟩) hexit
  rw [h.s10, hk.s10]
  have := h.le
  simp [intOf]; omega

set_option maxRecDepth 100000 in
set_option maxHeartbeats 1000000 in
theorem apart_in (n : Nat) (A : Option Addr) (c : Nat) (acts : List ActV) (w : World) (hA : ActsAt w A acts) (h1 : 1 ≤ n) (h2 : n ≤ 60) (h3 : acts.length ≤ 300) :
    Calls Try.prog 3 #[.int .i64 n, .slice A acts.length c] w fun e w' => e = .returned (.bool true) ∧ Below w.heap.size w w' := by
  have hz := zero29
  go_enter Try.func3, Try.ntmps3
  go_wp2_with (go_at_call 7; refine (new_ok n n _ h1 (by omega) h1 (by omega)).mono ?_; rintro e w1 ⟨rfl, hs, ho⟩)
  have hsz : w.heap.size + 2 < w1.heap.size := by
    have := Blk.lt (hs.row 1 (by omega))
    simpa using this
  have t1 : At (((w1.alloc (.cells (bools fun _ => false) 29)).alloc (.cells (bools fun _ => false) 29)).alloc (.cells (bools fun _ => false) 29)) w1.heap.size (fun _ => false) := ((Blk.new w1 29 (bools fun _ => false)).alloc _).alloc _
  have t2 : At (((w1.alloc (.cells (bools fun _ => false) 29)).alloc (.cells (bools fun _ => false) 29)).alloc (.cells (bools fun _ => false) 29)) (w1.heap.size + 1) (fun _ => false) := by
    have := (Blk.new (w1.alloc (.cells (bools fun _ => false) 29)) 29 (bools fun _ => false)).alloc (.cells (bools fun _ => false) 29)
    rwa [World.size_alloc] at this
  have t3 : At (((w1.alloc (.cells (bools fun _ => false) 29)).alloc (.cells (bools fun _ => false) 29)).alloc (.cells (bools fun _ => false) 29)) (w1.heap.size + 1 + 1) (fun _ => false) := by
    have := Blk.new ((w1.alloc (.cells (bools fun _ => false) 29)).alloc (.cells (bools fun _ => false) 29)) 29 (bools fun _ => false)
    rwa [World.size_alloc, World.size_alloc] at this
  have hinv : ApInv n (fresh n n) (fun _ => false) (fun _ => false) (fun _ => false) := by
    refine ⟨fun j hj => ?_, fun j hj x hx => ?_, fun j hj a x hx => ?_⟩
    · simp only [fresh]; split <;> simp
    · simp only [fresh] at hx; left; split at hx <;> (have := (List.mem_replicate.1 hx).2; rw [this])
    · have : x = (0, false) := by
        have hm := List.mem_of_getElem? hx
        simp only [fresh] at hm; split at hm <;> exact (List.mem_replicate.1 hm).2
      subst this; simp
  have hbel := (((ho.alloc (.cells (bools fun _ => false) 29)).alloc (.cells (bools fun _ => false) 29)).alloc (.cells (bools fun _ => false) 29)).below (Nat.le_refl _) (fun _ _ h => h)
  have hw : ApW n w.heap.size w1.heap.size (fun j => if j = 0 then w.heap.size + 1 else w.heap.size + 2) A acts w (((w1.alloc (.cells (bools fun _ => false) 29)).alloc (.cells (bools fun _ => false) 29)).alloc (.cells (bools fun _ => false) 29)) :=
    ⟨⟨fresh n n, _, _, _, ((hs.alloc _).alloc _).alloc _, t1, t2, t3, hinv⟩, hbel, by simp; omega⟩
  clear t1 t2 t3 hinv hbel hs ho hz
  refine apart_loop n w.heap.size w1.heap.size _ A c acts w hA h1 h2 h3 _ _ ⟨rfl, rfl, rfl, rfl, rfl, rfl, rfl, rfl, rfl, by omega, hw⟩ _ ?_
  clear hw hsz
  intro t w' ht hb
  have e := tmps_lit t 239 ht
  rw [lit239] at e
  rw [e]
  clear e ht
  generalize (fun i => t.getD i undef) = g
  go_wp2_with (go_at_call 6; refine (wakes_true _).mono ?_; rintro e w2 ⟨rfl, ho2⟩)
  go_ret
  exact ⟨rfl, hb.trans (ho2.below hb.size (fun _ _ h => h))⟩

set_option maxRecDepth 100000 in
theorem apart_out (n : Int) (len : Nat) (A : Option Addr) (c : Nat) (w : World) (h : 300 < len ∨ (len ≤ 300 ∧ n < 1) ∨ (len ≤ 300 ∧ 1 ≤ n ∧ 60 < n)) :
    Calls Try.prog 3 #[.int .i64 n, .slice A len c] w fun e w' => e = .returned (.bool true) ∧ Below w.heap.size w w' := by
  rcases h with h | ⟨h, h'⟩ | ⟨h, h', h''⟩
  · go_enter Try.func3, Try.ntmps3
    go_wp2_with (go_at_call 6; refine (wakes_true _).mono ?_; rintro e w2 ⟨rfl, ho2⟩)
    go_ret
    exact ⟨rfl, ho2.below (Nat.le_refl _) (fun _ _ h => h)⟩
  · go_enter Try.func3, Try.ntmps3
    go_wp2_with (go_at_call 6; refine (wakes_true _).mono ?_; rintro e w2 ⟨rfl, ho2⟩)
    go_ret
    exact ⟨rfl, ho2.below (Nat.le_refl _) (fun _ _ h => h)⟩
  · go_enter Try.func3, Try.ntmps3
    go_wp2_with (go_at_call 6; refine (wakes_true _).mono ?_; rintro e w2 ⟨rfl, ho2⟩)
    go_ret
    exact ⟨rfl, ho2.below (Nat.le_refl _) (fun _ _ h => h)⟩

theorem apart_any (n : Int) (A : Option Addr) (c : Nat) (acts : List ActV) (w : World) (hA : ActsAt w A acts) :
    Calls Try.prog 3 #[.int .i64 n, .slice A acts.length c] w fun e w' => e = .returned (.bool true) ∧ Below w.heap.size w w' := by
  by_cases h : acts.length ≤ 300 ∧ 1 ≤ n ∧ n ≤ 60
  · obtain ⟨m, rfl⟩ := Int.eq_ofNat_of_zero_le (show 0 ≤ n by omega)
    exact apart_in m A c acts w hA (by omega) (by omega) h.1
  · exact apart_out n acts.length A c w (by omega)
end Go.Proofs.Ytlfnneljeoamlaa
