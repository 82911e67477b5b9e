/-
  The walk of kintsugilaw07.SpacePlays (func 4).
-/
import Derived.Test.YtlfnneljeoamlaaPr1
import Derived.Test.YtlfnneljeoamlaaPr2
import Derived.Test.YtlfnneljeoamlaaPr3
import Derived.Test.YtlfnneljeoamlaaPr4
import Derived.Test.YtlfnneljeoamlaaApart1
import Derived.Deep.RegionHeld3
import Derived.Deep.RegionLaw
import Derived.BigRegion
namespace Go.Proofs.Ytlfnneljeoamlaa
open Go.RowKit
set_option linter.unusedVariables false

set_option maxRecDepth 10000 in
set_option maxHeartbeats 2000000 in
theorem plays_far (a b : Int) (A : Option Addr) (n c : Nat) (w : World) (h : 200 < n ∨ 30 < a ∨ 30 < b) :
    Calls Try.prog 4 #[.int .i64 a, .int .i64 b, .slice A n c] w fun e w' => e = .returned (.bool true) ∧ Only (fun _ => False) w w' := by
  by_cases h1 : 200 < n
  · have g1 : (200 : Int) < (n : Int) := by omega
    go_enter Try.func4, Try.ntmps4
    go_wp2_with fail
    refine (wakes_true w).mono ?_
    rintro e w1 ⟨rfl, ho⟩
    go_wp2
    exact bodyPost_ret (v := .bool true) (by simp [results, Try.results4, go_sem]) rfl ⟨rfl, ho⟩
  · have g1 : ¬ (200 : Int) < (n : Int) := by omega
    by_cases h2 : 30 < a
    · go_enter Try.func4, Try.ntmps4
      go_wp2_with fail
      refine (wakes_true w).mono ?_
      rintro e w1 ⟨rfl, ho⟩
      go_wp2
      exact bodyPost_ret (v := .bool true) (by simp [results, Try.results4, go_sem]) rfl ⟨rfl, ho⟩
    · have h3 : 30 < b := by omega
      go_enter Try.func4, Try.ntmps4
      go_wp2_with fail
      refine (wakes_true w).mono ?_
      rintro e w1 ⟨rfl, ho⟩
      go_wp2
      exact bodyPost_ret (v := .bool true) (by simp [results, Try.results4, go_sem]) rfl ⟨rfl, ho⟩

set_option maxRecDepth 10000 in
set_option maxHeartbeats 2000000 in
theorem plays_bad (a b : Int) (A : Option Addr) (n c : Nat) (w : World) (h1 : n ≤ 200) (h2 : a ≤ 30) (h3 : b ≤ 30) (h : a < 1 ∨ b < 1) :
    Calls Try.prog 4 #[.int .i64 a, .int .i64 b, .slice A n c] w fun e w' => e = .returned (.bool true) ∧ Only (fun _ => False) w w' := by
  have g1 : ¬ (200 : Int) < (n : Int) := by omega
  have g2 : ¬ 30 < a := by omega
  have g3 : ¬ 30 < b := by omega
  by_cases h4 : a < 1
  · go_enter Try.func4, Try.ntmps4
    go_wp2_with fail
    refine (new_bad1 a b w (by omega)).mono ?_
    rintro e w1 ⟨rfl, ho1⟩
    go_wp2_with fail
    refine (wakes_true w1).mono ?_
    rintro e w2 ⟨rfl, ho⟩
    go_wp2
    exact bodyPost_ret (v := .bool true) (by simp [results, Try.results4, go_sem]) rfl ⟨rfl, ho1.trans ho⟩
  · obtain ⟨m, rfl⟩ := Int.eq_ofNat_of_zero_le (show 0 ≤ a by omega)
    have h5 : b < 1 := by omega
    go_enter Try.func4, Try.ntmps4
    go_wp2_with fail
    refine (new_bad2 m b w (by omega) (by omega) (by omega)).mono ?_
    rintro e w1 ⟨rfl, ho1⟩
    go_wp2_with fail
    refine (wakes_true w1).mono ?_
    rintro e w2 ⟨rfl, ho⟩
    go_wp2
    exact bodyPost_ret (v := .bool true) (by simp [results, Try.results4, go_sem]) rfl ⟨rfl, ho1.trans ho⟩

set_option maxRecDepth 100000 in
theorem lit216 (g : Nat → Value) : ((List.range 216).map g).toArray = #[g 0, g 1, g 2, g 3, g 4, g 5, g 6, g 7, g 8, g 9, g 10, g 11, g 12, g 13, g 14, g 15, g 16, g 17, g 18, g 19, g 20, g 21, g 22, g 23, g 24, g 25, g 26, g 27, g 28, g 29, g 30, g 31, g 32, g 33, g 34, g 35, g 36, g 37, g 38, g 39, g 40, g 41, g 42, g 43, g 44, g 45, g 46, g 47, g 48, g 49, g 50, g 51, g 52, g 53, g 54, g 55, g 56, g 57, g 58, g 59, g 60, g 61, g 62, g 63, g 64, g 65, g 66, g 67, g 68, g 69, g 70, g 71, g 72, g 73, g 74, g 75, g 76, g 77, g 78, g 79, g 80, g 81, g 82, g 83, g 84, g 85, g 86, g 87, g 88, g 89, g 90, g 91, g 92, g 93, g 94, g 95, g 96, g 97, g 98, g 99, g 100, g 101, g 102, g 103, g 104, g 105, g 106, g 107, g 108, g 109, g 110, g 111, g 112, g 113, g 114, g 115, g 116, g 117, g 118, g 119, g 120, g 121, g 122, g 123, g 124, g 125, g 126, g 127, g 128, g 129, g 130, g 131, g 132, g 133, g 134, g 135, g 136, g 137, g 138, g 139, g 140, g 141, g 142, g 143, g 144, g 145, g 146, g 147, g 148, g 149, g 150, g 151, g 152, g 153, g 154, g 155, g 156, g 157, g 158, g 159, g 160, g 161, g 162, g 163, g 164, g 165, g 166, g 167, g 168, g 169, g 170, g 171, g 172, g 173, g 174, g 175, g 176, g 177, g 178, g 179, g 180, g 181, g 182, g 183, g 184, g 185, g 186, g 187, g 188, g 189, g 190, g 191, g 192, g 193, g 194, g 195, g 196, g 197, g 198, g 199, g 200, g 201, g 202, g 203, g 204, g 205, g 206, g 207, g 208, g 209, g 210, g 211, g 212, g 213, g 214, g 215] := by kernel_rfl
set_option maxRecDepth 100000 in
theorem frame216 (n m p gw : Nat) (A : Option Addr) (c : Nat) (acts : List ActV) (i : Nat) (t : Array Value) (hs : t.size = 216) (g : Nat → Value) (hg : g = fun i => t.getD i undef)
    (s0 : g 0 = .int .i64 n) (s1 : g 1 = .int .i64 m) (s2 : g 2 = .slice A acts.length c) (s7 : g 7 = .pointer (some ⟨p, 0, none⟩)) (s9 : g 9 = .slice (some ⟨gw, 0, none⟩) 2 2) (s10 : g 10 = .int .i64 i) :
    t = #[.int .i64 n, .int .i64 m, .slice A acts.length c, g 3, g 4, g 5, g 6, .pointer (some ⟨p, 0, none⟩), g 8, .slice (some ⟨gw, 0, none⟩) 2 2, .int .i64 i, g 11, g 12, g 13, g 14, g 15, g 16, g 17, g 18, g 19, g 20, g 21, g 22, g 23, g 24, g 25, g 26, g 27, g 28, g 29, g 30, g 31, g 32, g 33, g 34, g 35, g 36, g 37, g 38, g 39, g 40, g 41, g 42, g 43, g 44, g 45, g 46, g 47, g 48, g 49, g 50, g 51, g 52, g 53, g 54, g 55, g 56, g 57, g 58, g 59, g 60, g 61, g 62, g 63, g 64, g 65, g 66, g 67, g 68, g 69, g 70, g 71, g 72, g 73, g 74, g 75, g 76, g 77, g 78, g 79, g 80, g 81, g 82, g 83, g 84, g 85, g 86, g 87, g 88, g 89, g 90, g 91, g 92, g 93, g 94, g 95, g 96, g 97, g 98, g 99, g 100, g 101, g 102, g 103, g 104, g 105, g 106, g 107, g 108, g 109, g 110, g 111, g 112, g 113, g 114, g 115, g 116, g 117, g 118, g 119, g 120, g 121, g 122, g 123, g 124, g 125, g 126, g 127, g 128, g 129, g 130, g 131, g 132, g 133, g 134, g 135, g 136, g 137, g 138, g 139, g 140, g 141, g 142, g 143, g 144, g 145, g 146, g 147, g 148, g 149, g 150, g 151, g 152, g 153, g 154, g 155, g 156, g 157, g 158, g 159, g 160, g 161, g 162, g 163, g 164, g 165, g 166, g 167, g 168, g 169, g 170, g 171, g 172, g 173, g 174, g 175, g 176, g 177, g 178, g 179, g 180, g 181, g 182, g 183, g 184, g 185, g 186, g 187, g 188, g 189, g 190, g 191, g 192, g 193, g 194, g 195, g 196, g 197, g 198, g 199, g 200, g 201, g 202, g 203, g 204, g 205, g 206, g 207, g 208, g 209, g 210, g 211, g 212, g 213, g 214, g 215] := by
  rw [← s0, ← s1, ← s2, ← s7, ← s9, ← s10, ← lit216 g, hg]
  exact tmps_lit t 216 hs

set_option maxRecDepth 100000 in
set_option maxHeartbeats 2000000 in
theorem plays_round (n m p gw B : Nat) (bq q : Nat → Nat) (A : Option Addr) (c : Nat) (acts : List ActV) (w : World) (hA : ActsAt w A acts) (hlen : acts.length ≤ 200) (a : Act) (wr : World) (i : Nat) (hI : PlI n m p A c acts bq gw B q w i a wr)
    (K : Act → World → Prop) (Q : Exit → Act → World → Prop) (hK : ∀ a w', PlI n m p A c acts bq gw B q w (i + 1) a w' → K a w')
    (hexit : ∀ (t : Array Value) w', t.size = 216 → t.getD 7 undef = .pointer (some ⟨p, 0, none⟩) → Only (fun _ => False) w w' → Q (.exit 0) ⟨t, []⟩ w') : Code.wp Try.prog body4 (Exit.then K Q) a wr := by
  obtain ⟨tm, df⟩ := a
  obtain ⟨hsz, hdf, s0, s1, s2, s7, s9, s10, hle, hPI⟩ := hI
  simp only at hsz hdf s0 s1 s2 s7 s9 s10
  subst hdf
  obtain ⟨g, hg⟩ : ∃ g : Nat → Value, g = fun i => tm.getD i undef := ⟨_, rfl⟩
  have hfr := frame216 n m p gw A c acts i tm hsz g hg (by rw [hg]; exact s0) (by rw [hg]; exact s1) (by rw [hg]; exact s2) (by rw [hg]; exact s7) (by rw [hg]; exact s9) (by rw [hg]; exact s10)
  rw [hfr]
  clear hfr hg s0 s1 s2 s7 s9 s10 hsz
  obtain ⟨L, d, u, h, s, hm, hR⟩ := hPI
  by_cases hlt : i < acts.length
  · obtain ⟨⟨xd, xk, xa⟩, hx⟩ : ∃ x, acts[i]? = some x := ⟨_, List.getElem?_eq_getElem hlt⟩
    obtain ⟨ab, ao, rfl, hab, y0, y1, y2, r0, r1, r2, r3⟩ := hA i _ hx
    have y0' := (Blk.cell_only (a := ⟨ab, ao + i * 3, none⟩) hm.o hab (fun x => x)).trans y0
    have y1' := (Blk.cell_only (a := ⟨ab, ao + i * 3 + 1, none⟩) hm.o hab (fun x => x)).trans y1
    have y2' := (Blk.cell_only (a := ⟨ab, ao + i * 3 + 2, none⟩) hm.o hab (fun x => x)).trans y2
    obtain ⟨xd, rfl⟩ := Int.eq_ofNat_of_zero_le r0
    obtain ⟨xa, rfl⟩ := Int.eq_ofNat_of_zero_le r2
    simp only at y0' y1' y2' r1 r3
    clear y0 y1 y2 hx r0 r2 hA hexit
    by_cases e6 : 5 < xd
    · by_cases k0 : xk = 0
      · exact rd_d1 n m p gw B bq q c acts w wr ab ao i hlt xd xa xk g y0' y1' y2' r1 r3 L d u h s hm hR hlen e6 k0 K Q hK
      · exact rd_d0 n m p gw B bq q c acts w wr ab ao i hlt xd xa xk g y0' y1' y2' r1 r3 L d u h s hm hR hlen e6 k0 K Q hK
    by_cases e5 : xd = 5
    · by_cases k0 : xk = 0
      · exact rd_c1 n m p gw B bq q c acts w wr ab ao i hlt xd xa xk g y0' y1' y2' r1 r3 L d u h s hm hR hlen e5 k0 K Q hK
      · exact rd_c0 n m p gw B bq q c acts w wr ab ao i hlt xd xa xk g y0' y1' y2' r1 r3 L d u h s hm hR hlen e5 k0 K Q hK
    by_cases k0 : xk = 0
    · have hx5 : xd = 0 ∨ xd = 1 ∨ xd = 2 ∨ xd = 3 ∨ xd = 4 := by omega
      rcases hx5 with e | e | e | e | e
      · exact rd_a0 n m p gw B bq q c acts w wr ab ao i hlt xd xa xk g y0' y1' y2' r1 r3 L d u h s hm hR hlen e k0 K Q hK
      · exact rd_b00 n m p gw B bq q c acts w wr ab ao i hlt xd xa xk g y0' y1' y2' r1 r3 L d u h s hm hR hlen e k0 K Q hK
      · exact rd_b01 n m p gw B bq q c acts w wr ab ao i hlt xd xa xk g y0' y1' y2' r1 r3 L d u h s hm hR hlen e k0 K Q hK
      · exact rd_b02 n m p gw B bq q c acts w wr ab ao i hlt xd xa xk g y0' y1' y2' r1 r3 L d u h s hm hR hlen e k0 K Q hK
      · exact rd_b03 n m p gw B bq q c acts w wr ab ao i hlt xd xa xk g y0' y1' y2' r1 r3 L d u h s hm hR hlen e k0 K Q hK
    by_cases k1 : xk = 1
    · have hx5 : xd = 0 ∨ xd = 1 ∨ xd = 2 ∨ xd = 3 ∨ xd = 4 := by omega
      rcases hx5 with e | e | e | e | e
      · exact rd_a1 n m p gw B bq q c acts w wr ab ao i hlt xd xa xk g y0' y1' y2' r1 r3 L d u h s hm hR hlen e k1 K Q hK
      · exact rd_b10 n m p gw B bq q c acts w wr ab ao i hlt xd xa xk g y0' y1' y2' r1 r3 L d u h s hm hR hlen e k1 K Q hK
      · exact rd_b11 n m p gw B bq q c acts w wr ab ao i hlt xd xa xk g y0' y1' y2' r1 r3 L d u h s hm hR hlen e k1 K Q hK
      · exact rd_b12 n m p gw B bq q c acts w wr ab ao i hlt xd xa xk g y0' y1' y2' r1 r3 L d u h s hm hR hlen e k1 K Q hK
      · exact rd_b13 n m p gw B bq q c acts w wr ab ao i hlt xd xa xk g y0' y1' y2' r1 r3 L d u h s hm hR hlen e k1 K Q hK
    have hout : xk < 0 ∨ 1 < xk := by omega
    have hx5 : xd = 0 ∨ xd = 1 ∨ xd = 2 ∨ xd = 3 ∨ xd = 4 := by omega
    rcases hx5 with e | e | e | e | e
    · exact rd_o0 n m p gw B bq q c acts w wr ab ao i hlt xd xa xk g y0' y1' y2' r1 r3 L d u h s hm hR hlen e hout K Q hK
    · exact rd_o1 n m p gw B bq q c acts w wr ab ao i hlt xd xa xk g y0' y1' y2' r1 r3 L d u h s hm hR hlen e hout K Q hK
    · exact rd_o2 n m p gw B bq q c acts w wr ab ao i hlt xd xa xk g y0' y1' y2' r1 r3 L d u h s hm hR hlen e hout K Q hK
    · exact rd_o3 n m p gw B bq q c acts w wr ab ao i hlt xd xa xk g y0' y1' y2' r1 r3 L d u h s hm hR hlen e hout K Q hK
    · exact rd_o4 n m p gw B bq q c acts w wr ab ao i hlt xd xa xk g y0' y1' y2' r1 r3 L d u h s hm hR hlen e hout K Q hK
  · have hx := hexit
    have ho := hm.o
    have hi2 : ¬ (i : Int) < (acts.length : Int) := by omega
    clear hexit hK hA hm hR
    conv => arg 2; whnf
    go_wp2
    exact hx _ _ rfl rfl ho

theorem plays_loop (n m p gw B : Nat) (bq q : Nat → Nat) (A : Option Addr) (c : Nat) (acts : List ActV) (w : World) (hA : ActsAt w A acts) (hlen : acts.length ≤ 200) (a : Act) (wr : World) (hI : PlI n m p A c acts bq gw B q w 0 a wr)
    (Q : Exit → Act → World → Prop) (hexit : ∀ (t : Array Value) w', t.size = 216 → t.getD 7 undef = .pointer (some ⟨p, 0, none⟩) → Only (fun _ => False) w w' → Q (.exit 0) ⟨t, []⟩ w') : (Code.loop body4).wp Try.prog Q a wr := by
  refine wp_loop_k (fun a w' => ∃ i, PlI n m p A c acts bq gw B q w i a w') (fun a _ => acts.length - (intOf (a.tmps.getD 10 undef)).toNat) ⟨0, hI⟩ ?_
  rintro a wr ⟨i, hk⟩ K hK
  refine plays_round n m p gw B bq q A c acts w hA hlen a wr i hk K Q (fun a' w' h => hK a' w' ⟨⟨i + 1, h⟩, ?_⟩) hexit
  rw [h.s10, hk.s10]
  have := h.le
  simp [intOf]; omega

set_option maxRecDepth 10000 in
set_option maxHeartbeats 8000000 in
theorem plays_main (n m : Nat) (A : Option Addr) (c : Nat) (acts : List ActV) (w : World) (hA : ActsAt w A acts) (h1 : acts.length ≤ 200) (h2 : 1 ≤ n) (h3 : n ≤ 30) (h4 : 1 ≤ m) (h5 : m ≤ 30) :
    Calls Try.prog 4 #[.int .i64 n, .int .i64 m, .slice A acts.length c] w fun e w' => e = .returned (.bool true) ∧ Only (fun _ => False) w w' := by
  have g1 : ¬ (200 : Int) < (acts.length : Int) := by omega
  have g2 : ¬ (30 : Int) < (n : Int) := by omega
  have g3 : ¬ (30 : Int) < (m : Int) := by omega
  have g4 : ¬ (n : Int) < 1 := by omega
  have g5 : ¬ (m : Int) < 1 := by omega
  go_enter Try.func4, Try.ntmps4
  go_wp2_with fail
  refine (new_ok n m w h2 (by omega) h4 (by omega)).mono ?_
  rintro e w1 ⟨rfl, hS1, ho1⟩
  have hsz : w.heap.size + 3 ≤ w1.heap.size := by
    have := (hS1.row 1 (by omega)); have := Blk.lt this; simp at this; omega
  have hm0 : Mem w (((w1.alloc (.cells #[.int .i64 n, .slice none 0 0, .slice none 0 0, .slice none 0 0] 42)).alloc (.cells #[.int .i64 m, .slice none 0 0, .slice none 0 0, .slice none 0 0] 42)).alloc (.cells #[.pointer (some ⟨w1.heap.size, 0, none⟩), .pointer (some ⟨w1.heap.size + 1, 0, none⟩)] 39)) w.heap.size (fun j => if j = 0 then w.heap.size + 1 else w.heap.size + 2) (fresh n m) (w1.heap.size + 1 + 1) w1.heap.size (fun j => w1.heap.size + j)
      (fun j => if j = 0 then ⟨n, [], [], []⟩ else ⟨m, [], [], []⟩) (fun _ => .slice none 0 0) (fun _ => .slice none 0 0) (fun _ => .slice none 0 0) := by
    have hq0 := ((Blk.new w1 42 #[.int .i64 n, .slice none 0 0, .slice none 0 0, .slice none 0 0]).alloc (.cells #[.int .i64 m, .slice none 0 0, .slice none 0 0, .slice none 0 0] 42)).alloc (.cells #[.pointer (some ⟨w1.heap.size, 0, none⟩), .pointer (some ⟨w1.heap.size + 1, 0, none⟩)] 39)
    have hq1 := (Blk.new (w1.alloc (.cells #[.int .i64 n, .slice none 0 0, .slice none 0 0, .slice none 0 0] 42)) 42 #[.int .i64 m, .slice none 0 0, .slice none 0 0, .slice none 0 0]).alloc (.cells #[.pointer (some ⟨w1.heap.size, 0, none⟩), .pointer (some ⟨w1.heap.size + 1, 0, none⟩)] 39)
    have hg := Blk.new ((w1.alloc (.cells #[.int .i64 n, .slice none 0 0, .slice none 0 0, .slice none 0 0] 42)).alloc (.cells #[.int .i64 m, .slice none 0 0, .slice none 0 0, .slice none 0 0] 42)) 39 #[.pointer (some ⟨w1.heap.size, 0, none⟩), .pointer (some ⟨w1.heap.size + 1, 0, none⟩)]
    have ho := (((Only.refl (fun _ => False) w1).alloc (.cells #[.int .i64 n, .slice none 0 0, .slice none 0 0, .slice none 0 0] 42)).alloc (.cells #[.int .i64 m, .slice none 0 0, .slice none 0 0, .slice none 0 0] 42)).alloc (.cells #[.pointer (some ⟨w1.heap.size, 0, none⟩), .pointer (some ⟨w1.heap.size + 1, 0, none⟩)] 39)
    rw [World.size_alloc] at hq1
    rw [World.size_alloc, World.size_alloc] at hg
    have own0 : ∀ q k, Own q (.slice none 0 0) (.slice none 0 0) (.slice none 0 0) k → k = q := by
      rintro q k (h | h | h | h)
      · exact h
      · cases h
      · cases h
      · cases h
    have nn : ∀ {g : Nat}, (Value.slice none 0 0).ownBlock = some g → False := fun h => by cases h
    have nq : ∀ q, (Value.slice none 0 0).ownBlock ≠ some q := fun q h => nn h
    refine ⟨hS1.only ho (fun x => x) (fun x => x) (fun x => x), fun j hj => ?_, fun j hj => ?_, hg.lt, fun i j hi hj hne k h h' => ?_, fun j hj k h e => ?_, by omega, fun j hj => ?_, by omega, ⟨Nat.le_refl _, fun j hj => ?_⟩, ho.size, ho1.trans ho⟩
    · have hj' : j = 0 ∨ j = 1 := by omega
      rcases hj' with rfl | rfl
      · exact ⟨hq0, World.ownsRow_nil _ _ _ _, World.ownsRow_nil _ _ _ _, World.ownsRow_nil _ _ _ _, by show _ ≤ w1.heap.size + 0; omega, nq _, nq _, nq _, fun g h => (nn h).elim, fun g h => (nn h).elim, fun g h => (nn h).elim⟩
      · exact ⟨hq1, World.ownsRow_nil _ _ _ _, World.ownsRow_nil _ _ _ _, World.ownsRow_nil _ _ _ _, by show _ ≤ w1.heap.size + 1; omega, nq _, nq _, nq _, fun g h => (nn h).elim, fun g h => (nn h).elim, fun g h => (nn h).elim⟩
    · have hj' : j = 0 ∨ j = 1 := by omega
      rcases hj' with rfl | rfl
      · exact hg.cell 0
      · exact hg.cell 1
    · have := own0 _ _ h
      have := own0 _ _ h'
      omega
    · have := own0 _ _ h
      omega
    · show (if j = 0 then _ else _) < _
      split <;> omega
    · show _ ≤ (if j = 0 then _ else _)
      split <;> omega
  have hR0 : ∀ j, j ≤ 1 → Rel (fresh n m j) ((fun j => if j = 0 then (⟨n, [], [], []⟩ : Rd) else ⟨m, [], [], []⟩) j) := by
    intro j hj
    have hj' : j = 0 ∨ j = 1 := by omega
    rcases hj' with rfl | rfl
    · exact rel_fresh n h2
    · exact rel_fresh m h4
  have hPI : PI w w.heap.size (fun j => if j = 0 then w.heap.size + 1 else w.heap.size + 2) (w1.heap.size + 1 + 1) w1.heap.size (fun j => w1.heap.size + j) _ := ⟨_, _, _, _, _, hm0, hR0⟩
  clear hm0 hR0 hS1 ho1
  go_wp2
  refine plays_loop n m w.heap.size (w1.heap.size + 1 + 1) w1.heap.size _ _ A c acts w hA h1 _ _ ⟨rfl, rfl, rfl, rfl, rfl, rfl, rfl, rfl, by omega, hPI⟩ _ ?_
  clear hPI hsz
  intro t w' ht h7 hb
  have e := tmps_lit t 216 ht
  rw [lit216] at e
  rw [e]
  clear e ht
  rw [h7]
  clear h7
  go_wp2_with fail
  refine (count_out ⟨w.heap.size, 0, none⟩ 2 w' (by omega)).mono ?_
  rintro e w6 ⟨rfl, ho6⟩
  go_wp2_with fail
  refine (is_out ⟨w.heap.size, 0, none⟩ (-1) 1 w6 (by omega) (by omega) (by omega)).mono ?_
  rintro e w7 ⟨rfl, rfl⟩
  go_wp2_with fail
  refine (wakes_true w6).mono ?_
  rintro e w8 ⟨rfl, ho8⟩
  go_wp2
  exact bodyPost_ret (v := .bool true) (by simp [results, Try.results4, go_sem]) rfl ⟨rfl, (hb.trans ho6).trans ho8⟩
end Go.Proofs.Ytlfnneljeoamlaa
