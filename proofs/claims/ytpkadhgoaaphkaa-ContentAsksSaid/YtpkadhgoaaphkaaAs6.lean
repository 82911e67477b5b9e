/-
  The law ContentAsks (func 3): its first loop; the whole.
-/
import Derived.Test.YtpkadhgoaaphkaaAs2
import Derived.Test.YtpkadhgoaaphkaaAs5
namespace Go.Proofs.Ytpkadhgoaaphkaa
open Go Go.RowKit Go.Shelf
set_option linter.unusedVariables false
set_option maxRecDepth 100000 in
theorem frameA (A : Option Addr) (acts : List Ac) (c g q5 bad size i : Nat) (tm : Array Value) (hs : tm.size = 281) (f : Nat → Value) (hf : f = fun i => tm.getD i undef) (s0 : f 0 = .slice A acts.length c) (s1 : f 1 = .int .u64 bad) (s5 : f 5 = .pointer (some ⟨q5, 0, none⟩)) (s7 : f 7 = .pointer (some ⟨g, 0, none⟩)) (s8 : f 8 = .int .u32 size) (s9 : f 9 = .int .i64 i) : tm = #[.slice A acts.length c, .int .u64 bad, f 2, f 3, f 4, .pointer (some ⟨q5, 0, none⟩), f 6, .pointer (some ⟨g, 0, none⟩), .int .u32 size, .int .i64 i, f 10, f 11, f 12, f 13, f 14, f 15, f 16, f 17, f 18, f 19, f 20, f 21, f 22, f 23, f 24, f 25, f 26, f 27, f 28, f 29, f 30, f 31, f 32, f 33, f 34, f 35, f 36, f 37, f 38, f 39, f 40, f 41, f 42, f 43, f 44, f 45, f 46, f 47, f 48, f 49, f 50, f 51, f 52, f 53, f 54, f 55, f 56, f 57, f 58, f 59, f 60, f 61, f 62, f 63, f 64, f 65, f 66, f 67, f 68, f 69, f 70, f 71, f 72, f 73, f 74, f 75, f 76, f 77, f 78, f 79, f 80, f 81, f 82, f 83, f 84, f 85, f 86, f 87, f 88, f 89, f 90, f 91, f 92, f 93, f 94, f 95, f 96, f 97, f 98, f 99, f 100, f 101, f 102, f 103, f 104, f 105, f 106, f 107, f 108, f 109, f 110, f 111, f 112, f 113, f 114, f 115, f 116, f 117, f 118, f 119, f 120, f 121, f 122, f 123, f 124, f 125, f 126, f 127, f 128, f 129, f 130, f 131, f 132, f 133, f 134, f 135, f 136, f 137, f 138, f 139, f 140, f 141, f 142, f 143, f 144, f 145, f 146, f 147, f 148, f 149, f 150, f 151, f 152, f 153, f 154, f 155, f 156, f 157, f 158, f 159, f 160, f 161, f 162, f 163, f 164, f 165, f 166, f 167, f 168, f 169, f 170, f 171, f 172, f 173, f 174, f 175, f 176, f 177, f 178, f 179, f 180, f 181, f 182, f 183, f 184, f 185, f 186, f 187, f 188, f 189, f 190, f 191, f 192, f 193, f 194, f 195, f 196, f 197, f 198, f 199, f 200, f 201, f 202, f 203, f 204, f 205, f 206, f 207, f 208, f 209, f 210, f 211, f 212, f 213, f 214, f 215, f 216, f 217, f 218, f 219, f 220, f 221, f 222, f 223, f 224, f 225, f 226, f 227, f 228, f 229, f 230, f 231, f 232, f 233, f 234, f 235, f 236, f 237, f 238, f 239, f 240, f 241, f 242, f 243, f 244, f 245, f 246, f 247, f 248, f 249, f 250, f 251, f 252, f 253, f 254, f 255, f 256, f 257, f 258, f 259, f 260, f 261, f 262, f 263, f 264, f 265, f 266, f 267, f 268, f 269, f 270, f 271, f 272, f 273, f 274, f 275, f 276, f 277, f 278, f 279, f 280] := by
  rw [← s0, ← s1, ← s5, ← s7, ← s8, ← s9, ← lit281 f, hf]
  exact tmps_lit tm 281 hs
set_option maxRecDepth 100000 in
set_option maxHeartbeats 4000000 in
theorem as_round (g q5 bad : Nat) (A : Option Addr) (c : Nat) (acts : List Ac) (last : Ac) (w : World) (hRA : RowAc w A acts c) (hlen : acts.length ≤ 40) (a : Act) (wr : World) (i : Nat) (hI : AsI A c acts bad g q5 last w i a wr)
    (K : Act → World → Prop) (Q : Exit → Act → World → Prop) (hK : ∀ a w', AsI A c acts bad g q5 last w (i + 1) a w' → K a w')
    (hexit : ∀ (tm : Array Value) (size : Nat) (w' : World), tm.size = 281 → tm.getD 1 undef = .int .u64 bad → tm.getD 5 undef = .pointer (some ⟨q5, 0, none⟩) → tm.getD 7 undef = .pointer (some ⟨g, 0, none⟩) → tm.getD 8 undef = .int .u32 size → AsW w g q5 last acts.length size w' → Q (.exit 0) ⟨tm, []⟩ w') : Code.wp Try.prog body3 (Exit.then K Q) a wr := by
  obtain ⟨tm, df⟩ := a
  obtain ⟨hsz, hdf, s0, s1, s5, s7, ⟨size, s8, hW⟩, s9, hle⟩ := hI
  simp only at hsz hdf s0 s1 s5 s7 s8 s9
  subst hdf
  obtain ⟨f, hf⟩ : ∃ f : Nat → Value, f = fun i => tm.getD i undef := ⟨_, rfl⟩
  have hfr := frameA A acts c g q5 bad size i tm hsz f hf (by rw [hf]; exact s0) (by rw [hf]; exact s1) (by rw [hf]; exact s5) (by rw [hf]; exact s7) (by rw [hf]; exact s8) (by rw [hf]; exact s9)
  rw [hfr]
  clear hfr hf s0 s1 s5 s7 s8 s9 hsz
  by_cases hlt : i < acts.length
  · obtain ⟨x, hx⟩ : ∃ x, acts[i]? = some x := ⟨_, List.getElem?_eq_getElem hlt⟩
    obtain ⟨ab, ao, rfl, _⟩ := hRA.lit hx
    clear hexit
    by_cases h0 : x.d = 0
    · exact as_z g q5 bad c acts last w wr hRA i size hlt hlen x hx f hW h0 K Q hK
    · by_cases h1 : x.d = 1
      · exact as_w g q5 bad c acts last w wr hRA i size hlt hlen x hx f hW h1 K Q hK
      · exact as_t g q5 bad c acts last w wr hRA i size hlt hlen x hx f hW (by omega) K Q hK
  · obtain rfl : i = acts.length := by omega
    have i2 : ¬ (acts.length : Int) < (acts.length : Int) := by omega
    clear hK hRA
    replace hW := Lib.hid hW
    conv => arg 2; whnf
    go_wp2
    exact hexit _ size _ rfl rfl rfl rfl rfl hW.out
theorem as_loop (g q5 bad : Nat) (A : Option Addr) (c : Nat) (acts : List Ac) (last : Ac) (w : World) (hRA : RowAc w A acts c) (hlen : acts.length ≤ 40) (a : Act) (wr : World) (hI : AsI A c acts bad g q5 last w 0 a wr) (Q : Exit → Act → World → Prop)
    (hexit : ∀ (tm : Array Value) (size : Nat) (w' : World), tm.size = 281 → tm.getD 1 undef = .int .u64 bad → tm.getD 5 undef = .pointer (some ⟨q5, 0, none⟩) → tm.getD 7 undef = .pointer (some ⟨g, 0, none⟩) → tm.getD 8 undef = .int .u32 size → AsW w g q5 last acts.length size w' → Q (.exit 0) ⟨tm, []⟩ w') : (Code.loop body3).wp Try.prog Q a wr := by
  refine wp_loop_k (fun a w' => ∃ i, AsI A c acts bad g q5 last w i a w') (fun a _ => acts.length - (intOf (a.tmps.getD 9 undef)).toNat) ⟨0, hI⟩ ?_
  rintro a wr ⟨i, hk⟩ K hK
  refine as_round g q5 bad A c acts last w hRA hlen a wr i hk K Q (fun a' w' h => hK a' w' ⟨⟨i + 1, h⟩, ?_⟩) hexit
  rw [h.s9, hk.s9]
  have := h.le
  simp [intOf]; omega
set_option maxRecDepth 100000 in
theorem frameT (g q5 bad size : Nat) (tm : Array Value) (hs : tm.size = 281) (f : Nat → Value) (hf : f = fun i => tm.getD i undef) (s1 : f 1 = .int .u64 bad) (s5 : f 5 = .pointer (some ⟨q5, 0, none⟩)) (s7 : f 7 = .pointer (some ⟨g, 0, none⟩)) (s8 : f 8 = .int .u32 size) : tm = #[f 0, .int .u64 bad, f 2, f 3, f 4, .pointer (some ⟨q5, 0, none⟩), f 6, .pointer (some ⟨g, 0, none⟩), .int .u32 size, f 9, f 10, f 11, f 12, f 13, f 14, f 15, f 16, f 17, f 18, f 19, f 20, f 21, f 22, f 23, f 24, f 25, f 26, f 27, f 28, f 29, f 30, f 31, f 32, f 33, f 34, f 35, f 36, f 37, f 38, f 39, f 40, f 41, f 42, f 43, f 44, f 45, f 46, f 47, f 48, f 49, f 50, f 51, f 52, f 53, f 54, f 55, f 56, f 57, f 58, f 59, f 60, f 61, f 62, f 63, f 64, f 65, f 66, f 67, f 68, f 69, f 70, f 71, f 72, f 73, f 74, f 75, f 76, f 77, f 78, f 79, f 80, f 81, f 82, f 83, f 84, f 85, f 86, f 87, f 88, f 89, f 90, f 91, f 92, f 93, f 94, f 95, f 96, f 97, f 98, f 99, f 100, f 101, f 102, f 103, f 104, f 105, f 106, f 107, f 108, f 109, f 110, f 111, f 112, f 113, f 114, f 115, f 116, f 117, f 118, f 119, f 120, f 121, f 122, f 123, f 124, f 125, f 126, f 127, f 128, f 129, f 130, f 131, f 132, f 133, f 134, f 135, f 136, f 137, f 138, f 139, f 140, f 141, f 142, f 143, f 144, f 145, f 146, f 147, f 148, f 149, f 150, f 151, f 152, f 153, f 154, f 155, f 156, f 157, f 158, f 159, f 160, f 161, f 162, f 163, f 164, f 165, f 166, f 167, f 168, f 169, f 170, f 171, f 172, f 173, f 174, f 175, f 176, f 177, f 178, f 179, f 180, f 181, f 182, f 183, f 184, f 185, f 186, f 187, f 188, f 189, f 190, f 191, f 192, f 193, f 194, f 195, f 196, f 197, f 198, f 199, f 200, f 201, f 202, f 203, f 204, f 205, f 206, f 207, f 208, f 209, f 210, f 211, f 212, f 213, f 214, f 215, f 216, f 217, f 218, f 219, f 220, f 221, f 222, f 223, f 224, f 225, f 226, f 227, f 228, f 229, f 230, f 231, f 232, f 233, f 234, f 235, f 236, f 237, f 238, f 239, f 240, f 241, f 242, f 243, f 244, f 245, f 246, f 247, f 248, f 249, f 250, f 251, f 252, f 253, f 254, f 255, f 256, f 257, f 258, f 259, f 260, f 261, f 262, f 263, f 264, f 265, f 266, f 267, f 268, f 269, f 270, f 271, f 272, f 273, f 274, f 275, f 276, f 277, f 278, f 279, f 280] := by
  rw [← s1, ← s5, ← s7, ← s8, ← lit281 f, hf]
  exact tmps_lit tm 281 hs
theorem as_rest (g q5 bad : Nat) (hbd : bad < 18446744073709551616) (last : Ac) (w wr : World) (hlr : Reads w w.heap.size last.A last.b.length (Lib.byteCells last.b)) (hlc : last.b.length ≤ last.c) (i size : Nat) (tm : Array Value) (hs : tm.size = 281)
    (s1 : tm.getD 1 undef = .int .u64 bad) (s5 : tm.getD 5 undef = .pointer (some ⟨q5, 0, none⟩)) (s7 : tm.getD 7 undef = .pointer (some ⟨g, 0, none⟩)) (s8 : tm.getD 8 undef = .int .u32 size) (hI : AsW w g q5 last i size wr) (Q : Exit → Act → World → Prop)
    (hret : ∀ (tm : Array Value) (w' : World), tm.size = 281 → tm.getD 6 undef = .bool true → Only (fun _ => False) w w' → Q .ret ⟨tm, []⟩ w') : Code.wp Try.prog tail18 Q ⟨tm, []⟩ wr := by
  obtain ⟨f, hf⟩ : ∃ f : Nat → Value, f = fun i => tm.getD i undef := ⟨_, rfl⟩
  rw [frameT g q5 bad size tm hs f hf (by rw [hf]; exact s1) (by rw [hf]; exact s5) (by rw [hf]; exact s7) (by rw [hf]; exact s8)]
  by_cases h0 : last.d = 0
  · exact as_r g q5 bad hbd last w wr hlr hlc i size f hI h0 Q hret
  · by_cases h1 : last.d = 1
    · exact as_w9 g q5 bad hbd last w wr hlr hlc i size f hI h1 Q hret
    · exact as_t9 g q5 bad hbd last w wr hlr hlc i size f hI (by omega) Q hret
theorem res3b (tm : Array Value) (w : World) (h : tm.getD 6 undef = .bool true) : (results Try.f3 tm).run Try.prog w = .ok (.bool true) w := by
  unfold results
  rw [Try.results3]
  simp only [List.mapM_toArray, List.mapM_cons, List.mapM_nil, h]
  simp [go_sem]
theorem sh_new2 {B : Nat} (w : World) (hB : B ≤ w.heap.size) : Sh B w.heap.size V0 M0 0 (.slice none 0 0) [] (w.alloc (.cells (tab 66 (shf V0 0 (.slice none 0 0))) 33)) :=
  ⟨Tab.new w 33 66 _, fun k hk => World.ownsRow_nil _ _ _ _, fun k hk => .inl rfl, World.ownsRow_nil _ _ _ _, hB, by omega⟩
theorem row_one {w : World} {q : Nat} (x : Ac) (h : Blk w q 26 #[.int .u8 x.d, .int .i64 x.at_, .int .i64 x.n, .slice x.A x.b.length x.c]) (hr : Reads w w.heap.size x.A x.b.length (Lib.byteCells x.b)) (hc : x.b.length ≤ x.c) : RowAc w (some ⟨q, 0, none⟩) [x] 1 :=
  ⟨⟨rfl, fun _ => ⟨q, 0, rfl, h.lt, fun j u hu => by rw [Blk.cell h, Nat.zero_add, List.getElem?_toArray]; exact hu⟩⟩, Nat.le_refl _, fun y hy => by rw [List.mem_singleton.1 hy]; exact ⟨hr, hc⟩⟩
set_option maxRecDepth 100000 in
set_option maxHeartbeats 4000000 in
theorem contentAsks_any (acts : List Ac) (A : Option Addr) (c bad : Nat) (hbd : bad < 18446744073709551616) (last : Ac) (w : World) (hRA : RowAc w A acts c) (hlr : Reads w w.heap.size last.A last.b.length (Lib.byteCells last.b)) (hlc : last.b.length ≤ last.c) :
    Calls Try.prog 3 #[.slice A acts.length c, .int .u64 bad, .agg #[.int .u8 last.d, .int .i64 last.at_, .int .i64 last.n, .slice last.A last.b.length last.c]] w fun r w' => r = .returned (.bool true) ∧ Only (fun _ => False) w w' := by
  have hG : ∀ W, Only (fun _ => False) w W → Calls Try.prog 6 #[.slice A acts.length c] W fun r w' => r = .returned (.bool (greatA acts)) ∧ W = w' := fun W ho => great_any acts A c W (hRA.only ho (fun _ _ x => x))
  have hK := wakes_any
  replace hG := Lib.hid hG
  replace hK := Lib.hid hK
  have o1 : Only (fun _ => False) w (w.alloc (.cells #[.int .u8 last.d, .int .i64 last.at_, .int .i64 last.n, .slice last.A last.b.length last.c] 26)) := (Only.refl _ w).alloc _
  have hb1 := Blk.new w 26 #[.int .u8 last.d, .int .i64 last.at_, .int .i64 last.n, .slice last.A last.b.length last.c]
  cases hg : greatA acts with
  | true =>
    rw [hg] at hG
    go_enter Try.func3, Try.ntmps3
    go_wp2_with fail
    refine (hG.out _ o1).mono ?_
    rintro r w2 ⟨rfl, rfl⟩
    go_wp2_with fail
    refine (hK.out _).mono ?_
    rintro r w3 ⟨rfl, ho⟩
    have hfin := o1.trans ho
    clear ho o1 hb1
    go_wp2
    exact bodyPost_ret (v := .bool true) (by simp [results, Try.results3, go_sem]) rfl ⟨rfl, hfin⟩
  | false =>
    rw [hg] at hG
    have hlen : acts.length ≤ 40 := by
      unfold greatA at hg
      rw [Bool.or_eq_false_iff, decide_eq_false_iff_not] at hg
      omega
    clear hg
    have z0 := hb1.cell 0
    have z1 := hb1.cell 1
    have z2 := hb1.cell 2
    have z3 := hb1.cell 3
    simp only [List.getElem?_toArray, List.getElem?_cons_zero, List.getElem?_cons_succ] at z0 z1 z2 z3
    go_enter Try.func3, Try.ntmps3
    go_wp2_with fail
    refine (hG.out _ o1).mono ?_
    rintro r w2 ⟨rfl, rfl⟩
    generalize w.alloc _ = w1 at *
    have o2 := o1.alloc (.cells #[.int .u8 last.d, .int .i64 last.at_, .int .i64 last.n, .slice last.A last.b.length last.c] 26)
    have hr2 := Blk.new w1 26 #[.int .u8 last.d, .int .i64 last.at_, .int .i64 last.n, .slice last.A last.b.length last.c]
    have hb2 := hb1.alloc (.cells #[.int .u8 last.d, .int .i64 last.at_, .int .i64 last.n, .slice last.A last.b.length last.c] 26)
    have hR2 := row_one last hr2 ((hlr.only (Nat.le_refl _) o2 (fun _ _ x => x)).more o2.size) hlc
    have hG2 := great_any [last] _ 1 _ hR2
    simp only [List.length_singleton] at hG2
    clear hr2 hR2 hb1
    replace hG2 := Lib.hid hG2
    cases hg2 : greatA [last] with
    | true =>
      rw [hg2] at hG2
      go_wp2_with fail
      refine hG2.out.mono ?_
      rintro r w2 ⟨rfl, rfl⟩
      go_wp2_with fail
      refine (hK.out _).mono ?_
      rintro r w3 ⟨rfl, ho⟩
      have hfin := o2.trans ho
      clear ho o1 o2 hb2 z0 z1 z2 z3 hG hG2
      go_wp2
      exact bodyPost_ret (v := .bool true) (by simp [results, Try.results3, go_sem]) rfl ⟨rfl, hfin⟩
    | false =>
      rw [hg2] at hG2
      clear hg2
      go_wp2_with fail
      refine hG2.out.mono ?_
      rintro r w2 ⟨rfl, rfl⟩
      clear z0 z1 z2 z3 hG hG2 hK o1
      generalize w1.alloc _ = w2 at *
      have hSn := sh_new2 w2 o2.size
      have o3 := o2.alloc (.cells (tab 66 (shf V0 0 (.slice none 0 0))) 33)
      have hb3 := hb2.alloc (.cells (tab 66 (shf V0 0 (.slice none 0 0))) 33)
      have hW0 : AsW w w2.heap.size w.heap.size last 0 0 (w2.alloc (.cells (tab 66 (shf V0 0 (.slice none 0 0))) 33)) := ⟨⟨_, _, _, [], hSn, Nat.zero_le _⟩, hb3, Turn.of o3, by decide⟩
      clear hSn o2 hb2 o3 hb3
      replace hW0 := Lib.hid hW0
      have hz := zero33
      replace hlr := Lib.hid hlr
      replace hRA := Lib.hid hRA
      generalize htb : tab 66 (shf V0 0 (.slice none 0 0)) = tb at *
      go_wp2
      rename_i K9 hK9
      refine as_loop w2.heap.size w.heap.size bad A c acts last w hRA.out hlen _ _ ⟨rfl, rfl, rfl, rfl, rfl, rfl, ⟨0, rfl, hW0.out⟩, rfl, Nat.zero_le _⟩ _ ?_
      intro tm size w' hs s1 s5 s7 s8 hW
      refine hK9 _ _ (as_rest w2.heap.size w.heap.size bad hbd last w w' hlr.out hlc _ size tm hs s1 s5 s7 s8 hW _ ?_)
      intro tm w' h1 h2 h3
      exact bodyPost_ret (v := .bool true) (res3b tm w' h2) rfl ⟨rfl, h3⟩
end Go.Proofs.Ytpkadhgoaaphkaa
