/-
  The law ContentKeeps (func 5): its first loop, whole; the law.
-/
import Derived.Test.YtpkadhgoaaphkaaKp5
namespace Go.Proofs.Ytpkadhgoaaphkaa
open Go Go.RowKit Go.Shelf
set_option linter.unusedVariables false
set_option maxRecDepth 100000 in
set_option maxHeartbeats 4000000 in
theorem kp_round (A0 : Option Addr) (acts : List Ac) (c0 q3 q4 g : Nat) (w : World) (hRA : RowAc w A0 acts c0) (hq4 : w.heap.size ≤ q4) (hlen : acts.length ≤ 40) (hbl : ∀ x ∈ acts, x.b.length ≤ 2100) (a : Act) (wr : World) (i : Nat) (hI : KpI A0 acts c0 q3 q4 g w i a wr)
    (K : Act → World → Prop) (Q : Exit → Act → World → Prop) (hK : ∀ a w', KpI A0 acts c0 q3 q4 g w (i + 1) a w' → K a w')
    (hexit : ∀ (tm : Array Value) (w' : World), tm.size = 208 → Turn w.heap.size w w' → Q (.exit 0) ⟨tm, []⟩ w') : Code.wp Try.prog body7 (Exit.then K Q) a wr := by
  obtain ⟨tm, df⟩ := a
  obtain ⟨hsz, hdf, t0, t3, t4, t5, t6, hle, hW⟩ := hI
  simp only at hsz hdf t0 t3 t4 t5 t6
  subst hdf
  obtain ⟨f, hf⟩ : ∃ f : Nat → Value, f = fun i => tm.getD i undef := ⟨_, rfl⟩
  rw [frameKC A0 acts c0 q3 q4 i tm hsz f hf (by rw [hf]; exact t0) (by rw [hf]; exact t3) (by rw [hf]; exact t4) (by rw [hf]; exact t5) (by rw [hf]; exact t6)]
  clear hf t0 t3 t4 t5 t6 hsz
  by_cases hlt : i < acts.length
  · obtain ⟨x, hx⟩ : ∃ x, acts[i]? = some x := ⟨_, List.getElem?_eq_getElem hlt⟩
    have hb := hbl x (List.mem_of_getElem? hx)
    obtain ⟨ab, ao, rfl, _⟩ := hRA.lit hx
    clear hexit
    by_cases h0 : x.d = 0
    · exact kp_z ab ao acts c0 q3 q4 g w wr hRA hq4 i hlt hlen x hx hb f hW h0 K Q hK
    · by_cases h1 : x.d = 1
      · exact kp_w ab ao acts c0 q3 q4 g w wr hRA hq4 i hlt hlen x hx hb f hW h1 K Q hK
      · exact kp_t ab ao acts c0 q3 q4 g w wr hRA hq4 i hlt hlen x hx hb f hW (by omega) K Q hK
  · obtain rfl : i = acts.length := by omega
    have i2 : ¬ (acts.length : Int) < (acts.length : Int) := by omega
    have hT := hW.tn
    clear hK hRA hW
    replace hT := Lib.hid hT
    conv => arg 2; whnf
    go_wp2
    exact hexit _ _ rfl hT.out
theorem kp_loop (A0 : Option Addr) (acts : List Ac) (c0 q3 q4 g : Nat) (w : World) (hRA : RowAc w A0 acts c0) (hq4 : w.heap.size ≤ q4) (hlen : acts.length ≤ 40) (hbl : ∀ x ∈ acts, x.b.length ≤ 2100) (a : Act) (wr : World) (hI : KpI A0 acts c0 q3 q4 g w 0 a wr) (Q : Exit → Act → World → Prop)
    (hexit : ∀ (tm : Array Value) (w' : World), tm.size = 208 → Turn w.heap.size w w' → Q (.exit 0) ⟨tm, []⟩ w') : (Code.loop body7).wp Try.prog Q a wr := by
  refine wp_loop_k (fun a w' => ∃ i, KpI A0 acts c0 q3 q4 g w i a w') (fun a _ => acts.length - (intOf (a.tmps.getD 6 undef)).toNat) ⟨0, hI⟩ ?_
  rintro a wr ⟨i, hk⟩ K hK
  refine kp_round A0 acts c0 q3 q4 g w hRA hq4 hlen hbl a wr i hk K Q (fun a' w' h => hK a' w' ⟨⟨i + 1, h⟩, ?_⟩) hexit
  rw [h.t6, hk.t6]
  have := h.le
  simp [intOf]; omega
/-- The leaves' values of a new shelf, and the number beside it. -/
def VX (q : Nat) : Nat → Value := fun k => if k = 64 then .pointer (some ⟨q, 0, none⟩) else if k = 65 then .int .u32 ((0 : Nat) : Int) else .slice none 0 0
theorem kp_new (w : World) : KpS w.heap.size w.heap.size (w.heap.size + 1) (w.heap.size + 1 + 1) (VX (w.heap.size + 1 + 1)) M0 0 0 (((w.alloc (.cells (tab 66 (shf V0 0 (.slice none 0 0))) 33)).alloc (.cells #[.pointer (some ⟨w.heap.size, 0, none⟩)] 29)).alloc (.cells #[.int .u32 0] 34)) := by
  have b0 := Tab.new w 33 66 (shf V0 0 (.slice none 0 0))
  have z1 : (w.alloc (.cells (tab 66 (shf V0 0 (.slice none 0 0))) 33)).heap.size = w.heap.size + 1 := by simp
  generalize w.alloc (.cells (tab 66 (shf V0 0 (.slice none 0 0))) 33) = w1 at *
  have b1 := Blk.new w1 29 #[.pointer (some ⟨w.heap.size, 0, none⟩)]
  have z2 : (w1.alloc (.cells #[.pointer (some ⟨w.heap.size, 0, none⟩)] 29)).heap.size = w.heap.size + 1 + 1 := by simp [z1]
  have o1 := (Only.refl (fun _ => False) w1).alloc (.cells #[.pointer (some ⟨w.heap.size, 0, none⟩)] 29)
  generalize w1.alloc (.cells #[.pointer (some ⟨w.heap.size, 0, none⟩)] 29) = w2 at *
  have b2 := Blk.new w2 34 #[.int .u32 0]
  have o2 := (Only.refl (fun _ => False) w2).alloc (.cells #[.int .u32 0] 34)
  rw [z1] at b1
  rw [z2] at b2
  have ht := (b0.only o1 (fun x => x)).only o2 (fun x => x)
  refine ⟨⟨.slice none 0 0, [], ⟨ht.congr fun i hi => ?_, fun k hk => ?_, fun k hk => .inl rfl, World.ownsRow_nil _ _ _ _, Nat.le_refl _, by omega, fun X hX => ?_⟩, Nat.le_refl _⟩, rfl, rfl, b1.only o2 (fun x => x), by omega⟩
  · unfold shf VX V0
    by_cases h1 : i < 64
    · rw [if_pos h1, if_pos h1, if_neg (by omega), if_neg (by omega)]
    · rw [if_neg h1, if_neg h1]
  · rw [show VX (w.heap.size + 1 + 1) k = .slice none 0 0 by unfold VX; rw [if_neg (by omega), if_neg (by omega)]]
    exact World.ownsRow_nil _ _ _ _
  · have e : X = w.heap.size + 1 + 1 := by
      have h64 : VX (w.heap.size + 1 + 1) 64 = .pointer (some ⟨w.heap.size + 1 + 1, 0, none⟩) := rfl
      rw [h64] at hX
      cases hX; rfl
    subst e
    exact ⟨b2, fun e => by cases e⟩
theorem zer_new : Zer M0 0 := fun p _ _ => by
  unfold byteAt leafB M0
  simp only [List.length_nil, if_true]
  exact Z512_at _
theorem res5b (tm : Array Value) (w : World) (h : tm.getD 2 undef = .bool true) : (results Try.f5 tm).run Try.prog w = .ok (.bool true) w := by
  unfold results
  rw [Try.results5]
  simp only [List.mapM_toArray, List.mapM_cons, List.mapM_nil, h]
  simp [go_sem]
set_option maxRecDepth 100000 in
set_option maxHeartbeats 4000000 in
theorem contentKeeps_any (acts : List Ac) (A : Option Addr) (c : Nat) (w : World) (hRA : RowAc w A acts c) : Calls Try.prog 5 #[.slice A acts.length c] w fun r w' => r = .returned (.bool true) ∧ Only (fun _ => False) w w' := by
  have hG := great_any acts A c w hRA
  have hK := wakes_any
  replace hK := Lib.hid hK
  cases hg : greatA acts with
  | true =>
    rw [hg] at hG
    replace hG := Lib.hid hG
    go_enter Try.func5, Try.ntmps5
    go_wp2_with fail
    refine hG.out.mono ?_
    rintro r w2 ⟨rfl, rfl⟩
    go_wp2_with fail
    refine (hK.out _).mono ?_
    rintro r w3 ⟨rfl, ho⟩
    replace ho := Lib.hid ho
    go_wp2
    exact bodyPost_ret (v := .bool true) (res5b _ _ rfl) rfl ⟨rfl, ho.out⟩
  | false =>
    rw [hg] at hG
    replace hG := Lib.hid hG
    have hlen : acts.length ≤ 40 ∧ ∀ x ∈ acts, x.b.length ≤ 2100 := by
      unfold greatA at hg
      rw [Bool.or_eq_false_iff, decide_eq_false_iff_not] at hg
      refine ⟨by omega, fun x hx => ?_⟩
      have := List.any_eq_false.1 hg.2 x hx
      unfold bigA at this
      simp at this
      omega
    clear hg
    have hW0 : KpW w w.heap.size (w.heap.size + 1) (w.heap.size + 1 + 1) 0 (((w.alloc (.cells (tab 66 (shf V0 0 (.slice none 0 0))) 33)).alloc (.cells #[.pointer (some ⟨w.heap.size, 0, none⟩)] 29)).alloc (.cells #[.int .u32 0] 34)) :=
      ⟨⟨_, _, 0, kp_new w, zer_new⟩, Turn.of ((((Only.refl _ w).alloc _).alloc _).alloc _)⟩
    replace hW0 := Lib.hid hW0
    have hz := zero33
    replace hRA := Lib.hid hRA
    generalize htb : tab 66 (shf V0 0 (.slice none 0 0)) = tb at *
    go_enter Try.func5, Try.ntmps5
    go_wp2_with fail
    refine hG.out.mono ?_
    rintro r w2 ⟨rfl, rfl⟩
    go_wp2
    rename_i K9 hK9
    refine kp_loop A acts c (w.heap.size + 1) (w.heap.size + 1 + 1) w.heap.size w hRA.out (by omega) hlen.1 hlen.2 _ _ ⟨rfl, rfl, rfl, rfl, rfl, rfl, rfl, Nat.zero_le _, hW0.out⟩ _ ?_
    intro tm w' hs hT
    have hn := only_nil hT
    replace hn := Lib.hid hn
    refine hK9 _ _ ?_
    have e := tmps_lit tm 208 hs
    rw [lit208] at e
    rw [e]
    clear e hs hT hW0 hz htb
    go_wp2_with fail
    refine (hK.out _).mono ?_
    rintro r w3 ⟨rfl, ho⟩
    have hF := hn.out.trans ho
    replace hF := Lib.hid hF
    clear ho
    go_wp2
    exact bodyPost_ret (v := .bool true) (res5b _ _ rfl) rfl ⟨rfl, hF.out⟩
end Go.Proofs.Ytpkadhgoaaphkaa
