/-
  name.Split's closure (func 47).
-/
import Derived.Test.YtnclappdokhciaaR
namespace Go.Proofs.Ytnclappdokhciaa
open Go Go.RowKit
set_option linter.unusedVariables false

section
variable {w : World} {B pb ab lb qb : Nat} {s : ByteArray} {at_ : Nat} {lg ab_ : Bool} {v : Value} {parts : List ByteArray} {sl : Bool}
theorem PSt.own (h : PSt w B pb ab lb qb s at_ lg ab_ v parts sl) {k : Nat} (hk : k < B) : v.ownBlock ≠ some k := fun e => by have := (row_lt h.row k e).1; omega
theorem PSt.set_a (h : PSt w B pb ab lb qb s at_ lg ab_ v parts sl) (a : Nat) : PSt (w.setCell ⟨ab, 0, none⟩ (.int .i64 (a : Int))) B pb ab lb qb s a lg ab_ v parts sl := by
  obtain ⟨n1, n2, n3, n4, n5, n6⟩ := h.ne
  exact ⟨h.hp.far n1 _, h.ha.set_ 0 _, h.hl.far (Ne.symm n4) _, h.hq.far (Ne.symm n5) _, row_set h.row (h.own h.lt.2.1), h.lt, h.ne, by simpa [World.setCell] using h.hB⟩
theorem PSt.set_l (h : PSt w B pb ab lb qb s at_ lg ab_ v parts sl) (b : Bool) : PSt (w.setCell ⟨lb, 0, none⟩ (.bool b)) B pb ab lb qb s at_ b ab_ v parts sl := by
  obtain ⟨n1, n2, n3, n4, n5, n6⟩ := h.ne
  exact ⟨h.hp.far n2 _, h.ha.far n4 _, h.hl.set_ 0 _, h.hq.far (Ne.symm n6) _, row_set h.row (h.own h.lt.2.2.1), h.lt, h.ne, by simpa [World.setCell] using h.hB⟩
theorem PSt.set_s (h : PSt w B pb ab lb qb s at_ lg ab_ v parts sl) (b : Bool) : PSt (w.setCell ⟨qb, 2, none⟩ (.bool b)) B pb ab lb qb s at_ lg ab_ v parts b := by
  obtain ⟨n1, n2, n3, n4, n5, n6⟩ := h.ne
  exact ⟨h.hp.far n3 _, h.ha.far n5 _, h.hl.far n6 _, h.hq.set_ 2 _, row_set h.row (h.own h.lt.2.2.2), h.lt, h.ne, by simpa [World.setCell] using h.hB⟩
/-- A part more. -/
theorem PSt.add (h : PSt w B pb ab lb qb s at_ lg ab_ v parts sl) (hn : parts.length ≤ 100000) (x : ByteArray) :
    ∃ A9 c9 w', (Builtin.append_ #[23, 23] 23 #[v, .slice (some ⟨w.heap.size, 0, none⟩) 1 1]).run Try.prog (w.alloc (.cells #[.string x] 9)) = .ok (.slice A9 (parts.length + 1) c9) w' ∧
      PSt (w'.setCell ⟨qb, 1, none⟩ (.slice A9 (parts.length + 1) c9)) B pb ab lb qb s at_ lg ab_ (.slice A9 (parts.length + 1) c9) (parts ++ [x]) sl ∧ w'.cell? ⟨qb, 1, none⟩ = some v ∧ w'.frozen? ⟨qb, 1, none⟩ = false ∧ Only (PS B ab lb qb) w w' := by
  obtain ⟨n1, n2, n3, n4, n5, n6⟩ := h.ne
  obtain ⟨l1, l2, l3, l4⟩ := h.lt
  have hB := h.hB
  obtain ⟨A9, c9, w', hr, hown, ho, hf⟩ := app_str h.row hB hn x
  have hx : ∀ {k}, k < B → ¬ v.ownBlock = some k := fun hk => h.own hk
  have hq' := h.hq.only ho (hx l4)
  have hnew : (Value.slice A9 (parts.length + 1) c9).ownBlock ≠ some qb := fun e => by
    rcases hf qb e with e | e
    · exact h.own l4 e
    · omega
  refine ⟨A9, c9, w', hr, ⟨(h.hp.only ho (hx l1)).far n3 _, (h.ha.only ho (hx l2)).far n5 _, (h.hl.only ho (hx l3)).far n6 _, hq'.set_ 1 _, ?_, h.lt, h.ne, ?_⟩, hq'.cell 1, hq'.frozen 1, ho.mono (fun k _ e => .inr (.inr (.inr (row_lt h.row k e).1)))⟩
  · rw [List.length_append]; exact row_set hown hnew
  · have := ho.size; simp only [World.setCell, Array.size_modify]; omega
theorem PSt.len (h : PSt w B pb ab lb qb s at_ lg ab_ v parts sl) : ∃ A c, v = .slice A parts.length c := by
  obtain ⟨A, c, e, _⟩ := row_form h.row
  exact ⟨A, c, e⟩
end
theorem size_set (w : World) (p : Addr) (u : Value) : (w.setCell p u).heap.size = w.heap.size := by simp [World.setCell]
theorem last_eq (a n : Nat) (h : a < n) : decide (a < n ∧ a = n - 1) = ((a : Int) == (n : Int) - 1) := by
  by_cases e : a = n - 1
  · rw [decide_eq_true ⟨h, e⟩]; exact (beq_iff_eq.2 (by omega)).symm
  · rw [decide_eq_false (fun x => e x.2)]; exact (beq_false_of_ne (by omega)).symm
theorem lng_eq (m : Nat) : (false || decide (24 < m)) = decide ((24 : Int) < (m : Int)) := by
  rw [Bool.false_or]; exact decide_eq_decide.2 (by omega)
theorem ext_size (s : ByteArray) (a b : Nat) (h : b ≤ s.size) : (s.extract a b).size = b - a := by simp; omega

set_option maxRecDepth 10000 in
set_option maxHeartbeats 4000000 in
theorem part_empty (w : World) (B pb ab lb qb : Nat) (s : ByteArray) (at_ to_ : Nat) (lg ab_ : Bool) (v : Value) (parts : List ByteArray) (sl : Bool) (h : PSt w B pb ab lb qb s at_ lg ab_ v parts sl) (h1 : at_ ≤ to_) (h2 : to_ ≤ s.size) (hs : s.size ≤ 1000000) (he : at_ = to_) :
    Calls Try.prog 47 #[.int .i64 (to_ : Int), .pointer (some ⟨pb, 0, none⟩), .pointer (some ⟨ab, 0, none⟩), .pointer (some ⟨lb, 0, none⟩), .pointer (some ⟨qb, 0, none⟩)] w fun e w' => e = .returned (.tuple #[]) ∧ Only (PS B ab lb qb) w w' ∧ PSt w' B pb ab lb qb s (to_ + 1) lg ab_ v parts sl := by
  have y0 := h.hp.cell 0
  have y1 := h.ha.cell 0
  have y2 := h.hl.cell 0
  have z1 := h.ha.frozen 0
  have z2 := h.hl.frozen 0
  have q1 := h.hq.cell 1
  have q2 := h.hq.cell 2
  have zq2 := h.hq.frozen 2
  simp only [List.getElem?_toArray, List.getElem?_cons_zero, List.getElem?_cons_succ] at y0 y1 y2 q1 q2
  obtain ⟨n1, n2, n3, n4, n5, n6⟩ := h.ne
  have i0 : (0 : Int) ≤ (at_ : Int) := by omega
  have i1 : (at_ : Int) ≤ (to_ : Int) := by omega
  have i2 : (to_ : Int) ≤ (s.size : Int) := by omega
  have xs := ext_size s at_ to_ h2
  have e1 : ((to_ + 1 : Nat) : Int) = (to_ : Int) + 1 := rfl
  have hA := h.set_a (to_ + 1)
  rw [e1] at hA
  have oA := (Only.refl (PS B ab lb qb) w).setCell (p := ⟨ab, 0, none⟩) (.inl (.inl rfl)) (.int .i64 ((to_ : Int) + 1))
  have hN := Lib.hid (And.intro oA hA)
  have x0 : (s.extract at_ to_).toList = [] := by rw [ByteArray.toList_eq]; simp; omega
  clear h hA oA
  go_enter Try.func47, Try.ntmps47
  go_wp2
  first | go_end0 | (refine bodyPost_ret (results_none rfl _ _ _) rfl ?_)
  exact ⟨rfl, hN.out⟩

set_option maxRecDepth 10000 in
set_option maxHeartbeats 4000000 in
theorem part_dot (w : World) (B pb ab lb qb : Nat) (s : ByteArray) (at_ to_ : Nat) (lg ab_ : Bool) (v : Value) (parts : List ByteArray) (sl : Bool) (h : PSt w B pb ab lb qb s at_ lg ab_ v parts sl) (h1 : at_ ≤ to_) (h2 : to_ ≤ s.size) (hs : s.size ≤ 1000000) (hx : (s.extract at_ to_).toList = [46]) :
    Calls Try.prog 47 #[.int .i64 (to_ : Int), .pointer (some ⟨pb, 0, none⟩), .pointer (some ⟨ab, 0, none⟩), .pointer (some ⟨lb, 0, none⟩), .pointer (some ⟨qb, 0, none⟩)] w fun e w' => e = .returned (.tuple #[]) ∧ Only (PS B ab lb qb) w w' ∧ PSt w' B pb ab lb qb s (to_ + 1) lg ab_ v parts true := by
  have y0 := h.hp.cell 0
  have y1 := h.ha.cell 0
  have y2 := h.hl.cell 0
  have z1 := h.ha.frozen 0
  have z2 := h.hl.frozen 0
  have q1 := h.hq.cell 1
  have q2 := h.hq.cell 2
  have zq2 := h.hq.frozen 2
  simp only [List.getElem?_toArray, List.getElem?_cons_zero, List.getElem?_cons_succ] at y0 y1 y2 q1 q2
  obtain ⟨n1, n2, n3, n4, n5, n6⟩ := h.ne
  have i0 : (0 : Int) ≤ (at_ : Int) := by omega
  have i1 : (at_ : Int) ≤ (to_ : Int) := by omega
  have i2 : (to_ : Int) ≤ (s.size : Int) := by omega
  have xs := ext_size s at_ to_ h2
  have hlen : (s.extract at_ to_).toList.length = to_ - at_ := by rw [ByteArray.toList_eq]; simp; omega
  rw [hx] at hlen
  simp only [List.length_cons, List.length_nil] at hlen
  rw [← hlen] at xs
  simp only [Nat.zero_add, Nat.reduceAdd] at xs
  clear hlen
  have e1 : ((to_ + 1 : Nat) : Int) = (to_ : Int) + 1 := rfl
  have hA := h.set_a (to_ + 1)
  rw [e1] at hA
  have oA := (Only.refl (PS B ab lb qb) w).setCell (p := ⟨ab, 0, none⟩) (.inl (.inl rfl)) (.int .i64 ((to_ : Int) + 1))
  have hL := hA.set_l lg
  have oL := oA.setCell (p := ⟨lb, 0, none⟩) (.inl (.inr (.inl rfl))) (.bool lg)
  have hS := hL.set_s true
  have oS := oL.setCell (p := ⟨qb, 2, none⟩) (.inl (.inr (.inr (.inl rfl)))) (.bool true)
  have hN := Lib.hid (And.intro oS hS)
  clear h hA oA hL oL hS oS
  cases lg with
  | true =>
    go_enter Try.func47, Try.ntmps47
    go_wp2
    first | go_end0 | (refine bodyPost_ret (results_none rfl _ _ _) rfl ?_)
    exact ⟨rfl, hN.out⟩
  | false =>
    go_enter Try.func47, Try.ntmps47
    go_wp2
    first | go_end0 | (refine bodyPost_ret (results_none rfl _ _ _) rfl ?_)
    exact ⟨rfl, hN.out⟩

set_option maxRecDepth 10000 in
set_option maxHeartbeats 4000000 in
theorem part_dots (w : World) (B pb ab lb qb : Nat) (s : ByteArray) (at_ to_ : Nat) (lg ab_ : Bool) (v : Value) (parts : List ByteArray) (sl : Bool) (h : PSt w B pb ab lb qb s at_ lg ab_ v parts sl) (h1 : at_ ≤ to_) (h2 : to_ ≤ s.size) (hs : s.size ≤ 1000000) (hn : parts.length ≤ 100000) (hx : (s.extract at_ to_).toList = [46, 46]) :
    Calls Try.prog 47 #[.int .i64 (to_ : Int), .pointer (some ⟨pb, 0, none⟩), .pointer (some ⟨ab, 0, none⟩), .pointer (some ⟨lb, 0, none⟩), .pointer (some ⟨qb, 0, none⟩)] w fun e w' => e = .returned (.tuple #[]) ∧ Only (PS B ab lb qb) w w' ∧ ∃ v', PSt w' B pb ab lb qb s (to_ + 1) lg ab_ v' (parts ++ [s.extract at_ to_]) true := by
  have y0 := h.hp.cell 0
  have y1 := h.ha.cell 0
  have y2 := h.hl.cell 0
  have z1 := h.ha.frozen 0
  have z2 := h.hl.frozen 0
  have q1 := h.hq.cell 1
  have q2 := h.hq.cell 2
  have zq2 := h.hq.frozen 2
  simp only [List.getElem?_toArray, List.getElem?_cons_zero, List.getElem?_cons_succ] at y0 y1 y2 q1 q2
  obtain ⟨n1, n2, n3, n4, n5, n6⟩ := h.ne
  have i0 : (0 : Int) ≤ (at_ : Int) := by omega
  have i1 : (at_ : Int) ≤ (to_ : Int) := by omega
  have i2 : (to_ : Int) ≤ (s.size : Int) := by omega
  have xs := ext_size s at_ to_ h2
  have hlen : (s.extract at_ to_).toList.length = to_ - at_ := by rw [ByteArray.toList_eq]; simp; omega
  rw [hx] at hlen
  simp only [List.length_cons, List.length_nil] at hlen
  rw [← hlen] at xs
  simp only [Nat.zero_add, Nat.reduceAdd] at xs
  clear hlen
  have e1 : ((to_ + 1 : Nat) : Int) = (to_ : Int) + 1 := rfl
  have hA := h.set_a (to_ + 1)
  rw [e1] at hA
  have oA := (Only.refl (PS B ab lb qb) w).setCell (p := ⟨ab, 0, none⟩) (.inl (.inl rfl)) (.int .i64 ((to_ : Int) + 1))
  have hL := hA.set_l lg
  have oL := oA.setCell (p := ⟨lb, 0, none⟩) (.inl (.inr (.inl rfl))) (.bool lg)
  have hS := hL.set_s true
  have oS := oL.setCell (p := ⟨qb, 2, none⟩) (.inl (.inr (.inr (.inl rfl)))) (.bool true)
  obtain ⟨A0, c0, hv⟩ := h.len
  subst hv
  obtain ⟨A9, c9, w9, hap, hP, k1, k2, o9⟩ := hS.add hn (s.extract at_ to_)
  simp only [size_set] at hap
  have oN := (oS.trans o9).setCell (p := ⟨qb, 1, none⟩) (.inl (.inr (.inr (.inl rfl)))) (.slice A9 (parts.length + 1) c9)
  have hN := Lib.hid (And.intro oN hP)
  clear h hA oA hL oL hS oS hP o9 oN
  cases lg with
  | true =>
    go_enter Try.func47, Try.ntmps47
    go_wp2_with (at_builtin; refine wpList_append_eq1 rfl (.tmp 44) (.tmp 46) 23 rfl (.slice A0 parts.length c0) (.slice (some ⟨w.heap.size, 0, none⟩) 1 1) _ w9 (by simp [Act.eval]) (by simp [Act.eval]) hap ?_)
    first | go_end0 | (refine bodyPost_ret (results_none rfl _ _ _) rfl ?_)
    exact ⟨rfl, hN.out.1, _, hN.out.2⟩
  | false =>
    go_enter Try.func47, Try.ntmps47
    go_wp2_with (at_builtin; refine wpList_append_eq1 rfl (.tmp 44) (.tmp 46) 23 rfl (.slice A0 parts.length c0) (.slice (some ⟨w.heap.size, 0, none⟩) 1 1) _ w9 (by simp [Act.eval]) (by simp [Act.eval]) hap ?_)
    first | go_end0 | (refine bodyPost_ret (results_none rfl _ _ _) rfl ?_)
    exact ⟨rfl, hN.out.1, _, hN.out.2⟩

set_option maxRecDepth 10000 in
set_option maxHeartbeats 4000000 in
theorem part_name (w : World) (B pb ab lb qb : Nat) (s : ByteArray) (at_ to_ : Nat) (lg ab_ : Bool) (v : Value) (parts : List ByteArray) (sl : Bool) (h : PSt w B pb ab lb qb s at_ lg ab_ v parts sl) (h1 : at_ ≤ to_) (h2 : to_ ≤ s.size) (hs : s.size ≤ 1000000) (hn : parts.length ≤ 100000) (hx0 : ¬ (s.extract at_ to_).toList = []) (hx1 : ¬ (s.extract at_ to_).toList = [46]) (hx2 : ¬ (s.extract at_ to_).toList = [46, 46]) :
    Calls Try.prog 47 #[.int .i64 (to_ : Int), .pointer (some ⟨pb, 0, none⟩), .pointer (some ⟨ab, 0, none⟩), .pointer (some ⟨lb, 0, none⟩), .pointer (some ⟨qb, 0, none⟩)] w fun e w' => e = .returned (.tuple #[]) ∧ Only (PS B ab lb qb) w w' ∧ ∃ v', PSt w' B pb ab lb qb s (to_ + 1) (lg || decide (24 < to_ - at_)) ab_ v' (parts ++ [s.extract at_ to_]) (decide (to_ < s.size ∧ to_ = s.size - 1)) := by
  have y0 := h.hp.cell 0
  have y1 := h.ha.cell 0
  have y2 := h.hl.cell 0
  have z1 := h.ha.frozen 0
  have z2 := h.hl.frozen 0
  have q1 := h.hq.cell 1
  have q2 := h.hq.cell 2
  have zq2 := h.hq.frozen 2
  simp only [List.getElem?_toArray, List.getElem?_cons_zero, List.getElem?_cons_succ] at y0 y1 y2 q1 q2
  obtain ⟨n1, n2, n3, n4, n5, n6⟩ := h.ne
  have i0 : (0 : Int) ≤ (at_ : Int) := by omega
  have i1 : (at_ : Int) ≤ (to_ : Int) := by omega
  have i2 : (to_ : Int) ≤ (s.size : Int) := by omega
  have xs := ext_size s at_ to_ h2
  have m0 : (s.extract at_ to_).toList.isEmpty = false := by
    cases hz : (s.extract at_ to_).toList with
    | nil => exact absurd hz hx0
    | cons _ _ => rfl
  have m1 : ((s.extract at_ to_).toList == [46]) = false := beq_false_of_ne hx1
  have m2 : ((s.extract at_ to_).toList == [46, 46]) = false := beq_false_of_ne hx2
  generalize hm : to_ - at_ = m at *
  clear hm
  rcases (show lg = true ∨ lg = false by cases lg <;> simp) with hl | hl
  all_goals rcases (show to_ < s.size ∨ ¬ to_ < s.size by omega) with hs2 | hs2
  · have g1 : (lg || decide (24 < m)) = true := by rw [hl]; rfl
    have g2 : decide (to_ < s.size ∧ to_ = s.size - 1) = ((to_ : Int) == (s.size : Int) - 1) := last_eq to_ s.size hs2
    rw [g1, g2]
    clear g1 g2
    subst hl
    have e1 : ((to_ + 1 : Nat) : Int) = (to_ : Int) + 1 := rfl
    have hA := h.set_a (to_ + 1)
    rw [e1] at hA
    have oA := (Only.refl (PS B ab lb qb) w).setCell (p := ⟨ab, 0, none⟩) (.inl (.inl rfl)) (.int .i64 ((to_ : Int) + 1))
    have hL := hA.set_l true
    have oL := oA.setCell (p := ⟨lb, 0, none⟩) (.inl (.inr (.inl rfl))) (.bool true)
    have hS := hL.set_s ((to_ : Int) == (s.size : Int) - 1)
    have oS := oL.setCell (p := ⟨qb, 2, none⟩) (.inl (.inr (.inr (.inl rfl)))) (.bool ((to_ : Int) == (s.size : Int) - 1))
    obtain ⟨A0, c0, hv⟩ := h.len
    subst hv
    obtain ⟨A9, c9, w9, hap, hP, k1, k2, o9⟩ := hS.add hn (s.extract at_ to_)
    simp only [size_set] at hap
    have oN := (oS.trans o9).setCell (p := ⟨qb, 1, none⟩) (.inl (.inr (.inr (.inl rfl)))) (.slice A9 (parts.length + 1) c9)
    have hN := Lib.hid (And.intro oN hP)
    clear h hA oA hL oL hS oS hP o9 oN
    go_enter Try.func47, Try.ntmps47
    go_wp2_with (at_builtin; refine wpList_append_eq1 rfl (.tmp 44) (.tmp 46) 23 rfl (.slice A0 parts.length c0) (.slice (some ⟨w.heap.size, 0, none⟩) 1 1) _ w9 (by simp [Act.eval]) (by simp [Act.eval]) hap ?_)
    first | go_end0 | (refine bodyPost_ret (results_none rfl _ _ _) rfl ?_)
    exact ⟨rfl, hN.out.1, _, hN.out.2⟩
  · have g1 : (lg || decide (24 < m)) = true := by rw [hl]; rfl
    have g2 : decide (to_ < s.size ∧ to_ = s.size - 1) = false := decide_eq_false (by omega)
    rw [g1, g2]
    clear g1 g2
    subst hl
    have e1 : ((to_ + 1 : Nat) : Int) = (to_ : Int) + 1 := rfl
    have hA := h.set_a (to_ + 1)
    rw [e1] at hA
    have oA := (Only.refl (PS B ab lb qb) w).setCell (p := ⟨ab, 0, none⟩) (.inl (.inl rfl)) (.int .i64 ((to_ : Int) + 1))
    have hL := hA.set_l true
    have oL := oA.setCell (p := ⟨lb, 0, none⟩) (.inl (.inr (.inl rfl))) (.bool true)
    have hS := hL.set_s false
    have oS := oL.setCell (p := ⟨qb, 2, none⟩) (.inl (.inr (.inr (.inl rfl)))) (.bool false)
    obtain ⟨A0, c0, hv⟩ := h.len
    subst hv
    obtain ⟨A9, c9, w9, hap, hP, k1, k2, o9⟩ := hS.add hn (s.extract at_ to_)
    simp only [size_set] at hap
    have oN := (oS.trans o9).setCell (p := ⟨qb, 1, none⟩) (.inl (.inr (.inr (.inl rfl)))) (.slice A9 (parts.length + 1) c9)
    have hN := Lib.hid (And.intro oN hP)
    clear h hA oA hL oL hS oS hP o9 oN
    go_enter Try.func47, Try.ntmps47
    go_wp2_with (at_builtin; refine wpList_append_eq1 rfl (.tmp 44) (.tmp 46) 23 rfl (.slice A0 parts.length c0) (.slice (some ⟨w.heap.size, 0, none⟩) 1 1) _ w9 (by simp [Act.eval]) (by simp [Act.eval]) hap ?_)
    first | go_end0 | (refine bodyPost_ret (results_none rfl _ _ _) rfl ?_)
    exact ⟨rfl, hN.out.1, _, hN.out.2⟩
  · have g1 : (lg || decide (24 < m)) = (decide ((24 : Int) < (m : Int))) := by rw [hl]; exact lng_eq m
    have g2 : decide (to_ < s.size ∧ to_ = s.size - 1) = ((to_ : Int) == (s.size : Int) - 1) := last_eq to_ s.size hs2
    rw [g1, g2]
    clear g1 g2
    subst hl
    have e1 : ((to_ + 1 : Nat) : Int) = (to_ : Int) + 1 := rfl
    have hA := h.set_a (to_ + 1)
    rw [e1] at hA
    have oA := (Only.refl (PS B ab lb qb) w).setCell (p := ⟨ab, 0, none⟩) (.inl (.inl rfl)) (.int .i64 ((to_ : Int) + 1))
    have hL := hA.set_l (decide ((24 : Int) < (m : Int)))
    have oL := oA.setCell (p := ⟨lb, 0, none⟩) (.inl (.inr (.inl rfl))) (.bool (decide ((24 : Int) < (m : Int))))
    have hS := hL.set_s ((to_ : Int) == (s.size : Int) - 1)
    have oS := oL.setCell (p := ⟨qb, 2, none⟩) (.inl (.inr (.inr (.inl rfl)))) (.bool ((to_ : Int) == (s.size : Int) - 1))
    obtain ⟨A0, c0, hv⟩ := h.len
    subst hv
    obtain ⟨A9, c9, w9, hap, hP, k1, k2, o9⟩ := hS.add hn (s.extract at_ to_)
    simp only [size_set] at hap
    have oN := (oS.trans o9).setCell (p := ⟨qb, 1, none⟩) (.inl (.inr (.inr (.inl rfl)))) (.slice A9 (parts.length + 1) c9)
    have hN := Lib.hid (And.intro oN hP)
    clear h hA oA hL oL hS oS hP o9 oN
    go_enter Try.func47, Try.ntmps47
    go_wp2_with (at_builtin; refine wpList_append_eq1 rfl (.tmp 44) (.tmp 46) 23 rfl (.slice A0 parts.length c0) (.slice (some ⟨w.heap.size, 0, none⟩) 1 1) _ w9 (by simp [Act.eval]) (by simp [Act.eval]) hap ?_)
    first | go_end0 | (refine bodyPost_ret (results_none rfl _ _ _) rfl ?_)
    exact ⟨rfl, hN.out.1, _, hN.out.2⟩
  · have g1 : (lg || decide (24 < m)) = (decide ((24 : Int) < (m : Int))) := by rw [hl]; exact lng_eq m
    have g2 : decide (to_ < s.size ∧ to_ = s.size - 1) = false := decide_eq_false (by omega)
    rw [g1, g2]
    clear g1 g2
    subst hl
    have e1 : ((to_ + 1 : Nat) : Int) = (to_ : Int) + 1 := rfl
    have hA := h.set_a (to_ + 1)
    rw [e1] at hA
    have oA := (Only.refl (PS B ab lb qb) w).setCell (p := ⟨ab, 0, none⟩) (.inl (.inl rfl)) (.int .i64 ((to_ : Int) + 1))
    have hL := hA.set_l (decide ((24 : Int) < (m : Int)))
    have oL := oA.setCell (p := ⟨lb, 0, none⟩) (.inl (.inr (.inl rfl))) (.bool (decide ((24 : Int) < (m : Int))))
    have hS := hL.set_s false
    have oS := oL.setCell (p := ⟨qb, 2, none⟩) (.inl (.inr (.inr (.inl rfl)))) (.bool false)
    obtain ⟨A0, c0, hv⟩ := h.len
    subst hv
    obtain ⟨A9, c9, w9, hap, hP, k1, k2, o9⟩ := hS.add hn (s.extract at_ to_)
    simp only [size_set] at hap
    have oN := (oS.trans o9).setCell (p := ⟨qb, 1, none⟩) (.inl (.inr (.inr (.inl rfl)))) (.slice A9 (parts.length + 1) c9)
    have hN := Lib.hid (And.intro oN hP)
    clear h hA oA hL oL hS oS hP o9 oN
    go_enter Try.func47, Try.ntmps47
    go_wp2_with (at_builtin; refine wpList_append_eq1 rfl (.tmp 44) (.tmp 46) 23 rfl (.slice A0 parts.length c0) (.slice (some ⟨w.heap.size, 0, none⟩) 1 1) _ w9 (by simp [Act.eval]) (by simp [Act.eval]) hap ?_)
    first | go_end0 | (refine bodyPost_ret (results_none rfl _ _ _) rfl ?_)
    exact ⟨rfl, hN.out.1, _, hN.out.2⟩
end Go.Proofs.Ytnclappdokhciaa
