/-
  slices.Clone of bytes (func 83); wire's Reader: New, Err, Left, fail, take, Raw, number, U8, U16 (func 63, 64, 65, 93, 85, 67, 84, 86, 66, 68).
-/
import Derived.Test.YtnclappdokhciaaD8
import Derived.Lib.BufferMore
import Derived.Laws.BitsAllLaws
namespace Go.Proofs.Ytnclappdokhciaa
open Go Go.RowKit
set_option linter.unusedVariables false
/-- Where a row of bytes lies there lie bytes alone. -/
def Typ (w : World) (A : Option Addr) : Prop := ∀ a, A = some a → ∃ cs, Blk w a.block 5 cs
theorem Typ.nil (w : World) : Typ w none := fun _ h => by cases h
theorem Typ.only {w w' : World} {A : Option Addr} {S : Nat → Prop} (h : Typ w A) (ho : Only S w w') (hS : ∀ k cs, Blk w k 5 cs → ¬ S k) : Typ w' A := fun a e => by
  obtain ⟨cs, hb⟩ := h a e
  exact ⟨cs, hb.only ho (hS a.block cs hb)⟩
theorem Blk.one {w : World} {g t t' : Nat} {cs cs' : Array Value} (h : Blk w g t cs) (h' : Blk w g t' cs') : t = t' := by
  unfold Blk at h h'
  rw [h] at h'
  injection h' with h'
  injection h'
theorem appB_full {w : World} (g : Nat) {A' : Option Addr} {m : List UInt8} {c B' : Nat} (hy : Reads w B' A' m.length (Lib.byteCells m)) (hm : 0 < m.length) (hm1 : m.length ≤ 100000) :
    ∃ A2 c2 w', (Builtin.append_ #[67, 67] 67 #[.slice (some ⟨g, 0, none⟩) 0 0, .slice A' m.length c]).run Try.prog w = .ok (.slice A2 m.length c2) w' ∧ RowB w' A2 m c2 ∧ Typ w' A2 ∧ Only (fun _ => False) w w' := by
  obtain ⟨i, hi, hi0, hi1, hi2⟩ := info_of info5k
  obtain ⟨v', w', hr, hown, hg⟩ := run_append_full (P := Try.prog) w 67 67 5 i _ 1 und67 hi hi0 hi1 hi2 rfl (some ⟨g, 0, none⟩) A' 0 m.length c 0 B' [] (Lib.byteCells m) (fun h => by cases h) (Reads.nil_ w 0 _) hy (bc_one m) hm (by unfold maxLen; omega) (by omega)
  rw [Nat.zero_add, List.nil_append] at hown
  obtain ⟨A2, c2, e, h1, h2, h3⟩ := row_form hown
  subst e
  refine ⟨A2, c2, w', hr, ⟨h1, h2, h3⟩, ?_, Only.of_grown hg⟩
  rcases hown.2 with ⟨_, e⟩ | ⟨g', cap, cur, e, _, hh, _⟩
  · omega
  · cases e
    intro a e
    cases e
    exact ⟨cur, hh⟩
set_option maxRecDepth 10000 in
set_option maxHeartbeats 2000000 in
theorem clone_any (l : List UInt8) (A : Option Addr) (c : Nat) (w : World) (h : RowB w A l c) (hl : l.length ≤ 100000) :
    Calls Try.prog 83 #[.slice A l.length c] w fun r w' => ∃ A' c', r = .returned (.slice A' l.length c') ∧ RowB w' A' l c' ∧ Typ w' A' ∧ Only (fun _ => False) w w' := by
  cases A with
  | none =>
    obtain ⟨e1, e2⟩ := h.2.2 rfl
    have e3 := List.eq_nil_of_length_eq_zero e1
    subst e3 e2
    clear e1
    have hq := fun (W : World) => Lib.run_eql_slice_nil_nil (P := Try.prog) W 0 0 und67
    go_enter Try.func83, Try.ntmps83
    go_wp2
    go_ret
    exact ⟨none, 0, rfl, RowB.nil w, Typ.nil w, Only.refl _ _⟩
  | some a =>
    have hq := fun (W : World) (n c : Nat) => Lib.run_eql_slice_some_nil (P := Try.prog) W a n c und67
    obtain ⟨i, hi, hi0, hi1, hi2⟩ := info_of info5k
    have oa := (Only.refl (fun _ => False) w).alloc (.cells #[] 5)
    by_cases hn : l.length = 0
    · have e3 := List.eq_nil_of_length_eq_zero hn
      subst e3
      clear hn
      have hap := fun n => run_append_zero (P := Try.prog) (w.alloc (.cells #[] 5)) 67 67 5 i und67 hi (some ⟨n, 0, none⟩) (some a) 0 0 c (Nat.le_refl _) (fun h => by cases h)
      simp only [List.length_nil]
      go_enter Try.func83, Try.ntmps83
      go_wp2_with (at_builtin; refine wpList_append_eq1 rfl (.tmp 5) (.tmp 6) 67 rfl _ _ _ _ (by simp [Act.eval]) (by simp [Act.eval]) (hap _) ?_)
      go_ret
      exact ⟨_, 0, rfl, ⟨Reads.nil_ _ _ _, Nat.le_refl _, fun h => by cases h⟩, fun a e => by (cases e; exact ⟨_, Blk.new _ _ _⟩), oa⟩
    · obtain ⟨A2, c2, w', hap, hr2, hty2, ho2⟩ := appB_full (c := c) w.heap.size (h.1.only (Nat.le_refl _) oa (fun _ _ x => x)) (by omega) hl
      have ho3 := oa.trans ho2
      generalize l.length = n at *
      have i0 : (0 : Int) < n := by omega
      clear oa ho2
      go_enter Try.func83, Try.ntmps83
      go_wp2_with (at_builtin; refine wpList_append_eq1 rfl (.tmp 5) (.tmp 6) 67 rfl _ _ _ _ (by simp [Act.eval]) (by simp [Act.eval]) hap ?_)
      go_ret
      exact ⟨A2, c2, rfl, hr2, hty2, ho3⟩

/-- A reader: what is left, and the error. -/
def Rdr (w : World) (g : Nat) (l : List UInt8) (e : Int) : Prop := ∃ A c, Blk w g 146 #[.slice A l.length c, .int .i64 e] ∧ RowB w A l c ∧ Typ w A
theorem Rdr.apart {w : World} {g : Nat} {A : Option Addr} {n : Nat} {c c' : Nat} {e : Int} {l : List UInt8} {A' : Option Addr} (hb : Blk w g 146 #[.slice A n c, .int .i64 e]) (h : RowB w A' l c') (hl : 0 < l.length) : ∃ b o, A' = some ⟨b, o, none⟩ ∧ b ≠ g := by
  obtain ⟨b, o, e1, hlt, hc⟩ := h.1.2 hl
  refine ⟨b, o, e1, fun eb => ?_⟩
  subst eb
  have h1 := hc 0 _ (bc_at (List.getElem?_eq_getElem hl))
  rw [hb.cell (o + 0)] at h1
  match o, h1 with
  | 0, h1 => cases h1
  | 1, h1 => cases h1
  | n + 2, h1 => cases h1
theorem RowB.keep {w w' : World} {g : Nat} {A : Option Addr} {n : Nat} {c c' : Nat} {e : Int} {l : List UInt8} {A' : Option Addr} (hb : Blk w g 146 #[.slice A n c, .int .i64 e]) (h : RowB w A' l c') (ho : Only (fun k => k = g) w w') : RowB w' A' l c' := by
  refine ⟨⟨h.1.1, fun hl => ?_⟩, h.2⟩
  obtain ⟨b, o, e1, hlt, hc⟩ := h.1.2 hl
  obtain ⟨b', o', e2, hne⟩ := Rdr.apart hb h hl
  rw [e1] at e2
  cases e2
  exact ⟨b, o, e1, Nat.lt_of_lt_of_le hlt ho.size, fun j u hu => (Blk.cell_only ho (a := ⟨b, o + j, none⟩) hlt hne).trans (hc j u hu)⟩
theorem Rdr.only {w w' : World} {g : Nat} {l : List UInt8} {e : Int} (h : Rdr w g l e) (ho : Only (fun _ => False) w w') : Rdr w' g l e := by
  obtain ⟨A, c, hb, hr, ht⟩ := h
  exact ⟨A, c, hb.only ho (fun x => x), hr.only ho (fun _ _ x => x), ht.only ho (fun _ _ _ x => x)⟩
theorem Rdr.far {w w' : World} {g : Nat} {l : List UInt8} {e : Int} {S : Nat → Prop} (h : Rdr w g l e) (ho : Only S w w') (hS : ∀ k, S k → ∃ cs, Blk w k 63 cs) : Rdr w' g l e := by
  obtain ⟨A, c, hb, hr, ht⟩ := h
  refine ⟨A, c, hb.only ho (fun hs => ?_), ⟨⟨hr.1.1, fun hl => ?_⟩, hr.2⟩, ht.only ho (fun k cs hb hs => ?_)⟩
  · obtain ⟨cs, hb'⟩ := hS g hs
    exact absurd (hb.one hb') (by decide)
  · obtain ⟨b, o, e1, hlt, hc⟩ := hr.1.2 hl
    obtain ⟨cs, hb2⟩ := ht _ e1
    have hne : ¬ S b := fun hs => by
      obtain ⟨cs', hb'⟩ := hS b hs
      exact absurd (hb2.one hb') (by decide)
    exact ⟨b, o, e1, Nat.lt_of_lt_of_le hlt ho.size, fun j u hu => (Blk.cell_only ho (a := ⟨b, o + j, none⟩) hlt hne).trans (hc j u hu)⟩
  · obtain ⟨cs', hb'⟩ := hS k hs
    exact absurd (hb.one hb') (by decide)
set_option maxRecDepth 10000 in
set_option maxHeartbeats 2000000 in
theorem new_any (l : List UInt8) (A : Option Addr) (c : Nat) (w : World) (h : RowB w A l c) (hl : l.length ≤ 100000) :
    Calls Try.prog 63 #[.slice A l.length c] w fun r w' => ∃ g, r = .returned (.pointer (some ⟨g, 0, none⟩)) ∧ Rdr w' g l 0 ∧ w.heap.size ≤ g ∧ Only (fun _ => False) w w' := by
  go_enter Try.func63, Try.ntmps63
  go_wp2_with fail
  refine (clone_any l A c w h hl).mono ?_
  rintro r w1 ⟨A1, c1, rfl, hr1, ht1, ho1⟩
  go_wp2
  refine bodyPost_ret (v := .pointer (some ⟨w1.heap.size, 0, none⟩)) (by simp [results, Try.results63, go_sem]) rfl ?_
  exact ⟨w1.heap.size, rfl, ⟨A1, c1, Blk.new _ _ _, hr1.only ((Only.refl (fun _ => False) w1).alloc _) (fun _ _ x => x), ht1.only ((Only.refl (fun _ => False) w1).alloc _) (fun _ _ _ x => x)⟩, ho1.size, ho1.alloc _⟩
set_option maxRecDepth 10000 in
set_option maxHeartbeats 2000000 in
theorem err_any (l : List UInt8) (g : Nat) (e : Int) (w : World) (h : Rdr w g l e) :
    Calls Try.prog 64 #[.pointer (some ⟨g, 0, none⟩)] w fun r w' => r = .returned (.int .i64 e) ∧ w = w' := by
  obtain ⟨A, c, hb, hr, ht⟩ := h
  have q1 := hb.cell 1
  simp only [List.getElem?_toArray, List.getElem?_cons_zero, List.getElem?_cons_succ] at q1
  clear hb hr
  go_enter Try.func64, Try.ntmps64
  go_wp2
  go_ret
  exact ⟨rfl, rfl⟩
set_option maxRecDepth 10000 in
set_option maxHeartbeats 2000000 in
theorem left_any (l : List UInt8) (g : Nat) (e : Int) (w : World) (h : Rdr w g l e) :
    Calls Try.prog 65 #[.pointer (some ⟨g, 0, none⟩)] w fun r w' => r = .returned (.int .i64 (l.length : Int)) ∧ w = w' := by
  obtain ⟨A, c, hb, hr, ht⟩ := h
  have q0 := hb.cell 0
  simp only [List.getElem?_toArray, List.getElem?_cons_zero] at q0
  clear hb hr
  go_enter Try.func65, Try.ntmps65
  go_wp2
  go_ret
  exact ⟨rfl, rfl⟩
/-- It has failed. -/
def Bad (w : World) (g : Nat) : Prop := ∃ l e, Rdr w g l e ∧ ¬ e = 0
theorem Bad.only {w w' : World} {g : Nat} (h : Bad w g) (ho : Only (fun _ => False) w w') : Bad w' g := by
  obtain ⟨l, e, h, he⟩ := h
  exact ⟨l, e, h.only ho, he⟩
theorem Only.set2 {w w0 : World} {g : Nat} (h : Only (fun k => k = g) w0 w) (x' y' : Value) : Only (fun k => k = g) w0 ((w.setCell ⟨g, 0, none⟩ x').setCell ⟨g, 1, none⟩ y') :=
  (h.setCell (p := ⟨g, 0, none⟩) (.inl rfl) x').setCell (p := ⟨g, 1, none⟩) (.inl rfl) y'
set_option maxRecDepth 10000 in
set_option maxHeartbeats 2000000 in
theorem fail_any (l : List UInt8) (g : Nat) (e : Int) (w : World) (h : Rdr w g l e) :
    Calls Try.prog 93 #[.pointer (some ⟨g, 0, none⟩), .int .i64 4] w fun r w' => r = .returned (.tuple #[]) ∧ Bad w' g ∧ Only (fun k => k = g) w w' := by
  obtain ⟨A, c, hb, hr, ht⟩ := h
  have q0 := hb.cell 0
  have q1 := hb.cell 1
  have f0 := hb.frozen 0
  have f1 := hb.frozen 1
  simp only [List.getElem?_toArray, List.getElem?_cons_zero, List.getElem?_cons_succ] at q0 q1
  by_cases he : e = 0
  · subst he
    have hb2 := Lib.hid ((hb.set_ 0 (.slice none 0 0)).set_ 1 (.int .i64 4))
    have ho := Lib.hid ((Only.refl (fun k => k = g) w).set2 (.slice none 0 0) (.int .i64 4))
    have hr' := Lib.hid (hr.keep hb ho.out)
    clear hb hr
    go_enter Try.func93, Try.ntmps93
    go_wp2
    go_end0
    exact ⟨rfl, ⟨[], 4, ⟨none, 0, hb2.out, RowB.nil _, Typ.nil _⟩, by decide⟩, ho.out⟩
  · have heb : (e == 0) = false := beq_false_of_ne he
    have hbad : Bad w g := ⟨l, e, ⟨A, c, hb, hr, ht⟩, he⟩
    clear hb hr
    replace hbad := Lib.hid hbad
    go_enter Try.func93, Try.ntmps93
    go_wp2
    go_end0
    exact ⟨rfl, hbad.out, Only.refl _ _⟩

theorem bc_drop (l : List UInt8) (n : Nat) : (Lib.byteCells l).drop n = Lib.byteCells (l.drop n) := by unfold Lib.byteCells; rw [List.map_drop]
theorem bc_take (l : List UInt8) (n : Nat) : (Lib.byteCells l).take n = Lib.byteCells (l.take n) := by unfold Lib.byteCells; rw [List.map_take]
theorem RowB.take {w : World} {A : Option Addr} {l : List UInt8} {c n : Nat} (h : RowB w A l c) (hn : n ≤ l.length) : RowB w A (l.take n) n := by
  have hl : (l.take n).length = n := by rw [List.length_take]; omega
  refine ⟨?_, by omega, fun e => ?_⟩
  · rw [hl, ← bc_take]; exact h.1.take hn
  · have := h.2.2 e; omega
theorem RowB.drop {w : World} {A : Option Addr} {l : List UInt8} {c n : Nat} (h : RowB w A l c) (hn : n ≤ l.length) : RowB w (if c = n then A else A.map (·.add n)) (l.drop n) (c - n) := by
  have hl : (l.drop n).length = l.length - n := List.length_drop
  have hc := h.2.1
  refine ⟨?_, by omega, fun e => ?_⟩
  · rw [hl, ← bc_drop]; exact h.1.drop hn hc
  · cases A with
    | none => have := h.2.2 rfl; omega
    | some a => split at e <;> cases e
theorem Rdr.set {w : World} {g : Nat} {A A2 : Option Addr} {l l2 : List UInt8} {c c2 : Nat} (hb : Blk w g 146 #[.slice A l.length c, .int .i64 0]) (hr : RowB w A2 l2 c2) (ht : Typ w A2) : Rdr (w.setCell ⟨g, 0, none⟩ (.slice A2 l2.length c2)) g l2 0 :=
  ⟨A2, c2, hb.set_ 0 _, hr.keep hb ((Only.refl (fun k => k = g) w).setCell (p := ⟨g, 0, none⟩) (.inl rfl) _), ht.only ((Only.refl (fun k => k = g) w).setCell (p := ⟨g, 0, none⟩) (.inl rfl) _) (fun k cs h e => by subst e; exact absurd (hb.one h) (by decide))⟩
set_option maxRecDepth 10000 in
set_option maxHeartbeats 2000000 in
/-- The bytes are there. -/
theorem take_ok (l : List UInt8) (n g : Nat) (w : World) (h : Rdr w g l 0) (hn : n ≤ l.length) (hl : l.length ≤ 100000) :
    Calls Try.prog 85 #[.pointer (some ⟨g, 0, none⟩), .int .i64 n] w fun r w' => ∃ A c, r = .returned (.slice A n c) ∧ RowB w' A (l.take n) c ∧ Rdr w' g (l.drop n) 0 ∧ Only (fun k => k = g) w w' := by
  obtain ⟨A, c, hb, hr, ht⟩ := h
  have q0 := hb.cell 0
  have q1 := hb.cell 1
  have f0 := hb.frozen 0
  simp only [List.getElem?_toArray, List.getElem?_cons_zero, List.getElem?_cons_succ] at q0 q1
  have hc := hr.2.1
  have i1 : (n : Int) ≤ (l.length : Int) := by omega
  have i2 : ¬ (l.length : Int) < (n : Int) := by omega
  have hd := hr.drop hn
  have hT := hr.take hn
  have hR := Rdr.set hb hd (fun a' e => by
    by_cases hcn : c = n
    · rw [if_pos hcn] at e; exact ht a' e
    · rw [if_neg hcn] at e
      cases A with
      | none => cases e
      | some a =>
        rw [Option.map_some] at e
        cases e
        have hba : (a.add n).block = a.block := by unfold Addr.add; split <;> rfl
        rw [hba]
        exact ht a rfl)
  have hO := (Only.refl (fun k => k = g) w).setCell (p := ⟨g, 0, none⟩) (.inl rfl) (.slice (if c = n then A else A.map (·.add n)) (l.drop n).length (c - n))
  rw [List.length_drop] at hR hO
  have hT2 := hT.keep hb hO
  replace hR := Lib.hid hR
  replace hO := Lib.hid hO
  replace hT2 := Lib.hid hT2
  clear hb hr hd hT
  by_cases hcn : c = n
  · subst hcn
    go_enter Try.func85, Try.ntmps85
    go_wp2
    go_ret
    have hz : l.length - c = 0 := by omega
    simp only [if_pos, Nat.sub_self, hz] at hR hO hT2
    exact ⟨A, _, rfl, hT2.out, hR.out, hO.out⟩
  · go_enter Try.func85, Try.ntmps85
    go_wp2
    go_ret
    simp only [if_neg hcn] at hR hO hT2
    exact ⟨A, _, rfl, hT2.out, hR.out, hO.out⟩
set_option maxRecDepth 10000 in
set_option maxHeartbeats 2000000 in
theorem take_short (l : List UInt8) (n g : Nat) (w : World) (h : Rdr w g l 0) (hn : l.length < n) (hl : n ≤ 100000) :
    Calls Try.prog 85 #[.pointer (some ⟨g, 0, none⟩), .int .i64 n] w fun r w' => r = .returned (.slice none 0 0) ∧ Bad w' g ∧ Only (fun k => k = g) w w' := by
  have hF := fail_any l g 0 w h
  obtain ⟨A, c, hb, hr, ht⟩ := h
  have q0 := hb.cell 0
  simp only [List.getElem?_toArray, List.getElem?_cons_zero] at q0
  have i1 : (l.length : Int) < (n : Int) := by omega
  replace hF := Lib.hid hF
  clear hb hr
  go_enter Try.func85, Try.ntmps85
  go_wp2_with fail
  refine hF.out.mono ?_
  rintro r w1 ⟨rfl, ⟨l1, e1, ⟨A1, c1, hb, hr, ht⟩, he⟩, ho⟩
  have q1 := hb.cell 1
  simp only [List.getElem?_toArray, List.getElem?_cons_zero, List.getElem?_cons_succ] at q1
  have heb : (e1 == 0) = false := beq_false_of_ne he
  have heb2 : (e1 != 0) = true := by rw [bne, heb]; rfl
  have hB : Hid (Bad w1 g) := Lib.hid ⟨l1, e1, ⟨A1, c1, hb, hr, ht⟩, he⟩
  clear hb hr
  go_wp2
  go_ret
  exact ⟨rfl, hB.out, ho⟩
set_option maxRecDepth 10000 in
set_option maxHeartbeats 2000000 in
theorem take_bad (n g : Nat) (w : World) (h : Bad w g) (hl : n ≤ 100000) :
    Calls Try.prog 85 #[.pointer (some ⟨g, 0, none⟩), .int .i64 n] w fun r w' => r = .returned (.slice none 0 0) ∧ Bad w' g ∧ Only (fun k => k = g) w w' := by
  obtain ⟨l, e, h, he⟩ := h
  have hF := fail_any l g e w h
  obtain ⟨A, c, hb, hr, ht⟩ := h
  have q0 := hb.cell 0
  have q1 := hb.cell 1
  simp only [List.getElem?_toArray, List.getElem?_cons_zero, List.getElem?_cons_succ] at q0 q1
  have heb : (e == 0) = false := beq_false_of_ne he
  have heb2 : (e != 0) = true := by rw [bne, heb]; rfl
  have hB : Hid (Bad w g) := Lib.hid ⟨l, e, ⟨A, c, hb, hr, ht⟩, he⟩
  replace hF := Lib.hid hF
  clear hb hr
  by_cases hc : (l.length : Int) < (n : Int)
  · go_enter Try.func85, Try.ntmps85
    go_wp2_with fail
    refine hF.out.mono ?_
    rintro r w1 ⟨rfl, ⟨l1, e1, ⟨A1, c1, hb, hr, ht⟩, he⟩, ho⟩
    have q1 := hb.cell 1
    simp only [List.getElem?_toArray, List.getElem?_cons_zero, List.getElem?_cons_succ] at q1
    have heb : (e1 == 0) = false := beq_false_of_ne he
    have heb2 : (e1 != 0) = true := by rw [bne, heb]; rfl
    have hB : Hid (Bad w1 g) := Lib.hid ⟨l1, e1, ⟨A1, c1, hb, hr, ht⟩, he⟩
    clear hb hr
    go_wp2
    go_ret
    exact ⟨rfl, hB.out, ho⟩
  · go_enter Try.func85, Try.ntmps85
    go_wp2
    go_ret
    exact ⟨rfl, hB.out, Only.refl _ _⟩

set_option maxRecDepth 10000 in
set_option maxHeartbeats 2000000 in
theorem raw_ok (l : List UInt8) (n g : Nat) (w : World) (h : Rdr w g l 0) (hn : n ≤ l.length) (hl : l.length ≤ 100000) :
    Calls Try.prog 67 #[.pointer (some ⟨g, 0, none⟩), .int .i64 n] w fun r w' => ∃ A c, r = .returned (.slice A n c) ∧ RowB w' A (l.take n) c ∧ Rdr w' g (l.drop n) 0 ∧ Only (fun k => k = g) w w' := by
  have hT := Lib.hid (take_ok l n g w h hn hl)
  have hlen : (l.take n).length = n := by rw [List.length_take]; omega
  replace hlen := Lib.hid hlen
  clear h
  go_enter Try.func67, Try.ntmps67
  go_wp2_with fail
  refine hT.out.mono ?_
  rintro r w1 ⟨A, c, rfl, hr1, hd1, ho1⟩
  have hC := clone_any (l.take n) A c w1 hr1 (by rw [hlen.out]; omega)
  rw [hlen.out] at hC
  replace hC := Lib.hid hC
  go_wp2_with fail
  refine hC.out.mono ?_
  rintro r w2 ⟨A2, c2, rfl, hr2, _, ho2⟩
  go_wp2
  go_ret
  exact ⟨A2, c2, rfl, hr2, hd1.only ho2, ho1.trans (ho2.mono (fun _ _ h => h.elim))⟩
theorem clone_nil (w : World) : Calls Try.prog 83 #[.slice none 0 0] w fun r w' => r = .returned (.slice none 0 0) ∧ w = w' := by
  have hq := fun (W : World) => Lib.run_eql_slice_nil_nil (P := Try.prog) W 0 0 und67
  go_enter Try.func83, Try.ntmps83
  go_wp2
  go_ret
  exact ⟨rfl, rfl⟩
/-- It fails, or has failed. -/
def Fails (w : World) (g n : Nat) : Prop := Bad w g ∨ ∃ l, Rdr w g l 0 ∧ l.length < n
theorem take_fails (n g : Nat) (w : World) (h : Fails w g n) (hl : n ≤ 100000) :
    Calls Try.prog 85 #[.pointer (some ⟨g, 0, none⟩), .int .i64 n] w fun r w' => r = .returned (.slice none 0 0) ∧ Bad w' g ∧ Only (fun k => k = g) w w' := by
  rcases h with h | ⟨l, h, hn⟩
  · exact take_bad n g w h hl
  · exact take_short l n g w h hn hl
set_option maxRecDepth 10000 in
set_option maxHeartbeats 2000000 in
theorem raw_fails (n g : Nat) (w : World) (h : Fails w g n) (hl : n ≤ 100000) :
    Calls Try.prog 67 #[.pointer (some ⟨g, 0, none⟩), .int .i64 n] w fun r w' => r = .returned (.slice none 0 0) ∧ Bad w' g ∧ Only (fun k => k = g) w w' := by
  have hT := Lib.hid (take_fails n g w h hl)
  clear h
  go_enter Try.func67, Try.ntmps67
  go_wp2_with fail
  refine hT.out.mono ?_
  rintro r w1 ⟨rfl, hb1, ho1⟩
  go_wp2_with fail
  refine (clone_nil w1).mono ?_
  rintro r w2 ⟨rfl, rfl⟩
  go_wp2
  go_ret
  exact ⟨rfl, hb1, ho1⟩
set_option maxHeartbeats 2000000 in
theorem u8_fails (g : Nat) (w : World) (h : Fails w g 1) :
    Calls Try.prog 66 #[.pointer (some ⟨g, 0, none⟩)] w fun r w' => r = .returned (.int .u8 0) ∧ Bad w' g ∧ Only (fun k => k = g) w w' := by
  have hT := raw_fails 1 g w h (by omega)
  have hN : Calls Try.prog 84 #[.pointer (some ⟨g, 0, none⟩), .int .i64 1] w fun r w' => r = .returned (.int .u8 0) ∧ Bad w' g ∧ Only (fun k => k = g) w w' := by
    replace hT := Lib.hid hT
    clear h
    go_enter Try.func84, Try.ntmps84
    go_wp2_with fail
    refine hT.out.mono ?_
    rintro r w1 ⟨rfl, hb1, ho1⟩
    go_wp2
    refine wp_loop_rounds 1 ?_
    rw [rounds_succ]
    go_wp2
    go_ret
    exact ⟨rfl, hb1, ho1⟩
  clear hT h
  replace hN := Lib.hid hN
  go_enter Try.func66, Try.ntmps66
  go_wp2_with fail
  refine hN.out.mono ?_
  rintro r w1 ⟨rfl, hb1, ho1⟩
  go_wp2
  go_ret
  exact ⟨rfl, hb1, ho1⟩
set_option maxHeartbeats 2000000 in
theorem u16_fails (g : Nat) (w : World) (h : Fails w g 2) :
    Calls Try.prog 68 #[.pointer (some ⟨g, 0, none⟩)] w fun r w' => r = .returned (.int .u16 0) ∧ Bad w' g ∧ Only (fun k => k = g) w w' := by
  have hT := raw_fails 2 g w h (by omega)
  have hN : Calls Try.prog 86 #[.pointer (some ⟨g, 0, none⟩), .int .i64 2] w fun r w' => r = .returned (.int .u16 0) ∧ Bad w' g ∧ Only (fun k => k = g) w w' := by
    replace hT := Lib.hid hT
    clear h
    go_enter Try.func86, Try.ntmps86
    go_wp2_with fail
    refine hT.out.mono ?_
    rintro r w1 ⟨rfl, hb1, ho1⟩
    go_wp2
    refine wp_loop_rounds 1 ?_
    rw [rounds_succ]
    go_wp2
    go_ret
    exact ⟨rfl, hb1, ho1⟩
  clear hT h
  replace hN := Lib.hid hN
  go_enter Try.func68, Try.ntmps68
  go_wp2_with fail
  refine hN.out.mono ?_
  rintro r w1 ⟨rfl, hb1, ho1⟩
  go_wp2
  go_ret
  exact ⟨rfl, hb1, ho1⟩
theorem ret_num {k : IntKind} {a b : Int} (h : a = b) : Ending.returned (.int k a) = .returned (.int k b) := by rw [h]
theorem or_u8 (x : UInt8) : bits .or .u8 0 (x.toNat : Int) = (x.toNat : Int) := by
  have := x.toNat_lt
  rw [show (0 : Int) = ((0 : Nat) : Int) from rfl, u8_or_nat 0 x.toNat (by omega) (by omega), Nat.zero_or]
theorem or_u16 (x : UInt8) : bits .or .u16 0 (x.toNat : Int) = (x.toNat : Int) := by
  have := x.toNat_lt
  rw [show (0 : Int) = ((0 : Nat) : Int) from rfl, u16_or_nat 0 x.toNat (by omega) (by omega), Nat.zero_or]
theorem or2_u16 (x y : UInt8) : bits .or .u16 (x.toNat : Int) ((y.toNat : Int) * 256) = ((x.toNat + 256 * y.toNat : Nat) : Int) := by
  have h1 := x.toNat_lt
  have h2 := y.toNat_lt
  have e : (y.toNat : Int) * 256 = ((y.toNat * 256 : Nat) : Int) := by omega
  rw [e, u16_or_nat _ _ (by omega) (by omega), Nat.or_comm, show y.toNat * 256 = y.toNat <<< 8 by rw [Nat.shiftLeft_eq], ← Nat.shiftLeft_add_eq_or_of_lt (i := 8) (by omega), Nat.shiftLeft_eq]
  omega
set_option maxHeartbeats 2000000 in
theorem u8_ok (x : UInt8) (l : List UInt8) (g : Nat) (w : World) (h : Rdr w g (x :: l) 0) (hl : (x :: l).length ≤ 100000) :
    Calls Try.prog 66 #[.pointer (some ⟨g, 0, none⟩)] w fun r w' => r = .returned (.int .u8 x.toNat) ∧ Rdr w' g l 0 ∧ Only (fun k => k = g) w w' := by
  have hT := raw_ok (x :: l) 1 g w h (by simp) hl
  have hN : Calls Try.prog 84 #[.pointer (some ⟨g, 0, none⟩), .int .i64 1] w fun r w' => r = .returned (.int .u8 x.toNat) ∧ Rdr w' g l 0 ∧ Only (fun k => k = g) w w' := by
    replace hT := Lib.hid hT
    clear h
    go_enter Try.func84, Try.ntmps84
    go_wp2_with fail
    refine hT.out.mono ?_
    rintro r w1 ⟨A, c, rfl, hr1, hd1, ho1⟩
    obtain ⟨b, o, rfl, hb, d0⟩ := hr1.lit (i := 0) (x := x) rfl
    rw [Nat.add_zero] at d0
    replace hr1 := Lib.hid hr1
    have hxl : (x.toNat : Int) < 256 := by have := x.toNat_lt; omega
    have hor := Lib.hid (or_u8 x)
    go_wp2
    refine wp_loop_rounds 2 ?_
    rw [rounds_succ]
    go_wp2
    rw [rounds_succ]
    go_wp2
    go_ret
    exact ⟨ret_num hor.out, hd1, ho1⟩
  clear hT h
  replace hN := Lib.hid hN
  go_enter Try.func66, Try.ntmps66
  go_wp2_with fail
  refine hN.out.mono ?_
  rintro r w1 ⟨rfl, hb1, ho1⟩
  go_wp2
  go_ret
  exact ⟨rfl, hb1, ho1⟩
set_option maxHeartbeats 4000000 in
theorem u16_ok (x y : UInt8) (l : List UInt8) (g : Nat) (w : World) (h : Rdr w g (x :: y :: l) 0) (hl : (x :: y :: l).length ≤ 100000) :
    Calls Try.prog 68 #[.pointer (some ⟨g, 0, none⟩)] w fun r w' => r = .returned (.int .u16 ((x.toNat + 256 * y.toNat : Nat) : Int)) ∧ Rdr w' g l 0 ∧ Only (fun k => k = g) w w' := by
  have hT := raw_ok (x :: y :: l) 2 g w h (by simp) hl
  have hN : Calls Try.prog 86 #[.pointer (some ⟨g, 0, none⟩), .int .i64 2] w fun r w' => r = .returned (.int .u16 ((x.toNat + 256 * y.toNat : Nat) : Int)) ∧ Rdr w' g l 0 ∧ Only (fun k => k = g) w w' := by
    replace hT := Lib.hid hT
    clear h
    have hor := Lib.hid (or_u16 x)
    have hor2 := Lib.hid (or2_u16 x y)
    go_enter Try.func86, Try.ntmps86
    go_wp2_with fail
    refine hT.out.mono ?_
    rintro r w1 ⟨A, c, rfl, hr1, hd1, ho1⟩
    obtain ⟨b, o, rfl, hb, d0⟩ := hr1.lit (i := 0) (x := x) rfl
    obtain ⟨b', o', hbo, _, d1⟩ := hr1.lit (i := 1) (x := y) rfl
    cases hbo
    rw [Nat.add_zero] at d0
    replace hr1 := Lib.hid hr1
    have hxl : (x.toNat : Int) < 256 := by have := x.toNat_lt; omega
    have hyl : (y.toNat : Int) < 256 := by have := y.toNat_lt; omega
    go_wp2
    refine wp_loop_rounds 3 ?_
    rw [rounds_succ]
    go_wp2
    rw [rounds_succ]
    go_wp2
    rw [rounds_succ]
    go_wp2
    go_ret
    exact ⟨ret_num (by rw [hor.out]; exact hor2.out), hd1, ho1⟩
  clear hT h
  replace hN := Lib.hid hN
  go_enter Try.func68, Try.ntmps68
  go_wp2_with fail
  refine hN.out.mono ?_
  rintro r w1 ⟨rfl, hb1, ho1⟩
  go_wp2
  go_ret
  exact ⟨rfl, hb1, ho1⟩
end Go.Proofs.Ytnclappdokhciaa
