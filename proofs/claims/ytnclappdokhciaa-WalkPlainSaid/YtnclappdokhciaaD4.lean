/-
  dir.are, the reference's Are (func 60, 53).
-/
import Derived.Test.YtnclappdokhciaaD3
import Derived.BigQuiet
import Derived.Deep.QuietTactic
namespace Go.Proofs.Ytnclappdokhciaa
open Go Go.RowKit
set_option linter.unusedVariables false
theorem quiet_geq {P : Program} {C : World → Prop} {o : Oper} {a : Act} {K : Act → Prop} (t t' : TypeId) (x y : Operand) (ho : o.op = .binOp .geq t x y t') (s s' : ByteArray) (hx : a.eval x = .string s) (hy : a.eval y = .string s')
    (v : Bool) (hv : (!Op.bytesLess s.toList s'.toList) = v) (hk : K (a.put o.dst (.bool v))) : o.quiet P a C K :=
  ⟨_, fun w hw => by
    unfold Oper.quietAt execOp
    simp only [ho, hx, hy]
    simp [eqGuard, binOp, Op.stringOp, hv, Oper.quietUpon]; done, hk⟩
theorem RowE.range {w : World} {b o : Nat} {l : List Ent} {c i : Nat} {e : Ent} (h : RowE w (some ⟨b, o, none⟩) l c) (hi : l[i]? = some e) : w.rangeAt b (o + i * 3) [.string e.nm, .int .u16 e.num, .int .u8 e.kind] := fun j v hj => by
  obtain ⟨b', o', hb, _, d0, d1, d2⟩ := h.lit hi
  cases hb
  match j, hj with
  | 0, hj => cases hj; exact d0
  | 1, hj => cases hj; exact d1
  | 2, hj => cases hj; exact d2
theorem quiet_load_mid {P : Program} {C : World → Prop} {o : Oper} {a : Act} {K : Act → Prop} (ty : TypeId) (x : Operand) (ho : o.op = .load ty x) (b k : Nat) (hx : a.eval x = .pointer (some ⟨b, k, none⟩)) (cs : List Value) (d : TypeDesc)
    (hg : ∀ w, C w → w.rangeAt b k cs) (hu : P.underlying ty = some d) (hd : d.isRow = true) (hi : (P.info? ty).map (·.size) = some cs.length)
    (hk : K (a.put o.dst (.agg cs.toArray))) : o.quiet P a C K :=
  ⟨_, fun w hw => by
    unfold Oper.quietAt execOp
    simp only [ho, hx, run_loadAt_mid w b k ty cs d (hg w hw) hu hd hi, Sem.run_bind, Sem.run_pure, Result.andThen_ok]
    exact ⟨rfl, rfl⟩, hk⟩
theorem less_cmp : ∀ (a b : List UInt8), Op.bytesLess a b = decide (Lib.compareBytes a b < 0)
  | [], [] => rfl
  | [], _ :: _ => rfl
  | _ :: _, [] => rfl
  | a :: x, b :: y => by
    unfold Op.bytesLess Lib.compareBytes
    rw [less_cmp x y]
    by_cases h : a < b
    · simp [h]
    · by_cases h2 : b < a
      · have h3 : ¬ a = b := by rintro rfl; exact absurd h2 h
        simp [h, h2, h3]
      · have h3 : a = b := by
          apply UInt8.toNat_inj.1
          rw [UInt8.lt_iff_toNat_lt] at h h2
          omega
        simp [h3]
theorem cmp_zero : ∀ (a b : List UInt8), Lib.compareBytes a b = 0 ↔ a = b
  | [], [] => by simp [Lib.compareBytes]
  | [], _ :: _ => by simp [Lib.compareBytes]
  | _ :: _, [] => by simp [Lib.compareBytes]
  | a :: x, b :: y => by
    unfold Lib.compareBytes
    by_cases h : a < b
    · have h3 : ¬ a = b := by rintro rfl; exact absurd h (UInt8.lt_irrefl a)
      simp [h, h3]
    · by_cases h2 : b < a
      · have h3 : ¬ a = b := by rintro rfl; exact absurd h2 h
        simp [h, h2, h3]
      · have h3 : a = b := by
          apply UInt8.toNat_inj.1
          rw [UInt8.lt_iff_toNat_lt] at h h2
          omega
        simp [h3, cmp_zero x y]
theorem cmp_trans : ∀ (a b c : List UInt8), Lib.compareBytes a b < 0 → Lib.compareBytes b c ≤ 0 → Lib.compareBytes a c < 0
  | [], [], [] => by simp [Lib.compareBytes]
  | [], [], _ :: _ => by simp [Lib.compareBytes]
  | [], _ :: _, [] => by simp [Lib.compareBytes]
  | [], _ :: _, _ :: _ => by simp [Lib.compareBytes]
  | _ :: _, [], _ => by simp [Lib.compareBytes]
  | _ :: _, _ :: _, [] => by simp [Lib.compareBytes]
  | a :: x, b :: y, c :: z => by
    have ih := cmp_trans x y z
    unfold Lib.compareBytes
    simp only [UInt8.lt_iff_toNat_lt]
    intro h1 h2
    split at h1 <;> split at h2 <;> (try split at h1) <;> (try split at h2) <;> split <;> (try split) <;> first | omega | (simp at *; done) | (exact ih h1 h2) | skip
/-- In order: each before the next. -/
def lessB (a b : ByteArray) : Bool := Op.bytesLess a.toList b.toList
def okAt (l : List Ent) (i : Nat) (e : Ent) : Bool := decide (mayS e = 0) && (decide (i = 0) || ((l[i - 1]?.map fun p => lessB p.nm e.nm).getD false))
def areFrom (l : List Ent) : Nat → Nat → Bool
  | 0, _ => true
  | f + 1, i => ((l[i]?.map (okAt l i)).getD true) && areFrom l f (i + 1)
def areS (l : List Ent) : Bool := areFrom l l.length 0 && decide (l.length ≤ 64)
set_option maxRecDepth 10000 in
set_option maxHeartbeats 4000000 in
theorem are_any (l : List Ent) (A : Option Addr) (c : Nat) (w : World) (h : RowE w A l c) (hn : l.length ≤ 100000) (hs : ∀ e ∈ l, e.nm.size ≤ 1000000) :
    Calls Try.prog 60 #[.slice A l.length c] w fun r w' => r = .returned (.bool (areS l)) ∧ Only (fun _ => False) w w' := by
  go_enter Try.func60, Try.ntmps60
  go_wp2
  go_loopw [2, 7, 3] (fun _ k _ wr => ∃ (i f : Nat), k = .int .i64 i ∧ i + f = l.length ∧ Only (fun _ => False) w wr ∧ areFrom l l.length 0 = areFrom l f i) (fun _ k _ _ => l.length - (intOf k).toNat)
  case atStart => exact ⟨0, l.length, rfl, by omega, Only.refl _ _, rfl⟩
  case round =>
    obtain ⟨i, f, rfl, hif, ho, hf⟩ := hrel
    by_cases hlt : i < l.length
    · obtain ⟨x, hx⟩ : ∃ x, l[i]? = some x := ⟨_, List.getElem?_eq_getElem hlt⟩
      obtain ⟨b, o, rfl, hb1, d0, d1, d2⟩ := (h.only ho (fun _ _ x => x)).lit hx
      have i0 : (0 : Int) ≤ (i : Int) := by omega
      have i1 : (i : Int) < (l.length : Int) := by omega
      replace hf := Lib.hid hf
      replace hx := Lib.hid hx
      go_wp2_with fail
      have hb0 := Blk.new wr 63 #[.string x.nm, .int .u16 x.num, .int .u8 x.kind]
      have hoa := (Only.refl (fun _ => False) wr).alloc (.cells #[.string x.nm, .int .u16 x.num, .int .u8 x.kind] 63)
      have ho2 := ho.trans hoa
      have hxs : x.nm.size ≤ 1000000 := hs x (List.mem_of_getElem? hx.out)
      have hrow := h.only ho2 (fun _ _ x => x)
      clear d0 d1 d2 hoa ho
      generalize wr.alloc _ = w2 at *
      generalize wr.heap.size = g at *
      have hM := fun W => may_any x hxs W
      simp only [Ent.cells] at hM
      have hst : areFrom l l.length 0 = (okAt l i x && areFrom l (f - 1) (i + 1)) := by
        rw [hf.out]
        obtain ⟨f, rfl⟩ : ∃ k, f = k + 1 := ⟨f - 1, by omega⟩
        rw [areFrom, hx.out]; rfl
      replace hst := Lib.hid hst
      clear hf
      by_cases hm : mayS x = 0
      · simp only [hm] at hM
        replace hM := Lib.hid hM
        by_cases hi0 : i = 0
        · subst hi0
          simp only [show ((0 : Nat) : Int) = 0 from rfl]
          refine wp_region_class (fun W => Only (fun _ => False) w2 W) (by kernel_rfl) (by kernel_rfl) (Only.refl _ _).drew ?_
          repeat (first
            | go_big_quiet_skip
            | (go_big_quiet_want
               first
                 | (refine quiet_load_row 63 (.tmp 4) rfl g rfl 63 #[.string x.nm, .int .u16 x.num, .int .u8 x.kind] (0, 0) _ (fun _ h => hb0.only h (fun x => x)) Try.underlying63 rfl (by kernel_rfl) ?_; simp only [Act.put, List.setIfInBounds_toArray, List.set_cons_zero, List.set_cons_succ]; go_big_quiet_on)
                 | (go_big_quiet_op
                    first
                      | go_big_quiet_on
                      | (refine ⟨_, fun _ _ => by with_reducible rfl, ?_⟩; go_big_quiet_on)
                      | (apply Exists.intro
                         refine ⟨fun W hW => ?_, ?_⟩
                         · (go_at_call 70; with_reducible refine (hM.out W).mono ?_; rintro x w' ⟨rfl, hn⟩; exact ⟨rfl, Only.trans hW hn⟩)
                         go_big_quiet_on))))
          refine wpQuiet_nil ?_
          intro w5 h5
          replace h5 := Lib.hid (ho2.trans h5)
          clear hM ho2 hb0
          have hst2 : areFrom l l.length 0 = areFrom l (f - 1) 1 := by
            rw [hst.out, okAt, decide_eq_true hm]; simp
          replace hst2 := Lib.hid hst2
          clear hst
          go_wp2
          go_roundw
          case rel => exact ⟨1, f - 1, rfl, by omega, h5.out, hst2.out⟩
          case measure => simp [intOf]; omega
        · obtain ⟨m, rfl⟩ : ∃ m, i = m + 1 := ⟨i - 1, by omega⟩
          obtain ⟨y, hy⟩ : ∃ y, l[m]? = some y := ⟨_, List.getElem?_eq_getElem (by omega)⟩
          obtain ⟨b', o', hbb, hyb, e0, _, _⟩ := hrow.lit hy
          cases hbb
          have j0 : (0 : Int) < (m : Int) + 1 := by omega
          have j1 : (0 : Int) ≤ (m : Int) := by omega
          have j2 : (m : Int) < (l.length : Int) := by omega
          replace hy := Lib.hid hy
          simp only [show ((m + 1 : Nat) : Int) = (m : Int) + 1 from rfl]
          by_cases hbl : Op.bytesLess y.nm.toList x.nm.toList = true
          · skip
            refine wp_region_class (fun W => Only (fun _ => False) w2 W) (by kernel_rfl) (by kernel_rfl) (Only.refl _ _).drew ?_
            repeat (first
              | go_big_quiet_skip
              | (go_big_quiet_want
                 first
                   | (refine quiet_load_row 63 (.tmp 4) rfl g rfl 63 #[.string x.nm, .int .u16 x.num, .int .u8 x.kind] (0, 0) _ (fun _ h => hb0.only h (fun x => x)) Try.underlying63 rfl (by kernel_rfl) ?_; simp only [Act.put, List.setIfInBounds_toArray, List.set_cons_zero, List.set_cons_succ]; go_big_quiet_on)
                   | (refine quiet_load_cell 9 (.tmp 23) rfl ⟨b, o + m * 3, none⟩ rfl (.string y.nm) _ (fun W hW => (Blk.cell_only hW (a := ⟨b, o + m * 3, none⟩) hyb (fun x => x)).trans e0) rfl Try.underlying9 ?_; simp only [Act.put, List.setIfInBounds_toArray, List.set_cons_zero, List.set_cons_succ]; go_big_quiet_on)
                   | (refine quiet_load_cell 9 (.tmp 25) rfl ⟨g, 0, none⟩ rfl (.string x.nm) _ (fun W hW => (hb0.only hW (fun x => x)).cell 0) rfl Try.underlying9 ?_; simp only [Act.put, List.setIfInBounds_toArray, List.set_cons_zero, List.set_cons_succ]; go_big_quiet_on)
                   | (refine quiet_geq 9 9 (.tmp 24) (.tmp 26) rfl y.nm x.nm rfl rfl false (by rw [hbl]; rfl) ?_; simp only [Act.put, List.setIfInBounds_toArray, List.set_cons_zero, List.set_cons_succ]; go_big_quiet_on)
                   | (go_big_quiet_op
                      first
                        | go_big_quiet_on
                        | (refine ⟨_, fun _ _ => by with_reducible rfl, ?_⟩; go_big_quiet_on)
                        | (apply Exists.intro
                           refine ⟨fun W hW => ?_, ?_⟩
                           · (go_at_call 70; with_reducible refine (hM.out W).mono ?_; rintro x w' ⟨rfl, hn⟩; exact ⟨rfl, Only.trans hW hn⟩)
                           go_big_quiet_on))))
            refine wpQuiet_nil ?_
            intro w5 h5
            replace h5 := Lib.hid (ho2.trans h5)
            clear hM ho2 hb0
            have hst2 : areFrom l l.length 0 = areFrom l (f - 1) (m + 2) := by
              rw [hst.out, okAt, decide_eq_true hm, show m + 1 - 1 = m from rfl, hy.out]; simp [lessB, hbl]
            replace hst2 := Lib.hid hst2
            clear hst
            go_wp2
            go_roundw
            case rel => exact ⟨m + 2, f - 1, by go_num, by omega, h5.out, hst2.out⟩
            case measure => simp [intOf]; omega
          · replace hbl : Op.bytesLess y.nm.toList x.nm.toList = false := by simpa using hbl
            refine wp_region_class (fun W => Only (fun _ => False) w2 W) (by kernel_rfl) (by kernel_rfl) (Only.refl _ _).drew ?_
            repeat (first
              | go_big_quiet_skip
              | (go_big_quiet_want
                 first
                   | (refine quiet_load_row 63 (.tmp 4) rfl g rfl 63 #[.string x.nm, .int .u16 x.num, .int .u8 x.kind] (0, 0) _ (fun _ h => hb0.only h (fun x => x)) Try.underlying63 rfl (by kernel_rfl) ?_; simp only [Act.put, List.setIfInBounds_toArray, List.set_cons_zero, List.set_cons_succ]; go_big_quiet_on)
                   | (refine quiet_load_cell 9 (.tmp 23) rfl ⟨b, o + m * 3, none⟩ rfl (.string y.nm) _ (fun W hW => (Blk.cell_only hW (a := ⟨b, o + m * 3, none⟩) hyb (fun x => x)).trans e0) rfl Try.underlying9 ?_; simp only [Act.put, List.setIfInBounds_toArray, List.set_cons_zero, List.set_cons_succ]; go_big_quiet_on)
                   | (refine quiet_load_cell 9 (.tmp 25) rfl ⟨g, 0, none⟩ rfl (.string x.nm) _ (fun W hW => (hb0.only hW (fun x => x)).cell 0) rfl Try.underlying9 ?_; simp only [Act.put, List.setIfInBounds_toArray, List.set_cons_zero, List.set_cons_succ]; go_big_quiet_on)
                   | (refine quiet_geq 9 9 (.tmp 24) (.tmp 26) rfl y.nm x.nm rfl rfl true (by rw [hbl]; rfl) ?_; simp only [Act.put, List.setIfInBounds_toArray, List.set_cons_zero, List.set_cons_succ]; go_big_quiet_on)
                   | (go_big_quiet_op
                      first
                        | go_big_quiet_on
                        | (refine ⟨_, fun _ _ => by with_reducible rfl, ?_⟩; go_big_quiet_on)
                        | (apply Exists.intro
                           refine ⟨fun W hW => ?_, ?_⟩
                           · (go_at_call 70; with_reducible refine (hM.out W).mono ?_; rintro x w' ⟨rfl, hn⟩; exact ⟨rfl, Only.trans hW hn⟩)
                           go_big_quiet_on))))
            refine wpQuiet_nil ?_
            intro w5 h5
            replace h5 := Lib.hid (ho2.trans h5)
            clear hM ho2 hb0
            have hst2 : areS l = false := by
              unfold areS
              rw [hst.out, okAt, decide_eq_true hm, show m + 1 - 1 = m from rfl, hy.out]; simp [lessB, hbl]
            replace hst2 := Lib.hid hst2
            clear hst
            go_wp2
            go_ret
            exact ⟨by rw [hst2.out]; rfl, h5.out⟩
      · have hst2 : areS l = false := by
          unfold areS
          rw [hst.out, okAt, decide_eq_false hm]; simp
        replace hst2 := Lib.hid hst2
        clear hst
        generalize mayS x = k at *
        have hk1 : (k == 0) = false := beq_false_of_ne hm
        have hk2 : (k != 0) = true := by simp [bne, hk1]
        replace hM := Lib.hid hM
        refine wp_region_class (fun W => Only (fun _ => False) w2 W) (by kernel_rfl) (by kernel_rfl) (Only.refl _ _).drew ?_
        repeat (first
          | go_big_quiet_skip
          | (go_big_quiet_want
             first
               | (refine quiet_load_row 63 (.tmp 4) rfl g rfl 63 #[.string x.nm, .int .u16 x.num, .int .u8 x.kind] (0, 0) _ (fun _ h => hb0.only h (fun x => x)) Try.underlying63 rfl (by kernel_rfl) ?_; simp only [Act.put, List.setIfInBounds_toArray, List.set_cons_zero, List.set_cons_succ]; go_big_quiet_on)
               | (go_big_quiet_op
                  first
                    | go_big_quiet_on
                    | (refine ⟨_, fun _ _ => by with_reducible rfl, ?_⟩; go_big_quiet_on)
                    | (apply Exists.intro
                       refine ⟨fun W hW => ?_, ?_⟩
                       · (go_at_call 70; with_reducible refine (hM.out W).mono ?_; rintro x w' ⟨rfl, hn⟩; exact ⟨rfl, Only.trans hW hn⟩)
                       go_big_quiet_on))))
        refine wpQuiet_nil ?_
        intro w5 h5
        replace h5 := Lib.hid (ho2.trans h5)
        clear hM ho2 hb0
        go_wp2
        go_ret
        exact ⟨by rw [hst2.out]; rfl, h5.out⟩
    · have hfz : f = 0 := by omega
      subst hfz
      have hst : areS l = decide (l.length ≤ 64) := by unfold areS; rw [hf, areFrom]; simp
      replace hst := Lib.hid hst
      clear hf
      by_cases h64 : l.length ≤ 64
      · have h64i : (l.length : Int) ≤ 64 := by omega
        go_wp2
        go_ret
        exact ⟨by rw [hst.out, decide_eq_true h64]; rfl, ho⟩
      · have h64i : ¬ (l.length : Int) ≤ 64 := by omega
        go_wp2
        go_ret
        exact ⟨by rw [hst.out, decide_eq_false h64]; rfl, ho⟩
set_option maxRecDepth 10000 in
set_option maxHeartbeats 4000000 in
theorem areR_any (l : List Ent) (A : Option Addr) (c : Nat) (w : World) (h : RowE w A l c) (hn : l.length ≤ 100000) (hs : ∀ e ∈ l, e.nm.size ≤ 1000000) :
    Calls Try.prog 53 #[.slice A l.length c] w fun r w' => r = .returned (.bool (areS l)) ∧ Only (fun _ => False) w w' := by
  go_enter Try.func53, Try.ntmps53
  go_wp2
  go_loopw [2, 3] (fun _ k wr => ∃ (i f : Nat), k = .int .i64 i ∧ i + f = l.length ∧ Only (fun _ => False) w wr ∧ areFrom l l.length 0 = areFrom l f i) (fun _ k _ => l.length - (intOf k).toNat)
  case atStart => exact ⟨0, l.length, rfl, by omega, Only.refl _ _, rfl⟩
  case round =>
    obtain ⟨i, f, rfl, hif, ho, hf⟩ := hrel
    by_cases hlt : i < l.length
    · obtain ⟨x, hx⟩ : ∃ x, l[i]? = some x := ⟨_, List.getElem?_eq_getElem hlt⟩
      obtain ⟨b, o, rfl, hb1, d0, d1, d2⟩ := (h.only ho (fun _ _ x => x)).lit hx
      have i0 : (0 : Int) ≤ (i : Int) := by omega
      have i1 : (i : Int) < (l.length : Int) := by omega
      replace hf := Lib.hid hf
      replace hx := Lib.hid hx
      go_wp2_with fail
      have hxs : x.nm.size ≤ 1000000 := hs x (List.mem_of_getElem? hx.out)
      have hrow := h.only ho (fun _ _ x => x)
      have ho2 := ho
      have hM := fun W => mayR_any x hxs W
      simp only [Ent.cells] at hM
      have hst : areFrom l l.length 0 = (okAt l i x && areFrom l (f - 1) (i + 1)) := by
        rw [hf.out]
        obtain ⟨f, rfl⟩ : ∃ k, f = k + 1 := ⟨f - 1, by omega⟩
        rw [areFrom, hx.out]; rfl
      replace hst := Lib.hid hst
      clear hf
      by_cases hm : mayS x = 0
      · simp only [hm] at hM
        replace hM := Lib.hid hM
        by_cases hi0 : i = 0
        · subst hi0
          simp only [show ((0 : Nat) : Int) = 0 from rfl]
          refine wp_region_class (fun W => Only (fun _ => False) wr W) (by kernel_rfl) (by kernel_rfl) (Only.refl _ _).drew ?_
          repeat (first
            | go_big_quiet_skip
            | (go_big_quiet_want
               first
                 | (refine quiet_load_mid 79 (.tmp 12) rfl b o rfl [.string x.nm, .int .u16 x.num, .int .u8 x.kind] _ (fun W hW => by have := (hrow.only hW (fun _ _ x => x)).range hx.out; rwa [Nat.zero_mul, Nat.add_zero] at this) Try.underlying79 rfl (by kernel_rfl) ?_; simp only [Act.put, List.setIfInBounds_toArray, List.set_cons_zero, List.set_cons_succ]; go_big_quiet_on)
                 | (go_big_quiet_op
                    first
                      | go_big_quiet_on
                      | (refine ⟨_, fun _ _ => by with_reducible rfl, ?_⟩; go_big_quiet_on)
                      | (apply Exists.intro
                         refine ⟨fun W hW => ?_, ?_⟩
                         · (go_at_call 71; with_reducible refine (hM.out W).mono ?_; rintro x w' ⟨rfl, hn⟩; exact ⟨rfl, Only.trans hW hn⟩)
                         go_big_quiet_on))))
          refine wpQuiet_nil ?_
          intro w5 h5
          replace h5 := Lib.hid (ho2.trans h5)
          clear hM ho2
          have hst2 : areFrom l l.length 0 = areFrom l (f - 1) 1 := by
            rw [hst.out, okAt, decide_eq_true hm]; simp
          replace hst2 := Lib.hid hst2
          clear hst
          go_wp2
          go_roundw
          case rel => exact ⟨1, f - 1, rfl, by omega, h5.out, hst2.out⟩
          case measure => simp [intOf]; omega
        · obtain ⟨m, rfl⟩ : ∃ m, i = m + 1 := ⟨i - 1, by omega⟩
          obtain ⟨y, hy⟩ : ∃ y, l[m]? = some y := ⟨_, List.getElem?_eq_getElem (by omega)⟩
          obtain ⟨b', o', hbb, hyb, e0, _, _⟩ := hrow.lit hy
          cases hbb
          have j0 : (0 : Int) < (m : Int) + 1 := by omega
          have j1 : (0 : Int) ≤ (m : Int) := by omega
          have j2 : (m : Int) < (l.length : Int) := by omega
          replace hy := Lib.hid hy
          simp only [show ((m + 1 : Nat) : Int) = (m : Int) + 1 from rfl]
          by_cases hbl : Op.bytesLess y.nm.toList x.nm.toList = true
          · skip
            refine wp_region_class (fun W => Only (fun _ => False) wr W) (by kernel_rfl) (by kernel_rfl) (Only.refl _ _).drew ?_
            repeat (first
              | go_big_quiet_skip
              | (go_big_quiet_want
                 first
                   | (refine quiet_load_mid 79 (.tmp 12) rfl b (o + (m + 1) * 3) rfl [.string x.nm, .int .u16 x.num, .int .u8 x.kind] _ (fun W hW => (hrow.only hW (fun _ _ x => x)).range hx.out) Try.underlying79 rfl (by kernel_rfl) ?_; simp only [Act.put, List.setIfInBounds_toArray, List.set_cons_zero, List.set_cons_succ]; go_big_quiet_on)
                   | (refine quiet_load_cell 9 (.tmp 24) rfl ⟨b, o + m * 3, none⟩ rfl (.string y.nm) _ (fun W hW => (Blk.cell_only hW (a := ⟨b, o + m * 3, none⟩) hyb (fun x => x)).trans e0) rfl Try.underlying9 ?_; simp only [Act.put, List.setIfInBounds_toArray, List.set_cons_zero, List.set_cons_succ]; go_big_quiet_on)
                   | (refine quiet_load_cell 9 (.tmp 29) rfl ⟨b, o + (m + 1) * 3, none⟩ rfl (.string x.nm) _ (fun W hW => (Blk.cell_only hW (a := ⟨b, o + (m + 1) * 3, none⟩) hyb (fun x => x)).trans d0) rfl Try.underlying9 ?_; simp only [Act.put, List.setIfInBounds_toArray, List.set_cons_zero, List.set_cons_succ]; go_big_quiet_on)
                   | (refine quiet_geq 9 9 (.tmp 25) (.tmp 30) rfl y.nm x.nm rfl rfl false (by rw [hbl]; rfl) ?_; simp only [Act.put, List.setIfInBounds_toArray, List.set_cons_zero, List.set_cons_succ]; go_big_quiet_on)
                   | (go_big_quiet_op
                      first
                        | go_big_quiet_on
                        | (refine ⟨_, fun _ _ => by with_reducible rfl, ?_⟩; go_big_quiet_on)
                        | (apply Exists.intro
                           refine ⟨fun W hW => ?_, ?_⟩
                           · (go_at_call 71; with_reducible refine (hM.out W).mono ?_; rintro x w' ⟨rfl, hn⟩; exact ⟨rfl, Only.trans hW hn⟩)
                           go_big_quiet_on))))
            refine wpQuiet_nil ?_
            intro w5 h5
            replace h5 := Lib.hid (ho2.trans h5)
            clear hM ho2
            have hst2 : areFrom l l.length 0 = areFrom l (f - 1) (m + 2) := by
              rw [hst.out, okAt, decide_eq_true hm, show m + 1 - 1 = m from rfl, hy.out]; simp [lessB, hbl]
            replace hst2 := Lib.hid hst2
            clear hst
            go_wp2
            go_roundw
            case rel => exact ⟨m + 2, f - 1, by go_num, by omega, h5.out, hst2.out⟩
            case measure => simp [intOf]; omega
          · replace hbl : Op.bytesLess y.nm.toList x.nm.toList = false := by simpa using hbl
            refine wp_region_class (fun W => Only (fun _ => False) wr W) (by kernel_rfl) (by kernel_rfl) (Only.refl _ _).drew ?_
            repeat (first
              | go_big_quiet_skip
              | (go_big_quiet_want
                 first
                   | (refine quiet_load_mid 79 (.tmp 12) rfl b (o + (m + 1) * 3) rfl [.string x.nm, .int .u16 x.num, .int .u8 x.kind] _ (fun W hW => (hrow.only hW (fun _ _ x => x)).range hx.out) Try.underlying79 rfl (by kernel_rfl) ?_; simp only [Act.put, List.setIfInBounds_toArray, List.set_cons_zero, List.set_cons_succ]; go_big_quiet_on)
                   | (refine quiet_load_cell 9 (.tmp 24) rfl ⟨b, o + m * 3, none⟩ rfl (.string y.nm) _ (fun W hW => (Blk.cell_only hW (a := ⟨b, o + m * 3, none⟩) hyb (fun x => x)).trans e0) rfl Try.underlying9 ?_; simp only [Act.put, List.setIfInBounds_toArray, List.set_cons_zero, List.set_cons_succ]; go_big_quiet_on)
                   | (refine quiet_load_cell 9 (.tmp 29) rfl ⟨b, o + (m + 1) * 3, none⟩ rfl (.string x.nm) _ (fun W hW => (Blk.cell_only hW (a := ⟨b, o + (m + 1) * 3, none⟩) hyb (fun x => x)).trans d0) rfl Try.underlying9 ?_; simp only [Act.put, List.setIfInBounds_toArray, List.set_cons_zero, List.set_cons_succ]; go_big_quiet_on)
                   | (refine quiet_geq 9 9 (.tmp 25) (.tmp 30) rfl y.nm x.nm rfl rfl true (by rw [hbl]; rfl) ?_; simp only [Act.put, List.setIfInBounds_toArray, List.set_cons_zero, List.set_cons_succ]; go_big_quiet_on)
                   | (go_big_quiet_op
                      first
                        | go_big_quiet_on
                        | (refine ⟨_, fun _ _ => by with_reducible rfl, ?_⟩; go_big_quiet_on)
                        | (apply Exists.intro
                           refine ⟨fun W hW => ?_, ?_⟩
                           · (go_at_call 71; with_reducible refine (hM.out W).mono ?_; rintro x w' ⟨rfl, hn⟩; exact ⟨rfl, Only.trans hW hn⟩)
                           go_big_quiet_on))))
            refine wpQuiet_nil ?_
            intro w5 h5
            replace h5 := Lib.hid (ho2.trans h5)
            clear hM ho2
            have hst2 : areS l = false := by
              unfold areS
              rw [hst.out, okAt, decide_eq_true hm, show m + 1 - 1 = m from rfl, hy.out]; simp [lessB, hbl]
            replace hst2 := Lib.hid hst2
            clear hst
            go_wp2
            go_ret
            exact ⟨by rw [hst2.out]; rfl, h5.out⟩
      · have hst2 : areS l = false := by
          unfold areS
          rw [hst.out, okAt, decide_eq_false hm]; simp
        replace hst2 := Lib.hid hst2
        clear hst
        generalize mayS x = k at *
        have hk1 : (k == 0) = false := beq_false_of_ne hm
        have hk2 : (k != 0) = true := by simp [bne, hk1]
        replace hM := Lib.hid hM
        refine wp_region_class (fun W => Only (fun _ => False) wr W) (by kernel_rfl) (by kernel_rfl) (Only.refl _ _).drew ?_
        repeat (first
          | go_big_quiet_skip
          | (go_big_quiet_want
             first
               | (refine quiet_load_mid 79 (.tmp 12) rfl b (o + i * 3) rfl [.string x.nm, .int .u16 x.num, .int .u8 x.kind] _ (fun W hW => (hrow.only hW (fun _ _ x => x)).range hx.out) Try.underlying79 rfl (by kernel_rfl) ?_; simp only [Act.put, List.setIfInBounds_toArray, List.set_cons_zero, List.set_cons_succ]; go_big_quiet_on)
               | (go_big_quiet_op
                  first
                    | go_big_quiet_on
                    | (refine ⟨_, fun _ _ => by with_reducible rfl, ?_⟩; go_big_quiet_on)
                    | (apply Exists.intro
                       refine ⟨fun W hW => ?_, ?_⟩
                       · (go_at_call 71; with_reducible refine (hM.out W).mono ?_; rintro x w' ⟨rfl, hn⟩; exact ⟨rfl, Only.trans hW hn⟩)
                       go_big_quiet_on))))
        refine wpQuiet_nil ?_
        intro w5 h5
        replace h5 := Lib.hid (ho2.trans h5)
        clear hM ho2
        go_wp2
        go_ret
        exact ⟨by rw [hst2.out]; rfl, h5.out⟩
    · have hfz : f = 0 := by omega
      subst hfz
      have hst : areS l = decide (l.length ≤ 64) := by unfold areS; rw [hf, areFrom]; simp
      replace hst := Lib.hid hst
      clear hf
      by_cases h64 : l.length ≤ 64
      · have h64i : (l.length : Int) ≤ 64 := by omega
        go_wp2
        go_ret
        exact ⟨by rw [hst.out, decide_eq_true h64]; rfl, ho⟩
      · have h64i : ¬ (l.length : Int) ≤ 64 := by omega
        go_wp2
        go_ret
        exact ⟨by rw [hst.out, decide_eq_false h64]; rfl, ho⟩
end Go.Proofs.Ytnclappdokhciaa
