/-
  The acts that a law is handed; Great (func 6).
-/
import Derived.Test.YtpkadhgoaaphkaaWk
namespace Go.Proofs.Ytpkadhgoaaphkaa
open Go Go.RowKit Go.Shelf
set_option linter.unusedVariables false
structure Ac where
  d : Nat
  at_ : Int
  n : Int
  A : Option Addr
  c : Nat
  b : List UInt8
def Ac.cells (x : Ac) : List Value := [.int .u8 x.d, .int .i64 x.at_, .int .i64 x.n, .slice x.A x.b.length x.c]
def acs (l : List Ac) : List Value := l.flatMap Ac.cells
theorem acs_cons (x : Ac) (r : List Ac) : acs (x :: r) = .int .u8 x.d :: .int .i64 x.at_ :: .int .i64 x.n :: .slice x.A x.b.length x.c :: acs r := rfl
theorem acs_len : ∀ l : List Ac, (acs l).length = l.length * 4
  | [] => rfl
  | x :: r => by rw [acs_cons]; simp only [List.length_cons, acs_len r]; omega
theorem acs_at : ∀ (l : List Ac) (i : Nat) (t : Ac), l[i]? = some t → (acs l)[i * 4]? = some (.int .u8 t.d) ∧ (acs l)[i * 4 + 1]? = some (.int .i64 t.at_) ∧ (acs l)[i * 4 + 2]? = some (.int .i64 t.n) ∧ (acs l)[i * 4 + 3]? = some (.slice t.A t.b.length t.c)
  | [], i, e, h => by cases h
  | x :: r, 0, e, h => by cases h; exact ⟨rfl, rfl, rfl, rfl⟩
  | x :: r, i + 1, e, h => by
    have ih := acs_at r i e h
    rw [show (i + 1) * 4 = i * 4 + 1 + 1 + 1 + 1 by omega, acs_cons]
    simp only [show i * 4 + 1 + 1 + 1 + 1 + 1 = (i * 4 + 1) + 1 + 1 + 1 + 1 by omega, show i * 4 + 1 + 1 + 1 + 1 + 2 = (i * 4 + 2) + 1 + 1 + 1 + 1 by omega, show i * 4 + 1 + 1 + 1 + 1 + 3 = (i * 4 + 3) + 1 + 1 + 1 + 1 by omega, List.getElem?_cons_succ]
    exact ih
/-- The slice value reads as the acts l. -/
structure RowAc (w : World) (A : Option Addr) (l : List Ac) (c : Nat) : Prop where
  rd : Reads w w.heap.size A (l.length * 4) (acs l)
  cap : l.length ≤ c
  bs : ∀ x ∈ l, Reads w w.heap.size x.A x.b.length (Lib.byteCells x.b) ∧ x.b.length ≤ x.c
section
variable {w w' : World} {A : Option Addr} {l : List Ac} {c : Nat} {S : Nat → Prop}
theorem RowAc.only (h : RowAc w A l c) (ho : Only S w w') (hs : ∀ k, k < w.heap.size → ¬ S k) : RowAc w' A l c :=
  ⟨(h.rd.only (Nat.le_refl _) ho hs).more ho.size, h.cap, fun t ht => ⟨((h.bs t ht).1.only (Nat.le_refl _) ho hs).more ho.size, (h.bs t ht).2⟩⟩
theorem RowAc.lit (h : RowAc w A l c) {i : Nat} {t : Ac} (hi : l[i]? = some t) : ∃ b o, A = some ⟨b, o, none⟩ ∧ b < w.heap.size ∧ w.cell? ⟨b, o + i * 4, none⟩ = some (.int .u8 t.d) ∧ w.cell? ⟨b, o + i * 4 + 1, none⟩ = some (.int .i64 t.at_) ∧ w.cell? ⟨b, o + i * 4 + 2, none⟩ = some (.int .i64 t.n) ∧ w.cell? ⟨b, o + i * 4 + 3, none⟩ = some (.slice t.A t.b.length t.c) := by
  have hlt := (List.getElem?_eq_some_iff.1 hi).1
  obtain ⟨b, o, e1, hb, hc⟩ := h.rd.2 (by omega)
  have h3 := acs_at l i t hi
  refine ⟨b, o, e1, hb, hc _ _ h3.1, ?_, ?_, ?_⟩
  · rw [Nat.add_assoc]; exact hc _ _ h3.2.1
  · rw [Nat.add_assoc]; exact hc _ _ h3.2.2.1
  · rw [Nat.add_assoc]; exact hc _ _ h3.2.2.2
end
def bigA (t : Ac) : Bool := decide (2100 < t.b.length)
def greatA (l : List Ac) : Bool := decide (40 < l.length) || l.any bigA
set_option maxRecDepth 200000 in
set_option maxHeartbeats 8000000 in
theorem great_any (l : List Ac) (A : Option Addr) (c : Nat) (w : World) (h : RowAc w A l c) :
    Calls Try.prog 6 #[.slice A l.length c] w fun r w' => r = .returned (.bool (greatA l)) ∧ w = w' := by
  by_cases h12 : 40 < l.length
  · have hd : greatA l = true := by unfold greatA; rw [decide_eq_true h12]; rfl
    replace hd := Lib.hid hd
    have i0 : (40 : Int) < (l.length : Int) := by omega
    go_enter Try.func6, Try.ntmps6
    go_wp2
    go_ret
    exact ⟨by rw [hd.out]; rfl, rfl⟩
  · have hd : greatA l = l.any bigA := by unfold greatA; rw [decide_eq_false h12]; rfl
    replace hd := Lib.hid hd
    have i0 : ¬ (40 : Int) < (l.length : Int) := by omega
    go_enter Try.func6, Try.ntmps6
    go_wp2
    go_loop [3] (fun s3 => ∃ i : Nat, s3 = .int .i64 i ∧ i ≤ l.length ∧ l.any bigA = ((l.drop i).any bigA)) (fun s3 => l.length - (intOf s3).toNat)
    case atStart => exact ⟨0, rfl, by omega, rfl⟩
    case round =>
      obtain ⟨i, rfl, hi, hr⟩ := hrel
      by_cases hlt : i < l.length
      · obtain ⟨x, hx⟩ : ∃ x, l[i]? = some x := ⟨_, List.getElem?_eq_getElem hlt⟩
        obtain ⟨b, o, rfl, _, d0, d1, d2, d3⟩ := h.lit hx
        have hdr : l.drop i = x :: l.drop (i + 1) := by
          rw [List.drop_eq_getElem_cons hlt]
          rw [List.getElem?_eq_getElem hlt] at hx
          cases hx; rfl
        rw [hdr, List.any_cons] at hr
        have j0 : (0 : Int) ≤ (i : Int) := by omega
        have j1 : (i : Int) < (l.length : Int) := by omega
        clear hdr hx
        by_cases hg : 2100 < x.b.length
        · rw [show bigA x = true by unfold bigA; rw [decide_eq_true hg], Bool.true_or] at hr
          have hg' : (2100 : Int) < (x.b.length : Int) := by omega
          have hd2 := Lib.hid (hd.out.trans hr)
          clear hr
          go_wp2
          go_ret
          exact ⟨by rw [hd2.out]; rfl, rfl⟩
        · rw [show bigA x = false by unfold bigA; rw [decide_eq_false hg], Bool.false_or] at hr
          have hg' : ¬ (2100 : Int) < (x.b.length : Int) := by omega
          replace hr := Lib.hid hr
          go_wp2
          go_round
          case rel => exact ⟨i + 1, by go_num, by omega, hr.out⟩
          case measure => simp [intOf]; omega
      · obtain rfl : i = l.length := by omega
        rw [List.drop_length] at hr
        have hd2 := Lib.hid (hd.out.trans hr)
        clear hr
        go_wp2
        go_ret
        exact ⟨by rw [hd2.out]; rfl, rfl⟩
end Go.Proofs.Ytpkadhgoaaphkaa
