/-
  The state of a hash over the bytes it was given, in memory; plain facts on bytes and pieces.
-/
import Derived.Test.YtpmikgbdicokhaaDoorW4
namespace Go.Proofs.YtpmikgbdicokhaaDoor
open Go.RowKit
set_option linter.unusedVariables false

def ub (x : Nat) : Value := .int .u8 (x : Int)
/-- The bytes of piece k. -/
def pc (bs : List Nat) (k : Nat) : Nat → Nat := fun j => bs.getD (64 * k + j) 0
/-- The state behind the first k pieces. -/
def stAt (bs : List Nat) : Nat → S8
  | 0 => first8
  | k + 1 => taken (stAt bs k) (pc bs k)
theorem stAt_ok (bs : List Nat) (k : Nat) : (stAt bs k).ok := by
  cases k with
  | zero => exact first8_ok
  | succ k => exact taken_ok _ _
theorem pc_lt {bs : List Nat} (h : ∀ x ∈ bs, x < 256) (k i : Nat) : pc bs k i < 256 := by
  unfold pc
  rw [List.getD_eq_getElem?_getD]
  cases e : bs[64 * k + i]? with
  | none => simp
  | some x => exact h x (List.mem_of_getElem? e)
/-- Only the 64 bytes of a piece count. -/
theorem ws_congr {B B' : Nat → Nat} (h : ∀ i, i < 64 → B i = B' i) : ∀ k, ws B k = ws B' k
  | 0 => rfl
  | k + 1 => by
    rw [ws, ws, ws_congr h k]
    refine congrArg (fun x => ws B' k ++ [x]) ?_
    unfold nextw
    rw [ws_length]
    by_cases hk : k < 16
    · rw [if_pos hk, if_pos hk]; unfold word
      rw [h _ (by omega), h _ (by omega), h _ (by omega), h _ (by omega)]
    · rw [if_neg hk, if_neg hk]
theorem stps_congr {B B' : Nat → Nat} (h : ∀ i, i < 64 → B i = B' i) (s : S8) : ∀ k, stps B s k = stps B' s k
  | 0 => rfl
  | k + 1 => by
    rw [stps, stps, stps_congr h s k]
    unfold wn
    rw [show nextw B (ws B k) = nextw B' (ws B' k) from by
      have := ws_congr h (k + 1)
      rw [ws, ws, ws_congr h k] at this
      rw [ws_congr h k]
      simpa using this]
theorem taken_congr {B B' : Nat → Nat} (h : ∀ i, i < 64 → B i = B' i) (s : S8) : taken s B = taken s B' := by
  unfold taken; rw [stps_congr h s 64]
theorem stAt_append {bs b : List Nat} : ∀ {k : Nat}, 64 * k ≤ bs.length → stAt (bs ++ b) k = stAt bs k
  | 0, _ => rfl
  | k + 1, h => by
    rw [stAt, stAt, stAt_append (k := k) (by omega)]
    refine taken_congr (fun i hi => ?_) _
    unfold pc
    rw [List.getD_eq_getElem?_getD, List.getD_eq_getElem?_getD, List.getElem?_append_left (by omega)]

/-- A slice that reads as xs and lies in none of p's cells. -/
structure RN (w : World) (p : Nat) (A : Option Addr) (n : Nat) (xs : List Value) : Prop where
  r : Reads w w.heap.size A n xs
  ne : 0 < n → ∀ a, A = some a → a.block ≠ p
section
variable {w w' : World} {p n : Nat} {A : Option Addr} {xs : List Value}
theorem RN.only (h : RN w p A n xs) (ho : Only (· = p) w w') : RN w' p A n xs :=
  ⟨⟨h.r.1, fun hn => by
    obtain ⟨b, o, e, hb, hc⟩ := h.r.2 hn
    exact ⟨b, o, e, Nat.lt_of_lt_of_le hb ho.size, fun j u hu => (Blk.cell_only ho (a := ⟨b, o + j, none⟩) hb (h.ne hn ⟨b, o, none⟩ e)).trans (hc j u hu)⟩⟩, h.ne⟩
theorem RN.drop (h : RN w p A n xs) {k cap : Nat} (hk : k ≤ n) (hc : n ≤ cap) :
    RN w p (if cap = k then A else A.map (·.add k)) (n - k) (xs.drop k) := by
  refine ⟨h.r.drop hk hc, fun hn a ha => ?_⟩
  rw [if_neg (by omega)] at ha
  cases A with
  | none => cases ha
  | some a' =>
    have e : a'.add k = a := by injection ha
    subst e
    have hb : (a'.add k).block = a'.block := by unfold Addr.add; split <;> rfl
    rw [hb]
    exact h.ne (by omega) _ rfl
/-- Its first 64 bytes are a piece. -/
theorem RN.piece {bs : List Nat} {c : Nat} (h : RN w p A n ((bs.drop c).map ub)) (hl : ∀ x ∈ bs, x < 256) (hn : 64 ≤ n) (k : Nat) (hk : c = 64 * k) :
    ∃ bb bo, A = some ⟨bb, bo, none⟩ ∧ bb ≠ p ∧ Piece w bb bo (pc bs k) := by
  obtain ⟨b, o, e, hb, hc⟩ := h.r.2 (by omega)
  refine ⟨b, o, e, h.ne (by omega) _ e, hb, pc_lt hl k, fun i hi => ?_⟩
  refine hc i _ ?_
  have hlen := h.r.1
  rw [List.length_map, List.length_drop] at hlen
  rw [List.getElem?_map, List.getElem?_drop, hk]
  have hlt : 64 * k + i < bs.length := by omega
  rw [List.getElem?_eq_getElem hlt]
  show some (ub _) = some (ub _)
  unfold pc
  rw [List.getD_eq_getElem?_getD, List.getElem?_eq_getElem hlt]
  rfl
end

/-- append onto a slice that is full: what comes of it reads as the two, and lies apart from p. -/
theorem app_full {P : Program} (w : World) (t ty e : TypeId) (i : TypeInfo) (z : Value) (ht : P.underlying t = some (.slice e)) (hi : P.info? e = some i) (hz : i.zero = some z)
    (hsize : i.size = 1) (hby : i.bytes = 1) (hzs : z.cells.size = 1) (p : Nat) (hp : p < w.heap.size)
    (A A' : Option Addr) (n m c : Nat) (xs ys : List Value) (hA : A = none → n = 0) (hA' : A' = none → m = 0) (hx : RN w p A n xs) (hy : RN w p A' m ys) (h1 : ∀ u ∈ ys, u.oneCell' = true)
    (h63 : n + m ≤ 140737488355328) :
    ∃ A2 c2 w', (Builtin.append_ #[t, t] ty #[.slice A n n, .slice A' m c]).run P w = .ok (.slice A2 (n + m) c2) w' ∧ n + m ≤ c2 ∧ (A2 = none → n + m = 0) ∧ RN w' p A2 (n + m) (xs ++ ys) ∧ Only (fun _ => False) w w' := by
  rcases Nat.eq_zero_or_pos m with rfl | hm
  · obtain rfl : ys = [] := List.eq_nil_of_length_eq_zero hy.r.1
    refine ⟨A, n, w, run_append_zero w t ty e i ht hi A A' n n c (Nat.le_refl _) (fun h => ⟨hA h, hA h⟩), Nat.le_refl _, hA, by simpa using hx, Only.refl _ _⟩
  · obtain ⟨v', w', hr, hown, hg⟩ := run_append_full w t ty e i z 1 ht hi hz hsize hby hzs A A' n m c _ _ xs ys hA hx.r hy.r h1 hm (by unfold maxLen; omega) (by omega)
    rcases hown.2 with ⟨_, h0⟩ | ⟨g, cap, cur, rfl, hge, _, hcap, _⟩
    · omega
    refine ⟨some ⟨g, 0, none⟩, cap, w', hr, hcap, fun h => (by cases h), ⟨Reads.of_own hown, fun _ a ha => ?_⟩, Only.of_grown hg⟩
    cases ha; show g ≠ p; omega
end Go.Proofs.YtpmikgbdicokhaaDoor
