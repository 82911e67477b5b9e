/-
  The plain model of a space: two rows of places, and what each call does to them; and the words that say that a world's memory holds such a space.
-/
import Derived.Test.YtlfnneljeoamlaaBase
namespace Go.Proofs.Ytlfnneljeoamlaa
open Go.RowKit

/-- A place: what it is (0 free, 1 used, 2 held), whether it is sick. -/
abbrev Place := Int × Bool
def cellsOf (l : List Place) : List Value := l.flatMap fun x => [Value.int .i64 x.1, Value.bool x.2]

theorem cellsOf_cons (x : Place) (l : List Place) : cellsOf (x :: l) = Value.int .i64 x.1 :: Value.bool x.2 :: cellsOf l := by simp [cellsOf]

theorem cellsOf_get (l : List Place) : ∀ (k : Nat), (cellsOf l)[k * 2]? = (l[k]?).map (fun x => Value.int .i64 x.1) ∧ (cellsOf l)[k * 2 + 1]? = (l[k]?).map (fun x => Value.bool x.2) := by
  induction l with
  | nil => intro k; simp [cellsOf]
  | cons x l ih =>
    intro k
    cases k with
    | zero => simp [cellsOf]
    | succ k =>
      obtain ⟨h1, h2⟩ := ih k
      rw [cellsOf_cons, show (k + 1) * 2 = k * 2 + 1 + 1 by omega]
      simp [h1, h2]

theorem cellsOf_set (l : List Place) : ∀ (k : Nat) (x : Place), l[k]? = some x → ∀ (v : Int) (b : Bool),
    (cellsOf l).set (k * 2) (.int .i64 v) = cellsOf (l.set k (v, x.2)) ∧ (cellsOf l).set (k * 2 + 1) (.bool b) = cellsOf (l.set k (x.1, b)) := by
  induction l with
  | nil => intro k x h; simp at h
  | cons y l ih =>
    intro k x h v b
    cases k with
    | zero =>
      simp at h
      subst h
      simp [cellsOf]
    | succ k =>
      obtain ⟨h1, h2⟩ := ih k x (by simpa using h) v b
      rw [cellsOf_cons, show (k + 1) * 2 = k * 2 + 1 + 1 by omega]
      simp [h1, h2, cellsOf_cons]

/-- Block g holds the places of l. -/
def Row (w : World) (g : Nat) (l : List Place) : Prop := Blk w g 57 (cellsOf l).toArray

theorem Row.place {w : World} {g : Nat} {l : List Place} (h : Row w g l) {k : Nat} {x : Place} (hk : l[k]? = some x) :
    w.cell? ⟨g, k * 2, none⟩ = some (.int .i64 x.1) ∧ w.cell? ⟨g, k * 2 + 1, none⟩ = some (.bool x.2) := by
  obtain ⟨h1, h2⟩ := cellsOf_get l k
  constructor
  · rw [Blk.cell h, List.getElem?_toArray, h1, hk]; rfl
  · rw [Blk.cell h, List.getElem?_toArray, h2, hk]; rfl

theorem Row.set_is {w : World} {g : Nat} {l : List Place} (h : Row w g l) {k : Nat} {x : Place} (hk : l[k]? = some x) (v : Int) :
    Row (w.setCell ⟨g, k * 2, none⟩ (.int .i64 v)) g (l.set k (v, x.2)) := by
  have := Blk.set_ h (k * 2) (.int .i64 v)
  unfold Row
  rw [← (cellsOf_set l k x hk v false).1]
  simpa using this

theorem Row.set_sick {w : World} {g : Nat} {l : List Place} (h : Row w g l) {k : Nat} {x : Place} (hk : l[k]? = some x) (b : Bool) :
    Row (w.setCell ⟨g, k * 2 + 1, none⟩ (.bool b)) g (l.set k (x.1, b)) := by
  have := Blk.set_ h (k * 2 + 1) (.bool b)
  unfold Row
  rw [← (cellsOf_set l k x hk 0 b).2]
  simpa using this

/-- Two rows. -/
abbrev St := Nat → List Place
def St.upd (L : St) (j : Nat) (l : List Place) : St := fun i => if i = j then l else L i
@[simp] theorem St.upd_same (L : St) (j : Nat) (l : List Place) : L.upd j l j = l := by simp [St.upd]
theorem St.upd_other (L : St) {i j : Nat} (l : List Place) (h : i ≠ j) : L.upd j l i = L i := by simp [St.upd, h]
theorem St.upd_eq (L : St) (j : Nat) : L.upd j (L j) = L := by funext i; unfold St.upd; split <;> simp_all

/-- The world holds a space at block p: its rows lie in the blocks b 0 and b 1. -/
structure Sat (w : World) (p : Nat) (b : Nat → Nat) (L : St) : Prop where
  hd : Blk w p 52 #[.slice (some ⟨b 0, 0, none⟩) (L 0).length (L 0).length, .slice (some ⟨b 1, 0, none⟩) (L 1).length (L 1).length]
  row : ∀ j, j ≤ 1 → Row w (b j) (L j)
  len : ∀ j, j ≤ 1 → (L j).length ≤ 4096
  ne : b 0 ≠ b 1 ∧ p ≠ b 0 ∧ p ≠ b 1

theorem Sat.slice {w : World} {p : Nat} {b : Nat → Nat} {L : St} (h : Sat w p b L) {j : Nat} (hj : j ≤ 1) :
    w.cell? ⟨p, j, none⟩ = some (.slice (some ⟨b j, 0, none⟩) (L j).length (L j).length) := by
  rw [Blk.cell h.hd]
  have : j = 0 ∨ j = 1 := by omega
  rcases this with rfl | rfl <;> rfl

/-- The blocks that a call on a space may turn. -/
def Rows2 (b : Nat → Nat) (k : Nat) : Prop := k = b 0 ∨ k = b 1

theorem Rows2.of {b : Nat → Nat} {j : Nat} (hj : j ≤ 1) : Rows2 b (b j) := by
  have : j = 0 ∨ j = 1 := by omega
  rcases this with rfl | rfl
  · exact .inl rfl
  · exact .inr rfl

theorem Sat.only {w w' : World} {p : Nat} {b : Nat → Nat} {L : St} {S : Nat → Prop} (h : Sat w p b L) (ho : Only S w w') (h0 : ¬ S (b 0)) (h1 : ¬ S (b 1)) (hp : ¬ S p) : Sat w' p b L :=
  ⟨h.hd.only ho hp, fun j hj => by
    have hj' : j = 0 ∨ j = 1 := by omega
    rcases hj' with rfl | rfl
    · exact Blk.only (h.row 0 hj) ho h0
    · exact Blk.only (h.row 1 hj) ho h1, h.len, h.ne⟩

theorem Sat.drewN {w : World} {p : Nat} {b : Nat → Nat} {L : St} (h : Sat w p b L) (n : Nat) : Sat (w.drewN n) p b L := ⟨h.hd, h.row, h.len, h.ne⟩
theorem Sat.drew {w : World} {p : Nat} {b : Nat → Nat} {L : St} (h : Sat w p b L) : Sat w.drew p b L := ⟨h.hd, h.row, h.len, h.ne⟩
theorem Sat.alloc {w : World} {p : Nat} {b : Nat → Nat} {L : St} (h : Sat w p b L) (o : Obj) : Sat (w.alloc o) p b L :=
  ⟨h.hd.alloc o, fun j hj => Blk.alloc (h.row j hj) o, h.len, h.ne⟩

theorem Sat.of_row {w w' : World} {p : Nat} {b : Nat → Nat} {L : St} (h : Sat w p b L) {j : Nat} (hj : j ≤ 1) {a : Addr} (ha : a.block = b j) {u : Value} (hw : w' = w.setCell a u) {l : List Place}
    (hl : l.length = (L j).length) (hr : Row w' (b j) l) : Sat w' p b (L.upd j l) := by
  subst hw
  have hne := h.ne
  have hj' : j = 0 ∨ j = 1 := by omega
  have hlen : ∀ i, (L.upd j l i).length = (L i).length := fun i => by unfold St.upd; split <;> simp_all
  refine ⟨?_, fun i hi => ?_, fun i hi => by rw [hlen]; exact h.len i hi, hne⟩
  · rw [hlen, hlen]
    exact h.hd.far (by rw [ha]; rcases hj' with rfl | rfl; exact hne.2.1; exact hne.2.2) u
  · by_cases hij : i = j
    · subst hij; rw [St.upd_same]; exact hr
    · rw [St.upd_other _ _ hij]
      refine Blk.far (h.row i hi) ?_ u
      rw [ha]
      have : i = 0 ∨ i = 1 := by omega
      rcases hj' with rfl | rfl <;> rcases this with rfl | rfl
      · exact absurd rfl hij
      · exact fun e => hne.1 e.symm
      · exact hne.1
      · exact absurd rfl hij

theorem Sat.set_is {w : World} {p : Nat} {b : Nat → Nat} {L : St} (h : Sat w p b L) {j : Nat} (hj : j ≤ 1) {k : Nat} {x : Place} (hk : (L j)[k]? = some x) (v : Int) :
    Sat (w.setCell ⟨b j, k * 2, none⟩ (.int .i64 v)) p b (L.upd j ((L j).set k (v, x.2))) :=
  h.of_row hj rfl rfl (by simp) ((h.row j hj).set_is hk v)
theorem Sat.set_sick {w : World} {p : Nat} {b : Nat → Nat} {L : St} (h : Sat w p b L) {j : Nat} (hj : j ≤ 1) {k : Nat} {x : Place} (hk : (L j)[k]? = some x) (v : Bool) :
    Sat (w.setCell ⟨b j, k * 2 + 1, none⟩ (.bool v)) p b (L.upd j ((L j).set k (x.1, v))) :=
  h.of_row hj rfl rfl (by simp) ((h.row j hj).set_sick hk v)

/-! ### What the calls do -/

/-- The first index from i on at which a place may be given out; 0: there is none. -/
def firstFrom : Nat → List Place → Nat
  | _, [] => 0
  | i, x :: l => if 0 < i ∧ x.1 = 0 ∧ x.2 = false then i else firstFrom (i + 1) l

theorem firstFrom_skip (i : Nat) (l : List Place) (k : Nat) (h : ∀ m x, m < k → l[m]? = some x → ¬ (0 < i + m ∧ x.1 = 0 ∧ x.2 = false)) (hk : k ≤ l.length) : firstFrom i l = firstFrom (i + k) (l.drop k) := by
  induction k generalizing i l with
  | zero => simp
  | succ k ih =>
    cases l with
    | nil => simp at hk
    | cons x l =>
      rw [firstFrom, if_neg (by simpa using h 0 x (by omega) rfl), ih (i + 1) l (fun m y hm hy => by have := h (m + 1) y (by omega) (by simpa using hy); rwa [show i + 1 + m = i + (m + 1) by omega]) (by simpa using hk)]
      simp [Nat.add_assoc, Nat.add_comm 1 k]

theorem firstFrom_hit {i : Nat} {l : List Place} {x : Place} (h : l[i]? = some x) (hx : 0 < i ∧ x.1 = 0 ∧ x.2 = false) : firstFrom i (l.drop i) = i := by
  obtain ⟨hlt, he⟩ := List.getElem?_eq_some_iff.1 h
  rw [List.drop_eq_getElem_cons hlt, he, firstFrom, if_pos hx]

/-- What firstFrom 0 finds. -/
theorem firstFrom_spec (l : List Place) : (firstFrom 0 l = 0 ∧ ∀ m x, l[m]? = some x → ¬ (0 < m ∧ x.1 = 0 ∧ x.2 = false)) ∨
    (0 < firstFrom 0 l ∧ (∀ m x, m < firstFrom 0 l → l[m]? = some x → ¬ (0 < m ∧ x.1 = 0 ∧ x.2 = false)) ∧ l[firstFrom 0 l]? = some (0, false)) := by
  have key : ∀ (l : List Place) (i : Nat), (firstFrom i l = 0 ∧ ∀ m x, l[m]? = some x → ¬ (0 < i + m ∧ x.1 = 0 ∧ x.2 = false)) ∨
      (0 < firstFrom i l ∧ ∃ k, firstFrom i l = i + k ∧ (∀ m x, m < k → l[m]? = some x → ¬ (0 < i + m ∧ x.1 = 0 ∧ x.2 = false)) ∧ l[k]? = some (0, false)) := by
    intro l
    induction l with
    | nil => intro i; left; simp [firstFrom]
    | cons y l ih =>
      intro i
      rw [firstFrom]
      split
      · rename_i h
        right
        refine ⟨h.1, 0, rfl, by omega, ?_⟩
        obtain ⟨h1, h2, h3⟩ := h
        cases y; simp_all
      · rename_i h
        rcases ih (i + 1) with ⟨h1, h2⟩ | ⟨h1, k, h2, h3, h4⟩
        · left
          refine ⟨h1, fun m x hm => ?_⟩
          cases m with
          | zero => simp at hm; subst hm; simpa using h
          | succ m => have := h2 m x (by simpa using hm); rwa [show i + 1 + m = i + (m + 1) by omega] at this
        · right
          refine ⟨h1, k + 1, by omega, fun m x hm hx => ?_, by simpa using h4⟩
          cases m with
          | zero => simp at hx; subst hx; simpa using h
          | succ m => have := h3 m x (by omega) (by simpa using hx); rwa [show i + 1 + m = i + (m + 1) by omega] at this
  rcases key l 0 with ⟨h1, h2⟩ | ⟨h1, k, h2, h3, h4⟩
  · left; exact ⟨h1, fun m x hm => by simpa using h2 m x hm⟩
  · right
    have : firstFrom 0 l = k := by omega
    rw [this] at h1 ⊢
    exact ⟨h1, fun m x hm hx => by simpa using h3 m x hm hx, h4⟩

/-- Alloc: the address, the rows behind. -/
def allocAt (L : St) (j : Nat) : St := if firstFrom 0 (L j) = 0 then L else L.upd j ((L j).set (firstFrom 0 (L j)) (1, false))

/-- turn an address from one thing into another: the error's number, the rows behind. -/
def turnAt (f t : Int) (L : St) (j a : Nat) : Int × St :=
  if a = 0 ∨ (L j).length ≤ a then (1, L) else match (L j)[a]? with
    | some x => if x.1 = f then (0, L.upd j ((L j).set a (t, x.2))) else (5, L)
    | none => (1, L)
def sickAt (L : St) (j a : Nat) : Int × St :=
  if a = 0 ∨ (L j).length ≤ a then (1, L) else match (L j)[a]? with
    | some x => (0, L.upd j ((L j).set a (x.1, true)))
    | none => (1, L)

/-- All that is held becomes t. -/
def freed (t : Int) (l : List Place) : List Place := l.map fun x => if x.1 = 2 then (t, x.2) else x
def allAt (t : Int) (L : St) : St := fun j => if j ≤ 1 then freed t (L j) else L j

/-- How many addresses but the first one satisfy a test. -/
def howMany (q : Place → Bool) (l : List Place) : Nat := (l.drop 1).countP q
end Go.Proofs.Ytlfnneljeoamlaa
