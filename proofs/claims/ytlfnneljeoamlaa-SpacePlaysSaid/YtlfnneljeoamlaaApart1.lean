/-
  The law SpaceApart: its plain part, and what holds of the world in a round (1 of 4).
-/
import Derived.Test.YtlfnneljeoamlaaW6
import Derived.WalkKit
import Derived.WalkLawsBesides
import Derived.WalkSpells
import Derived.BigQuiet
import Derived.Deep.QuietTactic
import Derived.Deep.RegionHeld3
import Derived.Deep.LoopGhost
import Derived.Outline
import Derived.Lib.Hide
namespace Go.Proofs.Ytlfnneljeoamlaa
open Go.RowKit
set_option linter.unusedVariables false
/-! ### A loop whose invariant speaks of the frame's slots alone -/
theorem wp_loop_k {P : Program} {Q : Exit → Act → World → Prop} {a : Act} {w : World} {c : Code} (I : Act → World → Prop) (μ : Act → World → Nat) (h0 : I a w)
    (round : ∀ a w, I a w → ∀ K : Act → World → Prop, (∀ a' w', I a' w' ∧ μ a' w' < μ a w → K a' w') → c.wp P (Exit.then K Q) a w) : (Code.loop c).wp P Q a w :=
  wp_loop I μ h0 fun a w h => round a w h _ fun _ _ h => h
theorem tmps_lit (t : Array Value) (n : Nat) (h : t.size = n) : t = ((List.range n).map fun i => t.getD i undef).toArray := by
  subst h
  apply Array.ext_getElem?
  intro i
  by_cases hi : i < t.size
  · simp [hi]
  · simp [hi]
def firstLoop : Code → Option Code
  | .loop c => some c
  | .seq a b => match firstLoop a with
    | some c => some c
    | none => firstLoop b
  | .block _ c => firstLoop c
  | .scope c => firstLoop c
  | .cond _ a b => match firstLoop a with
    | some c => some c
    | none => firstLoop b
  | _ => none

/-- An act, as numbers. -/
structure ActV where
  do_ : Int
  disk : Int
  addr : Int

/-- The slice value .slice A n c reads as the acts. -/
def ActsAt (w : World) (A : Option Addr) (acts : List ActV) : Prop :=
  ∀ (k : Nat) (x : ActV), acts[k]? = some x → ∃ b off, A = some ⟨b, off, none⟩ ∧ b < w.heap.size ∧ w.cell? ⟨b, off + k * 3, none⟩ = some (.int .u8 x.do_) ∧ w.cell? ⟨b, off + k * 3 + 1, none⟩ = some (.int .i64 x.disk) ∧
    w.cell? ⟨b, off + k * 3 + 2, none⟩ = some (.int .u16 x.addr) ∧ 0 ≤ x.do_ ∧ x.do_ ≤ 255 ∧ 0 ≤ x.addr ∧ x.addr ≤ 65535

/-- 122 bools. -/
def bools (f : Nat → Bool) : Array Value := ((List.range 122).map fun i => Value.bool (f i)).toArray
theorem bools_get (f : Nat → Bool) (i : Nat) (h : i < 122) : (bools f)[i]? = some (.bool (f i)) := by
  unfold bools; rw [List.getElem?_toArray, List.getElem?_map, List.getElem?_range h]; rfl
theorem bools_set (f : Nat → Bool) (i : Nat) (v : Bool) : (bools f).setIfInBounds i (.bool v) = bools (fun j => if j = i then v else f j) := by
  unfold bools
  apply Array.ext_getElem?
  intro k
  simp only [List.setIfInBounds_toArray, List.getElem?_toArray, List.getElem?_set, List.length_map, List.length_range, List.getElem?_map]
  by_cases h : i = k
  · subst h
    by_cases hk : i < 122
    · simp [hk]
    · simp [hk]
  · rw [if_neg h]
    by_cases hk : k < 122
    · simp [List.getElem?_range hk, Ne.symm h]
    · simp [hk]
theorem zero29 (w : World) : (zeroValue 29).run Try.prog w = .ok (.agg (bools (fun _ => false))) w := by kernel_rfl

def At (w : World) (g : Nat) (f : Nat → Bool) : Prop := Blk w g 29 (bools f)
theorem At.cell {w : World} {g : Nat} {f : Nat → Bool} (h : At w g f) (i : Nat) (hi : i < 122) : w.cell? ⟨g, i, none⟩ = some (.bool (f i)) := by
  rw [Blk.cell h, bools_get f i hi]
theorem At.set_ {w : World} {g : Nat} {f : Nat → Bool} (h : At w g f) (i : Nat) (v : Bool) : At (w.setCell ⟨g, i, none⟩ (.bool v)) g (fun j => if j = i then v else f j) := by
  have := Blk.set_ h i (.bool v)
  unfold At; rw [← bools_set]; exact this

structure ApInv (n : Nat) (L : St) (fo fk fs : Nat → Bool) : Prop where
  len : ∀ j, j ≤ 1 → (L j).length = n
  ok : ∀ j, j ≤ 1 → Okl (L j)
  at_ : ∀ j, j ≤ 1 → ∀ a x, (L j)[a]? = some x → fo (j * 61 + a) = (x.1 == 1) ∧ fk (j * 61 + a) = (x.1 == 2) ∧ fs (j * 61 + a) = x.2

/-- The world in a round: the space, the three tables, the acts; below the call's own blocks nothing has turned. -/
structure ApW (n p o : Nat) (b : Nat → Nat) (A : Option Addr) (acts : List ActV) (w wr : World) : Prop where
  st : ∃ L fo fk fs, Sat wr p b L ∧ At wr o fo ∧ At wr (o + 1) fk ∧ At wr (o + 1 + 1) fs ∧ ApInv n L fo fk fs
  below : Below w.heap.size w wr
  geo : w.heap.size ≤ p ∧ p < o ∧ w.heap.size ≤ b 0 ∧ b 0 < o ∧ w.heap.size ≤ b 1 ∧ b 1 < o


noncomputable def body3 : Code := ((Try.f3.body.bind firstLoop).getD .skip)

/-- What holds at the head of each round. -/
structure ApI (n p o : Nat) (b : Nat → Nat) (A : Option Addr) (c : Nat) (acts : List ActV) (w : World) (k : Nat) (a : Act) (wr : World) : Prop where
  size : a.tmps.size = 239
  df : a.defers = []
  s0 : a.tmps.getD 0 undef = .int .i64 n
  s1 : a.tmps.getD 1 undef = .slice A acts.length c
  s5 : a.tmps.getD 5 undef = .pointer (some ⟨p, 0, none⟩)
  s7 : a.tmps.getD 7 undef = .pointer (some ⟨o, 0, none⟩)
  s8 : a.tmps.getD 8 undef = .pointer (some ⟨o + 1, 0, none⟩)
  s9 : a.tmps.getD 9 undef = .pointer (some ⟨o + 1 + 1, 0, none⟩)
  s10 : a.tmps.getD 10 undef = .int .i64 k
  le : k ≤ acts.length
  wd : ApW n p o b A acts w wr
def ApMu (acts : List ActV) (a : Act) (_ : World) : Nat := acts.length - (intOf (a.tmps.getD 10 undef)).toNat


/-! ### The plain law: the tables tell what each place is -/
def put (f : Nat → Bool) (i : Nat) (v : Bool) : Nat → Bool := fun x => if x = i then v else f x
theorem put_same (f : Nat → Bool) (i : Nat) (v : Bool) (h : f i = v) : put f i v = f := by
  funext x; unfold put; split
  · rename_i e; subst e; exact h.symm
  · rfl
theorem ApInv.set {n : Nat} {L : St} {fo fk fs : Nat → Bool} (h : ApInv n L fo fk fs) (hn : n ≤ 60) {j : Nat} (hj : j ≤ 1) {a : Nat} {x : Place} (hx : (L j)[a]? = some x) (y : Place) (hy : y.1 = 0 ∨ y.1 = 1 ∨ y.1 = 2) :
    ApInv n (L.upd j ((L j).set a y)) (put fo (j * 61 + a) (y.1 == 1)) (put fk (j * 61 + a) (y.1 == 2)) (put fs (j * 61 + a) y.2) := by
  have ha : a < n := by have := (List.getElem?_eq_some_iff.1 hx).1; rw [h.len j hj] at this; exact this
  refine ⟨fun i hi => ?_, fun i hi => ?_, fun i hi k z hz => ?_⟩
  · by_cases e : i = j
    · subst e; rw [St.upd_same, List.length_set]; exact h.len i hi
    · rw [St.upd_other _ _ e]; exact h.len i hi
  · by_cases e : i = j
    · subst e; rw [St.upd_same]
      intro z hz
      rcases List.mem_or_eq_of_mem_set hz with hz | rfl
      · exact h.ok i hi z hz
      · exact hy
    · rw [St.upd_other _ _ e]; exact h.ok i hi
  · by_cases e : i = j
    · subst e
      rw [St.upd_same, List.getElem?_set] at hz
      by_cases e2 : a = k
      · subst e2
        rw [if_pos rfl] at hz
        have : z = y := by
          split at hz
          · exact (Option.some.inj hz).symm
          · cases hz
        subst this
        simp [put]
      · rw [if_neg e2] at hz
        have hk : i * 61 + k ≠ i * 61 + a := by omega
        simp only [put, if_neg hk]
        exact h.at_ i hi k z hz
    · rw [St.upd_other _ _ e] at hz
      have hk : i * 61 + k ≠ j * 61 + a := by
        have := (List.getElem?_eq_some_iff.1 hz).1; rw [h.len i hi] at this
        have : i = 0 ∨ i = 1 := by omega
        have : j = 0 ∨ j = 1 := by omega
        omega
      simp only [put, if_neg hk]
      exact h.at_ i hi k z hz

/-- Give, Hold: what OK tells, and what becomes of the tables. -/
theorem turn_inv {n : Nat} {L : St} {fo fk fs : Nat → Bool} (h : ApInv n L fo fk fs) (hn : n ≤ 60) {j : Nat} (hj : j ≤ 1) (a : Nat) (t : Int) (ht : t = 0 ∨ t = 1 ∨ t = 2) :
    (((turnAt 1 t L j a).1 == 0) = false ∧ (turnAt 1 t L j a).2 = L) ∨
    (((turnAt 1 t L j a).1 == 0) = true ∧ 1 ≤ a ∧ a < n ∧ fo (j * 61 + a) = true ∧ fk (j * 61 + a) = false ∧ ApInv n (turnAt 1 t L j a).2 (put fo (j * 61 + a) (t == 1)) (put fk (j * 61 + a) (t == 2)) fs) := by
  unfold turnAt
  by_cases h0 : a = 0 ∨ (L j).length ≤ a
  · rw [if_pos h0]; left; exact ⟨rfl, rfl⟩
  · rw [if_neg h0]
    have hl := h.len j hj
    obtain ⟨x, hx⟩ : ∃ x, (L j)[a]? = some x := ⟨(L j)[a]'(by omega), List.getElem?_eq_getElem _⟩
    rw [hx]
    by_cases h1 : x.1 = 1
    · right
      simp only [if_pos h1]
      obtain ⟨e1, e2, e3⟩ := h.at_ j hj a x hx
      have hs := h.set hn hj hx (t, x.2) ht
      rw [put_same fs _ _ e3] at hs
      exact ⟨rfl, by omega, by omega, by rw [e1, h1]; rfl, by rw [e2, h1]; rfl, hs⟩
    · left
      simp only [if_neg h1]
      exact ⟨rfl, trivial⟩
theorem sick_inv {n : Nat} {L : St} {fo fk fs : Nat → Bool} (h : ApInv n L fo fk fs) (hn : n ≤ 60) {j : Nat} (hj : j ≤ 1) (a : Nat) :
    (((sickAt L j a).1 == 0) = false ∧ (sickAt L j a).2 = L) ∨
    (((sickAt L j a).1 == 0) = true ∧ 1 ≤ a ∧ a < n ∧ ApInv n (sickAt L j a).2 fo fk (put fs (j * 61 + a) true)) := by
  unfold sickAt
  by_cases h0 : a = 0 ∨ (L j).length ≤ a
  · rw [if_pos h0]; left; exact ⟨rfl, rfl⟩
  · rw [if_neg h0]
    have hl := h.len j hj
    obtain ⟨x, hx⟩ : ∃ x, (L j)[a]? = some x := ⟨(L j)[a]'(by omega), List.getElem?_eq_getElem _⟩
    rw [hx]
    right
    obtain ⟨e1, e2, e3⟩ := h.at_ j hj a x hx
    have hs := h.set hn hj hx (x.1, true) (h.ok j hj x (List.mem_of_getElem? hx))
    rw [put_same fo _ _ e1, put_same fk _ _ e2] at hs
    exact ⟨rfl, by omega, by omega, hs⟩
theorem release_inv {n : Nat} {L : St} {fo fk fs : Nat → Bool} (h : ApInv n L fo fk fs) : ApInv n (allAt 0 L) fo (fun _ => false) fs := by
  refine ⟨fun j hj => ?_, fun j hj => ?_, fun j hj a x hx => ?_⟩
  · simp [allAt, hj, freed, h.len j hj]
  · intro x hx
    simp only [allAt, if_pos hj, freed, List.mem_map] at hx
    obtain ⟨y, hy, rfl⟩ := hx
    split
    · left; rfl
    · exact h.ok j hj y hy
  · simp only [allAt, if_pos hj, freed, List.getElem?_map, Option.map_eq_some_iff] at hx
    obtain ⟨y, hy, rfl⟩ := hx
    obtain ⟨e1, e2, e3⟩ := h.at_ j hj a y hy
    split
    · rename_i h2
      rw [h2] at e1
      exact ⟨e1, rfl, e3⟩
    · rename_i h2
      exact ⟨e1, by simpa using h2, e3⟩
/-- Alloc: what it tells, and what becomes of the tables. -/
theorem alloc_inv {n : Nat} {L : St} {fo fk fs : Nat → Bool} (h : ApInv n L fo fk fs) (hn : n ≤ 60) {j : Nat} (hj : j ≤ 1) :
    (∀ m, 1 ≤ m → m < n → (firstFrom 0 (L j) = 0 ∨ m < firstFrom 0 (L j)) → (fo (j * 61 + m) || fk (j * 61 + m) || fs (j * 61 + m)) = true) ∧
    ((firstFrom 0 (L j) = 0 ∧ allocAt L j = L) ∨
     (1 ≤ firstFrom 0 (L j) ∧ firstFrom 0 (L j) < n ∧ fo (j * 61 + firstFrom 0 (L j)) = false ∧ fk (j * 61 + firstFrom 0 (L j)) = false ∧ fs (j * 61 + firstFrom 0 (L j)) = false ∧
       ApInv n (allocAt L j) (put fo (j * 61 + firstFrom 0 (L j)) true) fk fs)) := by
  have hsp := firstFrom_spec (L j)
  have hl := h.len j hj
  constructor
  · intro m h1 h2 h3
    obtain ⟨x, hx⟩ : ∃ x, (L j)[m]? = some x := ⟨(L j)[m]'(by omega), List.getElem?_eq_getElem _⟩
    obtain ⟨e1, e2, e3⟩ := h.at_ j hj m x hx
    have hn : ¬ (0 < m ∧ x.1 = 0 ∧ x.2 = false) := by
      rcases hsp with hs | hs
      · exact hs.2 m x hx
      · exact hs.2.1 m x (by omega) hx
    rw [e1, e2, e3]
    rcases h.ok j hj x (List.mem_of_getElem? hx) with h0 | h0 | h0
    · have : x.2 = true := by
        cases hx2 : x.2 with
        | true => rfl
        | false => exact absurd ⟨by omega, h0, hx2⟩ hn
      simp [this]
    · simp [h0]
    · simp [h0]
  · unfold allocAt
    rcases hsp with hs | hs
    · left; rw [if_pos hs.1]; exact ⟨hs.1, rfl⟩
    · right
      obtain ⟨h1, _, h3⟩ := hs
      rw [if_neg (by omega)]
      obtain ⟨e1, e2, e3⟩ := h.at_ j hj _ _ h3
      have hlt := (List.getElem?_eq_some_iff.1 h3).1
      have hs := h.set hn hj h3 (1, false) (by simp)
      rw [put_same fk (j * 61 + firstFrom 0 (L j)) (((1, false) : Place).1 == 2) (e2.trans rfl), put_same fs (j * 61 + firstFrom 0 (L j)) ((1, false) : Place).2 (e3.trans rfl)] at hs
      exact ⟨h1, by omega, e1, e2, e3, hs⟩
theorem At.only {w w' : World} {g : Nat} {f : Nat → Bool} {S : Nat → Prop} (h : At w g f) (ho : Only S w w') (hg : ¬ S g) : At w' g f := Blk.only h ho hg
theorem At.frozen {w : World} {g : Nat} {f : Nat → Bool} (h : At w g f) (i : Nat) : w.frozen? ⟨g, i, none⟩ = false := Blk.frozen h i

theorem At.far {w : World} {g : Nat} {f : Nat → Bool} (h : At w g f) {q : Addr} (hq : g ≠ q.block) (u : Value) : At (w.setCell q u) g f := Blk.far h hq u

/-- Count: the three numbers come to one less than the places. -/
theorem howMany_sum (l : List Place) (h : Okl l) (h1 : 1 ≤ l.length) : howMany (isq 0) l + howMany (isq 1) l + howMany (isq 2) l + 1 = l.length := by
  have key : ∀ l : List Place, Okl l → l.countP (isq 0) + l.countP (isq 1) + l.countP (isq 2) = l.length := by
    intro l
    induction l with
    | nil => intro _; rfl
    | cons x l ih =>
      intro h
      have h1 := ih fun y hy => h y (List.mem_cons_of_mem _ hy)
      have hx := h x (List.mem_cons_self ..)
      simp only [List.countP_cons, List.length_cons]
      rcases hx with hx | hx | hx <;> simp [isq, hx] <;> omega
  cases l with
  | nil => simp at h1
  | cons x l =>
    unfold howMany
    simp only [List.drop_succ_cons, List.drop_zero, List.length_cons]
    rw [key l fun y hy => h y (List.mem_cons_of_mem _ hy)]

theorem count_sum {w : World} {p : Nat} {b : Nat → Nat} {L : St} (hs : Sat w p b L) {j : Nat} (hj : j ≤ 1) (hok : Okl (L j)) (n : Nat) (hn : (L j).length = n) (h1 : 1 ≤ n) :
    Calls Try.prog 13 #[.pointer (some ⟨p, 0, none⟩), .int .i64 j] w fun e w' => ∃ c0 c1 c2 c3 : Nat, e = .returned (.agg #[.int .i64 c0, .int .i64 c1, .int .i64 c2, .int .i64 c3]) ∧ c0 + c1 + c2 + 1 ≤ n ∧ n ≤ c0 + c1 + c2 + 1 ∧ Only (fun _ => False) w w' := by
  refine (count_in hs hj hok).mono ?_
  rintro e w' ⟨rfl, ho⟩
  have := howMany_sum (L j) hok (by omega)
  exact ⟨_, _, _, _, rfl, by omega, by omega, ho⟩

/-- What a round needs to know of the world it starts in. -/
structure RW (n p o : Nat) (b : Nat → Nat) (w wr : World) (L : St) (fo fk fs : Nat → Bool) : Prop where
  sat : Sat wr p b L
  out : At wr o fo
  kept : At wr (o + 1) fk
  sick : At wr (o + 1 + 1) fs
  inv : ApInv n L fo fk fs
  below : Below w.heap.size w wr
  geo : w.heap.size ≤ p ∧ p < o ∧ w.heap.size ≤ b 0 ∧ b 0 < o ∧ w.heap.size ≤ b 1 ∧ b 1 < o

theorem RW.apw {n p o : Nat} {b : Nat → Nat} {A : Option Addr} {acts : List ActV} {w wr : World} {L : St} {fo fk fs : Nat → Bool} (h : RW n p o b w wr L fo fk fs) : ApW n p o b A acts w wr :=
  ⟨⟨L, fo, fk, fs, h.sat, h.out, h.kept, h.sick, h.inv⟩, h.below, h.geo⟩
theorem RW.alloc {n p o : Nat} {b : Nat → Nat} {w wr : World} {L : St} {fo fk fs : Nat → Bool} (h : RW n p o b w wr L fo fk fs) (ob : Obj) : RW n p o b w (wr.alloc ob) L fo fk fs :=
  ⟨h.sat.alloc ob, Blk.alloc h.out ob, Blk.alloc h.kept ob, Blk.alloc h.sick ob, h.inv, h.below.alloc h.below.size ob, h.geo⟩
theorem RW.drewN {n p o : Nat} {b : Nat → Nat} {w wr : World} {L : St} {fo fk fs : Nat → Bool} (h : RW n p o b w wr L fo fk fs) (m : Nat) : RW n p o b w (wr.drewN m) L fo fk fs :=
  ⟨h.sat.drewN m, h.out, h.kept, h.sick, h.inv, ⟨h.below.os, h.below.tape, h.below.output, h.below.size, h.below.block⟩, h.geo⟩
theorem RW.drew {n p o : Nat} {b : Nat → Nat} {w wr : World} {L : St} {fo fk fs : Nat → Bool} (h : RW n p o b w wr L fo fk fs) : RW n p o b w wr.drew L fo fk fs := h.drewN 1
theorem RW.none_ {n p o : Nat} {b : Nat → Nat} {w wr w' : World} {L : St} {fo fk fs : Nat → Bool} (h : RW n p o b w wr L fo fk fs) (ho : Only (fun _ => False) wr w') : RW n p o b w w' L fo fk fs :=
  ⟨h.sat.only ho (fun x => x) (fun x => x) (fun x => x), h.out.only ho (fun x => x), h.kept.only ho (fun x => x), h.sick.only ho (fun x => x), h.inv, h.below.trans (ho.below h.below.size (fun _ _ x => x)), h.geo⟩
/-- Behind a call on the space: the tables are as they were. -/
theorem RW.call {n p o : Nat} {b : Nat → Nat} {w wr w' : World} {L L' : St} {fo fk fs : Nat → Bool} (h : RW n p o b w wr L fo fk fs) (hs : Sat w' p b L') (ho : Only (Rows2 b) wr w') :
    Sat w' p b L' ∧ At w' o fo ∧ At w' (o + 1) fk ∧ At w' (o + 1 + 1) fs ∧ Below w.heap.size w w' := by
  obtain ⟨g1, g2, g3, g4, g5, g6⟩ := h.geo
  refine ⟨hs, h.out.only ho ?_, h.kept.only ho ?_, h.sick.only ho ?_, h.below.trans (ho.below h.below.size ?_)⟩
  · rintro (e | e) <;> omega
  · rintro (e | e) <;> omega
  · rintro (e | e) <;> omega
  · rintro k hk (e | e) <;> omega


/-- A whole table is stored over another one. -/
theorem store_table {P : Program} {w : World} {g : Nat} {f : Nat → Bool} (f' : Nat → Bool) (h : At w g f) :
    ∃ w', (storeCells ⟨g, 0, none⟩ (bools f').toList).run P w = .ok () w' ∧ At w' g f' ∧ Only (· = g) w w' := by
  have hlen : ∀ f, (bools f).size = 122 := by intro f; simp [bools]
  have hr := run_storeCells_at P g 0 29 (bools f').toList 0 (bools f) w h (by simp [hlen]) (by intro v hv; simp [bools] at hv; obtain ⟨a, _, rfl⟩ := hv; rfl)
  refine ⟨_, hr, ?_, ?_⟩
  · have := setRow_heap w g (bools f) ((bools f).toList.take (0 + 0) ++ (bools f').toList ++ (bools f).toList.drop (0 + 0 + (bools f').toList.length)).toArray 29 (0, 0) h
    have e : ((bools f).toList.take (0 + 0) ++ (bools f').toList ++ (bools f).toList.drop (0 + 0 + (bools f').toList.length)).toArray = bools f' := by
      have : (bools f).toList.drop (0 + 0 + (bools f').toList.length) = [] := List.drop_eq_nil_of_le (by simp [hlen])
      rw [this]; simp
    rw [e] at this ⊢
    exact this
  · exact ⟨rfl, rfl, rfl, by simp [World.setRow], fun k _ hk => setRow_other w g k _ hk⟩
end Go.Proofs.Ytlfnneljeoamlaa
