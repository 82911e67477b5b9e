/-
  The plain law of SpacePlays: the space's rows and the reference's lists say the same, and go on to do so. No program in sight.
-/
import Derived.Test.YtlfnneljeoamlaaRef3
namespace Go.Proofs.Ytlfnneljeoamlaa
open Go.RowKit
set_option linter.unusedVariables false

structure Rel (l : List Place) (d : Rd) : Prop where
  n : d.n = l.length
  u : ∀ a, a ∈ d.u ↔ 1 ≤ a ∧ ∃ p, l[a]? = some p ∧ p.1 = 1
  h : ∀ a, a ∈ d.h ↔ 1 ≤ a ∧ ∃ p, l[a]? = some p ∧ p.1 = 2
  s : ∀ a, a ∈ d.s ↔ 1 ≤ a ∧ ∃ p, l[a]? = some p ∧ p.2 = true
  nu : d.u.Nodup
  nh : d.h.Nodup
  ns : d.s.Nodup
  z : l[0]? = some (0, false)
  ok : Okl l

theorem mem_less {l : List Nat} {x a : Nat} : a ∈ less l x ↔ a ∈ l ∧ a ≠ x := by
  unfold less; simp [List.mem_filter]
theorem nodup_less {l : List Nat} (h : l.Nodup) (x : Nat) : (less l x).Nodup := h.filter _
theorem nodup_snoc {l : List Nat} (h : l.Nodup) {x : Nat} (hx : x ∉ l) : (l ++ [x]).Nodup := by
  rw [List.nodup_append]
  refine ⟨h, by simp, ?_⟩
  intro a ha b hb e
  rw [List.mem_singleton] at hb
  subst hb; subst e; exact hx ha
theorem mem_snoc {l : List Nat} {x a : Nat} : a ∈ l ++ [x] ↔ a ∈ l ∨ a = x := by simp
theorem set_get {l : List Place} {k a : Nat} {p p' : Place} (hk : l[k]? = some p) : (l.set k p')[a]? = if a = k then some p' else l[a]? := by
  obtain ⟨hlt, _⟩ := List.getElem?_eq_some_iff.1 hk
  rw [List.getElem?_set]
  by_cases h : k = a
  · subst h; simp [hlt]
  · rw [if_neg h, if_neg (fun e : a = k => h e.symm)]
theorem okl_set {l : List Place} (h : Okl l) {k : Nat} {p : Place} (hp : p.1 = 0 ∨ p.1 = 1 ∨ p.1 = 2) : Okl (l.set k p) := by
  intro x hx
  rcases List.mem_or_eq_of_mem_set hx with h1 | h1
  · exact h x h1
  · subst h1; exact hp
theorem Rel.at_ {l : List Place} {d : Rd} (hR : Rel l d) {x : Nat} {p : Place} (hx : l[x]? = some p) (h1 : 1 ≤ x) : (x ∈ d.u ↔ p.1 = 1) ∧ (x ∈ d.h ↔ p.1 = 2) ∧ (x ∈ d.s ↔ p.2 = true) := by
  refine ⟨(hR.u x).trans ⟨?_, ?_⟩, (hR.h x).trans ⟨?_, ?_⟩, (hR.s x).trans ⟨?_, ?_⟩⟩
  · rintro ⟨_, q, hq, e⟩; rw [hx] at hq; cases hq; exact e
  · exact fun e => ⟨h1, p, hx, e⟩
  · rintro ⟨_, q, hq, e⟩; rw [hx] at hq; cases hq; exact e
  · exact fun e => ⟨h1, p, hx, e⟩
  · rintro ⟨_, q, hq, e⟩; rw [hx] at hq; cases hq; exact e
  · exact fun e => ⟨h1, p, hx, e⟩
/-- A place is turned, and the lists with it. -/
theorem Rel.set_ {l : List Place} {d d' : Rd} (hR : Rel l d) {x : Nat} {p p' : Place} (hx : l[x]? = some p) (h1 : 1 ≤ x) (hp : p'.1 = 0 ∨ p'.1 = 1 ∨ p'.1 = 2) (hn : d'.n = d.n)
    (hu : ∀ a, a ≠ x → (a ∈ d'.u ↔ a ∈ d.u)) (hh : ∀ a, a ≠ x → (a ∈ d'.h ↔ a ∈ d.h)) (hs : ∀ a, a ≠ x → (a ∈ d'.s ↔ a ∈ d.s)) (xu : x ∈ d'.u ↔ p'.1 = 1) (xh : x ∈ d'.h ↔ p'.1 = 2) (xs : x ∈ d'.s ↔ p'.2 = true)
    (nu : d'.u.Nodup) (nh : d'.h.Nodup) (ns : d'.s.Nodup) : Rel (l.set x p') d' := by
  have key : ∀ (m' m : List Nat) (f : Place → Prop), (∀ a, a ∈ m ↔ 1 ≤ a ∧ ∃ p, l[a]? = some p ∧ f p) → (∀ a, a ≠ x → (a ∈ m' ↔ a ∈ m)) → (x ∈ m' ↔ f p') → ∀ a, a ∈ m' ↔ 1 ≤ a ∧ ∃ p, (l.set x p')[a]? = some p ∧ f p := by
    intro m' m f hm hne hx' a
    rw [set_get hx]
    by_cases ha : a = x
    · subst ha
      rw [if_pos rfl, hx']
      exact ⟨fun h => ⟨h1, _, rfl, h⟩, fun ⟨_, q, hq, h⟩ => by cases hq; exact h⟩
    · rw [if_neg ha, hne a ha, hm a]
  exact ⟨by rw [hn, hR.n, List.length_set], key _ _ (fun p => p.1 = 1) hR.u hu xu, key _ _ (fun p => p.1 = 2) hR.h hh xh, key _ _ (fun p => p.2 = true) hR.s hs xs, nu, nh, ns, by rw [set_get hx, if_neg (by omega)]; exact hR.z, okl_set hR.ok hp⟩

/-- turn, on one row. -/
def turnL (f t : Int) (l : List Place) (a : Nat) : Int × List Place :=
  if a = 0 ∨ l.length ≤ a then (1, l) else match l[a]? with
    | some x => if x.1 = f then (0, l.set a (t, x.2)) else (5, l)
    | none => (1, l)
def sickL (l : List Place) (a : Nat) : Int × List Place :=
  if a = 0 ∨ l.length ≤ a then (1, l) else match l[a]? with
    | some x => (0, l.set a (x.1, true))
    | none => (1, l)
theorem turnAt_eq (f t : Int) (L : St) (j a : Nat) : turnAt f t L j a = ((turnL f t (L j) a).1, L.upd j (turnL f t (L j) a).2) := by
  unfold turnAt turnL
  by_cases hb : a = 0 ∨ (L j).length ≤ a
  · rw [if_pos hb, if_pos hb, St.upd_eq]
  · rw [if_neg hb, if_neg hb]
    cases hx : (L j)[a]? with
    | none => show _ = (_, L.upd j (L j)); rw [St.upd_eq]
    | some x =>
      by_cases h1 : x.1 = f
      · simp only [h1, if_true]
      · simp only [h1, if_false]; rw [St.upd_eq]
theorem sickAt_eq (L : St) (j a : Nat) : sickAt L j a = ((sickL (L j) a).1, L.upd j (sickL (L j) a).2) := by
  unfold sickAt sickL
  by_cases hb : a = 0 ∨ (L j).length ≤ a
  · rw [if_pos hb, if_pos hb, St.upd_eq]
  · rw [if_neg hb, if_neg hb]
    cases hx : (L j)[a]? with
    | none => show _ = (_, L.upd j (L j)); rw [St.upd_eq]
    | some x => rfl
theorem bad_at {l : List Place} {d : Rd} (hR : Rel l d) {x : Nat} : (x = 0 ∨ l.length ≤ x) ↔ (x = 0 ∨ d.n ≤ x) := by rw [hR.n]

theorem rel_mark {l : List Place} {d : Rd} (hR : Rel l d) (x : Nat) : (turnL 0 1 l x).1 = (d.act 0 x).1 ∧ Rel (turnL 0 1 l x).2 (d.act 0 x).2 := by
  unfold turnL Rd.act
  by_cases hb : x = 0 ∨ l.length ≤ x
  · rw [if_pos hb, if_pos ((bad_at hR).1 hb)]; exact ⟨rfl, hR⟩
  · rw [if_neg hb, if_neg (fun h => hb ((bad_at hR).2 h)), if_pos rfl]
    have hlt : x < l.length := by omega
    have hx := List.getElem?_eq_getElem hlt
    obtain ⟨hu, hh, hs⟩ := hR.at_ hx (by omega)
    have hok := hR.ok _ (List.getElem_mem hlt)
    rw [hx]
    dsimp only
    by_cases h0 : l[x].1 = 0
    · have n1 : x ∉ d.u := fun h => by have := hu.1 h; omega
      have n2 : x ∉ d.h := fun h => by have := hh.1 h; omega
      rw [if_neg (show ¬ (x ∈ d.u ∨ x ∈ d.h) from fun h => h.elim n1 n2)]
      simp only [h0, if_true]
      refine ⟨trivial, hR.set_ hx (by omega) (.inr (.inl rfl)) rfl (fun a ha => ?_) (fun _ _ => Iff.rfl) (fun _ _ => Iff.rfl) ?_ ?_ hs (nodup_snoc hR.nu n1) hR.nh hR.ns⟩
      · rw [mem_snoc]; exact ⟨fun h => h.resolve_right ha, .inl⟩
      · rw [mem_snoc]; exact ⟨fun _ => rfl, fun _ => .inr rfl⟩
      · exact ⟨fun h => absurd h n2, fun h => by cases h⟩
    · rw [if_pos (show x ∈ d.u ∨ x ∈ d.h by rcases hok with h | h | h; exact absurd h h0; exact .inl (hu.2 h); exact .inr (hh.2 h))]
      simp only [h0, if_false]
      exact ⟨trivial, hR⟩
theorem rel_give {l : List Place} {d : Rd} (hR : Rel l d) (x : Nat) : (turnL 1 0 l x).1 = (d.act 1 x).1 ∧ Rel (turnL 1 0 l x).2 (d.act 1 x).2 := by
  unfold turnL Rd.act
  by_cases hb : x = 0 ∨ l.length ≤ x
  · rw [if_pos hb, if_pos ((bad_at hR).1 hb)]; exact ⟨rfl, hR⟩
  · rw [if_neg hb, if_neg (fun h => hb ((bad_at hR).2 h)), if_neg (by omega), if_pos rfl]
    have hlt : x < l.length := by omega
    have hx := List.getElem?_eq_getElem hlt
    obtain ⟨hu, hh, hs⟩ := hR.at_ hx (by omega)
    rw [hx]
    dsimp only
    by_cases h0 : l[x].1 = 1
    · rw [if_pos (hu.2 h0)]
      simp only [h0, if_true]
      have n2 : x ∉ d.h := fun h => by have := hh.1 h; omega
      refine ⟨trivial, hR.set_ hx (by omega) (.inl rfl) rfl (fun a ha => ?_) (fun _ _ => Iff.rfl) (fun _ _ => Iff.rfl) ?_ ?_ hs (nodup_less hR.nu x) hR.nh hR.ns⟩
      · rw [mem_less]; exact ⟨fun h => h.1, fun h => ⟨h, ha⟩⟩
      · rw [mem_less]; exact ⟨fun h => absurd rfl h.2, fun h => by cases h⟩
      · exact ⟨fun h => absurd h n2, fun h => by cases h⟩
    · rw [if_neg (fun h => h0 (hu.1 h))]
      simp only [h0, if_false]
      exact ⟨trivial, hR⟩
theorem rel_hold {l : List Place} {d : Rd} (hR : Rel l d) (x : Nat) : (turnL 1 2 l x).1 = (d.act 2 x).1 ∧ Rel (turnL 1 2 l x).2 (d.act 2 x).2 := by
  unfold turnL Rd.act
  by_cases hb : x = 0 ∨ l.length ≤ x
  · rw [if_pos hb, if_pos ((bad_at hR).1 hb)]; exact ⟨rfl, hR⟩
  · rw [if_neg hb, if_neg (fun h => hb ((bad_at hR).2 h)), if_neg (by omega), if_neg (by omega), if_pos rfl]
    have hlt : x < l.length := by omega
    have hx := List.getElem?_eq_getElem hlt
    obtain ⟨hu, hh, hs⟩ := hR.at_ hx (by omega)
    rw [hx]
    dsimp only
    by_cases h0 : l[x].1 = 1
    · rw [if_pos (hu.2 h0)]
      simp only [h0, if_true]
      have n2 : x ∉ d.h := fun h => by have := hh.1 h; omega
      refine ⟨trivial, hR.set_ hx (by omega) (.inr (.inr rfl)) rfl (fun a ha => ?_) (fun a ha => ?_) (fun _ _ => Iff.rfl) ?_ ?_ hs (nodup_less hR.nu x) (nodup_snoc hR.nh n2) hR.ns⟩
      · rw [mem_less]; exact ⟨fun h => h.1, fun h => ⟨h, ha⟩⟩
      · rw [mem_snoc]; exact ⟨fun h => h.resolve_right ha, .inl⟩
      · rw [mem_less]; exact ⟨fun h => absurd rfl h.2, fun h => by cases h⟩
      · rw [mem_snoc]; exact ⟨fun _ => rfl, fun _ => .inr rfl⟩
    · rw [if_neg (fun h => h0 (hu.1 h))]
      simp only [h0, if_false]
      exact ⟨trivial, hR⟩
theorem rel_sick {l : List Place} {d : Rd} (hR : Rel l d) (x : Nat) : (sickL l x).1 = (d.act 3 x).1 ∧ Rel (sickL l x).2 (d.act 3 x).2 := by
  unfold sickL Rd.act
  by_cases hb : x = 0 ∨ l.length ≤ x
  · rw [if_pos hb, if_pos ((bad_at hR).1 hb)]; exact ⟨rfl, hR⟩
  · rw [if_neg hb, if_neg (fun h => hb ((bad_at hR).2 h)), if_neg (by omega), if_neg (by omega), if_neg (by omega)]
    have hlt : x < l.length := by omega
    have hx := List.getElem?_eq_getElem hlt
    obtain ⟨hu, hh, hs⟩ := hR.at_ hx (by omega)
    rw [hx]
    refine ⟨rfl, hR.set_ hx (by omega) (show l[x].1 = 0 ∨ l[x].1 = 1 ∨ l[x].1 = 2 from hR.ok l[x] (List.getElem_mem hlt)) rfl (fun _ _ => Iff.rfl) (fun _ _ => Iff.rfl) (fun a ha => ?_) hu hh ?_ hR.nu hR.nh (nodup_snoc (nodup_less hR.ns x) (fun h => (mem_less.1 h).2 rfl))⟩
    · rw [mem_snoc, mem_less]; exact ⟨fun h => (h.resolve_right ha).1, fun h => .inl ⟨h, ha⟩⟩
    · rw [mem_snoc]; exact ⟨fun _ => rfl, fun _ => .inr rfl⟩

/-! ### What is held, given back or used -/
theorem freed_get (t : Int) (l : List Place) (a : Nat) : (freed t l)[a]? = (l[a]?).map fun x => if x.1 = 2 then (t, x.2) else x := by
  unfold freed; rw [List.getElem?_map]
theorem rel_release {l : List Place} {d : Rd} (hR : Rel l d) : Rel (freed 0 l) { d with h := [] } := by
  refine ⟨by rw [hR.n]; simp [freed], fun a => (hR.u a).trans ?_, fun a => ?_, fun a => (hR.s a).trans ?_, hR.nu, List.nodup_nil, hR.ns, by rw [freed_get, hR.z]; rfl, ?_⟩
  · refine and_congr Iff.rfl ?_
    rw [freed_get]
    constructor
    · rintro ⟨p, hp, e⟩; exact ⟨p, by rw [hp]; simp [e], e⟩
    · rintro ⟨p, hp, e⟩
      obtain ⟨q, hq, rfl⟩ := Option.map_eq_some_iff.1 hp
      refine ⟨q, hq, ?_⟩
      split at e
      · cases e
      · exact e
  · refine ⟨fun h => absurd h List.not_mem_nil, ?_⟩
    rintro ⟨_, p, hp, e⟩
    rw [freed_get] at hp
    obtain ⟨q, hq, rfl⟩ := Option.map_eq_some_iff.1 hp
    split at e
    · cases e
    · rename_i h; exact absurd e h
  · refine and_congr Iff.rfl ?_
    rw [freed_get]
    constructor
    · rintro ⟨p, hp, e⟩; refine ⟨_, by rw [hp]; rfl, ?_⟩; show (if p.1 = 2 then _ else p).2 = true; split <;> exact e
    · rintro ⟨p, hp, e⟩
      obtain ⟨q, hq, rfl⟩ := Option.map_eq_some_iff.1 hp
      refine ⟨q, hq, ?_⟩
      split at e <;> exact e
  · intro x hx
    obtain ⟨y, hy, rfl⟩ := List.mem_map.1 hx
    split
    · exact .inl rfl
    · exact hR.ok y hy
theorem rel_back {l : List Place} {d : Rd} (hR : Rel l d) : Rel (freed 1 l) { d with u := d.u ++ d.h, h := [] } := by
  refine ⟨by rw [hR.n]; simp [freed], fun a => ?_, fun a => ?_, fun a => (hR.s a).trans ?_, ?_, List.nodup_nil, hR.ns, by rw [freed_get, hR.z]; rfl, ?_⟩
  · show a ∈ d.u ++ d.h ↔ _
    rw [List.mem_append, hR.u a, hR.h a, freed_get]
    constructor
    · rintro (⟨h1, p, hp, e⟩ | ⟨h1, p, hp, e⟩)
      · exact ⟨h1, p, by rw [hp]; simp [e], e⟩
      · exact ⟨h1, (1, p.2), by rw [hp]; simp [e], rfl⟩
    · rintro ⟨h1, p, hp, e⟩
      obtain ⟨q, hq, rfl⟩ := Option.map_eq_some_iff.1 hp
      by_cases h2 : q.1 = 2
      · exact .inr ⟨h1, q, hq, h2⟩
      · rw [if_neg h2] at e; exact .inl ⟨h1, q, hq, e⟩
  · refine ⟨fun h => absurd h List.not_mem_nil, ?_⟩
    rintro ⟨_, p, hp, e⟩
    rw [freed_get] at hp
    obtain ⟨q, hq, rfl⟩ := Option.map_eq_some_iff.1 hp
    split at e
    · cases e
    · rename_i h; exact absurd e h
  · refine and_congr Iff.rfl ?_
    rw [freed_get]
    constructor
    · rintro ⟨p, hp, e⟩; refine ⟨_, by rw [hp]; rfl, ?_⟩; show (if p.1 = 2 then _ else p).2 = true; split <;> exact e
    · rintro ⟨p, hp, e⟩
      obtain ⟨q, hq, rfl⟩ := Option.map_eq_some_iff.1 hp
      refine ⟨q, hq, ?_⟩
      split at e <;> exact e
  · show (d.u ++ d.h).Nodup
    rw [List.nodup_append]
    refine ⟨hR.nu, hR.nh, fun a ha b hb e => ?_⟩
    subst e
    obtain ⟨_, p, hp, e1⟩ := (hR.u a).1 ha
    obtain ⟨_, q, hq, e2⟩ := (hR.h a).1 hb
    rw [hp] at hq; cases hq
    omega
  · intro x hx
    obtain ⟨y, hy, rfl⟩ := List.mem_map.1 hx
    split
    · exact .inr (.inl rfl)
    · exact hR.ok y hy

/-! ### The first free address -/
theorem firstR_spec (d : Rd) : ∀ (f a : Nat), (firstR d a f = 0 ∧ ∀ m, a ≤ m → m < a + f → d.busy m = true) ∨ (a ≤ firstR d a f ∧ firstR d a f < a + f ∧ d.busy (firstR d a f) = false ∧ ∀ m, a ≤ m → m < firstR d a f → d.busy m = true)
  | 0, a => .inl ⟨rfl, fun m h1 h2 => absurd h2 (by omega)⟩
  | f + 1, a => by
    rw [firstR]
    by_cases hb : d.busy a = true
    · rw [if_pos hb]
      rcases firstR_spec d f (a + 1) with ⟨h1, h2⟩ | ⟨h1, h2, h3, h4⟩
      · refine .inl ⟨h1, fun m hm1 hm2 => ?_⟩
        by_cases h : m = a
        · subst h; exact hb
        · exact h2 m (by omega) (by omega)
      · refine .inr ⟨by omega, by omega, h3, fun m hm1 hm2 => ?_⟩
        by_cases h : m = a
        · subst h; exact hb
        · exact h4 m (by omega) hm2
    · rw [if_neg hb]
      exact .inr ⟨Nat.le_refl _, by omega, by simpa using hb, fun m h1 h2 => absurd h2 (by omega)⟩
theorem busy_iff {l : List Place} {d : Rd} (hR : Rel l d) {x : Nat} {p : Place} (hx : l[x]? = some p) (h1 : 1 ≤ x) : d.busy x = true ↔ ¬ (p.1 = 0 ∧ p.2 = false) := by
  obtain ⟨hu, hh, hs⟩ := hR.at_ hx h1
  have hok := hR.ok p (List.mem_of_getElem? hx)
  unfold Rd.busy
  simp only [Bool.or_eq_true, decide_eq_true_eq, hu, hh, hs]
  constructor
  · rintro (h | h | h) ⟨h2, h3⟩
    · omega
    · omega
    · rw [h3] at h; cases h
  · intro h
    rcases hok with h2 | h2 | h2
    · cases hp : p.2 with
      | true => exact .inr (.inr rfl)
      | false => exact absurd ⟨h2, hp⟩ h
    · exact .inl h2
    · exact .inr (.inl h2)
theorem first_eq {l : List Place} {d : Rd} (hR : Rel l d) : firstFrom 0 l = d.first := by
  have hn := hR.n
  unfold Rd.first
  have hz := hR.z
  have hlen : 0 < l.length := (List.getElem?_eq_some_iff.1 hz).1
  have hget : ∀ m, m < l.length → ∃ p, l[m]? = some p := fun m hm => ⟨_, List.getElem?_eq_getElem hm⟩
  rcases firstFrom_spec l with ⟨h1, h2⟩ | ⟨h1, h2, h3⟩ <;> rcases firstR_spec d (d.n - 1) 1 with ⟨k1, k2⟩ | ⟨k1, k2, k3, k4⟩
  · rw [h1, k1]
  · exfalso
    obtain ⟨p, hp⟩ := hget (firstR d 1 (d.n - 1)) (by omega)
    have := h2 _ p hp
    have hb := (busy_iff hR hp k1)
    rw [k3] at hb
    exact this ⟨by omega, by
      have : ¬ ¬ (p.1 = 0 ∧ p.2 = false) := fun h => by have := hb.2 h; cases this
      exact Classical.not_not.1 this⟩
  · exfalso
    have hlt : firstFrom 0 l < l.length := (List.getElem?_eq_some_iff.1 h3).1
    have := (busy_iff hR h3 h1).1 (k2 _ (by omega) (by omega))
    exact this ⟨rfl, rfl⟩
  · rcases Nat.lt_trichotomy (firstFrom 0 l) (firstR d 1 (d.n - 1)) with h | h | h
    · exact absurd ⟨rfl, rfl⟩ ((busy_iff hR h3 h1).1 (k4 _ (by omega) h))
    · exact h
    · exfalso
      obtain ⟨p, hp⟩ := hget (firstR d 1 (d.n - 1)) (by omega)
      have := h2 _ p h hp
      have hb := busy_iff hR hp k1
      rw [k3] at hb
      exact this ⟨by omega, Classical.not_not.1 fun h => by have := hb.2 h; cases this⟩
/-- alloc, on one row. -/
def allocL (l : List Place) : List Place := if firstFrom 0 l = 0 then l else l.set (firstFrom 0 l) (1, false)
theorem allocAt_eq (L : St) (j : Nat) : allocAt L j = L.upd j (allocL (L j)) := by
  unfold allocAt allocL
  split
  · rw [St.upd_eq]
  · rfl
theorem rel_alloc {l : List Place} {d : Rd} (hR : Rel l d) : Rel (allocL l) d.alloc := by
  unfold allocL Rd.alloc
  rw [first_eq hR]
  by_cases h0 : d.first = 0
  · rw [if_pos h0, if_pos h0]; exact hR
  · rw [if_neg h0, if_neg h0]
    rcases firstFrom_spec l with ⟨h1, _⟩ | ⟨h1, h2, h3⟩
    · rw [first_eq hR] at h1; exact absurd h1 h0
    · rw [first_eq hR] at h3
      obtain ⟨hu, hh, hs⟩ := hR.at_ h3 (by omega)
      have n1 : d.first ∉ d.u := fun h => by have := hu.1 h; cases this
      have n2 : d.first ∉ d.h := fun h => by have := hh.1 h; cases this
      refine hR.set_ h3 (by omega) (.inr (.inl rfl)) rfl (fun a ha => ?_) (fun _ _ => Iff.rfl) (fun _ _ => Iff.rfl) ?_ ?_ hs (nodup_snoc hR.nu n1) hR.nh hR.ns
      · rw [mem_snoc]; exact ⟨fun h => h.resolve_right ha, .inl⟩
      · rw [mem_snoc]; exact ⟨fun _ => rfl, fun _ => .inr rfl⟩
      · exact ⟨fun h => absurd h n2, fun h => by cases h⟩

/-! ### Counting -/
theorem length_less {l : List Nat} (h : l.Nodup) {x : Nat} (hx : x ∈ l) : (less l x).length + 1 = l.length := by
  have e : less l x = l.erase x := (h.erase_eq_filter x).symm
  rw [e, List.length_erase_of_mem hx]
  have := List.length_pos_of_mem hx
  omega
theorem count_eq (q : Place → Bool) : ∀ (l : List Place) (off : Nat) (m : List Nat), m.Nodup → (∀ a, a ∈ m ↔ off ≤ a ∧ ∃ p, l[a - off]? = some p ∧ q p = true) → m.length = l.countP q
  | [], off, m, _, hm => by
    have : m = [] := by
      cases m with
      | nil => rfl
      | cons a m => obtain ⟨_, p, hp, _⟩ := (hm a).1 (List.mem_cons_self ..); simp at hp
    subst this; rfl
  | x :: l, off, m, hn, hm => by
    by_cases hx : q x = true
    · have hmem : off ∈ m := (hm off).2 ⟨Nat.le_refl _, x, by simp, hx⟩
      have ih := count_eq q l (off + 1) (less m off) (nodup_less hn off) (fun a => by
        rw [mem_less, hm a]
        constructor
        · rintro ⟨⟨h1, p, hp, e⟩, hne⟩
          refine ⟨by omega, p, ?_, e⟩
          rw [show a - off = (a - (off + 1)) + 1 by omega] at hp
          simpa using hp
        · rintro ⟨h1, p, hp, e⟩
          refine ⟨⟨by omega, p, ?_, e⟩, by omega⟩
          rw [show a - off = (a - (off + 1)) + 1 by omega]
          simpa using hp)
      have := length_less hn hmem
      rw [List.countP_cons_of_pos hx]
      omega
    · have ih := count_eq q l (off + 1) m hn (fun a => by
        rw [hm a]
        constructor
        · rintro ⟨h1, p, hp, e⟩
          have hne : a ≠ off := by
            rintro rfl
            rw [Nat.sub_self] at hp
            simp at hp
            subst hp
            exact hx e
          refine ⟨by omega, p, ?_, e⟩
          rw [show a - off = (a - (off + 1)) + 1 by omega] at hp
          simpa using hp
        · rintro ⟨h1, p, hp, e⟩
          refine ⟨by omega, p, ?_, e⟩
          rw [show a - off = (a - (off + 1)) + 1 by omega]
          simpa using hp)
      rw [List.countP_cons_of_neg hx]
      exact ih
theorem drop_mem (l : List Place) (f : Place → Bool) (m : List Nat) (hm : ∀ a, a ∈ m ↔ 1 ≤ a ∧ ∃ p, l[a]? = some p ∧ f p = true) : ∀ a, a ∈ m ↔ 1 ≤ a ∧ ∃ p, (l.drop 1)[a - 1]? = some p ∧ f p = true := by
  intro a
  rw [hm a]
  refine and_congr_right fun h1 => ?_
  rw [List.getElem?_drop, show 1 + (a - 1) = a by omega]
theorem rel_counts {l : List Place} {d : Rd} (hR : Rel l d) : howMany (isq 1) l = d.u.length ∧ howMany (isq 2) l = d.h.length ∧ howMany (·.2) l = d.s.length := by
  refine ⟨(count_eq _ _ 1 d.u hR.nu (drop_mem l _ _ fun a => ?_)).symm, (count_eq _ _ 1 d.h hR.nh (drop_mem l _ _ fun a => ?_)).symm, (count_eq _ _ 1 d.s hR.ns (drop_mem l _ _ hR.s)).symm⟩
  · rw [hR.u a]; simp [isq]
  · rw [hR.h a]; simp [isq]
theorem count3 : ∀ (l : List Place), Okl l → l.countP (isq 0) + l.countP (isq 1) + l.countP (isq 2) = l.length
  | [], _ => rfl
  | x :: l, h => by
    have ih := count3 l (fun y hy => h y (List.mem_cons_of_mem _ hy))
    have hx := h x (List.mem_cons_self ..)
    simp only [List.countP_cons, List.length_cons]
    rcases hx with e | e | e <;> simp [isq, e] <;> omega
theorem rel_free {l : List Place} {d : Rd} (hR : Rel l d) : (howMany (isq 0) l : Int) = (d.n : Int) - 1 - d.u.length - d.h.length := by
  obtain ⟨h1, h2, _⟩ := rel_counts hR
  have hlen : 0 < l.length := (List.getElem?_eq_some_iff.1 hR.z).1
  have := count3 (l.drop 1) (fun x hx => hR.ok x (List.mem_of_mem_drop hx))
  rw [List.length_drop] at this
  have hn := hR.n
  unfold howMany at h1 h2 ⊢
  omega
theorem rel_sickAt {l : List Place} {d : Rd} (hR : Rel l d) (a : Nat) : isSick l a = decide (a ∈ d.s) := by
  unfold isSick
  rcases Nat.eq_zero_or_pos a with rfl | h1
  · rw [hR.z]
    symm
    exact decide_eq_false fun h => by have := ((hR.s 0).1 h).1; omega
  · cases hp : l[a]? with
    | none => symm; exact decide_eq_false fun h => by obtain ⟨_, p, hp', _⟩ := (hR.s a).1 h; rw [hp] at hp'; cases hp'
    | some p =>
      have := (hR.at_ hp h1).2.2
      show p.2 = decide (a ∈ d.s)
      cases h2 : p.2 with
      | true => symm; exact decide_eq_true (this.2 h2)
      | false => symm; exact decide_eq_false fun h => by have := this.1 h; rw [h2] at this; cases this
theorem rel_small {l : List Place} {d : Rd} (hR : Rel l d) (hl : l.length ≤ 4096) : d.small := by
  obtain ⟨h1, h2, h3⟩ := rel_counts hR
  have e : ∀ q, howMany q l ≤ 4096 := fun q => Nat.le_trans (List.countP_le_length) (by rw [List.length_drop]; omega)
  exact ⟨by rw [hR.n]; exact hl, by rw [← h1]; exact Nat.le_trans (e _) (by omega), by rw [← h2]; exact Nat.le_trans (e _) (by omega), by rw [← h3]; exact Nat.le_trans (e _) (by omega)⟩
end Go.Proofs.Ytlfnneljeoamlaa
