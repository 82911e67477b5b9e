/-
  Trees: rows of things; what a walk finds, as a plain function.
-/
import Derived.Test.YtnclappdokhciaaD21
import Derived.Test.YtnclappdokhciaaB2
namespace Go.Proofs.Ytnclappdokhciaa
open Go Go.RowKit
set_option linter.unusedVariables false

/-- A thing, and where its entries lie. -/
structure Thg where
  A : Option Addr
  c : Nat
  L : List Ent
  tg : ByteArray
  e : Int
def Thg.cells (t : Thg) : List Value := [.slice t.A t.L.length t.c, .string t.tg, .int .i64 t.e]
def ths (l : List Thg) : List Value := l.flatMap Thg.cells
theorem ths_cons (x : Thg) (r : List Thg) : ths (x :: r) = .slice x.A x.L.length x.c :: .string x.tg :: .int .i64 x.e :: ths r := rfl
theorem ths_app (x y : List Thg) : ths (x ++ y) = ths x ++ ths y := List.flatMap_append
theorem ths_len : ∀ l : List Thg, (ths l).length = l.length * 3
  | [] => rfl
  | x :: r => by rw [ths_cons]; simp only [List.length_cons, ths_len r]; omega
theorem ths_at : ∀ (l : List Thg) (i : Nat) (t : Thg), l[i]? = some t → (ths l)[i * 3]? = some (.slice t.A t.L.length t.c) ∧ (ths l)[i * 3 + 1]? = some (.string t.tg) ∧ (ths l)[i * 3 + 2]? = some (.int .i64 t.e)
  | [], i, e, h => by cases h
  | x :: r, 0, e, h => by cases h; exact ⟨rfl, rfl, rfl⟩
  | x :: r, i + 1, e, h => by
    have ih := ths_at r i e h
    rw [show (i + 1) * 3 = i * 3 + 1 + 1 + 1 by omega, ths_cons]
    simp only [show i * 3 + 1 + 1 + 1 + 1 = (i * 3 + 1) + 1 + 1 + 1 by omega, show i * 3 + 1 + 1 + 1 + 2 = (i * 3 + 2) + 1 + 1 + 1 by omega, List.getElem?_cons_succ]
    exact ih
theorem ths_one (l : List Thg) : ∀ u ∈ ths l, u.oneCell' = true := fun u hu => by
  obtain ⟨x, _, hx⟩ := List.mem_flatMap.1 hu
  simp only [Thg.cells, List.mem_cons, List.not_mem_nil, or_false] at hx
  rcases hx with rfl | rfl | rfl <;> rfl

/-- The slice value reads as the things l. -/
structure RowT (w : World) (A : Option Addr) (l : List Thg) (c : Nat) : Prop where
  reads : Reads w w.heap.size A (l.length * 3) (ths l)
  cap : l.length ≤ c ∧ (A = none → l.length = 0 ∧ c = 0)
  rows : ∀ t ∈ l, RowE w t.A t.L t.c
section
variable {w w' : World} {A : Option Addr} {l : List Thg} {c g : Nat} {S : Nat → Prop}
theorem RowT.nil (w : World) : RowT w none [] 0 := ⟨⟨rfl, fun h => by simp at h⟩, ⟨Nat.le_refl _, fun _ => ⟨rfl, rfl⟩⟩, fun t h => by cases h⟩
theorem RowT.only (h : RowT w A l c) (ho : Only S w w') (hs : ∀ k, k < w.heap.size → ¬ S k) : RowT w' A l c :=
  ⟨(h.reads.only (Nat.le_refl _) ho hs).more ho.size, h.cap, fun t ht => (h.rows t ht).only ho hs⟩
theorem RowT.lit (h : RowT w A l c) {i : Nat} {t : Thg} (hi : l[i]? = some t) : ∃ b o, A = some ⟨b, o, none⟩ ∧ b < w.heap.size ∧ w.cell? ⟨b, o + i * 3, none⟩ = some (.slice t.A t.L.length t.c) ∧ w.cell? ⟨b, o + i * 3 + 1, none⟩ = some (.string t.tg) ∧ w.cell? ⟨b, o + i * 3 + 2, none⟩ = some (.int .i64 t.e) := by
  have hlt := (List.getElem?_eq_some_iff.1 hi).1
  obtain ⟨b, o, e1, hb, hc⟩ := h.reads.2 (by omega)
  have h3 := ths_at l i t hi
  refine ⟨b, o, e1, hb, hc _ _ h3.1, ?_, ?_⟩
  · rw [Nat.add_assoc]; exact hc _ _ h3.2.1
  · rw [Nat.add_assoc]; exact hc _ _ h3.2.2
/-- A row of which one cell is none of a block's is apart from it. -/
theorem Reads.apart {N n : Nat} {A : Option Addr} {xs : List Value} {t : TypeId} {cs : Array Value} (h : Reads w N A n xs) (hN : N ≤ w.heap.size) (hb : Blk w g t cs) (hx : ∀ u, xs[0]? = some u → ∃ (j : Nat) (v : Value), xs[j]? = some v ∧ ∀ i : Nat, cs[i]? ≠ some v) (ho : Only (fun k => k = g) w w') : Reads w' N A n xs := by
  refine ⟨h.1, fun hn => ?_⟩
  obtain ⟨b, o, e, hlt, hc⟩ := h.2 hn
  refine ⟨b, o, e, hlt, fun j u hu => ?_⟩
  have hne : ¬ b = g := fun e => by
    subst e
    have h0 : 0 < xs.length := by rw [h.1]; exact hn
    obtain ⟨k, v, hk, hv⟩ := hx _ (List.getElem?_eq_getElem h0)
    have h1 := hc k v hk
    rw [hb.cell] at h1
    exact hv _ h1
  exact (Blk.cell_only ho (a := ⟨b, o + j, none⟩) (Nat.lt_of_lt_of_le hlt hN) hne).trans (hc j u hu)
theorem RowE.apart {A : Option Addr} {l : List Ent} {t : TypeId} {cs : Array Value} (h : RowE w A l c) (hb : Blk w g t cs) (hs : ∀ (i : Nat) (s : ByteArray), cs[i]? ≠ some (Value.string s)) (ho : Only (fun k => k = g) w w') : RowE w' A l c := by
  refine ⟨(Reads.apart h.1 (Nat.le_refl _) hb (fun u hu => ?_) ho).more ho.size, h.2⟩
  cases l with
  | nil => cases hu
  | cons x r => exact ⟨0, _, rfl, fun i => hs i _⟩
theorem RowS.apart {A : Option Addr} {l : List ByteArray} {t : TypeId} {cs : Array Value} (h : RowS w A l c) (hb : Blk w g t cs) (hs : ∀ (i : Nat) (s : ByteArray), cs[i]? ≠ some (Value.string s)) (ho : Only (fun k => k = g) w w') : RowS w' A l c := by
  refine ⟨(Reads.apart h.1 (Nat.le_refl _) hb (fun u hu => ?_) ho).more ho.size, h.2⟩
  cases l with
  | nil => cases hu
  | cons x r => exact ⟨0, _, rfl, fun i => hs i _⟩
theorem RowT.apart {t : TypeId} {cs : Array Value} (h : RowT w A l c) (hb : Blk w g t cs) (hs : ∀ (i : Nat) (s : ByteArray), cs[i]? ≠ some (Value.string s)) (ho : Only (fun k => k = g) w w') : RowT w' A l c := by
  refine ⟨(Reads.apart h.reads (Nat.le_refl _) hb (fun u hu => ?_) ho).more ho.size, h.cap, fun t ht => (h.rows t ht).apart hb hs ho⟩
  cases l with
  | nil => cases hu
  | cons x r => exact ⟨1, .string x.tg, rfl, fun i => hs i _⟩
end

/-- A row of numbers of 16 bits. -/
def u16s (l : List Nat) : List Value := l.map fun (n : Nat) => Value.int .u16 (n : Int)
def RowU (w : World) (A : Option Addr) (l : List Nat) (c : Nat) : Prop := Reads w w.heap.size A l.length (u16s l) ∧ l.length ≤ c ∧ (A = none → l.length = 0 ∧ c = 0)
section
variable {w w' : World} {A : Option Addr} {l : List Nat} {c g : Nat} {S : Nat → Prop}
theorem RowU.nil (w : World) : RowU w none [] 0 := ⟨Reads.nil_ _ _ _, Nat.le_refl _, fun _ => ⟨rfl, rfl⟩⟩
theorem RowU.only (h : RowU w A l c) (ho : Only S w w') (hs : ∀ k, k < w.heap.size → ¬ S k) : RowU w' A l c := ⟨(h.1.only (Nat.le_refl _) ho hs).more ho.size, h.2⟩
theorem RowU.lit (h : RowU w A l c) {i n : Nat} (hi : l[i]? = some n) : ∃ b o, A = some ⟨b, o, none⟩ ∧ b < w.heap.size ∧ w.cell? ⟨b, o + i, none⟩ = some (.int .u16 n) := by
  have hlt := (List.getElem?_eq_some_iff.1 hi).1
  obtain ⟨b, o, e1, hb, hc⟩ := h.1.2 (by omega)
  exact ⟨b, o, e1, hb, hc i _ (by unfold u16s; rw [List.getElem?_map, hi]; rfl)⟩
theorem RowU.apart {t : TypeId} {cs : Array Value} (h : RowU w A l c) (hb : Blk w g t cs) (hs : ∀ (i : Nat) (n : Int), cs[i]? ≠ some (Value.int .u16 n)) (ho : Only (fun k => k = g) w w') : RowU w' A l c := by
  refine ⟨(Reads.apart h.1 (Nat.le_refl _) hb (fun u hu => ?_) ho).more ho.size, h.2⟩
  cases l with
  | nil => cases hu
  | cons x r => exact ⟨0, _, rfl, fun i => hs i _⟩
theorem RowU.take (h : RowU w A l c) {n : Nat} (hn : n ≤ l.length) : RowU w A (l.take n) c := by
  have e1 : (l.take n).length = n := by rw [List.length_take]; omega
  refine ⟨?_, by rw [e1]; exact Nat.le_trans hn h.2.1, fun e => by have := h.2.2 e; rw [e1]; omega⟩
  have := h.1.take hn
  rw [e1]
  unfold u16s at this ⊢
  rwa [List.map_take]
end

/-! What a walk finds. -/
def thAt (ts : List Thg) (n : Nat) : Option Thg := if n < 1 then none else ts[n - 1]?
def entsS (ts : List Thg) (n : Nat) : List Ent × Int := match thAt ts n with
  | none => ([], 21)
  | some t => if t.e = 0 then (t.L, 0) else ([], t.e)
def targS (ts : List Thg) (n : Nat) : ByteArray × Int := match thAt ts n with
  | none => (⟨#[]⟩, 21)
  | some t => if t.e = 0 then (t.tg, 0) else (⟨#[]⟩, t.e)
structure Fnd where
  dir : Nat
  name : ByteArray
  num : Nat
  kind : Nat
  must : Bool
  up : List Nat
def noF : Fnd := ⟨0, ⟨#[]⟩, 0, 0, false, []⟩
def dots : ByteArray := ⟨#[46, 46]⟩
def lastU (place : List Nat) : Nat := place.getLastD 0
/-- Step by step. -/
def goesF (ts : List Thg) (follow : Bool) : Nat → List Nat → List ByteArray → Bool → Nat → Fnd × Int
  | 0, _, _, _, _ => (noF, 0)
  | f + 1, place, [], must, links => (⟨0, ⟨#[]⟩, lastU place, 2, must, place⟩, 0)
  | f + 1, place, part :: rest, must, links =>
    if part.toList = [46, 46] then goesF ts follow f (place.take (max 1 (place.length - 1))) rest must links
    else if (entsS ts (lastU place)).2 ≠ 0 then (noF, (entsS ts (lastU place)).2)
    else match findE (entsS ts (lastU place)).1 part with
      | none => if rest ≠ [] then (noF, 20) else (⟨lastU place, part, 0, 0, must, place⟩, 0)
      | some x =>
        if x.kind = 3 ∧ (rest ≠ [] ∨ must = true ∨ follow = true) then
          if 8 ≤ links then (noF, 35)
          else if (targS ts x.num).2 ≠ 0 then (noF, (targS ts x.num).2)
          else if (split (targS ts x.num).1).err ≠ 0 then (noF, (split (targS ts x.num).1).err)
          else goesF ts follow f (if (split (targS ts x.num).1).ab = true then [1] else place) ((split (targS ts x.num).1).parts ++ rest) (must || (rest.isEmpty && (split (targS ts x.num).1).sl)) (links + 1)
        else if x.kind ≠ 2 ∧ (rest ≠ [] ∨ must = true) then (noF, 24)
        else if rest = [] then (⟨lastU place, part, x.num, x.kind, must, place⟩, 0)
        else goesF ts follow f (place ++ [x.num]) rest must links
/-- What is left to do. -/
def todo (parts : List ByteArray) (links : Nat) : Nat := (9 - links) * 1000 + parts.length
def walkS (ts : List Thg) (path : ByteArray) (follow : Bool) : Fnd × Int :=
  if (split path).err ≠ 0 then (noF, (split path).err) else goesF ts follow 10000 [1] (split path).parts (split path).sl 0
/-- A tree of things as the law lays them. -/
def Good (ts : List Thg) : Prop := ts.length ≤ 12 ∧ ∀ t ∈ ts, areS t.L = true ∧ (t.e ≠ 0 → t.L = []) ∧ t.tg.size ≤ 200
theorem ents_good {ts : List Thg} (h : Good ts) (n : Nat) : areS (entsS ts n).1 = true := by
  unfold entsS thAt
  split
  · exact kd7
  · rename_i t ht
    split at ht
    · cases ht
    · split
      · exact (h.2 t (List.mem_of_getElem? ht)).1
      · exact kd7
theorem targ_good {ts : List Thg} (h : Good ts) (n : Nat) : (targS ts n).1.size ≤ 200 := by
  unfold targS thAt
  split
  · decide
  · rename_i t ht
    split at ht
    · cases ht
    · split
      · exact (h.2 t (List.mem_of_getElem? ht)).2.2
      · exact Nat.zero_le _
end Go.Proofs.Ytnclappdokhciaa
