/-
  A shelf of leaves in memory; what may turn when it is asked.
-/
import Derived.Test.YtpkadhgoaaphkaaPc
import Derived.Test.YtpkadhgoaaphkaaBr
import Derived.Lib.UnsafeStr
namespace Go.Proofs.Ytpkadhgoaaphkaa
open Go Go.RowKit
set_option linter.unusedVariables false

/-- Block k's cells are of type t. -/
def tyAt (w : World) (k : Nat) (t : TypeId) : Prop := ∃ cs fr, w.heap[k]? = some (.cells cs t fr)
theorem tyAt.lt {w : World} {k : Nat} {t : TypeId} (h : tyAt w k t) : k < w.heap.size := by
  obtain ⟨_, _, h⟩ := h
  exact (Array.getElem?_eq_some_iff.1 h).1
theorem tyAt.one {w : World} {k : Nat} {t t' : TypeId} (h : tyAt w k t) (h' : tyAt w k t') : t = t' := by
  obtain ⟨_, _, h⟩ := h
  obtain ⟨_, _, h'⟩ := h'
  rw [h] at h'
  cases h'
  rfl
/-- A shelf's own blocks, from B on: the shelf, and the row of what was asked. -/
def Tn (B : Nat) (w : World) (k : Nat) : Prop := B ≤ k ∧ (tyAt w k 33 ∨ tyAt w k 34)
/-- Of what was there only such blocks may have turned. -/
def Turn (B : Nat) (w w' : World) : Prop := Only (Tn B w) w w'
section
variable {B B' : Nat} {w w' w'' : World} {g : Nat} {t : TypeId} {cs : Array Value}
theorem Turn.refl (B : Nat) (w : World) : Turn B w w := Only.refl _ _
theorem Turn.size (h : Turn B w w') : w.heap.size ≤ w'.heap.size := Only.size h
theorem Turn.tn (h : Turn B w w') {k : Nat} (hk : k < w.heap.size) (ht : Tn B w' k) : Tn B w k := by
  apply Classical.byContradiction
  intro hn
  have hb := Only.block h k hk hn
  refine hn ⟨ht.1, ?_⟩
  rcases ht.2 with ⟨cs, fr, e⟩ | ⟨cs, fr, e⟩
  · exact .inl ⟨cs, fr, hb.symm.trans e⟩
  · exact .inr ⟨cs, fr, hb.symm.trans e⟩
theorem Turn.trans (h : Turn B w w') (k : Turn B w' w'') : Turn B w w'' := Only.trans_of h k (fun i hi ht => h.tn hi ht)
theorem Turn.of (h : Only (fun _ => False) w w') : Turn B w w' := h.mono fun _ _ x => x.elim
theorem Turn.only (h : Turn B w w') (k : Only (fun _ => False) w' w'') : Turn B w w'' := h.trans (.of k)
theorem Turn.alloc (h : Turn B w w') (o : Obj) : Turn B w (w'.alloc o) := Only.alloc h o
theorem Turn.drew (h : Turn B w w') : Turn B w w'.drew := Only.drew h
theorem Turn.drewN (h : Turn B w w') (n : Nat) : Turn B w (w'.drewN n) := Only.drewN h n
theorem Turn.setCell (h : Turn B w w') {p : Addr} (hp : Tn B w p.block ∨ w.heap.size ≤ p.block) (u : Value) : Turn B w (w'.setCell p u) := Only.setCell h hp u
/-- New blocks alone have turned since w1. -/
theorem Turn.new (h : Turn B w w') (k : Only (fun k => w.heap.size ≤ k) w' w'') : Turn B w w'' := Only.trans_of h k (fun i hi hk => by omega)
theorem Turn.below (h : Turn B w w') (hB : B ≤ w.heap.size) : Below B w w' := Only.below h hB fun k hk ht => by have := ht.1; omega
theorem Turn.mono (h : Turn B w w') (hB : B' ≤ B) : Turn B' w w' := Only.mono h fun k _ ht => ⟨Nat.le_trans hB ht.1, ht.2⟩
theorem Blk.ty (h : Blk w g t cs) : tyAt w g t := ⟨cs, (0, 0), h⟩
theorem Blk.tn (h : Blk w g t cs) (ht : t ≠ 33 ∧ t ≠ 34) : ¬ Tn B w g := fun x => by
  rcases x.2 with y | y
  · exact ht.1 (h.ty.one y)
  · exact ht.2 (h.ty.one y)
theorem Blk.turn (h : Blk w g t cs) (ho : Turn B w w') (ht : t ≠ 33 ∧ t ≠ 34) : Blk w' g t cs := h.only ho (h.tn ht)
theorem row_lt' {base : Nat} {e : TypeId} {size : Nat} {v : Value} {n : Nat} {xs : List Value} (h : w.ownsRow base e size v n xs) : ∀ g, v.ownBlock = some g → base ≤ g ∧ g < w.heap.size ∧ tyAt w g e := fun g hg => by
  rcases h.2 with ⟨e1, _⟩ | ⟨g', cap, cur, hv, hb, hh, _⟩
  · rw [e1] at hg; cases hg
  · rw [hv] at hg
    obtain rfl : g' = g := by simpa [Value.ownBlock] using hg
    exact ⟨hb, (Array.getElem?_eq_some_iff.1 hh).1, cur, _, hh⟩
theorem row_keep {base : Nat} {e : TypeId} {size : Nat} {v : Value} {n : Nat} {xs : List Value} {S : Nat → Prop} (h : w.ownsRow base e size v n xs) (ho : Only S w w') (hs : ∀ g, v.ownBlock = some g → ¬ S g) : w'.ownsRow base e size v n xs := by
  refine ⟨h.1, ?_⟩
  rcases h.2 with hn | ⟨g, cap, cur, hv, hg, hh, rest⟩
  · exact .inl hn
  · refine .inr ⟨g, cap, cur, hv, hg, ?_, rest⟩
    exact (ho.block g (Array.getElem?_eq_some_iff.1 hh).1 (hs g (by rw [hv]; rfl))).trans hh
theorem row_turn {base : Nat} {e : TypeId} {size : Nat} {v : Value} {n : Nat} {xs : List Value} (h : w.ownsRow base e size v n xs) (ho : Turn B w w') (he : e ≠ 33 ∧ e ≠ 34) : w'.ownsRow base e size v n xs :=
  row_keep h ho fun g hg x => by
    have := (row_lt' h g hg).2.2
    rcases x.2 with y | y
    · exact he.1 (this.one y)
    · exact he.2 (this.one y)
/-- A row of another type is apart from a block. -/
theorem row_ne {base : Nat} {e : TypeId} {size : Nat} {v : Value} {n : Nat} {xs : List Value} (h : w.ownsRow base e size v n xs) (ht : tyAt w g t) (he : e ≠ t) : v.ownBlock ≠ some g := fun hg => he ((row_lt' h g hg).2.2.one ht)
end

/-- The shelf's cells. -/
def shf (v : Nat → Value) (bad : Nat) (va : Value) (i : Nat) : Value := if i < 64 then v i else if i = 64 then .int .u64 bad else va
def u32s (l : List Nat) : List Value := l.map fun (n : Nat) => Value.int .u32 (n : Int)
theorem u32s_len (l : List Nat) : (u32s l).length = l.length := List.length_map _
/-- A shelf lies at g, its own blocks from B on: leaves m (their values v), those of bad can't be read; ask: what was asked; where 'v 64' points, there lies one number more, that is none of the shelf's ('v 65'). -/
structure Sh (B g : Nat) (v : Nat → Value) (m : Nat → List UInt8) (bad : Nat) (va : Value) (ask : List Nat) (w : World) : Prop where
  tb : Tab w g 33 66 (shf v bad va)
  lv : ∀ k, k < 64 → w.ownsRow B 5 1 (v k) (m k).length (Lib.byteCells (m k))
  sz : ∀ k, k < 64 → (m k).length = 0 ∨ (m k).length = 512
  ak : w.ownsRow B 34 1 va ask.length (u32s ask)
  gB : B ≤ g
  bd : bad < 18446744073709551616
  xb : ∀ X, v 64 = .pointer (some ⟨X, 0, none⟩) → Blk w X 34 #[v 65] ∧ va.ownBlock ≠ some X
section
variable {B g : Nat} {v : Nat → Value} {m : Nat → List UInt8} {bad : Nat} {va : Value} {ask : List Nat} {w w' : World}
theorem Sh.only (h : Sh B g v m bad va ask w) (ho : Only (fun _ => False) w w') : Sh B g v m bad va ask w' :=
  ⟨h.tb.only ho (fun x => x), fun k hk => row_keep (h.lv k hk) ho (fun _ _ x => x), h.sz, row_keep h.ak ho (fun _ _ x => x), h.gB, h.bd, fun X hX => ⟨(h.xb X hX).1.only ho (fun x => x), (h.xb X hX).2⟩⟩
theorem Sh.lt (h : Sh B g v m bad va ask w) : g < w.heap.size := h.tb.lt
theorem Sh.ty (h : Sh B g v m bad va ask w) : tyAt w g 33 := ⟨_, (0, 0), h.tb⟩
/-- Blocks that are none of the shelf's, and no leaves' rows, turn. -/
theorem Sh.keep {S : Nat → Prop} (h : Sh B g v m bad va ask w) (ho : Only S w w') (h1 : ¬ S g) (h2 : ∀ k, va.ownBlock = some k → ¬ S k) (h3 : ∀ i k, i < 64 → (v i).ownBlock = some k → ¬ S k) (h4 : ∀ X, tyAt w X 34 → v 64 = .pointer (some ⟨X, 0, none⟩) → ¬ S X) : Sh B g v m bad va ask w' :=
  ⟨h.tb.only ho h1, fun k hk => row_keep (h.lv k hk) ho (fun j hj => h3 k j hk hj), h.sz, row_keep h.ak ho h2, h.gB, h.bd, fun X hX => ⟨(h.xb X hX).1.only ho (h4 X (h.xb X hX).1.ty hX), (h.xb X hX).2⟩⟩
theorem Sh.fresh {N : Nat} (h : Sh B g v m bad va ask w) (hN : w.heap.size ≤ N) (ho : Only (fun k => N ≤ k) w w') : Sh B g v m bad va ask w' :=
  h.keep ho (by have := h.lt; omega) (fun k hk => by have := (row_lt' h.ak k hk).2.1; omega) (fun i k hi hk => by have := (row_lt' (h.lv i hi) k hk).2.1; omega) (fun X hX _ => by have := hX.lt; omega)
end
end Go.Proofs.Ytpkadhgoaaphkaa
