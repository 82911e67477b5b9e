/-
  Words for memory, used by all the walks of this seat: a block that is known whole ('Blk'), and 'only these blocks, and new ones, have turned' ('Only'). Plain lemmas over any program.
-/
import Derived.Below
import Derived.Laws.OwnMore
import Derived.Deep.Draws
import Derived.Laws.Rows
import Derived.Laws.CopyRow
import Derived.ChangeSame
namespace Go.Proofs.Ytpkadhgoaaphkaa
open Go.RowKit Go.WideShapes Go.ChangeShapes

/-- Block g is just the cells cs of element type t, none frozen. -/
def Blk (w : World) (g : Nat) (t : TypeId) (cs : Array Value) : Prop := w.heap[g]? = some (.cells cs t (0, 0))

/-- Of what was there only the blocks of S may have turned. -/
structure Only (S : Nat → Prop) (w w' : World) : Prop where
  os : w'.os = w.os
  tape : w'.tape = w.tape
  output : w'.output = w.output
  size : w.heap.size ≤ w'.heap.size
  block : ∀ k, k < w.heap.size → ¬ S k → w'.heap[k]? = w.heap[k]?

section
variable {w w' w'' : World} {g : Nat} {t : TypeId} {cs : Array Value} {S S' : Nat → Prop}

theorem Blk.lt (h : Blk w g t cs) : g < w.heap.size := by
  rcases Nat.lt_or_ge g w.heap.size with hlt | hge
  · exact hlt
  · unfold Blk at h; rw [Array.getElem?_eq_none hge] at h; cases h
theorem Blk.cell (h : Blk w g t cs) (i : Nat) : w.cell? ⟨g, i, none⟩ = cs[i]? := cell_of_row w g i cs t (0, 0) h
theorem Blk.frozen (h : Blk w g t cs) (i : Nat) : w.frozen? ⟨g, i, none⟩ = false := by
  unfold Blk at h
  simp [World.frozen?, h]
theorem Blk.new (w : World) (t : TypeId) (cs : Array Value) : Blk (w.alloc (.cells cs t)) w.heap.size t cs := by
  unfold Blk; show (w.heap.push _)[w.heap.size]? = _; simp
theorem Blk.drew (h : Blk w g t cs) : Blk w.drew g t cs := h
theorem Blk.drewN (h : Blk w g t cs) (n : Nat) : Blk (w.drewN n) g t cs := h
theorem Blk.alloc (h : Blk w g t cs) (o : Obj) : Blk (w.alloc o) g t cs := (Below.heap_alloc w o g h.lt).trans h
theorem Blk.set_ (h : Blk w g t cs) (i : Nat) (u : Value) : Blk (w.setCell ⟨g, i, none⟩ u) g t (cs.setIfInBounds i u) := by
  unfold Blk at h ⊢
  simp [World.setCell, Array.getElem?_modify, h]
theorem Blk.far (h : Blk w g t cs) {p : Addr} (hp : g ≠ p.block) (u : Value) : Blk (w.setCell p u) g t cs := (Below.heap_setCell w p u g hp).trans h
theorem Blk.only (h : Blk w g t cs) (ho : Only S w w') (hg : ¬ S g) : Blk w' g t cs := (ho.block g h.lt hg).trans h
theorem Blk.cell_only (ho : Only S w w') {a : Addr} (ha : a.block < w.heap.size) (hs : ¬ S a.block) : w'.cell? a = w.cell? a := World.cell?_of_block (w := w) (ho.block a.block ha hs)

theorem Only.refl (S : Nat → Prop) (w : World) : Only S w w := ⟨rfl, rfl, rfl, Nat.le_refl _, fun _ _ _ => rfl⟩
theorem Only.trans (h : Only S w w') (k : Only S w' w'') : Only S w w'' :=
  ⟨k.os.trans h.os, k.tape.trans h.tape, k.output.trans h.output, Nat.le_trans h.size k.size, fun i hi hs => (k.block i (Nat.lt_of_lt_of_le hi h.size) hs).trans (h.block i hi hs)⟩
theorem Only.trans_of (h : Only S w w') (k : Only S' w' w'') (hs : ∀ i, i < w.heap.size → S' i → S i) : Only S w w'' :=
  ⟨k.os.trans h.os, k.tape.trans h.tape, k.output.trans h.output, Nat.le_trans h.size k.size, fun i hi hn => (k.block i (Nat.lt_of_lt_of_le hi h.size) fun x => hn (hs i hi x)).trans (h.block i hi hn)⟩
theorem Only.mono (h : Only S w w') (hs : ∀ k, k < w.heap.size → S k → S' k) : Only S' w w' :=
  ⟨h.os, h.tape, h.output, h.size, fun k hk hn => h.block k hk fun hx => hn (hs k hk hx)⟩
theorem Only.drew (h : Only S w w') : Only S w w'.drew := ⟨h.os, h.tape, h.output, h.size, h.block⟩
theorem Only.drewN (h : Only S w w') (n : Nat) : Only S w (w'.drewN n) := ⟨h.os, h.tape, h.output, h.size, h.block⟩
theorem Only.alloc (h : Only S w w') (o : Obj) : Only S w (w'.alloc o) :=
  ⟨h.os, h.tape, h.output, Nat.le_trans h.size (by simp), fun i hi hs => (Below.heap_alloc w' o i (Nat.lt_of_lt_of_le hi h.size)).trans (h.block i hi hs)⟩
theorem Only.setCell (h : Only S w w') {p : Addr} (hp : S p.block ∨ w.heap.size ≤ p.block) (u : Value) : Only S w (w'.setCell p u) :=
  ⟨h.os, h.tape, h.output, by simpa [World.setCell] using h.size, fun i hi hs => (Below.heap_setCell w' p u i (by
    rintro rfl
    rcases hp with hp | hp
    · exact hs hp
    · omega)).trans (h.block i hi hs)⟩
theorem Only.below {B : Nat} (h : Only S w w') (hB : B ≤ w.heap.size) (hs : ∀ k, k < B → ¬ S k) : Below B w w' :=
  ⟨h.os, h.tape, h.output, h.size, fun k hk => h.block k (by omega) (hs k hk)⟩
theorem Only.of_below (h : Below w.heap.size w w') (S : Nat → Prop) : Only S w w' := ⟨h.os, h.tape, h.output, h.size, fun k hk _ => h.block k hk⟩
end

section
variable {H : Type} {enc : TypeId × Value → H} {P : Program}
/-- The row's last step where of the world only 'Below' is known. -/
theorem post_of_below {f : Func} {s : ChangeSpec} {apart fresh handsOn again : Bool} {W W' : World} {args : Array Value} {v : Value} {ds gs : List (DataW H)} {before pa pv : List MemPlace}
    (hW : DataW.Whole enc P f.params.toList s.vars apart W args.toList ds gs before)
    (hres : ∀ (b : Nat) (sp : Nat → Bool) (hd : Bool), DataW.TrodAll enc P W' b sp hd f.resultTypes.toList (v.resultList f.resultTypes.size) (s.fn H (ds ++ gs)).results [])
    (hargs : ∀ sp : Nat → Bool, (∀ p ∈ before, sp p.block = true) → DataW.TrodAll enc P W' 0 sp true f.params.toList args.toList (s.fn H (ds ++ gs)).args pa)
    (hvars : ∀ sp : Nat → Bool, (∀ p ∈ before, sp p.block = true) → DataW.TrodVars enc P W' sp s.vars (s.fn H (ds ++ gs)).vars pv)
    (hps : before = pa ++ pv) (hb : Below W.heap.size W W')
    (hok : ∀ (j : Nat) (t : TypeId) (r : Value), f.resultTypes[j]? = some t → (v.resultList f.resultTypes.size)[j]? = some r → Value.okWide P W' .any 0 t r) :
    s.post enc P f apart fresh handsOn again W args v W' := by
  have hlt : ∀ p ∈ before, p.block < W.heap.size := fun p hp => hW.lt p hp
  have hold : ∀ p ∈ before, (fun b => decide (b < W.heap.size)) p.block = true := fun p hp => by simpa using hlt p hp
  refine ⟨ds, gs, before, [], pa, pv, hW, hres _ _ _, hargs _ hold, hvars _ hold, World.keptBut_mono (fun p hp => ⟨hp, ?_⟩) (hb.frame (· ∈ before)), fun _ => ?_⟩
  · rw [hps, List.mem_append] at hp
    exact Or.inr hp
  · obtain ⟨_, _, _, _, _, hz, hn⟩ := hW
    refine ⟨hok, _, _, ([] ++ pa) ++ pv, ⟨[] ++ pa, pv, trodAll_append (hargs _ (fun _ _ => rfl)) (hres _ _ _), hvars _ (fun _ _ => rfl), rfl, ?_, ?_⟩, ?_⟩
    · intro b off hp
      have hin : MemPlace.cell b off ∈ before := by rw [hps]; simpa using hp
      rw [hb.frozen (hlt _ hin)]
      exact hz b off hin
    · intro ha
      have := hn ha
      rw [hps] at this
      simpa using this
    · intro p hp _
      rw [hps]
      simpa using hp
end

/-! ### A block whose cells go by their index -/
def tab (n : Nat) (f : Nat → Value) : Array Value := ((List.range n).map f).toArray
theorem tab_size (n : Nat) (f : Nat → Value) : (tab n f).size = n := by simp [tab]
theorem tab_get {n : Nat} (f : Nat → Value) {i : Nat} (h : i < n) : (tab n f)[i]? = some (f i) := by
  unfold tab; rw [List.getElem?_toArray, List.getElem?_map, List.getElem?_range h]; rfl
def put (f : Nat → Value) (i : Nat) (v : Value) : Nat → Value := fun x => if x = i then v else f x
theorem tab_set (n : Nat) (f : Nat → Value) (i : Nat) (v : Value) : (tab n f).setIfInBounds i v = tab n (put f i v) := by
  unfold tab put
  apply Array.ext_getElem?
  intro k
  simp only [List.setIfInBounds_toArray, List.getElem?_toArray, List.getElem?_set, List.length_map, List.length_range, List.getElem?_map]
  by_cases h : i = k
  · subst h
    by_cases hk : i < n
    · simp [hk]
    · simp [hk]
  · rw [if_neg h]
    by_cases hk : k < n
    · simp [List.getElem?_range hk, Ne.symm h]
    · simp [hk]
theorem tab_congr {n : Nat} {f g : Nat → Value} (h : ∀ i, i < n → f i = g i) : tab n f = tab n g := by
  unfold tab; rw [List.map_congr_left fun i hi => h i (List.mem_range.1 hi)]
/-- Block g is a row of n cells of element type t. -/
def Tab (w : World) (g : Nat) (t : TypeId) (n : Nat) (f : Nat → Value) : Prop := Blk w g t (tab n f)
section
variable {w w' : World} {g : Nat} {t : TypeId} {n : Nat} {f f' : Nat → Value} {S : Nat → Prop}
theorem Tab.cell (h : Tab w g t n f) (i : Nat) (hi : i < n) : w.cell? ⟨g, i, none⟩ = some (f i) := by
  rw [Blk.cell h, tab_get f hi]
theorem Tab.frozen (h : Tab w g t n f) (i : Nat) : w.frozen? ⟨g, i, none⟩ = false := Blk.frozen h i
theorem Tab.set_ (h : Tab w g t n f) (i : Nat) (v : Value) : Tab (w.setCell ⟨g, i, none⟩ v) g t n (put f i v) := by
  have := Blk.set_ h i v
  unfold Tab; rw [← tab_set]; exact this
theorem Tab.lt (h : Tab w g t n f) : g < w.heap.size := Blk.lt h
theorem Tab.only (h : Tab w g t n f) (ho : Only S w w') (hg : ¬ S g) : Tab w' g t n f := Blk.only h ho hg
theorem Tab.far (h : Tab w g t n f) {q : Addr} (hq : g ≠ q.block) (u : Value) : Tab (w.setCell q u) g t n f := Blk.far h hq u
theorem Tab.congr (h : Tab w g t n f) (e : ∀ i, i < n → f i = f' i) : Tab w g t n f' := by
  unfold Tab; rw [← tab_congr e]; exact h
theorem Tab.new (w : World) (t : TypeId) (n : Nat) (f : Nat → Value) : Tab (w.alloc (.cells (tab n f) t)) w.heap.size t n f := Blk.new w t _
theorem Tab.alloc (h : Tab w g t n f) (o : Obj) : Tab (w.alloc o) g t n f := Blk.alloc h o
theorem Tab.drew (h : Tab w g t n f) : Tab w.drew g t n f := h
theorem Tab.drewN (h : Tab w g t n f) (k : Nat) : Tab (w.drewN k) g t n f := h
/-- A whole row is stored over another one. -/
theorem store_tab {P : Program} (f' : Nat → Value) (h : Tab w g t n f) (h1 : ∀ i, (f' i).oneCell' = true) :
    ∃ w', (storeCells ⟨g, 0, none⟩ (tab n f').toList).run P w = .ok () w' ∧ Tab w' g t n f' ∧ Only (· = g) w w' := by
  have hr := run_storeCells_at P g 0 t (tab n f').toList 0 (tab n f) w h (by simp [tab_size]) (by intro v hv; simp [tab] at hv; obtain ⟨a, _, rfl⟩ := hv; exact h1 a)
  refine ⟨_, hr, ?_, ?_⟩
  · have := setRow_heap w g (tab n f) ((tab n f).toList.take (0 + 0) ++ (tab n f').toList ++ (tab n f).toList.drop (0 + 0 + (tab n f').toList.length)).toArray t (0, 0) h
    have e : ((tab n f).toList.take (0 + 0) ++ (tab n f').toList ++ (tab n f).toList.drop (0 + 0 + (tab n f').toList.length)).toArray = tab n f' := by
      have : (tab n f).toList.drop (0 + 0 + (tab n f').toList.length) = [] := List.drop_eq_nil_of_le (by simp [tab_size])
      rw [this]; simp
    rw [e] at this ⊢
    exact this
  · exact ⟨rfl, rfl, rfl, by simp [World.setRow], fun k _ hk => setRow_other w g k _ hk⟩
end
end Go.Proofs.Ytpkadhgoaaphkaa
