/-
  From a row's reading to the walks: the constants, 32 bytes, a slice of bytes; and back: an argument that only was read reads as it did.
-/
import Derived.Test.YtpmikgbdicokhaaDoorCards
import Derived.Test.YtpmikgbdicokhaaDoorTie
import Derived.Test.YtpmikgbdicokhaaDoorW10
import Derived.WalkKit
import Derived.ProofKit
import Derived.OpenShut
import Derived.Deep.DeepHandedRow
import Derived.Deep.Slices
import Derived.Deep.Strs
import Derived.Deep.MidRow
import Derived.Lib.LaidTab
namespace Go.Proofs.YtpmikgbdicokhaaDoor
open Go.ChangeShapes Go.WideShapes Go.ChangeAt Go.RowKit Go.Deep
set_option linter.unusedVariables false

theorem own : ownKnob Tryd.prog.godebug = none := by kernel_rfl
theorem gTab : Tryd.prog.globalNamed "kintsugi/sha.constants" = some 0 := by kernel_rfl

/-- All arguments read as they did, through the same places. -/
theorem trodAll_below {H : Type} {enc : TypeId × Value → H} {P : Program} (hl : laidOutB P = true) {W W' : World} (hb : Below W.heap.size W W') :
    ∀ {ts : List TypeId} {vs : List Value} {ds : List (DataW H)} {ps : List MemPlace}, (∀ t ∈ ts, P.readableRec t = true ∧ t < P.types.size) → DataW.TrodAll enc P W 0 (fun _ => true) true ts vs ds ps →
      (∀ x ∈ ps, x.block < W.heap.size) → ∀ sp : Nat → Bool, (∀ p ∈ ps, sp p.block = true) → DataW.TrodAll enc P W' 0 sp true ts vs ds ps
  | [], vs, ds, ps, _, h, _, sp, _ => by
    obtain ⟨rfl, rfl, rfl⟩ := trodAll_nil h
    exact trodAll_mk0
  | t :: ts, vs, ds, ps, ht, h, hlt, sp, hs => by
    obtain ⟨v, vs', d, ds', p, q, rfl, rfl, rfl, h0, r0⟩ := trodAll_cons h
    refine trodAll_cons_mk ?_ (trodAll_below hl hb (fun t' h' => ht t' (List.mem_cons_of_mem _ h')) r0 (fun x hx => hlt x (List.mem_append_right _ hx)) sp (fun x hx => hs x (List.mem_append_right _ hx)))
    have := ht t (List.mem_cons_self ..)
    exact WideElems.Trod_stays hl this.1 this.2 h0 (fun x hx => hb.same (hlt x (List.mem_append_left _ hx))) (fun x hx => hs x (List.mem_append_left _ hx))

theorem cells5 : Tryd.prog.cellsOf 5 = 1 := by kernel_rfl
theorem cells24 : Tryd.prog.cellsOf 24 = 32 := by kernel_rfl
theorem bd8 {n : Int} (h : (Lit.int .u8 n).wf = true) : 0 ≤ n ∧ n ≤ 255 := by simpa [Lit.wf, IntKind.min, IntKind.max, IntKind.signed, IntKind.bits] using h

/-- 32 bytes. -/
theorem open_arr {H : Type} {enc : TypeId × Value → H} {W W' : World} {r : Reach} {b0 b1 : Nat} {sp : Nat → Bool} {hd : Bool} {v : Value} {d : DataW H} {ps : List MemPlace} (hval : Value.okWide Tryd.prog W r b0 24 v) (h : DataW.Trod enc Tryd.prog W' b1 sp hd 24 v d ps) :
    ∃ f : Nat → Nat, v = .agg (tab 32 fun i => ub (f i)) ∧ ∀ i, i < 32 → f i < 256 := by
  obtain ⟨cs, rfl, hsz, _⟩ : ∃ cs, v = .agg cs ∧ cs.size = Tryd.prog.cellsOf 24 ∧ Row.okWide Tryd.prog W r b0 24 cs := by
    have := hval
    simp only [Value.okWide, Tryd.underlying24] at this
    exact this
  rw [cells24] at hsz
  obtain ⟨fuel, hf⟩ := h
  cases fuel with
  | zero => simp [DataW.trod] at hf
  | succ fuel =>
    have hc : (Value.agg cs).cells.toList = cs.toList := rfl
    rw [hc] at hf
    simp only [DataW.trod, Tryd.underlying24, cells5, cells24, Array.length_toList, hsz, if_true] at hf
    obtain ⟨xs, hm, _⟩ := Option.map_eq_some_iff.1 hf
    have hcell : ∀ i, i < 32 → ∃ n : Nat, cs[i]? = some (ub n) ∧ n < 256 := by
      intro i hi
      obtain ⟨b, _, hb⟩ := Lib.mapM_at hm i i (by rw [List.getElem?_range hi])
      obtain ⟨n, hx, _, hw⟩ := DataW.trod_int und5 hb
      have hw' := bd8 hw
      refine ⟨n.toNat, ?_, by omega⟩
      have e := congrArg (fun l => l[0]?) hx
      simp only [Nat.mul_one, List.getElem?_take, List.getElem?_drop, Nat.add_zero, Array.getElem?_toList] at e
      simp only [Nat.lt_add_one, if_true, List.getElem?_cons_zero] at e
      rw [e]
      unfold ub
      rw [Int.toNat_of_nonneg hw'.1]
    refine ⟨fun i => match cs[i]? with | some (.int _ n) => n.toNat | _ => 0, ?_, ?_⟩
    · congr 1
      apply Array.ext_getElem?
      intro i
      by_cases hi : i < 32
      · obtain ⟨n, hn, _⟩ := hcell i hi
        rw [tab_get _ hi]
        simp only [hn, ub, Int.toNat_natCast]
      · rw [Array.getElem?_eq_none (by omega), Array.getElem?_eq_none (by rw [tab_size]; omega)]
    · intro i hi
      obtain ⟨n, hn, hlt⟩ := hcell i hi
      simp only [hn, ub]
      simpa using hlt
/-- What the row's list gives: the constants are in their block. -/
theorem kk_of {W : World} (h : laidMetH Tryd.prog [("kintsugi/sha.constants", Rows.laid_kintsugi_sha_constants)] W) : KK W := by
  have ht : Lib.TabIs Tryd.prog W "kintsugi/sha.constants" .u32 (kk.map Int.ofNat) :=
    Lib.tabIs_of_head (rest := []) gTab (t := 52) (n := 64) (e := 36) (by kernel_rfl) (by kernel_rfl) (by kernel_rfl) (by kernel_rfl) (by kernel_rfl) h
  have hc : ∀ i, i < 64 → W.cell? ⟨0, i, none⟩ = some (uw (kk.getD i 0)) := by
    intro i hi
    rw [ht.cell gTab i (by rw [List.length_map]; exact hi)]
    rw [List.getD_eq_getElem?_getD, List.getElem?_map, List.getD_eq_getElem?_getD, List.getElem?_eq_getElem (show i < kk.length from hi)]
    rfl
  refine ⟨?_, hc⟩
  have h0 := hc 0 (by omega)
  rcases Nat.eq_zero_or_pos W.heap.size with h | h
  · simp [World.cell?, Array.getElem?_eq_none (show W.heap.size ≤ 0 by omega)] at h0
  · exact h
theorem spot_none {w : World} {a : Addr} {v : Value} (h : w.cell? a = some v) : a.spot = none := by
  unfold World.cell? at h
  split at h
  · cases hs : a.spot with
    | none => rfl
    | some s => simp [hs] at h
  · cases h
/-- The numbers that a slice holds. -/
theorem open_nums {H : Type} {enc : TypeId × Value → H} {P : Program} {w : World} {fuel len cap : Nat} {A : Option Addr} {x : DataW H × List MemPlace} {t e : TypeId} {k : IntKind} {M : Nat} (ht : P.underlying t = some (.slice e)) (he : P.underlying e = some (.int k)) (hc : P.cellsOf e = 1)
    (hwf : ∀ n, (Lit.int k n).wf = true → 0 ≤ n ∧ n < (M : Int)) (h : DataW.trod enc P w 0 (fun _ => true) true fuel t [.slice A len cap] = some x) :
    ∃ l : List Nat, l.length = len ∧ Reads w w.heap.size A len (l.map fun (x : Nat) => .int k (x : Int)) ∧ (∀ x ∈ l, x < M) ∧ len ≤ cap ∧ cap ≤ maxLen ∧ (A = none → len = 0) := by
  rcases open_slice1 ht hc h with ⟨h0, _⟩ | ⟨a, len', cap', m, n, V, D, Pl, h0, hb, hl, hm, hmm, _, hx⟩
  · simp at h0
    obtain ⟨rfl, rfl, rfl⟩ := h0
    exact ⟨[], rfl, Reads.nil_ _ _ _, fun x hx => absurd hx List.not_mem_nil, Nat.le_refl _, Nat.zero_le _, fun _ => rfl⟩
  · simp at h0
    obtain ⟨rfl, rfl, rfl⟩ := h0
    have hlm : len ≤ m := by simp at hmm; omega
    have each : ∀ i, i < len → ∃ q : Nat, w.cell? (a.add i) = some (.int k (q : Int)) ∧ q < M := by
      intro i hi
      obtain ⟨h1, h2⟩ := hx i (by omega)
      obtain ⟨z, hz, _, hw⟩ := DataW.trod_int he h2
      have hw' := hwf z hw
      simp only [List.cons.injEq, and_true] at hz
      refine ⟨z.toNat, ?_, by omega⟩
      rw [h1, hz, Int.toNat_of_nonneg hw'.1]
    obtain ⟨q, hq⟩ := choose_lt each
    refine ⟨(List.range len).map q, by simp, ⟨by simp, fun hn => ?_⟩, ?_, hl, hm, fun h => by cases h⟩
    · have hsp : a.spot = none := by
        obtain ⟨c0, _⟩ := hq 0 hn
        have := spot_none c0
        unfold Addr.add at this
        split at this <;> simp_all
      obtain ⟨ab, ao, sp⟩ := a
      simp only at hsp
      subst hsp
      have hblk : ab < w.heap.size := by
        have := World.block_lt_of_cell? _ _ (hq 0 hn).1
        simpa [add_lit] using this
      refine ⟨ab, ao, rfl, hblk, fun j u hu => ?_⟩
      rw [List.map_map, List.getElem?_map] at hu
      have hj : j < len := by
        rcases Nat.lt_or_ge j len with h | h
        · exact h
        · rw [List.getElem?_eq_none (by simpa using h)] at hu; cases hu
      rw [List.getElem?_range hj] at hu
      simp only [Option.map_some, Option.some.injEq, Function.comp] at hu
      rw [← hu, ← add_lit]
      exact (hq j hj).1
    · intro x hx
      obtain ⟨i, hi, rfl⟩ := List.mem_map.1 hx
      exact (hq i (List.mem_range.1 hi)).2
theorem bd8' (n : Int) (h : (Lit.int .u8 n).wf = true) : 0 ≤ n ∧ n < ((256 : Nat) : Int) := by have := bd8 h; omega
theorem bd16' (n : Int) (h : (Lit.int .u16 n).wf = true) : 0 ≤ n ∧ n < ((65536 : Nat) : Int) := by
  have : 0 ≤ n ∧ n ≤ 65535 := by simpa [Lit.wf, IntKind.min, IntKind.max, IntKind.signed, IntKind.bits] using h
  omega
end Go.Proofs.YtpmikgbdicokhaaDoor
