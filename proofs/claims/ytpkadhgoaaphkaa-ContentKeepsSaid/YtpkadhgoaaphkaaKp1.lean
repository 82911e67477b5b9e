/-
  The law ContentKeeps (func 5): all the bytes of a shelf are read (func 12).
-/
import Derived.Test.YtpkadhgoaaphkaaDo
namespace Go.Proofs.Ytpkadhgoaaphkaa
open Go Go.RowKit Go.Shelf
set_option linter.unusedVariables false
theorem readB_app (m : Nat → List UInt8) (i j : Nat) : readB m 0 i ++ readB m i j = readB m 0 (i + j) := by
  unfold readB
  rw [List.range_add, List.map_append, List.map_map]
  congr 1
  refine List.map_congr_left fun k _ => ?_
  simp
theorem read_ok0 {B g : Nat} {v : Nat → Value} {m : Nat → List UInt8} {ask : List Nat} {fr en : Nat} {w : World} {r : Ending} {w' : World} (h : ReadPost B g v m 0 ask fr en w r w') : ∃ A c, r = .returned (.tuple #[.slice A (en - fr) c, .int .i64 0]) ∧ ReadOk B g v m 0 ask fr en w A c w' := by
  rcases h with ⟨A, c, hr, ho⟩ | ⟨i, -, -, -, -, ⟨-, hb⟩, -⟩
  · exact ⟨A, c, hr, ho⟩
  · rw [isBad_zero] at hb; cases hb
/-- The shelf, its size beside it, and the cell that points to it. -/
structure KpS (B g q3 q4 : Nat) (v : Nat → Value) (m : Nat → List UInt8) (size : Nat) (n : Nat) (w : World) : Prop where
  sh : ∃ va ask, Sh B g v m 0 va ask w ∧ ask.length ≤ n
  x4 : v 64 = .pointer (some ⟨q4, 0, none⟩)
  x5 : v 65 = .int .u32 size
  b3 : Blk w q3 29 #[.pointer (some ⟨g, 0, none⟩)]
  sz : size ≤ 32768
section
variable {B g q3 q4 : Nat} {v : Nat → Value} {m : Nat → List UInt8} {size n : Nat} {w w' : World}
theorem KpS.b4 (h : KpS B g q3 q4 v m size n w) : Blk w q4 34 #[.int .u32 size] := by
  obtain ⟨va, ask, hs, _⟩ := h.sh
  have := (hs.xb q4 h.x4).1
  rw [h.x5] at this
  exact this
theorem KpS.only (h : KpS B g q3 q4 v m size n w) (ho : Only (fun _ => False) w w') : KpS B g q3 q4 v m size n w' := by
  obtain ⟨va, ask, hs, hl⟩ := h.sh
  exact ⟨⟨va, ask, hs.only ho, hl⟩, h.x4, h.x5, h.b3.only ho (fun x => x), h.sz⟩
end
/-- What lies behind k reads. -/
structure AllI (B g q3 q4 : Nat) (v : Nat → Value) (m : Nat → List UInt8) (size n : Nat) (w : World) (k : Nat) (vo : Value) (w' : World) : Prop where
  kp : KpS B g q3 q4 v m size (n + k * 64) w'
  ow : w'.ownsRow w.heap.size 5 1 vo (min size (2048 * k)) (Lib.byteCells (readB m 0 (min size (2048 * k))))
  tn : Turn B w w'
theorem AllI.next {B g q3 q4 : Nat} {v : Nat → Value} {m : Nat → List UInt8} {size n : Nat} {w : World} {k : Nat} {vo : Value} {w1 w2 : World} {A : Option Addr} {c : Nat} {ask : List Nat} (h : AllI B g q3 q4 v m size n w k vo w1) (hv : ∀ i b, i < 64 → (v i).ownBlock = some b → b < w.heap.size) (hB : B ≤ w.heap.size) (hk : 2048 * k < size)
    (hl : ask.length ≤ n + k * 64) (hr : ReadOk B g v m 0 ask (2048 * k) (min size (2048 * k + 2048)) w1 A c w2) :
    ∃ gn cap w3, (Builtin.append_ #[24, 24] 24 #[vo, .slice A (min size (2048 * k + 2048) - 2048 * k) c]).run Try.prog w2 = .ok (.slice (some ⟨gn, 0, none⟩) (min size (2048 * (k + 1))) cap) w3 ∧ AllI B g q3 q4 v m size n w (k + 1) (.slice (some ⟨gn, 0, none⟩) (min size (2048 * (k + 1))) cap) w3 := by
  have hsz := h.kp.sz
  have hen : min size (2048 * k + 2048) ≤ 32768 := by omega
  have hct := cnt_le (fr := 2048 * k) hen
  have how := row_turn h.ow hr.tn (by decide)
  rw [show min size (2048 * k) = 2048 * k by omega] at how
  have hlb : (readB m 0 (2048 * k)).length = 2048 * k := readB_len _ _ _
  obtain ⟨gn, cap, w3, hrun, hown, hg⟩ := app_bytes (base := w.heap.size) (L := readB m 0 (2048 * k)) (l := readB m (2048 * k) (min size (2048 * k + 2048) - 2048 * k)) (A := A) (n := min size (2048 * k + 2048) - 2048 * k) (c := c) (by rw [hlb]; exact how) (Nat.le_trans h.tn.size hr.tn.size) hr.rd (by omega) (by rw [hlb]; omega)
  rw [hlb, readB_app, show 2048 * k + (min size (2048 * k + 2048) - 2048 * k) = min size (2048 * (k + 1)) by omega] at hown
  rw [hlb, show 2048 * k + (min size (2048 * k + 2048) - 2048 * k) = min size (2048 * (k + 1)) by omega] at hrun
  have ho : Only (fun q => vo.ownBlock = some q) w2 w3 := grown_only hg
  obtain ⟨va', hs'⟩ := hr.sh
  have hs3 := hs'.keep ho (fun e => by have := (row_lt' how _ e).2.2.one hs'.ty; cases this) (fun q hq e => by have := (row_lt' how _ e).2.2.one (row_lt' hs'.ak q hq).2.2; cases this)
    (fun i q hi hq e => by have := hv i q hi hq; have := (row_lt' how _ e).1; omega) (fun X hX _ e => by have := (row_lt' how _ e).2.2.one hX; cases this)
  refine ⟨gn, cap, w3, hrun, ⟨⟨⟨va', _, hs3, by rw [List.length_append, askd_len]; omega⟩, h.kp.x4, h.kp.x5, (h.kp.b3.turn hr.tn (by decide)).only ho (fun e => ?_), hsz⟩, hown, (h.tn.trans hr.tn).new (ho.mono fun q _ e => (row_lt' how q e).1)⟩⟩
  have := (row_lt' how _ e).2.2.one (h.kp.b3.turn hr.tn (by decide)).ty
  cases this
set_option maxRecDepth 20000 in
set_option maxHeartbeats 8000000 in
theorem all_any (B g q3 q4 : Nat) (v : Nat → Value) (m : Nat → List UInt8) (size n : Nat) (w : World) (h : KpS B g q3 q4 v m size n w) (hB : B ≤ w.heap.size) (hn : n ≤ 98000) :
    Calls Try.prog 12 #[.pointer (some ⟨q4, 0, none⟩), .pointer (some ⟨q3, 0, none⟩)] w fun r w' => ∃ A c, r = .returned (.slice A size c) ∧ w'.ownsRow w.heap.size 5 1 (.slice A size c) size (Lib.byteCells (readB m 0 size)) ∧ size ≤ c ∧ KpS B g q3 q4 v m size (n + 1088) w' ∧ Turn B w w' := by
  have hv : ∀ i b, i < 64 → (v i).ownBlock = some b → b < w.heap.size := fun i b hi hb => by
    obtain ⟨va, ask, hs, _⟩ := h.sh
    exact (row_lt' (hs.lv i hi) b hb).2.1
  have hsz := h.sz
  have h0 : AllI B g q3 q4 v m size n w 0 (.slice none 0 0) w := ⟨h, by rw [show min size (2048 * 0) = 0 by omega]; exact World.ownsRow_nil _ _ _ _, Turn.refl _ _⟩
  have i0 : (size : Int) ≤ 32768 := by omega
  clear h
  replace hv := Lib.hid hv
  go_enter Try.func12, Try.ntmps12
  go_wp2
  go_loopw [3, 4] (fun t3 t4 wr => ∃ (k : Nat), t4 = .int .i64 ((2048 * k : Nat) : Int) ∧ 2048 * k < size + 2048 ∧ AllI B g q3 q4 v m size n w k t3 wr) (fun _ t4 _ => size + 2048 - (intOf t4).toNat)
  case atStart => exact ⟨0, rfl, by omega, h0⟩
  case round =>
    obtain ⟨k, rfl, hk, hI⟩ := hrel
    have c3 := hI.kp.b3.cell0
    have c4 := hI.kp.b4.cell0
    by_cases hlt : 2048 * k < size
    · obtain ⟨va, ask, hS, hal⟩ := hI.kp.sh
      have hC := read_main B g v m 0 va ask size (2048 * k) 2048 wr hS (Nat.le_trans hB hI.tn.size) hsz hlt (by omega) (by omega)
      replace hC := Lib.hid hC
      replace hI := Lib.hid hI
      have i1 : ((2048 * k : Nat) : Int) < (size : Int) := by omega
      have hkk := Lib.hid hlt
      have hk2 : (2048 * k : Nat) ≤ 32768 := by omega
      generalize hat : 2048 * k = at9 at *
      clear hS hlt
      replace hat := Lib.hid hat
      go_wp2_with fail
      refine hC.out.mono ?_
      rintro r w2 hr
      obtain ⟨A, c, rfl, hro⟩ := read_ok0 hr
      rw [← hat.out] at hro
      obtain ⟨gn, cap, w3, hrun, hI3⟩ := hI.out.next hv.out hB (by rw [hat.out]; exact hkk.out) hal hro
      rw [hat.out] at hrun
      replace hrun := Lib.hid hrun
      replace hI3 := Lib.hid hI3
      clear hr hro hC c3 c4
      go_wp2_with (at_builtin; refine wpList_append_eq1 rfl (.tmp 23) (.tmp 24) 24 rfl _ _ _ _ (by rfl) (by rfl) hrun.out ?_)
      go_roundw
      case rel => exact ⟨k + 1, by have := hat.out; go_num, by have := hat.out; have := hkk.out; omega, hI3.out⟩
      case measure => have := hkk.out; simp [intOf]; omega
    · have i1 : ¬ ((2048 * k : Nat) : Int) < (size : Int) := by omega
      have hF := hI.kp
      have how := hI.ow
      rw [show min size (2048 * k) = size by omega] at how
      obtain ⟨A, c, rfl, hr, hc⟩ := row_form1 how
      replace hI := Lib.hid hI
      replace how := Lib.hid how
      have hF2 : KpS B g q3 q4 v m size (n + 1088) wr := by
        obtain ⟨va, ask, hs, hl⟩ := hF.sh
        exact ⟨⟨va, ask, hs, by omega⟩, hF.x4, hF.x5, hF.b3, hF.sz⟩
      replace hF2 := Lib.hid hF2
      clear hF hr
      go_wp2
      go_ret
      exact ⟨A, c, rfl, how.out, hc, hF2.out, hI.out.tn⟩
end Go.Proofs.Ytpkadhgoaaphkaa
