/-
  The law's same, alike, great, proper (func 29, 30, 24, 26).
-/
import Derived.Test.YtnclappdokhciaaK6
import Derived.Test.YtnclappdokhciaaD15
import Derived.Test.YtnclappdokhciaaBig
import Derived.WalkMore
import Derived.Outline
import Derived.Deep.QuietTactic
import Derived.BigQuiet
namespace Go.Proofs.Ytnclappdokhciaa
open Go Go.RowKit
set_option linter.unusedVariables false
set_option maxRecDepth 200000 in
set_option maxHeartbeats 8000000 in
theorem sameW_any (d n k : Nat) (nm : ByteArray) (mu : Bool) (up : List Nat) (A A2 : Option Addr) (c c2 : Nat) (w : World) (h : RowU w A up c) (h2 : RowU w A2 up c2) (hn : up.length ≤ 100000) :
    Calls Try.prog 29 #[.agg #[.int .u16 d, .string nm, .int .u16 n, .int .u8 k, .bool mu, .slice A up.length c], .agg #[.int .u16 d, .string nm, .int .u16 n, .int .u8 k, .bool mu, .slice A2 up.length c2]] w fun r w' => r = .returned (.bool true) ∧ Only (fun _ => False) w w' := by
  have o1 := (Only.refl (fun _ => False) w).alloc (.cells #[.int .u16 d, .string nm, .int .u16 n, .int .u8 k, .bool mu, .slice A up.length c] 49)
  have b1 := Blk.new w 49 #[.int .u16 d, .string nm, .int .u16 n, .int .u8 k, .bool mu, .slice A up.length c]
  generalize hw1 : w.alloc (.cells #[.int .u16 d, .string nm, .int .u16 n, .int .u8 k, .bool mu, .slice A up.length c] 49) = w1 at *
  have o2 := (Only.refl (fun _ => False) w1).alloc (.cells #[.int .u16 d, .string nm, .int .u16 n, .int .u8 k, .bool mu, .slice A2 up.length c2] 52)
  have b2 := Blk.new w1 52 #[.int .u16 d, .string nm, .int .u16 n, .int .u8 k, .bool mu, .slice A2 up.length c2]
  have b1' := b1.only o2 (fun x => x)
  have hs : w1.heap.size = w.heap.size + 1 := by rw [← hw1]; simp
  have ho := o1.trans o2
  have g1 := h.only ho (fun _ _ x => x)
  have g2 := h2.only ho (fun _ _ x => x)
  rw [hs] at b2
  clear b1 o1 o2 h h2
  subst hw1
  go_enter Try.func29, Try.ntmps29
  go_upto_region 1 with fail
  generalize World.alloc _ _ = w2 at *
  generalize w.heap.size = q1 at *
  have p0 := b1'.cell 0
  have p1 := b1'.cell 1
  have p2 := b1'.cell 2
  have p3 := b1'.cell 3
  have p4 := b1'.cell 4
  have p5 := b1'.cell 5
  have r0 := b2.cell 0
  have r1 := b2.cell 1
  have r2 := b2.cell 2
  have r3 := b2.cell 3
  have r4 := b2.cell 4
  have r5 := b2.cell 5
  simp only [List.getElem?_toArray, List.getElem?_cons_zero, List.getElem?_cons_succ] at p0 p1 p2 p3 p4 p5 r0 r1 r2 r3 r4 r5
  replace b1' := Lib.hid b1'
  replace b2 := Lib.hid b2
  replace g1 := Lib.hid g1
  replace g2 := Lib.hid g2
  clear hs
  go_wp2
  go_loopw [5] (fun s5 wr => ∃ i : Nat, s5 = .int .i64 i ∧ i ≤ up.length ∧ Only (fun _ => False) w2 wr) (fun s5 _ => up.length - (intOf s5).toNat)
  case atStart => exact ⟨0, rfl, Nat.zero_le _, Only.refl _ _⟩
  case round =>
    obtain ⟨i, rfl, hi, hO⟩ := hrel
    have e5 := (b1'.out.only hO (fun x => x)).cell 5
    have f5 := (b2.out.only hO (fun x => x)).cell 5
    simp only [List.getElem?_toArray, List.getElem?_cons_zero, List.getElem?_cons_succ] at e5 f5
    by_cases hlt : i < up.length
    · have hx : up[i]? = some up[i] := List.getElem?_eq_getElem hlt
      obtain ⟨bb, oo, eA, _, d0⟩ := (g1.out.only hO (fun _ _ x => x)).lit hx
      obtain ⟨bc, oc, eB, _, d1⟩ := (g2.out.only hO (fun _ _ x => x)).lit hx
      generalize up[i] = v at *
      rw [eA] at e5
      rw [eB] at f5
      clear hx p0 p1 p2 p3 p4 p5 r0 r1 r2 r3 r4 r5
      have j0 : (0 : Int) ≤ (i : Int) := by omega
      have j1 : (i : Int) < (up.length : Int) := by omega
      go_wp2
      go_quiet (fail)
      go_wp2
      go_roundw
      case rel => exact ⟨i + 1, by go_num, by omega, hO.drewN nq⟩
      case measure => simp [intOf]; omega
    · have j1 : ¬ (i : Int) < (up.length : Int) := by omega
      clear p0 p1 p2 p3 p4 p5 r0 r1 r2 r3 r4 r5
      go_wp2
      go_ret
      exact ⟨rfl, ho.trans hO⟩
def bigT (t : Thg) : Bool := decide (30 < t.L.length) || decide (200 < t.tg.size)
def greatT (ts : List Thg) (path : ByteArray) : Bool := decide (12 < ts.length) || decide (400 < path.size) || ts.any bigT
set_option maxRecDepth 200000 in
set_option maxHeartbeats 8000000 in
theorem greatT_any (ts : List Thg) (A : Option Addr) (c : Nat) (path : ByteArray) (w : World) (h : RowT w A ts c) :
    Calls Try.prog 24 #[.slice A ts.length c, .string path] w fun r w' => r = .returned (.bool (greatT ts path)) ∧ w = w' := by
  by_cases h12 : 12 < ts.length
  · have hd : greatT ts path = true := by unfold greatT; rw [decide_eq_true h12]; rfl
    replace hd := Lib.hid hd
    have i0 : (12 : Int) < (ts.length : Int) := by omega
    go_enter Try.func24, Try.ntmps24
    go_wp2
    go_ret
    exact ⟨by rw [hd.out]; rfl, rfl⟩
  by_cases h400 : 400 < path.size
  · have hd : greatT ts path = true := by unfold greatT; rw [decide_eq_true h400, Bool.or_true]; rfl
    replace hd := Lib.hid hd
    have i0 : ¬ (12 : Int) < (ts.length : Int) := by omega
    have i1 : (400 : Int) < (path.size : Int) := by omega
    go_enter Try.func24, Try.ntmps24
    go_wp2
    go_ret
    exact ⟨by rw [hd.out]; rfl, rfl⟩
  · have hd : greatT ts path = ts.any bigT := by unfold greatT; rw [decide_eq_false h12, decide_eq_false h400]; rfl
    replace hd := Lib.hid hd
    have i0 : ¬ (12 : Int) < (ts.length : Int) := by omega
    have i1 : ¬ (400 : Int) < (path.size : Int) := by omega
    go_enter Try.func24, Try.ntmps24
    go_wp2
    go_loop [5] (fun s5 => ∃ i : Nat, s5 = .int .i64 i ∧ i ≤ ts.length ∧ ts.any bigT = ((ts.drop i).any bigT)) (fun s5 => ts.length - (intOf s5).toNat)
    case atStart => exact ⟨0, rfl, by omega, rfl⟩
    case round =>
      obtain ⟨i, rfl, hi, hr⟩ := hrel
      by_cases hlt : i < ts.length
      · obtain ⟨x, hx⟩ : ∃ x, ts[i]? = some x := ⟨_, List.getElem?_eq_getElem hlt⟩
        obtain ⟨b, o, rfl, _, d0, d1, d2⟩ := h.lit hx
        have hdr : ts.drop i = x :: ts.drop (i + 1) := by
          rw [List.drop_eq_getElem_cons hlt]
          rw [List.getElem?_eq_getElem hlt] at hx
          cases hx; rfl
        rw [hdr, List.any_cons] at hr
        have j0 : (0 : Int) ≤ (i : Int) := by omega
        have j1 : (i : Int) < (ts.length : Int) := by omega
        clear hdr hx
        by_cases hg : 30 < x.L.length
        · rw [show bigT x = true by unfold bigT; rw [decide_eq_true hg]; rfl, Bool.true_or] at hr
          have hg' : (30 : Int) < (x.L.length : Int) := by omega
          have hd2 := Lib.hid (hd.out.trans hr)
          clear hr
          go_wp2
          go_ret
          exact ⟨by rw [hd2.out]; rfl, rfl⟩
        by_cases hg2 : 200 < x.tg.size
        · rw [show bigT x = true by unfold bigT; rw [decide_eq_true hg2, Bool.or_true], Bool.true_or] at hr
          have hg' : ¬ (30 : Int) < (x.L.length : Int) := by omega
          have hg2' : (200 : Int) < (x.tg.size : Int) := by omega
          have hd2 := Lib.hid (hd.out.trans hr)
          clear hr
          go_wp2
          go_ret
          exact ⟨by rw [hd2.out]; rfl, rfl⟩
        · rw [show bigT x = false by unfold bigT; rw [decide_eq_false hg, decide_eq_false hg2]; rfl, Bool.false_or] at hr
          have hg' : ¬ (30 : Int) < (x.L.length : Int) := by omega
          have hg2' : ¬ (200 : Int) < (x.tg.size : Int) := by omega
          replace hr := Lib.hid hr
          go_wp2
          go_round
          case rel => exact ⟨i + 1, by go_num, by omega, hr.out⟩
          case measure => simp [intOf]; omega
      · obtain rfl : i = ts.length := by omega
        rw [List.drop_length] at hr
        have hd2 := Lib.hid (hd.out.trans hr)
        clear hr
        go_wp2
        go_ret
        exact ⟨by rw [hd2.out]; rfl, rfl⟩
/-- A thing as the law lays it. -/
def propT (t : Thg) : Thg := if areS t.L = true ∧ t.e = 0 then t else ⟨none, 0, [], t.tg, t.e⟩
theorem propT_good {ts : List Thg} {path : ByteArray} (h : greatT ts path = false) : Good (ts.map propT) ∧ path.size ≤ 400 ∧ ts.length ≤ 12 ∧ ∀ t ∈ ts, t.L.length ≤ 30 := by
  unfold greatT at h
  rw [Bool.or_eq_false_iff, Bool.or_eq_false_iff, decide_eq_false_iff_not, decide_eq_false_iff_not, List.any_eq_false] at h
  obtain ⟨⟨h1, h2⟩, h3⟩ := h
  have hb : ∀ t ∈ ts, t.L.length ≤ 30 ∧ t.tg.size ≤ 200 := fun t ht => by
    have := h3 t ht
    unfold bigT at this
    simp at this
    omega
  refine ⟨⟨by rw [List.length_map]; omega, fun t ht => ?_⟩, by omega, by omega, fun t ht => (hb t ht).1⟩
  obtain ⟨s, hs, rfl⟩ := List.mem_map.1 ht
  unfold propT
  split
  · rename_i h
    exact ⟨h.1, fun h' => absurd h.2 h', (hb s hs).2⟩
  · exact ⟨kd7, fun _ => rfl, (hb s hs).2⟩
theorem und40 : Try.prog.underlying 40 = some (.slice 98) := by kernel_rfl
theorem info98k : (Try.prog.info? 98).map (fun i => (i.zero, i.size, i.bytes)) = some (some (.agg #[.slice none 0 0, .string ⟨#[]⟩, .int .i64 0]), 3, 48) := by kernel_rfl
/-- Things of the call's own, that grow. -/
def PT (w1 : World) (l : List Thg) (v : Value) (W : World) : Prop := W.ownsRow w1.heap.size 98 3 v l.length (ths l) ∧ Only (fun _ => False) w1 W
theorem PT.nil (w1 : World) : PT w1 [] (.slice none 0 0) w1 := ⟨World.ownsRow_nil _ _ _ _, Only.refl _ _⟩
theorem PT.next {w1 W W' : World} {l : List Thg} {v : Value} (h : PT w1 l v W) (ho : Only (fun _ => False) W W') : PT w1 l v W' := ⟨row_only h.1 ho (fun _ _ x => x), h.2.trans ho⟩
theorem PT.row {w1 W : World} {l : List Thg} {v : Value} (h : PT w1 l v W) : ∃ A c, v = .slice A l.length c ∧ Reads W W.heap.size A (l.length * 3) (ths l) ∧ l.length ≤ c ∧ (A = none → l.length = 0 ∧ c = 0) := by
  have h1 := h.1
  rcases h1.2 with ⟨e1, e2⟩ | ⟨g, cap, cur, e1, hb, hh, hc, hc2, hs, ht⟩
  · have hl : l = [] := List.eq_nil_of_length_eq_zero (by omega)
    subst hl
    exact ⟨none, 0, by rw [e1]; rfl, ⟨rfl, fun h => by simp at h⟩, Nat.le_refl _, fun _ => ⟨rfl, rfl⟩⟩
  · refine ⟨_, cap, e1, ⟨ths_len l, fun hp => ⟨g, 0, rfl, ?_, fun j u hu => ?_⟩⟩, by omega, fun h => by cases h⟩
    · exact (row_lt h.1 g (by rw [e1]; rfl)).2
    · have := h.1.cells (g := g) (by rw [e1]; rfl) j u hu
      rw [add_lit] at this; exact this
theorem PT.one {w1 W W2 : World} {l : List Thg} {v : Value} (h : PT w1 l v W) (hW : Only (fun _ => False) W W2) (hn : l.length ≤ 1000) (q : Nat) (x : Thg) (hq : Blk W2 q 98 #[.slice x.A x.L.length x.c, .string x.tg, .int .i64 x.e]) :
    ∃ v9 w', (Builtin.append_ #[40, 40] 40 #[v, .slice (some ⟨q, 0, none⟩) 1 1]).run Try.prog W2 = .ok v9 w' ∧ PT w1 (l ++ [x]) v9 w' := by
  obtain ⟨i, hi, hi0, hi1, hi2⟩ := info_of info98k
  have h2 := h.next hW
  obtain ⟨v', w', hr, hown, ho⟩ := app_part (P := Try.prog) (t := 40) (e := 98) (size := 3) (bytes := 48) (w0 := w1) h2.1 h2.2 und40 hi hi0 hi1 hi2 rfl (by omega) (by omega) ⟨some ⟨q, 0, none⟩, 1, 1, ths [x]⟩ ⟨⟨rfl, fun _ => ⟨q, 0, rfl, hq.lt, fun j u hu => by
    rw [Nat.zero_add, hq.cell j, ← hu]
    simp [ths, Thg.cells]⟩⟩, Nat.le_refl _, (fun e => by cases e), ths_one [x]⟩ (by simp only; omega)
  refine ⟨v', w', hr, ?_, ho⟩
  rw [List.length_append, ths_app]
  exact hown
end Go.Proofs.Ytnclappdokhciaa
