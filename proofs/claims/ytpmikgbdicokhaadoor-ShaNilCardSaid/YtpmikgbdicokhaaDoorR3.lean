/-
  The reference's Take (func 17).
-/
import Derived.Test.YtpmikgbdicokhaaDoorR2
namespace Go.Proofs.YtpmikgbdicokhaaDoor
open Go.RowKit
set_option linter.unusedVariables false

def s8l (S : S8) : List Value := [uw S.a, uw S.b, uw S.c, uw S.d, uw S.e, uw S.f, uw S.g, uw S.h]
theorem turned_n (x : Nat) (n : Int) (hx : x < 4294967296) (hk : n = 2 ∨ n = 6 ∨ n = 11 ∨ n = 13 ∨ n = 22 ∨ n = 25) (w : World) :
    Calls Tryd.prog 23 #[.int .u32 (x : Int), .int .i64 n] w fun e w' => e = .returned (.int .u32 (rot n.toNat x : Int)) ∧ w = w' := by
  rcases hk with rfl | rfl | rfl | rfl | rfl | rfl
  · exact turned_at x 2 2 rfl hx (by omega) w
  · exact turned_at x 6 6 rfl hx (by omega) w
  · exact turned_at x 11 11 rfl hx (by omega) w
  · exact turned_at x 13 13 rfl hx (by omega) w
  · exact turned_at x 22 22 rfl hx (by omega) w
  · exact turned_at x 25 25 rfl hx (by omega) w
theorem tsum2 (re rf rg rh kc wk : Nat) (l4 : re < 4294967296) (l5 : rf < 4294967296) (l6 : rg < 4294967296) :
    (((rh : Int) + bits .xor .u32 (bits .xor .u32 (rot 6 re : Nat) (rot 11 re : Nat)) (rot 25 re : Nat) + bits .xor .u32 (bits .and .u32 (re : Int) (rf : Int)) (bits .and .u32 (bits .xor .u32 (if IntKind.u32.signed = true then -1 else IntKind.u32.max) (re : Int)) (rg : Int)) + (kc : Int)) % 4294967296 + (wk : Int)) % 4294967296 =
      (((rh + bg1 re + ch re rf rg + kc + wk) % 4294967296 : Nat) : Int) := by
  rw [← tsum re rf rg rh kc wk l4 l5 l6]
  generalize (rh : Int) + bits .xor .u32 (bits .xor .u32 (rot 6 re : Nat) (rot 11 re : Nat)) (rot 25 re : Nat) + bits .xor .u32 (bits .and .u32 (re : Int) (rf : Int)) (bits .and .u32 (bits .xor .u32 (if IntKind.u32.signed = true then -1 else IntKind.u32.max) (re : Int)) (rg : Int)) + (kc : Int) = y
  omega
theorem wrap32 (x : Int) : IntKind.u32.wrap x = x % 4294967296 := rfl
theorem add_nth (S r : S8) {i : Nat} (hi : i < 8) : (s8l ⟨(S.a + r.a) % 4294967296, (S.b + r.b) % 4294967296, (S.c + r.c) % 4294967296, (S.d + r.d) % 4294967296, (S.e + r.e) % 4294967296, (S.f + r.f) % 4294967296, (S.g + r.g) % 4294967296, (S.h + r.h) % 4294967296⟩)[i]? =
    some (.int .u32 (((S.nth i + r.nth i) % 4294967296 : Nat) : Int)) := by
  match i, hi with
  | 0, _ | 1, _ | 2, _ | 3, _ | 4, _ | 5, _ | 6, _ | 7, _ => rfl
theorem taken_nth (S : S8) (B : Nat → Nat) {i : Nat} (hi : i < 8) : (s8l (taken S B))[i]? = some (.int .u32 (((S.nth i + (stps B S 64).nth i) % 4294967296 : Nat) : Int)) := by
  unfold taken
  exact add_nth S (stps B S 64) hi
theorem s8l_get (S : S8) {i : Nat} (hi : i < 8) : (s8l S)[i]? = some (.int .u32 (S.nth i : Int)) := by
  match i, hi with
  | 0, _ | 1, _ | 2, _ | 3, _ | 4, _ | 5, _ | 6, _ | 7, _ => rfl
/-- The eight cells of the state at g. -/
def A8 (w : World) (g : Nat) (s : S8) : Prop := ∀ i u, (s8l s)[i]? = some u → w.cell? ⟨g, i, none⟩ = some u
theorem A8.c8 {w : World} {g : Nat} {s : S8} (h : A8 w g s) : w.cell? ⟨g, 0, none⟩ = some (.int .u32 s.a) ∧ w.cell? ⟨g, 1, none⟩ = some (.int .u32 s.b) ∧ w.cell? ⟨g, 2, none⟩ = some (.int .u32 s.c) ∧ w.cell? ⟨g, 3, none⟩ = some (.int .u32 s.d) ∧
    w.cell? ⟨g, 4, none⟩ = some (.int .u32 s.e) ∧ w.cell? ⟨g, 5, none⟩ = some (.int .u32 s.f) ∧ w.cell? ⟨g, 6, none⟩ = some (.int .u32 s.g) ∧ w.cell? ⟨g, 7, none⟩ = some (.int .u32 s.h) :=
  ⟨h 0 _ rfl, h 1 _ rfl, h 2 _ rfl, h 3 _ rfl, h 4 _ rfl, h 5 _ rfl, h 6 _ rfl, h 7 _ rfl⟩
/-- What holds of the world within Take. -/
structure RT (w : World) (g5 g6 : Nat) (B : Nat → Nat) (wr : World) : Prop where
  n : ∀ i, i < 64 → wr.cell? ⟨g5, i, none⟩ = some (uw (wn B i))
  c : ∀ i, i < 64 → wr.cell? ⟨g6, i, none⟩ = some (uw (kk.getD i 0))
  l5 : g5 < wr.heap.size
  l6 : g6 < wr.heap.size
  o : Only (fun _ => False) w wr
theorem RT.next {w : World} {g5 g6 : Nat} {B : Nat → Nat} {wr w' : World} (h : RT w g5 g6 B wr) (ho : Only (fun _ => False) wr w') : RT w g5 g6 B w' :=
  ⟨fun i hi => (Blk.cell_only (a := ⟨g5, i, none⟩) ho h.l5 (fun x => x)).trans (h.n i hi), fun i hi => (Blk.cell_only (a := ⟨g6, i, none⟩) ho h.l6 (fun x => x)).trans (h.c i hi), Nat.lt_of_lt_of_le h.l5 ho.size, Nat.lt_of_lt_of_le h.l6 ho.size, h.o.trans ho⟩
theorem A8.next {w w' : World} {g : Nat} {s : S8} (h : A8 w g s) (hg : g < w.heap.size) (ho : Only (fun _ => False) w w') : A8 w' g s :=
  fun i u hu => (Blk.cell_only (a := ⟨g, i, none⟩) ho hg (fun x => x)).trans (h i u hu)

set_option maxRecDepth 10000 in
set_option maxHeartbeats 4000000 in
theorem rtake_any (As : Option Addr) (cs bb bo cb : Nat) (B : Nat → Nat) (S : S8) (hS : S.ok) (w : World) (hs : Reads w w.heap.size As 8 (s8l S)) (hp : Piece w bb bo B) (hcb : 64 ≤ cb) (hcs : 8 ≤ cs) :
    Calls Tryd.prog 17 #[.slice As 8 cs, .slice (some ⟨bb, bo, none⟩) 64 cb] w fun e w' => ∃ v, e = .returned v ∧ PV w 36 (s8l (taken S B)) 8 v w' := by
  obtain ⟨i36, hi, hi0, hi1, hi2⟩ := info36
  obtain ⟨bs, os, rfl, hbs, hcS⟩ := hs.2 (by omega)
  have hBB := hp.2.1
  go_enter Tryd.func17, Tryd.ntmps17
  go_wp2_with fail
  refine (rnum_any bb bo cb B w hp hcb).mono ?_
  rintro e w1 ⟨v5, rfl, hP5⟩
  obtain ⟨g5, c5, rfl, hc5, hg5, hg5l, hcell5⟩ := hP5.at_ (by omega)
  go_wp2_with fail
  refine (consts_any w1).mono ?_
  rintro e w2 ⟨rfl, hw2⟩
  have hb6 : Blk w2 w1.heap.size 36 (kk.map uw).toArray := by rw [← hw2]; exact Blk.new w1 36 _
  have ho2 : Only (fun _ => False) w1 w2 := by rw [← hw2]; exact (Only.refl _ _).alloc _
  clear hw2
  have hT2 : RT w g5 w1.heap.size B w2 := ⟨fun i hi => (Blk.cell_only (a := ⟨g5, i, none⟩) ho2 hg5l (fun x => x)).trans (hcell5 i _ (wsu B hi)), fun i hi => by
    rw [hb6.cell i, List.getElem?_toArray, List.getElem?_map, List.getElem?_eq_getElem (show i < kk.length from hi), List.getD_eq_getElem?_getD, List.getElem?_eq_getElem (show i < kk.length from hi)]
    rfl, Nat.lt_of_lt_of_le hg5l ho2.size, hb6.lt, hP5.only.trans ho2⟩
  have hs2 : Reads w2 w2.heap.size (some ⟨bs, os, none⟩) 8 (s8l S) := (hs.only (Nat.le_refl _) hT2.o (fun _ _ x => x)).more hT2.o.size
  have hone : ∀ u ∈ s8l S, u.oneCell' = true := by
    intro u hu
    simp only [s8l, List.mem_cons, List.not_mem_nil, or_false] at hu
    rcases hu with rfl | rfl | rfl | rfl | rfl | rfl | rfl | rfl <;> rfl
  obtain ⟨v7, w3, hap, hP7⟩ := (PV.nil w2 36).app (P := Tryd.prog) (Only.refl _ w2) i36 (.int .u32 0) 4 37 und37 hi hi0 hi1 hi2 rfl (by omega) (some ⟨bs, os, none⟩) 8 cs w2.heap.size (s8l S) (by omega) hs2 hone (by omega)
  rw [List.nil_append] at hP7
  obtain ⟨g7, c7, rfl, hc7, hg7, hg7l, hcell7⟩ := hP7.at_ (by omega)
  have hT3 := hT2.next hP7.only
  have hA3 : A8 w3 g7 (stps B S 0) := hcell7
  clear hP5 hcell5 hb6 ho2 hs2 hcell7 hP7 hT2
  generalize w1.heap.size = g6 at *
  go_wp2_with (at_builtin; refine wpList_append_eq1 rfl (.const (.slice none 0 0)) (.tmp 16) 37 rfl (.slice none 0 0) (.slice (some ⟨bs, os, none⟩) 8 cs) _ w3 (by simp [Act.eval]) (by simp [Act.eval]) hap ?_)
  clear hap
  go_loopw [7, 8, 9, 10] (fun v t _ _ wr => ∃ (k g c : Nat), t = .int .i64 k ∧ k ≤ 64 ∧ v = .slice (some ⟨g, 0, none⟩) 8 c ∧ 8 ≤ c ∧ g < wr.heap.size ∧ A8 wr g (stps B S k) ∧ RT w g5 g6 B wr) (fun _ t _ _ _ => 64 - (intOf t).toNat)
  case atStart => exact ⟨0, g7, c7, rfl, by omega, rfl, hc7, hg7l, hA3, hT3⟩
  case round =>
    obtain ⟨k, g, c, rfl, hk, rfl, hc, hg, hA, hT⟩ := hrel
    clear hA3 hT3
    by_cases hlt : k < 64
    · have hso := stps_ok B hS k
      have HS := Lib.hid (show stps B S (k + 1) = stp (stps B S k) (kk.getD k 0) (wn B k) from rfl)
      have z1 := hT.c k hlt
      have z2 := hT.n k hlt
      unfold uw at z1 z2
      have lw := wn_lt B hBB k
      obtain ⟨y0, y1, y2, y3, y4, y5, y6, y7⟩ := hA.c8
      clear hA
      generalize stps B S k = r at hso HS y0 y1 y2 y3 y4 y5 y6 y7
      obtain ⟨ra, rb, rc, rd, re, rf, rg, rh⟩ := r
      obtain ⟨l0, l1, l2, l3, l4, l5, l6, l7⟩ := hso
      simp only at l0 l1 l2 l3 l4 l5 l6 l7 y0 y1 y2 y3 y4 y5 y6 y7
      generalize kk.getD k 0 = kc at z1 HS
      generalize wn B k = wk at z2 lw HS
      have k0 : (0 : Int) ≤ (k : Int) := by omega
      have k1 : (k : Int) < 64 := by omega
      have tse := Lib.hid (tsum2 re rf rg rh kc wk l4 l5 l6)
      have use := Lib.hid (usum ra rb rc l0 l1 l2)
      replace hBB := Lib.hid hBB
      replace hS := Lib.hid hS
      go_wp2
      go_quiet ((go_at_call 23; exact quiet_l (turned_n _ _ (by assumption) (by decide) _)))
      rw [tse.out]
      obtain ⟨T, hTT⟩ : ∃ T, T = (rh + bg1 re + ch re rf rg + kc + wk) % 4294967296 := ⟨_, rfl⟩
      rw [← hTT]
      replace hTT := Lib.hid hTT
      have hT' := hT.next ((Only.refl (fun _ => False) wr).drewN nq)
      have hg' : g < (wr.drewN nq).heap.size := hg
      obtain ⟨x0, x1, x2, x3, x4, x5, x6, x7⟩ : (wr.drewN nq).cell? ⟨g, 0, none⟩ = some (.int .u32 ra) ∧ (wr.drewN nq).cell? ⟨g, 1, none⟩ = some (.int .u32 rb) ∧ (wr.drewN nq).cell? ⟨g, 2, none⟩ = some (.int .u32 rc) ∧ (wr.drewN nq).cell? ⟨g, 3, none⟩ = some (.int .u32 rd) ∧
        (wr.drewN nq).cell? ⟨g, 4, none⟩ = some (.int .u32 re) ∧ (wr.drewN nq).cell? ⟨g, 5, none⟩ = some (.int .u32 rf) ∧ (wr.drewN nq).cell? ⟨g, 6, none⟩ = some (.int .u32 rg) ∧ (wr.drewN nq).cell? ⟨g, 7, none⟩ = some (.int .u32 rh) := ⟨y0, y1, y2, y3, y4, y5, y6, y7⟩
      clear hT y0 y1 y2 y3 y4 y5 y6 y7 z1 z2 hg
      generalize wr.drewN nq = w6 at *
      go_wp2
      go_quiet ((go_at_call 23; exact quiet_l (turned_n _ _ (by assumption) (by decide) _)))
      rw [use.out]
      obtain ⟨U, hUU⟩ : ∃ U, U = (bg0 ra + maj ra rb rc) % 4294967296 := ⟨_, rfl⟩
      rw [← hUU]
      replace hUU := Lib.hid hUU
      have hT8 := hT'.next ((Only.refl (fun _ => False) w6).drewN nq)
      have hg8 : g < (w6.drewN nq).heap.size := hg'
      obtain ⟨y0, y1, y2, y3, y4, y5, y6, y7⟩ : (w6.drewN nq).cell? ⟨g, 0, none⟩ = some (.int .u32 ra) ∧ (w6.drewN nq).cell? ⟨g, 1, none⟩ = some (.int .u32 rb) ∧ (w6.drewN nq).cell? ⟨g, 2, none⟩ = some (.int .u32 rc) ∧ (w6.drewN nq).cell? ⟨g, 3, none⟩ = some (.int .u32 rd) ∧
        (w6.drewN nq).cell? ⟨g, 4, none⟩ = some (.int .u32 re) ∧ (w6.drewN nq).cell? ⟨g, 5, none⟩ = some (.int .u32 rf) ∧ (w6.drewN nq).cell? ⟨g, 6, none⟩ = some (.int .u32 rg) ∧ (w6.drewN nq).cell? ⟨g, 7, none⟩ = some (.int .u32 rh) := ⟨x0, x1, x2, x3, x4, x5, x6, x7⟩
      clear hT' x0 x1 x2 x3 x4 x5 x6 x7 hg'
      generalize w6.drewN nq = w8 at *
      go_wp2
      go_region_held3 (fun W => W.cell? ⟨g, 0, none⟩ = some (.int .u32 ra) ∧ W.cell? ⟨g, 1, none⟩ = some (.int .u32 rb) ∧ W.cell? ⟨g, 2, none⟩ = some (.int .u32 rc) ∧ W.cell? ⟨g, 3, none⟩ = some (.int .u32 rd) ∧
        W.cell? ⟨g, 4, none⟩ = some (.int .u32 re) ∧ W.cell? ⟨g, 5, none⟩ = some (.int .u32 rf) ∧ W.cell? ⟨g, 6, none⟩ = some (.int .u32 rg)) (first | assumption | go_keep) (fail)
      all_goals
        have hcells : #[Value.int .u32 (IntKind.u32.wrap ((T : Int) + U)), .int .u32 ra, .int .u32 rb, .int .u32 rc, .int .u32 (IntKind.u32.wrap ((rd : Int) + T)), .int .u32 re, .int .u32 rf, .int .u32 rg] = (s8l (stp ⟨ra, rb, rc, rd, re, rf, rg, rh⟩ kc wk)).toArray := by
          have e0 : IntKind.u32.wrap ((T : Int) + U) = (((T + U) % 4294967296 : Nat) : Int) := by rw [wrap32]; omega
          have e4 : IntKind.u32.wrap ((rd : Int) + T) = (((rd + T) % 4294967296 : Nat) : Int) := by rw [wrap32]; omega
          rw [e0, e4, hTT.out, hUU.out]
          rfl
        go_wp2
        go_roundw
        case rel =>
          refine ⟨k + 1, w8.heap.size, 8, by go_num, by omega, rfl, by omega, by show w8.heap.size < (w8.alloc _).heap.size; simp, ?_, hT8.next (((Only.refl _ w8).alloc _).drew)⟩
          rw [HS.out]
          intro i u hu
          refine ((Blk.new w8 36 _).drew.cell i).trans ?_
          first | rw [hcells, List.getElem?_toArray] | rw [List.getElem?_toArray]
          exact hu
        case measure => simp [intOf]; omega
    · obtain rfl : k = 64 := by omega
      rw [show ((64 : Nat) : Int) = 64 from rfl]
      have hbw : bs < wr.heap.size := Nat.lt_of_lt_of_le hbs hT.o.size
      have hcs' : ∀ i, i < 8 → wr.cell? ⟨bs, os + i, none⟩ = some (.int .u32 (S.nth i : Int)) := fun i hi => (Blk.cell_only (a := ⟨bs, os + i, none⟩) hT.o hbs (fun x => x)).trans (hcS i _ (s8l_get S hi))
      have hca : ∀ i, i < 8 → wr.cell? ⟨g, i, none⟩ = some (.int .u32 ((stps B S 64).nth i : Int)) := fun i hi => hA i _ (s8l_get _ hi)
      have hwr := hT.o
      have htk := fun i (hi : i < 8) => taken_nth S B hi
      have hlen : (s8l (taken S B)).length = 8 := rfl
      replace htk := Lib.hid htk
      clear hA hT hcS hs hone hp
      generalize stps B S 64 = r at *
      generalize hout : s8l (taken S B) = out at *
      replace hout := Lib.hid hout
      go_wp2
      obtain ⟨w9, rfl⟩ : ∃ w9, w9 = wr := ⟨_, rfl⟩
      go_loopw [11, 12] (fun v t wr' => ∃ (i : Nat), t = .int .i64 i ∧ i ≤ 8 ∧ PV w9 36 (out.take i) i v wr') (fun _ t _ => 8 - (intOf t).toNat)
      case atStart => exact ⟨0, rfl, by omega, by rw [List.take_zero]; exact PV.nil w9 36⟩
      case round =>
        obtain ⟨i, rfl, hi8, hP⟩ := hrel
        by_cases hlt8 : i < 8
        · obtain ⟨A, c11, rfl, _⟩ := id hP
          have y1 := (Blk.cell_only (a := ⟨bs, os + i, none⟩) hP.only hbw (fun x => x)).trans (hcs' i hlt8)
          have y2 := (Blk.cell_only (a := ⟨g, i, none⟩) hP.only hg (fun x => x)).trans (hca i hlt8)
          have ho9 := htk.out i hlt8
          obtain ⟨v', w', hap, hP'⟩ := (hP.next (Only.refl (fun _ => False) wr).drew).one (P := Tryd.prog) i36 (.int .u32 0) 4 37 und37 hi hi0 hi1 hi2 rfl (by omega) (.int .u32 (((S.nth i : Int) + (r.nth i : Int)) % 4294967296)) rfl (by omega)
          have kp1 := (Blk.cell_only (a := ⟨bs, os + i, none⟩) hP'.only hbw (fun x => x)).trans (hcs' i hlt8)
          have kp2 := (Blk.cell_only (a := ⟨g, i, none⟩) hP'.only hg (fun x => x)).trans (hca i hlt8)
          have k0 : (0 : Int) ≤ (i : Int) := by omega
          have k1 : (i : Int) < 8 := by omega
          have hN := Lib.hid (And.intro ho9 hP')
          clear ho9 hP' hP hcs' hca
          generalize S.nth i = p1 at *
          generalize r.nth i = p2 at *
          go_wp2
          go_region_held3 (fun W => W.cell? ⟨bs, os + i, none⟩ = some (.int .u32 (p1 : Int)) ∧ W.cell? ⟨g, i, none⟩ = some (.int .u32 (p2 : Int))) (first | assumption | exact ⟨kp1, kp2⟩ | go_keep) (first | (refine step_append_eq1 rfl (.tmp 136) (.tmp 146) 37 rfl (.slice A i c11) (.slice (some ⟨wr.heap.size, 0, none⟩) 1 1) v' w' (by simp [Act.eval]) (by simp [Act.eval]) hap ?_))
          all_goals
            go_wp2
            go_roundw
            case rel =>
              refine ⟨i + 1, by go_num, by omega, ?_⟩
              rw [List.take_add_one, hN.out.1]
              exact hN.out.2
            case measure => simp [intOf]; omega
        · obtain rfl : i = 8 := by omega
          rw [List.take_of_length_le (by omega)] at hP
          go_wp2
          go_ret
          obtain ⟨A, c11, rfl, _, _, hown, ho9⟩ := hP
          rw [← hout.out] at hown
          exact ⟨_, rfl, PV.of (ownsRow_mono hown hwr.size) (hwr.trans ho9)⟩
end Go.Proofs.YtpmikgbdicokhaaDoor
