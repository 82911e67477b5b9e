/-
  The walk of kintsugilaw01.ShaPieces (func 6).
-/
import Derived.Test.YtpmikgbdicokhaaDoorHexW
namespace Go.Proofs.YtpmikgbdicokhaaDoor
open Go.RowKit
set_option linter.unusedVariables false

/-- Two bytes: a number of 16 bits. -/
def uh (x : Nat) : Value := .int .u16 (x : Int)
theorem und22' : Tryd.prog.underlying 22 = some (.slice 5) := und22

theorem slice22 (A : Option Addr) (L cb l h : Nat) (hl : l ≤ h) (hh : h ≤ cb) (w : World) : (Instr.slice 22 (.slice A L cb) (some (.int .i64 (l : Int))) (some (.int .i64 (h : Int))) none).run Tryd.prog w = .ok (.slice (if cb = l then A else A.map (·.add l)) (h - l) (cb - l)) w := by
  obtain ⟨i5, hi, hi0, hi1, hi2⟩ := info5
  have e1 : ∀ code, (Instr.sliceBound (.int .i64 (h : Int)) cb code).run Tryd.prog w = .ok h w := fun code => by
    rw [run_sliceBound w .i64 (h : Int) cb code (by omega) (by omega)]; rfl
  have e2 : ∀ code, (Instr.sliceBound (.int .i64 (l : Int)) h code).run Tryd.prog w = .ok l w := fun code => by
    rw [run_sliceBound w .i64 (l : Int) h code (by omega) (by omega)]; rfl
  simp [Instr.slice, Instr.sliceBounds, run_underlying und22, e1, e2, sizeOf, typeInfo, hi, hi1]
theorem sliceLow22 (A : Option Addr) (L cb l : Nat) (hl : l ≤ L) (hh : L ≤ cb) (w : World) : (Instr.slice 22 (.slice A L cb) (some (.int .i64 (l : Int))) none none).run Tryd.prog w = .ok (.slice (if cb = l then A else A.map (·.add l)) (L - l) (cb - l)) w := by
  obtain ⟨i5, hi, hi0, hi1, hi2⟩ := info5
  have e2 : ∀ code, (Instr.sliceBound (.int .i64 (l : Int)) L code).run Tryd.prog w = .ok l w := fun code => by
    rw [run_sliceBound w .i64 (l : Int) L code (by omega) (by omega)]; rfl
  simp [Instr.slice, Instr.sliceBounds, run_underlying und22, e2, sizeOf, typeInfo, hi, hi1]
theorem sliceHigh22 (A : Option Addr) (L cb h : Nat) (hh : h ≤ cb) (w : World) : (Instr.slice 22 (.slice A L cb) none (some (.int .i64 (h : Int))) none).run Tryd.prog w = .ok (.slice (if cb = 0 then A else A.map (·.add 0)) h cb) w := by
  obtain ⟨i5, hi, hi0, hi1, hi2⟩ := info5
  have e1 : ∀ code, (Instr.sliceBound (.int .i64 (h : Int)) cb code).run Tryd.prog w = .ok h w := fun code => by
    rw [run_sliceBound w .i64 (h : Int) cb code (by omega) (by omega)]; rfl
  simp [Instr.slice, Instr.sliceBounds, run_underlying und22, e1, sizeOf, typeInfo, hi]

theorem same24 (d e : Nat → Nat) (hd : ∀ i, i < 32 → d i < 256) (he : ∀ i, i < 32 → e i < 256) (w : World) :
    (Op.equalIn 10000 24 (.agg (tab 32 fun i => ub (d i))) (.agg (tab 32 fun i => ub (e i)))).run Tryd.prog w = .ok (same32 d e) w := by
  have h := eql24 d e hd he w
  rw [run_eql_struct] at h
  cases hr : (Op.equalIn 10000 24 (.agg (tab 32 fun i => ub (d i))) (.agg (tab 32 fun i => ub (e i)))).run Tryd.prog w with
  | ok b w' => rw [hr] at h; simp only [Result.andThen_ok, Result.ok.injEq, Value.bool.injEq] at h; rw [h.1, h.2]
  | halt x w' => rw [hr] at h; cases h
theorem dby_lt32 (s : S8) : ∀ i, i < 32 → dby s i < 256 := fun i _ => dby_lt s i
theorem eq24 (s : S8) (w : World) : (binOp .eql 24 (.agg (tab 32 fun i => ub (dby s i))) (.agg (tab 32 fun i => ub (dby s i)))).run Tryd.prog w = .ok (.bool true) w := by
  rw [eql24 _ _ (dby_lt32 s) (dby_lt32 s), same32_iff.2 fun _ _ => rfl]
theorem neq24 (s : S8) (w : World) : (binOp .neq 24 (.agg (tab 32 fun i => ub (dby s i))) (.agg (tab 32 fun i => ub (dby s i)))).run Tryd.prog w = .ok (.bool false) w := by
  rw [run_neq_struct, same24 _ _ (dby_lt32 s) (dby_lt32 s), same32_iff.2 fun _ _ => rfl]
  rfl
theorem sum_agg (p : Nat) (hp0 : p ≠ 0) (l : List Nat) (w : World) (hk : KK w) (hH : HashAt w p l) (hN : l.length ≤ 1152921504606846976) :
    Calls Tryd.prog 14 #[.pointer (some ⟨p, 0, none⟩)] w fun e w' => e = .returned (.agg (tab 32 fun i => ub (dby (sha l) i))) ∧ Only (fun _ => False) w w' := sum_any p hp0 l w hk hH hN
theorem all_agg (l : List Nat) (n : Nat) (hn : l.length = n) (Ab : Option Addr) (cb : Nat) (w : World) (hk : KK w) (hl : ∀ x ∈ l, x < 256) (hb : Reads w w.heap.size Ab n (l.map ub)) (hAb : Ab = none → n = 0) (hsz : n ≤ 70368744177664) :
    Calls Tryd.prog 9 #[.slice Ab n cb] w fun e w' => e = .returned (.agg (tab 32 fun i => ub (dby (sha l) i))) ∧ Only (fun _ => False) w w' := by
  subst hn; exact all_any l Ab cb w hk hl hb hAb hsz
theorem write_n (p : Nat) (hp0 : p ≠ 0) (l b : List Nat) (n : Nat) (hn : b.length = n) (Ab : Option Addr) (cb : Nat) (w : World) (hk : KK w) (hH : HashAt w p l) (hl : ∀ x ∈ b, x < 256) (hb : RN w p Ab n (b.map ub)) (hAb : Ab = none → n = 0)
    (hsz : n ≤ 70368744177664) (hN : l.length ≤ 4611686018427387904) :
    Calls Tryd.prog 13 #[.pointer (some ⟨p, 0, none⟩), .slice Ab n cb] w fun e w' => e = .returned (.tuple #[]) ∧ HashB w' p w.heap.size (l ++ b) ∧ Only (· = p) w w' := by
  subst hn; exact write_fresh p hp0 l b Ab cb w hk hH hl hb hAb hsz hN

/-- What ShaPieces is given reads so. -/
structure PA (w : World) (A : Option Addr) (bs : List Nat) (A2 : Option Addr) (cs : List Nat) (w' : World) : Prop where
  b : Reads w' w.heap.size A bs.length (bs.map ub)
  c : Reads w' w.heap.size A2 cs.length (cs.map uh)
theorem PA.only {w : World} {A : Option Addr} {bs : List Nat} {A2 : Option Addr} {cs : List Nat} {w' w'' : World} {S : Nat → Prop} (h : PA w A bs A2 cs w') (hw : w.heap.size ≤ w'.heap.size) (ho : Only S w' w'') (hs : ∀ k, k < w.heap.size → ¬ S k) : PA w A bs A2 cs w'' :=
  ⟨h.b.only hw ho hs, h.c.only hw ho hs⟩

/-- What holds of the world between ShaPieces' own steps: the hash at p was given l. -/
structure PK (w : World) (A : Option Addr) (bs : List Nat) (A2 : Option Addr) (cs : List Nat) (p : Nat) (l : List Nat) (w' : World) : Prop where
  h : HashAt w' p l
  kk : KK w'
  a : PA w A bs A2 cs w'
  o : Only (fun _ => False) w w'
theorem PK.next {w : World} {A : Option Addr} {bs : List Nat} {A2 : Option Addr} {cs : List Nat} {p : Nat} {l : List Nat} {w' w'' : World} (h : PK w A bs A2 cs p l w') (ho : Only (fun _ => False) w' w'') : PK w A bs A2 cs p l w'' :=
  ⟨h.h.only ho (fun x => x) (fun _ _ x => x), h.kk.only ho (fun x => x), h.a.only h.o.size ho (fun _ _ x => x), h.o.trans ho⟩
theorem PK.cut {w : World} {A : Option Addr} {bs : List Nat} {A2 : Option Addr} {cs : List Nat} {p : Nat} {l : List Nat} {w' : World} (h : PK w A bs A2 cs p l w') {i : Nat} (hi : i < cs.length) :
    ∃ b2 o2, A2 = some ⟨b2, o2, none⟩ ∧ w'.cell? ⟨b2, o2 + i, none⟩ = some (.int .u16 (cs[i] : Int)) := by
  obtain ⟨b2, o2, e, _, hc⟩ := h.a.c.2 (by omega)
  exact ⟨b2, o2, e, hc i _ (by rw [List.getElem?_map, List.getElem?_eq_getElem hi]; rfl)⟩

structure PQ (w : World) (A : Option Addr) (bs : List Nat) (A2 : Option Addr) (cs : List Nat) (p q : Nat) (w' : World) : Prop where
  k : PK w A bs A2 cs p bs w'
  t : Tab w' q 24 32 (fun i => ub (dby (sha bs) i))
theorem PQ.next {w : World} {A : Option Addr} {bs : List Nat} {A2 : Option Addr} {cs : List Nat} {p q : Nat} {w' w'' : World} (h : PQ w A bs A2 cs p q w') (ho : Only (fun _ => False) w' w'') : PQ w A bs A2 cs p q w'' :=
  ⟨h.k.next ho, h.t.only ho (fun x => x)⟩
theorem PK.cutAt {w : World} {A : Option Addr} {bs : List Nat} {b2 o2 : Nat} {cs : List Nat} {p : Nat} {l : List Nat} {w' : World} (h : PK w A bs (some ⟨b2, o2, none⟩) cs p l w') {i : Nat} (hi : i < cs.length) :
    w'.cell? ⟨b2, o2 + i, none⟩ = some (.int .u16 (cs[i] : Int)) := by
  obtain ⟨b, o, e, hc⟩ := h.cut hi
  cases e
  exact hc
theorem PK.reads {w : World} {A : Option Addr} {bs : List Nat} {A2 : Option Addr} {cs : List Nat} {p : Nat} {l : List Nat} {w' : World} (h : PK w A bs A2 cs p l w') {n : Nat} (hn : n ≤ bs.length) : Reads w' w'.heap.size A n ((bs.take n).map ub) := by
  have := (h.a.b.take hn).more h.o.size
  rwa [← List.map_take] at this

set_option maxRecDepth 10000 in
set_option maxHeartbeats 2000000 in
theorem shaPieces_walk (A : Option Addr) (bs : List Nat) (cb : Nat) (A2 : Option Addr) (cs : List Nat) (cc : Nat) (w : World) (hk : KK w) (hl : ∀ x ∈ bs, x < 256) (hl2 : ∀ x ∈ cs, x < 65536) (hP : PA w A bs A2 cs w)
    (hA : A = none → bs.length = 0) (hb1 : bs.length ≤ cb) (hc1 : cs.length ≤ cc) (hb2 : bs.length ≤ maxLen) (hc2 : cs.length ≤ maxLen) :
    Calls Tryd.prog 6 #[.slice A bs.length cb, .slice A2 cs.length cc] w fun x w' => x = .returned (.bool true) ∧ Only (fun _ => False) w w' := by
  by_cases hbig : bs.length ≤ 4000 ∧ cs.length ≤ 100
  case neg =>
    by_cases h1 : bs.length ≤ 4000
    · have h2 : ¬ cs.length ≤ 100 := fun h => hbig ⟨h1, h⟩
      have g1 : ¬ (4000 : Int) < (bs.length : Int) := by omega
      have g2 : (100 : Int) < (cs.length : Int) := by omega
      go_enter Tryd.func6, Tryd.ntmps6
      go_wp2_with fail
      refine (wakes_any w hk).mono ?_
      rintro e w1 ⟨rfl, ho⟩
      go_wp2
      exact bodyPost_ret (v := .bool true) (by simp [results, Tryd.results6, go_sem]) rfl ⟨rfl, ho⟩
    · have g1 : (4000 : Int) < (bs.length : Int) := by omega
      go_enter Tryd.func6, Tryd.ntmps6
      go_wp2_with fail
      refine (wakes_any w hk).mono ?_
      rintro e w1 ⟨rfl, ho⟩
      go_wp2
      exact bodyPost_ret (v := .bool true) (by simp [results, Tryd.results6, go_sem]) rfl ⟨rfl, ho⟩
  case pos =>
    obtain ⟨h1, h2⟩ := hbig
    have g1 : ¬ (4000 : Int) < (bs.length : Int) := by omega
    have g2 : ¬ (100 : Int) < (cs.length : Int) := by omega
    clear hb2 hc2
    go_enter Tryd.func6, Tryd.ntmps6
    go_wp2_with fail
    refine (new_any _).mono ?_
    rintro e w1 ⟨rfl, hw1⟩
    have hH1 := hash_new w
    have ho1 := (Only.refl (fun _ => False) w).alloc (.cells (hcells ⟨0, 0, 0, 0, 0, 0, 0, 0⟩ none 0 0 0 false) 45)
    rw [hw1] at hH1 ho1
    have hp1 : w.heap.size < w1.heap.size := hH1.plt
    have hk1 := hk.only ho1 (fun x => x)
    have hP1 := hP.only (Nat.le_refl _) ho1 (fun _ _ x => x)
    clear hw1
    have hp0 : w.heap.size ≠ 0 := by have := hk.1; omega
    have hK1 : PK w A bs A2 cs w.heap.size (bs.take 0) w1 := ⟨by rw [List.take_zero]; exact hH1, hk1, hP1, ho1⟩
    clear hH1 ho1 hk1 hP1 hP hk
    go_wp2
    go_loopw [6, 7] (fun v t wr => ∃ (at_ i : Nat), v = .int .i64 at_ ∧ t = .int .i64 i ∧ at_ ≤ bs.length ∧ i ≤ cs.length ∧ PK w A bs A2 cs w.heap.size (bs.take at_) wr) (fun _ t _ => cs.length - (intOf t).toNat)
    case atStart => exact ⟨0, 0, rfl, rfl, by omega, by omega, hK1⟩
    case round =>
      obtain ⟨at_, i, rfl, rfl, hat, hi, hK⟩ := hrel
      clear hK1
      by_cases hic : i < cs.length
      · obtain ⟨b2, o2, rfl, y⟩ := hK.cut hic
        have hx := hl2 _ (List.getElem_mem hic)
        have i0 : (0 : Int) ≤ (i : Int) := by omega
        have i1 : (i : Int) < (cs.length : Int) := by omega
        obtain ⟨x, hyo⟩ : ∃ x, cs[i] = x := ⟨_, rfl⟩
        rw [hyo] at y hx
        have w1' : IntKind.i64.wrap ((bs.length : Int) - at_) = (bs.length : Int) - at_ := IntWalk.i64_in _ (by omega)
        have w2' : IntKind.i64.wrap ((bs.length : Int) - at_ + 1) = (bs.length : Int) - at_ + 1 := IntWalk.i64_in _ (by omega)
        have hne : ¬ (bs.length : Int) - at_ + 1 = 0 := by omega
        obtain ⟨n, hn⟩ : ∃ n, n = x % (bs.length - at_ + 1) := ⟨_, rfl⟩
        have hnlt : n ≤ bs.length - at_ := by have := Nat.mod_lt x (show 0 < bs.length - at_ + 1 by omega); omega
        have hrem : (x : Int).tmod ((bs.length : Int) - at_ + 1) = (n : Int) := by
          rw [show (bs.length : Int) - at_ + 1 = ((bs.length - at_ + 1 : Nat) : Int) by omega, Int.tmod_eq_emod_of_nonneg (by omega), hn]
          rfl
        clear hn
        have hwr : w.heap.size ≤ wr.heap.size := hK.o.size
        have hRb := ((hK.a.b.drop (k := at_) (cap := cb) hat hb1).take (k := n) (by omega)).more hwr
        rw [← List.map_drop, ← List.map_take] at hRb
        have hlp : ((bs.drop at_).take n).length = n := by rw [List.length_take, List.length_drop]; omega
        have hRN : RN wr w.heap.size (if cb = at_ then A else A.map (·.add at_)) n (((bs.drop at_).take n).map ub) := ⟨hRb, fun hn a ha => by
          obtain ⟨b', o', e, hlt, _⟩ := ((hK.a.b.drop (k := at_) (cap := cb) hat hb1).take (k := n) (by omega)).2 hn
          rw [e] at ha; cases ha
          show b' ≠ _
          omega⟩
        obtain ⟨i5, hi5, hi0, hi1', hi2⟩ := info5
        obtain ⟨A4, c4, w2, happ, hown2, ho2⟩ := app_nil (P := Tryd.prog) wr 22 22 5 i5 (.int .u8 0) und22 hi5 hi0 hi1' hi2 rfl w.heap.size hK.h.plt (if cb = at_ then A else A.map (·.add at_)) n (cb - at_) _ hRN ub_one (by omega)
        have hK2 := hK.next ho2
        have hR2 : RN w2 w.heap.size A4 n (((bs.drop at_).take n).map ub) := ⟨Reads.of_own hown2, fun hn a ha => by
          obtain ⟨g, cap, hv, hg, _⟩ := hown2.form hn
          cases hv; cases ha
          have := hK.h.plt
          show g ≠ _
          omega⟩
        have hA4 : A4 = none → n = 0 := by
          rintro rfl
          rcases hown2.2 with ⟨_, h⟩ | ⟨g, c, cur, h, _⟩
          · exact h
          · cases h
        have hat2 : (bs.take at_ ++ (bs.drop at_).take n) = bs.take (at_ + n) := by rw [List.take_add]
        have hl3 : ∀ x ∈ (bs.drop at_).take n, x < 256 := fun x hx => hl x (List.mem_of_mem_drop (List.mem_of_mem_take hx))
        have hll : (bs.take at_).length ≤ 4611686018427387904 := by rw [List.length_take]; omega
        clear hRb hRN
        go_wp2_with (at_builtin; generalize (if cb = at_ then A else Option.map (fun x => x.add at_) A) = A3 at happ ⊢; refine wpList_append_eq1 rfl (.const (.slice none 0 0)) (.tmp 44) 22 rfl (.slice none 0 0) (.slice A3 n (cb - at_)) _ w2 (by simp [Act.eval]) (by simp [Act.eval]) happ ?_)
        clear happ
        refine (write_n w.heap.size hp0 (bs.take at_) _ n hlp A4 c4 w2 hK2.kk hK2.h hl3 hR2 hA4 (by omega) hll).mono ?_
        rintro e w3 ⟨rfl, hB3, ho3⟩
        rw [hat2] at hB3
        have hpw : w.heap.size < wr.heap.size := hK.h.plt
        have hpw2 : w.heap.size < w2.heap.size := hK2.h.plt
        have hk3 := hK2.kk.only ho3 (by omega)
        have hP3 := hK2.a.only hK2.o.size ho3 (fun k hk e => by omega)
        have hO3 : Only (fun _ => False) w w3 := hK2.o.trans_of ho3 (fun i hi e => by omega)
        have hG3 : 0 < n → ∃ g cur, A4 = some ⟨g, 0, none⟩ ∧ wr.heap.size ≤ g ∧ g < w2.heap.size ∧ Blk w3 g 5 cur ∧ n ≤ cur.size := by
          intro h0
          rcases hown2.2 with ⟨_, h⟩ | ⟨g, c, cur, hv, hg, hh, hc, _, hs, _⟩
          · omega
          · cases hv
            have hb : Blk w2 g 5 cur := hh
            exact ⟨g, cur, rfl, hg, hb.lt, hb.only ho3 (by omega), by omega⟩
        have hsz3 : w2.heap.size ≤ w3.heap.size := ho3.size
        clear hR2 hown2 ho2 hK2 hat2 hl3 hlp hA4 hK
        generalize wr.heap.size = B0 at *
        generalize w2.heap.size = B2 at *
        clear ho3
        go_wp2
        go_loopw [10] (fun t wr' => ∃ (k : Nat), t = .int .i64 k ∧ k ≤ n ∧ Only (fun q => B0 ≤ q ∧ q < B2) w3 wr' ∧ (0 < n → ∃ g cur, A4 = some ⟨g, 0, none⟩ ∧ B0 ≤ g ∧ g < B2 ∧ Blk wr' g 5 cur ∧ n ≤ cur.size)) (fun t _ => n - (intOf t).toNat)
        case atStart => exact ⟨0, rfl, by omega, Only.refl _ _, hG3⟩
        case round =>
          obtain ⟨k, rfl, hkn, ho4, hG⟩ := hrel
          by_cases hlt : k < n
          · obtain ⟨g, cur, rfl, hg1, hg2, hb, hcs⟩ := hG (by omega)
            have z0 : ∃ v, cur[k]? = some v := ⟨_, Array.getElem?_eq_getElem (by omega)⟩
            obtain ⟨v, hv⟩ := z0
            have z1 := (hb.cell k).trans hv
            have z2 := hb.frozen k
            have k0 : (0 : Int) ≤ (k : Int) := by omega
            have k1 : (k : Int) < (n : Int) := by omega
            have hS := Lib.hid (And.intro ho4 hb)
            clear hG ho4 hb hG3 hv
            go_wp2
            go_roundw
            case rel =>
              exact ⟨k + 1, by go_num, by omega, hS.out.1.setCell (.inl ⟨hg1, hg2⟩) _, fun _ => ⟨g, _, rfl, hg1, hg2, hS.out.2.set_ k _, by simpa using hcs⟩⟩
            case measure => simp [intOf]; omega
          · obtain rfl : k = n := by omega
            have hB4 := hB3.only ho4 (fun h => by omega) (fun k hk h => by omega)
            have hK4 : PK w A bs (some ⟨b2, o2, none⟩) cs w.heap.size (bs.take (at_ + k)) _ := ⟨hB4.mono (by omega), hk3.only ho4 (fun h => by omega), hP3.only hO3.size ho4 (fun j hj h => by omega), hO3.trans_of ho4 (fun j hj h => by omega)⟩
            clear hB3 hB4 hk3 hP3 hO3 ho4 hG hG3
            by_cases h5 : x % 5 = 0
            · have m5 : (x : Int).tmod 5 = 0 := by rw [Int.tmod_eq_emod_of_nonneg (by omega)]; omega
              have hle : at_ + k ≤ bs.length := by omega
              have htl : (bs.take (at_ + k)).length = at_ + k := by rw [List.length_take]; omega
              have hlt3 : ∀ x ∈ bs.take (at_ + k), x < 256 := fun x hx => hl x (List.mem_of_mem_take hx)
              have hy : ∀ W, PK w A bs (some ⟨b2, o2, none⟩) cs w.heap.size (bs.take (at_ + k)) W → W.cell? ⟨b2, o2 + i, none⟩ = some (.int .u16 (x : Int)) := fun W hW => hyo ▸ hW.cutAt hic
              have c1 := Lib.hid (fun W (hW : PK w A bs (some ⟨b2, o2, none⟩) cs w.heap.size (bs.take (at_ + k)) W) => sum_agg w.heap.size hp0 _ W hW.kk hW.h (by omega))
              have c2 := Lib.hid (fun W (hW : PK w A bs (some ⟨b2, o2, none⟩) cs w.heap.size (bs.take (at_ + k)) W) => all_agg _ (at_ + k) htl A cb W hW.kk hlt3 (hW.reads (by omega)) (fun h => by have := hA h; omega) (by omega))
              have q1 := neq24 (sha (bs.take (at_ + k)))
              have k2 : (at_ : Int) + k ≤ cb := by omega
              have k3 : (0 : Int) ≤ (at_ : Int) + k := by omega
              go_wp2
              refine wp_region_class (PK w A bs (some ⟨b2, o2, none⟩) cs w.heap.size (bs.take (at_ + k))) (by kernel_rfl) (by kernel_rfl) (hK4.next (Only.refl _ _).drew) ?_
              repeat (first
                | go_big_quiet_skip
                | (go_big_quiet_want
                   first
                     | (refine quiet_load_cell 34 (.tmp 63) rfl ⟨b2, o2 + i, none⟩ rfl (.int .u16 (x : Int)) _ hy rfl Tryd.underlying34 ?_; simp only [Act.put, List.setIfInBounds_toArray, List.set_cons_zero, List.set_cons_succ]; go_big_quiet_on)
                     | (go_big_quiet_op
                        first
                          | go_big_quiet_on
                          | (refine ⟨_, fun _ _ => by with_reducible rfl, ?_⟩; go_big_quiet_on)
                          | (apply Exists.intro
                             refine ⟨fun W hW => ?_, ?_⟩
                             · first
                                 | (go_at_call 14; with_reducible refine (c1.out W hW).mono ?_; rintro x w' ⟨rfl, hn⟩; exact ⟨rfl, PK.next hW hn⟩)
                                 | (go_at_call 9; with_reducible refine (c2.out W hW).mono ?_; rintro x w' ⟨rfl, hn⟩; exact ⟨rfl, PK.next hW hn⟩)
                             go_big_quiet_on))))
              refine wpQuiet_nil ?_
              intro w5 hK5
              clear hK4 hy
              go_wp2
              go_roundw
              case rel => exact ⟨at_ + k, i + 1, by go_num, by go_num, by omega, by omega, hK5⟩
              case measure => simp [intOf]; omega
            · have m5 : ¬ (x : Int).tmod 5 = 0 := by rw [Int.tmod_eq_emod_of_nonneg (by omega)]; omega
              have m5d : decide ((x : Int).tmod 5 = 0) = false := decide_eq_false m5
              have m5b : ((x : Int).tmod 5 == 0) = false := beq_false_of_ne m5
              have n5 : ¬ (x : Int) % 5 = 0 := by omega
              have n5d : decide ((x : Int) % 5 = 0) = false := decide_eq_false n5
              have n5b : ((x : Int) % 5 == 0) = false := beq_false_of_ne n5
              have hle : at_ + k ≤ bs.length := by omega
              have hy : ∀ W, PK w A bs (some ⟨b2, o2, none⟩) cs w.heap.size (bs.take (at_ + k)) W → W.cell? ⟨b2, o2 + i, none⟩ = some (.int .u16 (x : Int)) := fun W hW => hyo ▸ hW.cutAt hic
              go_wp2
              refine wp_region_class (PK w A bs (some ⟨b2, o2, none⟩) cs w.heap.size (bs.take (at_ + k))) (by kernel_rfl) (by kernel_rfl) (hK4.next (Only.refl _ _).drew) ?_
              repeat (first
                | go_big_quiet_skip
                | (go_big_quiet_want
                   first
                     | (refine quiet_load_cell 34 (.tmp 63) rfl ⟨b2, o2 + i, none⟩ rfl (.int .u16 (x : Int)) _ hy rfl Tryd.underlying34 ?_; simp only [Act.put, List.setIfInBounds_toArray, List.set_cons_zero, List.set_cons_succ]; go_big_quiet_on)
                     | (go_big_quiet_op
                        first
                          | go_big_quiet_on
                          | (refine ⟨_, fun _ _ => by with_reducible rfl, ?_⟩; go_big_quiet_on))))

              refine wpQuiet_nil ?_
              intro w5 hK5
              clear hK4 hy
              go_wp2
              go_roundw
              case rel => exact ⟨at_ + k, i + 1, by go_num, by go_num, by omega, by omega, hK5⟩
              case measure => simp [intOf]; omega
      · obtain rfl : i = cs.length := by omega
        have hwr : w.heap.size ≤ wr.heap.size := hK.o.size
        have hd0 := hK.a.b.drop (k := at_) (cap := cb) hat hb1
        have hRb := hd0.more hwr
        rw [← List.map_drop] at hRb
        have hlp : (bs.drop at_).length = bs.length - at_ := List.length_drop
        have hRN : RN wr w.heap.size (if cb = at_ then A else A.map (·.add at_)) (bs.length - at_) ((bs.drop at_).map ub) := ⟨hRb, fun hn a ha => by
          obtain ⟨b', o', e, hlt, _⟩ := hd0.2 hn
          rw [e] at ha; cases ha
          show b' ≠ _
          omega⟩
        have hA5 : (if cb = at_ then A else A.map (·.add at_)) = none → bs.length - at_ = 0 := by
          intro h
          split at h
          · have := hA h; omega
          · cases A with
            | none => have := hA rfl; omega
            | some a => cases h
        have hl3 : ∀ x ∈ bs.drop at_, x < 256 := fun x hx => hl x (List.mem_of_mem_drop hx)
        have hll : (bs.take at_).length ≤ 4611686018427387904 := by rw [List.length_take]; omega
        clear hRb hd0
        have a0 : (0 : Int) ≤ (at_ : Int) := by omega
        have a1 : (at_ : Int) ≤ (bs.length : Int) := by omega
        have a2 : (bs.length : Int) ≤ (cb : Int) := by omega
        by_cases hcb : cb = at_
        case' pos => rw [if_pos hcb] at hRN hA5
        case' neg => rw [if_neg hcb] at hRN hA5
        all_goals
          go_wp2_with fail
          refine (write_n w.heap.size hp0 (bs.take at_) (bs.drop at_) (bs.length - at_) hlp _ _ wr hK.kk hK.h hl3 hRN hA5 (by omega) hll).mono ?_
          rintro e w3 ⟨rfl, hB3, ho3⟩
          rw [List.take_append_drop] at hB3
          have hpw : w.heap.size < wr.heap.size := hK.h.plt
          have hK3 : PK w A bs A2 cs w.heap.size bs w3 := ⟨hB3.mono (by omega), hK.kk.only ho3 (by omega), hK.a.only hK.o.size ho3 (fun k hk e => by omega), hK.o.trans_of ho3 (fun i hi e => by omega)⟩
          clear hB3 ho3 hK hRN hA5
          have hq := fun W => eq24 (sha bs) W
          go_wp2_with fail
          refine (sum_agg w.heap.size hp0 bs w3 hK3.kk hK3.h (by omega)).mono ?_
          rintro e w4 ⟨rfl, ho4⟩
          have hK4 := hK3.next ho4
          clear hK3 ho4
          have hnew := fun W => run_storeCells_new (P := Tryd.prog) W 24 (tab 32 fun _ => ub 0) (tab 32 fun i => ub (dby (sha bs) i)) (info24 _) (by simp [tab_size]) (by simp [tab]; intro x _; rfl)
          have hz := zero24
          go_wp2
          have hQ : PQ w A bs A2 cs w.heap.size w4.heap.size (w4.alloc (.cells (tab 32 fun i => ub (dby (sha bs) i)) 24)) := ⟨hK4.next ((Only.refl _ _).alloc _), Tab.new w4 24 32 _⟩
          have c1 := Lib.hid (fun W (hW : PQ w A bs A2 cs w.heap.size w4.heap.size W) => sum_agg w.heap.size hp0 bs W hW.k.kk hW.k.h (by omega))
          have c2 := Lib.hid (fun W (hW : PQ w A bs A2 cs w.heap.size w4.heap.size W) (c : Nat) => all_agg bs bs.length rfl A c W hW.k.kk hl (hW.k.a.b.more hW.k.o.size) hA (by omega))
          clear hnew hz hK4
          refine wp_region_class (PQ w A bs A2 cs w.heap.size w4.heap.size) (by kernel_rfl) (by kernel_rfl) (hQ.next (Only.refl _ _).drew) ?_
          clear hQ
          generalize w4.heap.size = q4 at *
          repeat (first
            | go_big_quiet_skip
            | (go_big_quiet_want
               first
                 | (refine quiet_load_row 24 (.tmp 11) rfl q4 rfl 24 (tab 32 fun i => ub (dby (sha bs) i)) (0, 0) _ (fun _ h => h.t) Tryd.underlying24 rfl (info24 _) ?_; simp only [Act.put, List.setIfInBounds_toArray, List.set_cons_zero, List.set_cons_succ]; go_big_quiet_on)
                 | (go_big_quiet_op
                    first
                      | go_big_quiet_on
                      | (refine ⟨_, fun _ _ => by with_reducible rfl, ?_⟩; go_big_quiet_on)
                      | (apply Exists.intro
                         refine ⟨fun W hW => ?_, ?_⟩
                         · first
                             | (go_at_call 14; with_reducible refine (c1.out W hW).mono ?_; rintro x w' ⟨rfl, hn⟩; exact ⟨rfl, PQ.next hW hn⟩)
                             | (go_at_call 9; with_reducible refine (c2.out W hW _).mono ?_; rintro x w' ⟨rfl, hn⟩; exact ⟨rfl, PQ.next hW hn⟩)
                             | (go_at_call 8; with_reducible refine (wakes_any W hW.k.kk).mono ?_; rintro x w' ⟨rfl, hn⟩; exact ⟨rfl, PQ.next hW hn⟩)
                         go_big_quiet_on))))
          refine wpQuiet_nil ?_
          intro w5 hK5
          go_wp2
          exact bodyPost_ret (v := .bool true) (by simp [results, Tryd.results6, go_sem]) rfl ⟨rfl, hK5.k.o⟩
end Go.Proofs.YtpmikgbdicokhaaDoor
