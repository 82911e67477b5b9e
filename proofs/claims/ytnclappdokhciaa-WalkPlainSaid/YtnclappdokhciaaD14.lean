/-
  The reference's Take (func 39).
-/
import Derived.Test.YtnclappdokhciaaD13
import Derived.IntWalk
namespace Go.Proofs.Ytnclappdokhciaa
open Go Go.RowKit
set_option linter.unusedVariables false
theorem drop3 (r : List UInt8) (n : Nat) (h : n + 3 ≤ r.length) : r.drop n = r[n] :: r[n + 1] :: r[n + 2] :: r.drop (n + 3) := by
  rw [List.drop_eq_getElem_cons (by omega), List.drop_eq_getElem_cons (i := n + 1) (by omega), List.drop_eq_getElem_cons (i := n + 2) (by omega)]
theorem entF_some (nb : UInt8) (r : List UInt8) (x y z : UInt8) (hx : r[nb.toNat]? = some x) (hy : r[nb.toNat + 1]? = some y) (hz : r[nb.toNat + 2]? = some z) : entF (nb :: r) = (some (r.drop (nb.toNat + 3)), ⟨⟨(r.take nb.toNat).toArray⟩, x.toNat + 256 * y.toNat, z.toNat⟩) := by
  have h : nb.toNat + 3 ≤ r.length := by have := (List.getElem?_eq_some_iff.1 hz).1; omega
  have h1 : rawF nb.toNat (some r) = (some (r.drop nb.toNat), r.take nb.toNat) := by simp only [rawF, if_pos (show nb.toNat ≤ r.length by omega)]
  have h2 := drop3 r nb.toNat h
  rw [(List.getElem?_eq_some_iff.1 hx).2, (List.getElem?_eq_some_iff.1 hy).2, (List.getElem?_eq_some_iff.1 hz).2] at h2
  unfold entF
  simp only [u8F, h1]
  rw [h2]
  rfl
theorem entF_none (nb : UInt8) (r : List UInt8) (h : r.length < nb.toNat + 3) : (entF (nb :: r)).1 = none := by
  cases he : (entF (nb :: r)).1 with
  | none => rfl
  | some q =>
    exfalso
    unfold entF at he
    simp only [u8F] at he
    by_cases hn : nb.toNat ≤ r.length
    · have h1 : rawF nb.toNat (some r) = (some (r.drop nb.toNat), r.take nb.toNat) := by simp only [rawF, if_pos hn]
      rw [h1] at he
      have hl : (r.drop nb.toNat).length < 3 := by rw [List.length_drop]; omega
      generalize r.drop nb.toNat = m at *
      match m, hl, he with
      | [], _, he => cases he
      | [_], _, he => cases he
      | [_, _], _, he => cases he
    · have h1 : rawF nb.toNat (some r) = (none, []) := by simp only [rawF, if_neg hn]
      rw [h1] at he
      cases he
set_option maxRecDepth 10000 in
set_option maxHeartbeats 8000000 in
theorem takeR_any (b : List UInt8) (A : Option Addr) (c : Nat) (w : World) (h : RowB w A b c) (hl : b.length ≤ 4000) :
    Calls Try.prog 39 #[.slice A b.length c] w fun r w' => ∃ A' c', r = .returned (.tuple #[.slice A' (takeS b).1.length c', .int .i64 (takeS b).2]) ∧ RowE w' A' (takeS b).1 c' ∧ Only (fun _ => False) w w' := by
  go_enter Try.func39, Try.ntmps39
  go_wp2
  go_loopw [4, 5] (fun s4 s5 wr => ∃ (acc : List Ent) (at_ : Nat), s5 = .int .i64 at_ ∧ at_ ≤ b.length ∧ PE 79 w acc s4 wr ∧ acc.length ≤ at_ ∧ (∀ e ∈ acc, e.nm.size ≤ 1000000) ∧ TkR b acc 100000 (some (b.drop at_))) (fun _ s5 _ => b.length - (intOf s5).toNat)
  case atStart => exact ⟨[], 0, rfl, by omega, PE.nil _ _, by simp, by simp, by rw [List.drop_zero]; omega, b.length, by simp, by simp⟩
  case round =>
    obtain ⟨acc, at_, rfl, hat, hP, hacc, hsz, hT⟩ := hrel
    replace hsz := Lib.hid hsz
    obtain ⟨A4, c4, rfl, hrow⟩ := hP.row
    by_cases hlt : at_ < b.length
    · have hdr : b.drop at_ = b[at_] :: b.drop (at_ + 1) := List.drop_eq_getElem_cons hlt
      rw [hdr] at hT
      have hst := take_step hT (List.cons_ne_nil _ _)
      have hlt' := hlt
      have hb0 := h.only hP.2 (fun _ _ x => x)
      obtain ⟨bb, oo, rfl, hbb, d0⟩ := hb0.lit (List.getElem?_eq_getElem hlt)
      have hnl := (b[at_]).toNat_lt
      have hn2 : b[at_].toNat = (b[at_]).toNat := rfl
      generalize b[at_] = nb at *
      have i0 : (0 : Int) ≤ (at_ : Int) := by omega
      have i1 : (at_ : Int) < (b.length : Int) := by omega
      by_cases hsh : b.length - at_ < nb.toNat + 4
      · have hno := entF_none nb (b.drop (at_ + 1)) (by rw [List.length_drop]; omega)
        rw [hno] at hst
        have hd := Lib.hid (take_none hst)
        have ho9 := hP.2
        have i2 : (b.length : Int) - (at_ : Int) < (nb.toNat : Int) + 4 := by omega
        clear hT hst hP hdr hno hsh hn2
        go_wp2
        go_ret2
        exact ⟨none, 0, by rw [hd.out]; rfl, by rw [hd.out]; exact RowE.nil _, ho9⟩
      · have hhi : at_ + nb.toNat + 4 ≤ b.length := by omega
        obtain ⟨x, hx⟩ : ∃ x, b[at_ + 1 + nb.toNat]? = some x := ⟨_, List.getElem?_eq_getElem (by omega)⟩
        obtain ⟨y, hy⟩ : ∃ x, b[at_ + 2 + nb.toNat]? = some x := ⟨_, List.getElem?_eq_getElem (by omega)⟩
        obtain ⟨z, hz⟩ : ∃ x, b[at_ + 3 + nb.toNat]? = some x := ⟨_, List.getElem?_eq_getElem (by omega)⟩
        have hso := entF_some nb (b.drop (at_ + 1)) x y z (by rw [List.getElem?_drop]; exact hx) (by rw [List.getElem?_drop, ← hy]; congr 1; omega) (by rw [List.getElem?_drop, ← hz]; congr 1; omega)
        rw [hso, List.drop_drop, show at_ + 1 + (nb.toNat + 3) = at_ + nb.toNat + 4 by omega] at hst
        replace hst := Lib.hid hst
        have i2 : ¬ (b.length : Int) - (at_ : Int) < (nb.toNat : Int) + 4 := by omega
        clear hso hT hdr hsh hn2
        generalize hn : nb.toNat = n at *
        clear hn
        go_wp2_with fail
        have hc := hb0.2.1
        have hxl := x.toNat_lt
        have hyl := y.toNat_lt
        have hzl := z.toNat_lt
        have hSof : ∀ W, RowB W (some ⟨bb, oo, none⟩) b c → (W.cell? ⟨bb, oo + (at_ + 1 + n), none⟩ = some (.int .u8 x.toNat) ∧ W.cell? ⟨bb, oo + (at_ + 2 + n), none⟩ = some (.int .u8 y.toNat) ∧ W.cell? ⟨bb, oo + (at_ + 3 + n), none⟩ = some (.int .u8 z.toNat) ∧ (convert 67 9 (.slice (some ⟨bb, oo + (at_ + 1), none⟩) n (c - (at_ + 1)))).run Try.prog W = .ok (.string ⟨((b.drop (at_ + 1)).take n).toArray⟩) W) := fun W hW => by
          obtain ⟨b1, o1, e1, _, q1⟩ := hW.lit hx
          obtain ⟨b2, o2, e2, _, q2⟩ := hW.lit hy
          obtain ⟨b3, o3, e3, _, q3⟩ := hW.lit hz
          cases e1; cases e2; cases e3
          refine ⟨q1, q2, q3, ?_⟩
          have hd := (hW.drop (n := at_ + 1) (by omega)).take (n := n) (by rw [List.length_drop]; omega)
          have hc2 : ¬ c = at_ + 1 := by omega
          rw [if_neg hc2, Option.map_some, add_lit] at hd
          have hd2 : RowB W (some ⟨bb, oo + (at_ + 1), none⟩) ((b.drop (at_ + 1)).take n) (c - (at_ + 1)) := ⟨hd.1, by rw [List.length_take, List.length_drop]; omega, fun h => by cases h⟩
          have := hd2.str
          rw [show ((b.drop (at_ + 1)).take n).length = n by rw [List.length_take, List.length_drop]; omega] at this
          exact this
        have w1 : IntKind.i64.wrap ((at_ : Int) + 1) = (at_ : Int) + 1 := IntWalk.i64_in _ (by omega)
        have w2 : IntKind.i64.wrap ((at_ : Int) + 2) = (at_ : Int) + 2 := IntWalk.i64_in _ (by omega)
        have w3 : IntKind.i64.wrap ((at_ : Int) + 3) = (at_ : Int) + 3 := IntWalk.i64_in _ (by omega)
        have w4 : IntKind.i64.wrap ((at_ : Int) + 1 + (n : Int)) = (at_ : Int) + 1 + (n : Int) := IntWalk.i64_in _ (by omega)
        have w5 : IntKind.i64.wrap ((at_ : Int) + 2 + (n : Int)) = (at_ : Int) + 2 + (n : Int) := IntWalk.i64_in _ (by omega)
        have w6 : IntKind.i64.wrap ((at_ : Int) + 3 + (n : Int)) = (at_ : Int) + 3 + (n : Int) := IntWalk.i64_in _ (by omega)
        have t1 : ((at_ : Int) + 1).toNat = at_ + 1 := by omega
        have t4 : ((at_ : Int) + 1 + (n : Int)).toNat = at_ + 1 + n := by omega
        have t5 : ((at_ : Int) + 2 + (n : Int)).toNat = at_ + 2 + n := by omega
        have t6 : ((at_ : Int) + 3 + (n : Int)).toNat = at_ + 3 + n := by omega
        have p1 : (0 : Int) ≤ (at_ : Int) + 1 := by omega
        have p4 : (0 : Int) ≤ (at_ : Int) + 1 + (n : Int) := by omega
        have p5 : (0 : Int) ≤ (at_ : Int) + 2 + (n : Int) := by omega
        have p6 : (0 : Int) ≤ (at_ : Int) + 3 + (n : Int) := by omega
        have l4 : (at_ : Int) + 1 + (n : Int) < (b.length : Int) := by omega
        have l5 : (at_ : Int) + 2 + (n : Int) < (b.length : Int) := by omega
        have l6 : (at_ : Int) + 3 + (n : Int) < (b.length : Int) := by omega
        have l7 : (at_ : Int) + 1 + (n : Int) ≤ (c : Int) := by omega
        have l8 : (at_ : Int) + 1 ≤ (at_ : Int) + 1 + (n : Int) := by omega
        have l9 : ¬ c = at_ + 1 := by omega
        have u3 : IntKind.u16.wrap (x.toNat : Int) = (x.toNat : Int) := by rw [IntKind.wrap_u16]; omega
        have u4 : IntKind.u16.wrap (y.toNat : Int) = (y.toNat : Int) := by rw [IntKind.wrap_u16]; omega
        have u1 : IntKind.u16.wrap (256 * (y.toNat : Int)) = 256 * (y.toNat : Int) := by rw [IntKind.wrap_u16]; omega
        have u2 : IntKind.u16.wrap ((x.toNat : Int) + 256 * (y.toNat : Int)) = (x.toNat : Int) + 256 * (y.toNat : Int) := by rw [IntKind.wrap_u16]; omega
        have od := (Only.refl (fun _ => False) wr).drew
        have hb1 := hb0.only od (fun _ _ x => x)
        have hPd := hP.next od
        clear od hb0 hP d0 hrow
        generalize hwd : wr.drew = wd at *
        replace hwd := Lib.hid hwd
        have s0 := hSof wd hb1
        refine wp_region_noPanic ?_
        refine wp_region_E 38 (fun W => (W.cell? ⟨bb, oo + (at_ + 1 + n), none⟩ = some (.int .u8 x.toNat) ∧ W.cell? ⟨bb, oo + (at_ + 2 + n), none⟩ = some (.int .u8 y.toNat) ∧ W.cell? ⟨bb, oo + (at_ + 3 + n), none⟩ = some (.int .u8 z.toNat) ∧ (convert 67 9 (.slice (some ⟨bb, oo + (at_ + 1), none⟩) n (c - (at_ + 1)))).run Try.prog W = .ok (.string ⟨((b.drop (at_ + 1)).take n).toArray⟩) W)) (by kernel_rfl) ?_
        rw [hwd.out]
        refine E_take (v := ?v0) 0 rfl (by kernel_rfl) (by kernel_rfl) (by kernel_rfl) (by kernel_rfl) (by kernel_rfl) (by kernel_rfl) (fun _ _ _ h => h) rfl s0 ?vh0 ?_
        case vh0 => intro W hW; obtain ⟨s1, s2, s3, s4⟩ := hW; go_simp; try with_reducible rfl
        simp only [Act.put, List.setIfInBounds_toArray, List.set_cons_zero, List.set_cons_succ]
        refine E_take (v := ?v1) 1 rfl (by kernel_rfl) (by kernel_rfl) (by kernel_rfl) (by kernel_rfl) (by kernel_rfl) (by kernel_rfl) (fun _ _ _ h => h) rfl s0 ?vh1 ?_
        case vh1 => intro W hW; obtain ⟨s1, s2, s3, s4⟩ := hW; go_simp; try with_reducible rfl
        simp only [Act.put, List.setIfInBounds_toArray, List.set_cons_zero, List.set_cons_succ]
        refine E_take (v := ?v2) 2 rfl (by kernel_rfl) (by kernel_rfl) (by kernel_rfl) (by kernel_rfl) (by kernel_rfl) (by kernel_rfl) (fun _ _ _ h => h) rfl s0 ?vh2 ?_
        case vh2 => intro W hW; obtain ⟨s1, s2, s3, s4⟩ := hW; go_simp; try with_reducible rfl
        simp only [Act.put, List.setIfInBounds_toArray, List.set_cons_zero, List.set_cons_succ]
        refine E_take (v := ?v3) 3 rfl (by kernel_rfl) (by kernel_rfl) (by kernel_rfl) (by kernel_rfl) (by kernel_rfl) (by kernel_rfl) (fun _ _ _ h => h) rfl s0 ?vh3 ?_
        case vh3 => intro W hW; obtain ⟨s1, s2, s3, s4⟩ := hW; go_simp; try with_reducible rfl
        simp only [Act.put, List.setIfInBounds_toArray, List.set_cons_zero, List.set_cons_succ]
        refine E_take (v := ?v4) 4 rfl (by kernel_rfl) (by kernel_rfl) (by kernel_rfl) (by kernel_rfl) (by kernel_rfl) (by kernel_rfl) (fun _ _ _ h => h) rfl s0 ?vh4 ?_
        case vh4 => intro W hW; obtain ⟨s1, s2, s3, s4⟩ := hW; go_simp; try with_reducible rfl
        simp only [Act.put, List.setIfInBounds_toArray, List.set_cons_zero, List.set_cons_succ]
        refine E_take (v := ?v5) 5 rfl (by kernel_rfl) (by kernel_rfl) (by kernel_rfl) (by kernel_rfl) (by kernel_rfl) (by kernel_rfl) (fun _ _ _ h => h) rfl s0 ?vh5 ?_
        case vh5 => intro W hW; obtain ⟨s1, s2, s3, s4⟩ := hW; go_simp; try with_reducible rfl
        simp only [Act.put, List.setIfInBounds_toArray, List.set_cons_zero, List.set_cons_succ]
        refine E_take (v := ?v6) 6 rfl (by kernel_rfl) (by kernel_rfl) (by kernel_rfl) (by kernel_rfl) (by kernel_rfl) (by kernel_rfl) (fun _ _ _ h => h) rfl s0 ?vh6 ?_
        case vh6 => intro W hW; obtain ⟨s1, s2, s3, s4⟩ := hW; go_simp; try with_reducible rfl
        simp only [Act.put, List.setIfInBounds_toArray, List.set_cons_zero, List.set_cons_succ]
        refine E_take (v := ?v7) 7 rfl (by kernel_rfl) (by kernel_rfl) (by kernel_rfl) (by kernel_rfl) (by kernel_rfl) (by kernel_rfl) (fun _ _ _ h => h) rfl s0 ?vh7 ?_
        case vh7 => intro W hW; obtain ⟨s1, s2, s3, s4⟩ := hW; go_simp; try with_reducible rfl
        simp only [Act.put, List.setIfInBounds_toArray, List.set_cons_zero, List.set_cons_succ]
        refine E_take (v := ?v8) 8 rfl (by kernel_rfl) (by kernel_rfl) (by kernel_rfl) (by kernel_rfl) (by kernel_rfl) (by kernel_rfl) (fun _ _ _ h => h) rfl s0 ?vh8 ?_
        case vh8 => intro W hW; obtain ⟨s1, s2, s3, s4⟩ := hW; go_simp; try with_reducible rfl
        simp only [Act.put, List.setIfInBounds_toArray, List.set_cons_zero, List.set_cons_succ]
        refine E_take (v := ?v9) 9 rfl (by kernel_rfl) (by kernel_rfl) (by kernel_rfl) (by kernel_rfl) (by kernel_rfl) (by kernel_rfl) (fun _ _ _ h => h) rfl s0 ?vh9 ?_
        case vh9 => intro W hW; obtain ⟨s1, s2, s3, s4⟩ := hW; go_simp; try with_reducible rfl
        simp only [Act.put, List.setIfInBounds_toArray, List.set_cons_zero, List.set_cons_succ]
        refine E_take (v := ?v10) 10 rfl (by kernel_rfl) (by kernel_rfl) (by kernel_rfl) (by kernel_rfl) (by kernel_rfl) (by kernel_rfl) (fun _ _ _ h => h) rfl s0 ?vh10 ?_
        case vh10 => intro W hW; obtain ⟨s1, s2, s3, s4⟩ := hW; go_simp; try with_reducible rfl
        simp only [Act.put, List.setIfInBounds_toArray, List.set_cons_zero, List.set_cons_succ]
        refine E_take (v := ?v11) 11 rfl (by kernel_rfl) (by kernel_rfl) (by kernel_rfl) (by kernel_rfl) (by kernel_rfl) (by kernel_rfl) (fun _ _ _ h => h) rfl s0 ?vh11 ?_
        case vh11 => intro W hW; obtain ⟨s1, s2, s3, s4⟩ := hW; go_simp; try with_reducible rfl
        simp only [Act.put, List.setIfInBounds_toArray, List.set_cons_zero, List.set_cons_succ]
        refine E_take (v := ?v12) 12 rfl (by kernel_rfl) (by kernel_rfl) (by kernel_rfl) (by kernel_rfl) (by kernel_rfl) (by kernel_rfl) (fun _ _ _ h => h) rfl s0 ?vh12 ?_
        case vh12 => intro W hW; obtain ⟨s1, s2, s3, s4⟩ := hW; go_simp; try with_reducible rfl
        simp only [Act.put, List.setIfInBounds_toArray, List.set_cons_zero, List.set_cons_succ]
        refine E_take (v := ?v13) 13 rfl (by kernel_rfl) (by kernel_rfl) (by kernel_rfl) (by kernel_rfl) (by kernel_rfl) (by kernel_rfl) (fun _ _ _ h => h) rfl s0 ?vh13 ?_
        case vh13 => intro W hW; obtain ⟨s1, s2, s3, s4⟩ := hW; go_simp; try with_reducible rfl
        simp only [Act.put, List.setIfInBounds_toArray, List.set_cons_zero, List.set_cons_succ]
        refine E_take (v := ?v14) 14 rfl (by kernel_rfl) (by kernel_rfl) (by kernel_rfl) (by kernel_rfl) (by kernel_rfl) (by kernel_rfl) (fun _ _ _ h => h) rfl s0 ?vh14 ?_
        case vh14 => intro W hW; obtain ⟨s1, s2, s3, s4⟩ := hW; go_simp; try with_reducible rfl
        simp only [Act.put, List.setIfInBounds_toArray, List.set_cons_zero, List.set_cons_succ]
        refine E_take (v := ?v15) 15 rfl (by kernel_rfl) (by kernel_rfl) (by kernel_rfl) (by kernel_rfl) (by kernel_rfl) (by kernel_rfl) (fun _ _ _ h => h) rfl s0 ?vh15 ?_
        case vh15 => intro W hW; obtain ⟨s1, s2, s3, s4⟩ := hW; go_simp; try with_reducible rfl
        simp only [Act.put, List.setIfInBounds_toArray, List.set_cons_zero, List.set_cons_succ]
        refine E_take (v := ?v16) 16 rfl (by kernel_rfl) (by kernel_rfl) (by kernel_rfl) (by kernel_rfl) (by kernel_rfl) (by kernel_rfl) (fun _ _ _ h => h) rfl s0 ?vh16 ?_
        case vh16 => intro W hW; obtain ⟨s1, s2, s3, s4⟩ := hW; go_simp; try with_reducible rfl
        simp only [Act.put, List.setIfInBounds_toArray, List.set_cons_zero, List.set_cons_succ]
        refine E_take (v := ?v17) 17 rfl (by kernel_rfl) (by kernel_rfl) (by kernel_rfl) (by kernel_rfl) (by kernel_rfl) (by kernel_rfl) (fun _ _ _ h => h) rfl s0 ?vh17 ?_
        case vh17 => intro W hW; obtain ⟨s1, s2, s3, s4⟩ := hW; go_simp; try with_reducible rfl
        simp only [Act.put, List.setIfInBounds_toArray, List.set_cons_zero, List.set_cons_succ]
        refine E_take (v := ?v18) 18 rfl (by kernel_rfl) (by kernel_rfl) (by kernel_rfl) (by kernel_rfl) (by kernel_rfl) (by kernel_rfl) (fun _ _ _ h => h) rfl s0 ?vh18 ?_
        case vh18 => intro W hW; obtain ⟨s1, s2, s3, s4⟩ := hW; go_simp; try with_reducible rfl
        simp only [Act.put, List.setIfInBounds_toArray, List.set_cons_zero, List.set_cons_succ]
        refine E_take (v := ?v19) 19 rfl (by kernel_rfl) (by kernel_rfl) (by kernel_rfl) (by kernel_rfl) (by kernel_rfl) (by kernel_rfl) (fun _ _ _ h => h) rfl s0 ?vh19 ?_
        case vh19 => intro W hW; obtain ⟨s1, s2, s3, s4⟩ := hW; go_simp; try with_reducible rfl
        simp only [Act.put, List.setIfInBounds_toArray, List.set_cons_zero, List.set_cons_succ]
        refine E_take (v := ?v20) 20 rfl (by kernel_rfl) (by kernel_rfl) (by kernel_rfl) (by kernel_rfl) (by kernel_rfl) (by kernel_rfl) (fun _ _ _ h => h) rfl s0 ?vh20 ?_
        case vh20 => intro W hW; obtain ⟨s1, s2, s3, s4⟩ := hW; go_simp; try with_reducible rfl
        simp only [Act.put, List.setIfInBounds_toArray, List.set_cons_zero, List.set_cons_succ]
        refine E_take (v := ?v21) 21 rfl (by kernel_rfl) (by kernel_rfl) (by kernel_rfl) (by kernel_rfl) (by kernel_rfl) (by kernel_rfl) (fun _ _ _ h => h) rfl s0 ?vh21 ?_
        case vh21 => intro W hW; obtain ⟨s1, s2, s3, s4⟩ := hW; go_simp; try with_reducible rfl
        simp only [Act.put, List.setIfInBounds_toArray, List.set_cons_zero, List.set_cons_succ]
        refine E_take (v := ?v22) 22 rfl (by kernel_rfl) (by kernel_rfl) (by kernel_rfl) (by kernel_rfl) (by kernel_rfl) (by kernel_rfl) (fun _ _ _ h => h) rfl s0 ?vh22 ?_
        case vh22 => intro W hW; obtain ⟨s1, s2, s3, s4⟩ := hW; go_simp; try with_reducible rfl
        simp only [Act.put, List.setIfInBounds_toArray, List.set_cons_zero, List.set_cons_succ]
        refine E_take (v := ?v23) 23 rfl (by kernel_rfl) (by kernel_rfl) (by kernel_rfl) (by kernel_rfl) (by kernel_rfl) (by kernel_rfl) (fun _ _ _ h => h) rfl s0 ?vh23 ?_
        case vh23 => intro W hW; obtain ⟨s1, s2, s3, s4⟩ := hW; go_simp; try with_reducible rfl
        simp only [Act.put, List.setIfInBounds_toArray, List.set_cons_zero, List.set_cons_succ]
        refine E_take (v := ?v24) 24 rfl (by kernel_rfl) (by kernel_rfl) (by kernel_rfl) (by kernel_rfl) (by kernel_rfl) (by kernel_rfl) (fun _ _ _ h => h) rfl s0 ?vh24 ?_
        case vh24 => intro W hW; obtain ⟨s1, s2, s3, s4⟩ := hW; go_simp; try with_reducible rfl
        simp only [Act.put, List.setIfInBounds_toArray, List.set_cons_zero, List.set_cons_succ]
        refine E_take (v := ?v25) 25 rfl (by kernel_rfl) (by kernel_rfl) (by kernel_rfl) (by kernel_rfl) (by kernel_rfl) (by kernel_rfl) (fun _ _ _ h => h) rfl s0 ?vh25 ?_
        case vh25 => intro W hW; obtain ⟨s1, s2, s3, s4⟩ := hW; go_simp; try with_reducible rfl
        simp only [Act.put, List.setIfInBounds_toArray, List.set_cons_zero, List.set_cons_succ]
        refine E_take (v := ?v26) 26 rfl (by kernel_rfl) (by kernel_rfl) (by kernel_rfl) (by kernel_rfl) (by kernel_rfl) (by kernel_rfl) (fun _ _ _ h => h) rfl s0 ?vh26 ?_
        case vh26 => intro W hW; obtain ⟨s1, s2, s3, s4⟩ := hW; go_simp; try with_reducible rfl
        simp only [Act.put, List.setIfInBounds_toArray, List.set_cons_zero, List.set_cons_succ]
        refine E_take (v := ?v27) 27 rfl (by kernel_rfl) (by kernel_rfl) (by kernel_rfl) (by kernel_rfl) (by kernel_rfl) (by kernel_rfl) (fun _ _ _ h => h) rfl s0 ?vh27 ?_
        case vh27 => intro W hW; obtain ⟨s1, s2, s3, s4⟩ := hW; go_simp; try with_reducible rfl
        simp only [Act.put, List.setIfInBounds_toArray, List.set_cons_zero, List.set_cons_succ]
        refine E_take (v := ?v28) 28 rfl (by kernel_rfl) (by kernel_rfl) (by kernel_rfl) (by kernel_rfl) (by kernel_rfl) (by kernel_rfl) (fun _ _ _ h => h) rfl s0 ?vh28 ?_
        case vh28 => intro W hW; obtain ⟨s1, s2, s3, s4⟩ := hW; go_simp; try with_reducible rfl
        simp only [Act.put, List.setIfInBounds_toArray, List.set_cons_zero, List.set_cons_succ]
        refine E_take (v := ?v29) 29 rfl (by kernel_rfl) (by kernel_rfl) (by kernel_rfl) (by kernel_rfl) (by kernel_rfl) (by kernel_rfl) (fun _ _ _ h => h) rfl s0 ?vh29 ?_
        case vh29 => intro W hW; obtain ⟨s1, s2, s3, s4⟩ := hW; go_simp; try with_reducible rfl
        simp only [Act.put, List.setIfInBounds_toArray, List.set_cons_zero, List.set_cons_succ]
        refine E_take (v := ?v30) 30 rfl (by kernel_rfl) (by kernel_rfl) (by kernel_rfl) (by kernel_rfl) (by kernel_rfl) (by kernel_rfl) (fun _ _ _ h => h) rfl s0 ?vh30 ?_
        case vh30 => intro W hW; obtain ⟨s1, s2, s3, s4⟩ := hW; go_simp; try with_reducible rfl
        simp only [Act.put, List.setIfInBounds_toArray, List.set_cons_zero, List.set_cons_succ]
        refine E_take (v := ?v31) 31 rfl (by kernel_rfl) (by kernel_rfl) (by kernel_rfl) (by kernel_rfl) (by kernel_rfl) (by kernel_rfl) (fun _ _ _ h => h) rfl s0 ?vh31 ?_
        case vh31 => intro W hW; obtain ⟨s1, s2, s3, s4⟩ := hW; go_simp; try with_reducible rfl
        simp only [Act.put, List.setIfInBounds_toArray, List.set_cons_zero, List.set_cons_succ]
        refine E_take (v := ?v32) 32 rfl (by kernel_rfl) (by kernel_rfl) (by kernel_rfl) (by kernel_rfl) (by kernel_rfl) (by kernel_rfl) (fun _ _ _ h => h) rfl s0 ?vh32 ?_
        case vh32 => intro W hW; obtain ⟨s1, s2, s3, s4⟩ := hW; go_simp; try with_reducible rfl
        simp only [Act.put, List.setIfInBounds_toArray, List.set_cons_zero, List.set_cons_succ]
        refine E_take (v := ?v33) 33 rfl (by kernel_rfl) (by kernel_rfl) (by kernel_rfl) (by kernel_rfl) (by kernel_rfl) (by kernel_rfl) (fun _ _ _ h => h) rfl s0 ?vh33 ?_
        case vh33 => intro W hW; obtain ⟨s1, s2, s3, s4⟩ := hW; go_simp; try with_reducible rfl
        simp only [Act.put, List.setIfInBounds_toArray, List.set_cons_zero, List.set_cons_succ]
        refine E_take (v := ?v34) 34 rfl (by kernel_rfl) (by kernel_rfl) (by kernel_rfl) (by kernel_rfl) (by kernel_rfl) (by kernel_rfl) (fun _ _ _ h => h) rfl s0 ?vh34 ?_
        case vh34 => intro W hW; obtain ⟨s1, s2, s3, s4⟩ := hW; go_simp; try with_reducible rfl
        simp only [Act.put, List.setIfInBounds_toArray, List.set_cons_zero, List.set_cons_succ]
        refine E_take (v := ?v35) 35 rfl (by kernel_rfl) (by kernel_rfl) (by kernel_rfl) (by kernel_rfl) (by kernel_rfl) (by kernel_rfl) (fun _ _ _ h => h) rfl s0 ?vh35 ?_
        case vh35 => intro W hW; obtain ⟨s1, s2, s3, s4⟩ := hW; go_simp; try with_reducible rfl
        simp only [Act.put, List.setIfInBounds_toArray, List.set_cons_zero, List.set_cons_succ]
        have hx9 : Blk (wd.alloc (.cells #[.string ⟨((b.drop (at_ + 1)).take n).toArray⟩, .int .u16 ((x.toNat : Int) + 256 * (y.toNat : Int)), .int .u8 (z.toNat : Int)] 79)) wd.heap.size 79 #[.string ⟨((b.drop (at_ + 1)).take n).toArray⟩, .int .u16 ((x.toNat : Int) + 256 * (y.toNat : Int)), .int .u8 (z.toNat : Int)] := Blk.new _ _ _
        have ob := (Only.refl (fun _ => False) wd).alloc (.cells #[.string ⟨((b.drop (at_ + 1)).take n).toArray⟩, .int .u16 ((x.toNat : Int) + 256 * (y.toNat : Int)), .int .u8 (z.toNat : Int)] 79)
        have hb2 := hb1.only ob (fun _ _ x => x)
        obtain ⟨A9, c9, w9, hap, hP9⟩ := hPd.one ty66 ob (by omega) wd.heap.size ⟨⟨((b.drop (at_ + 1)).take n).toArray⟩, x.toNat + 256 * y.toNat, z.toNat⟩ (by
          simp only [Int.natCast_add, Int.natCast_mul]
          exact hx9)
        have hb3 : RowB w9 (some ⟨bb, oo, none⟩) b c := h.only hP9.2 (fun _ _ x => x)
        have s2 := hSof _ hb2
        have s3 := hSof _ hb3
        replace s2 := Lib.hid s2
        replace s3 := Lib.hid s3
        clear hSof hx9 ob hPd s0
        refine E_one 36 (by kernel_rfl) rfl (fun K hK => ?_)
        go_simp
        refine hK.out _ _ (fun _ => s2.out) ?_
        clear hK K
        try simp only [Act.put, List.setIfInBounds_toArray, List.set_cons_zero, List.set_cons_succ]
        refine E_one 37 (by kernel_rfl) rfl (fun K hK => ?_)
        refine step_append_eq1 rfl (.tmp 23) (.tmp 59) 66 rfl _ _ _ w9 (by simp [Act.eval]) (by simp [Act.eval]) hap ?_
        refine hK.out _ _ (fun _ => s3.out) ?_
        clear hK K
        try simp only [Act.put, List.setIfInBounds_toArray, List.set_cons_zero, List.set_cons_succ]
        refine E_one 38 (by kernel_rfl) rfl (fun K hK => ?_)
        go_simp
        refine hK.out _ _ (fun h => absurd h (by decide)) ?_
        clear hK K
        try simp only [Act.put, List.setIfInBounds_toArray, List.set_cons_zero, List.set_cons_succ]
        refine E_done (by kernel_rfl) (NoPanic.normal ?_)
        have hacc2 : Hid ((acc ++ [(⟨⟨((b.drop (at_ + 1)).take n).toArray⟩, x.toNat + 256 * y.toNat, z.toNat⟩ : Ent)]).length = acc.length + 1) := Lib.hid (by rw [List.length_append]; rfl)
        have hsz2 : Hid (∀ e ∈ acc ++ [(⟨⟨((b.drop (at_ + 1)).take n).toArray⟩, x.toNat + 256 * y.toNat, z.toNat⟩ : Ent)], e.nm.size ≤ 1000000) := Lib.hid (fun e he => by
          rcases List.mem_append.1 he with he | he
          · exact hsz.out e he
          · cases List.mem_singleton.1 he
            show ((b.drop (at_ + 1)).take n).toArray.size ≤ 1000000
            simp only [List.size_toArray, List.length_take]; omega)
        have hst2 : Hid (TkR b (acc ++ [(⟨⟨((b.drop (at_ + 1)).take n).toArray⟩, x.toNat + 256 * y.toNat, z.toNat⟩ : Ent)]) 100000 (some (b.drop (at_ + n + 4)))) := Lib.hid (by
          obtain ⟨h1, h2⟩ := hst.out
          exact ⟨by omega, h2⟩)
        clear hap s2 s3 hst w1 w2 w3 w4 w5 w6 t1 t4 t5 t6 p1 p4 p5 p6 l4 l5 l6 l7 l8 l9 u1 u2 u3 u4
        go_wp2
        go_roundw
        case rel => exact ⟨acc ++ [(⟨⟨((b.drop (at_ + 1)).take n).toArray⟩, x.toNat + 256 * y.toNat, z.toNat⟩ : Ent)], at_ + n + 4, by go_num, by omega, hP9, by rw [hacc2.out]; omega, hsz2.out, hst2.out⟩
        case measure => simp [intOf]; omega
    · obtain rfl : at_ = b.length := by omega
      rw [List.drop_length] at hT
      obtain ⟨_, f, _, hT⟩ := hT
      have hd := Lib.hid (take_end hT)
      have ho9 := hP.2
      clear hT hP
      go_wp2_with fail
      refine (areR_any acc A4 c4 wr hrow (by omega) hsz.out).mono ?_
      rintro r w2 ⟨rfl, ho2⟩
      have ho10 := ho9.trans ho2
      have hrow2 := hrow.only ho2 (fun _ _ x => x)
      cases ha : areS acc with
      | true =>
        rw [ha, if_pos rfl] at hd
        clear ha
        go_wp2
        go_ret2
        exact ⟨A4, c4, by rw [hd.out]; rfl, by rw [hd.out]; exact hrow2, ho10⟩
      | false =>
        rw [ha, if_neg (by decide)] at hd
        clear ha
        go_wp2
        go_ret2
        exact ⟨none, 0, by rw [hd.out]; rfl, by rw [hd.out]; exact RowE.nil _, ho10⟩
end Go.Proofs.Ytnclappdokhciaa

