/-
  The reference's Put (func 37).
-/
import Derived.Test.YtnclappdokhciaaD7
namespace Go.Proofs.Ytnclappdokhciaa
open Go Go.RowKit
set_option linter.unusedVariables false
theorem take_snoc (s : ByteArray) (j : Nat) (h : j < s.size) : s.data.toList.take (j + 1) = s.data.toList.take j ++ [s[j]] := by
  rw [List.take_succ_eq_append_getElem (by simpa using h)]; rfl
set_option maxRecDepth 10000 in
set_option maxHeartbeats 4000000 in
theorem putR_any (l : List Ent) (A : Option Addr) (c : Nat) (w : World) (h : RowE w A l c) (hn : l.length ≤ 100000) (hs : ∀ e ∈ l, e.nm.size ≤ 1000000) :
    Calls Try.prog 37 #[.slice A l.length c] w fun r w' => ∃ A' c', r = .returned (.tuple #[.slice A' (putS l).1.length c', .int .i64 (putS l).2]) ∧ RowB w' A' (putS l).1 c' ∧ Only (fun _ => False) w w' := by
  go_enter Try.func37, Try.ntmps37
  go_wp2_with fail
  refine (areR_any l A c w h hn hs).mono ?_
  rintro r w1 ⟨rfl, ho1⟩
  have h1 := h.only ho1 (fun _ _ x => x)
  by_cases ha : areS l = true
  · have hput : putS l = (putB l, 0) := by unfold putS; rw [if_pos ha]
    rw [ha]
    replace hput := Lib.hid hput
    obtain ⟨h64, _⟩ := are_ok ha
    have hmay := are_may ha
    have hsz : ∀ e ∈ l, e.nm.size ≤ 24 := fun e he => check_ok (may_ok (hmay e he)).1
    have hpl : ∀ i, (putB (l.take i)).length ≤ 28 * 64 := fun i => by
      have a1 := putB_len (l.take i) (fun e he => hsz e (List.mem_of_mem_take he))
      have a2 : (l.take i).length ≤ l.length := by rw [List.length_take]; omega
      omega
    clear ha hs
    replace hmay := Lib.hid hmay
    replace hsz := Lib.hid hsz
    replace hpl := Lib.hid hpl
    go_wp2
    go_loopw [4, 5] (fun s4 k wr => ∃ (i : Nat), k = .int .i64 i ∧ i ≤ l.length ∧ PB w1 (putB (l.take i)) s4 wr) (fun _ k _ => l.length - (intOf k).toNat)
    case atStart => exact ⟨0, rfl, by omega, PB.nil w1⟩
    case round =>
      obtain ⟨i, rfl, hi, hp⟩ := hrel
      obtain ⟨A4, c4, rfl, hrow⟩ := hp.row
      by_cases hlt : i < l.length
      · obtain ⟨x, hx⟩ : ∃ x, l[i]? = some x := ⟨_, List.getElem?_eq_getElem hlt⟩
        obtain ⟨b, o, rfl, hb1, d0, d1, d2⟩ := (h1.only hp.only (fun _ _ x => x)).lit hx
        have i0 : (0 : Int) ≤ (i : Int) := by omega
        have i1 : (i : Int) < (l.length : Int) := by omega
        have hxm := List.mem_of_getElem? hx
        have hx24 := hsz.out x hxm
        obtain ⟨_, hn1, hn2, hk1, hk2⟩ := may_ok (hmay.out x hxm)
        have htk := Lib.hid (takeE_snoc l i x hx)
        replace hx := Lib.hid hx
        have hl4 := hpl.out i
        clear hxm hrow
        generalize hL : putB (l.take i) = L at *
        have hEq : putB (l.take (i + 1)) = L ++ [UInt8.ofNat x.nm.size] ++ x.nm.data.toList ++ le16 x.num ++ [UInt8.ofNat x.kind] := by
          rw [htk.out, putB_snoc, hL]; simp [entB]
        replace hEq := Lib.hid hEq
        clear hL htk
        have hq := Blk.new wr 5 #[.int .u8 ((UInt8.ofNat x.nm.size).toNat : Int)]
        have oa := (Only.refl (fun _ => False) wr).alloc (.cells #[.int .u8 ((UInt8.ofNat x.nm.size).toNat : Int)] 5)
        obtain ⟨A5, c5, w3, hap, hp3, ho3, _⟩ := hp.one oa (by omega) wr.heap.size (UInt8.ofNat x.nm.size) hq
        rw [u8n _ (by omega)] at hap
        have hbd : (x.nm.size : Int) % 256 = (x.nm.size : Int) := by omega
        clear oa ho3 hq hp
        go_wp2_with (at_builtin; refine wpList_append_eq1 rfl (.tmp 16) (.tmp 24) 67 rfl _ _ _ w3 (by simp [Act.eval]) (by simp [Act.eval]) hap ?_)
        clear d0 d1 d2 hap
        go_loopw [4, 6] (fun s4 k wr => ∃ (j : Nat), k = .int .i64 j ∧ j ≤ x.nm.size ∧ PB w1 (L ++ [UInt8.ofNat x.nm.size] ++ x.nm.data.toList.take j) s4 wr) (fun _ k _ => x.nm.size - (intOf k).toNat)
        case atStart => exact ⟨0, rfl, by omega, by rw [List.take_zero, List.append_nil]; exact hp3⟩
        case round =>
          obtain ⟨j, rfl, hj, hp⟩ := hrel
          obtain ⟨A4, c4, rfl, hrow⟩ := hp.row
          clear hrow
          obtain ⟨b', o', hbo, hb1, d0, d1, d2⟩ := (h1.only hp.only (fun _ _ x => x)).lit hx.out
          cases hbo
          by_cases hjl : j < x.nm.size
          · have j0 : (0 : Int) ≤ (j : Int) := by omega
            have j1 : (j : Int) < (x.nm.size : Int) := by omega
            have htj := Lib.hid (take_snoc x.nm j hjl)
            have hq := Blk.new wr 5 #[.int .u8 ((x.nm[j]).toNat : Int)]
            have oa := (Only.refl (fun _ => False) wr).alloc (.cells #[.int .u8 ((x.nm[j]).toNat : Int)] 5)
            have hll : (L ++ [UInt8.ofNat x.nm.size] ++ x.nm.data.toList.take j).length ≤ 10000 := by
              have := List.length_take_le j x.nm.data.toList
              simp only [List.length_append, List.length_cons, List.length_nil]; omega
            obtain ⟨A5, c5, w3, hap, hp3, ho3, _⟩ := hp.one oa (by omega) wr.heap.size x.nm[j] hq
            clear oa ho3 hq hp
            rw [List.append_assoc (L ++ [UInt8.ofNat x.nm.size]), ← htj.out] at hp3
            generalize (L ++ [UInt8.ofNat x.nm.size] ++ x.nm.data.toList.take j).length = n5 at *
            go_wp2_with (at_builtin; refine wpList_append_eq1 rfl (.tmp 36) (.tmp 44) 67 rfl _ _ _ w3 (by simp [Act.eval]) (by simp [Act.eval]) hap ?_)
            go_roundw
            case rel => exact ⟨j + 1, by go_num, by omega, hp3⟩
            case measure => simp [intOf]; omega
          · obtain rfl : j = x.nm.size := by omega
            rw [List.take_of_length_le (by simp)] at hp ⊢
            have hL2l : (L ++ [UInt8.ofNat x.nm.size] ++ x.nm.data.toList).length ≤ 10000 := by simp only [List.length_append, List.length_cons, List.length_nil, length_toList]; omega
            generalize L ++ [UInt8.ofNat x.nm.size] ++ x.nm.data.toList = L2 at *
            go_wp2_with fail
            refine (num_any x.num (by omega) wr).mono ?_
            rintro r w4 ⟨A7, c7, rfl, hr7, ho7⟩
            have hp4 := hp.next ho7
            obtain ⟨A8, c8, w5, hap8, hp5, ho5, _⟩ := hp4.app (Only.refl _ _) (by omega) A7 (le16 x.num) c7 hr7 (by simp [le16]) (by simp [le16])
            clear ho7 hr7 hp4 hp hp3 ho5 d0 d1 d2
            have hl16 : (le16 x.num).length = 2 := rfl
            rw [hl16] at hap8 hp5
            clear hl16
            obtain ⟨b', o', hbo, hb1, d0, d1, d2⟩ := (h1.only hp5.only (fun _ _ x => x)).lit hx.out
            cases hbo
            have hq := Blk.new w5 5 #[.int .u8 ((UInt8.ofNat x.kind).toNat : Int)]
            have oa := (Only.refl (fun _ => False) w5).alloc (.cells #[.int .u8 ((UInt8.ofNat x.kind).toNat : Int)] 5)
            obtain ⟨A9, c9, w6, hap9, hp6, ho6, _⟩ := hp5.one oa (by simp only [List.length_append, List.length_cons, List.length_nil, le16]; omega) w5.heap.size (UInt8.ofNat x.kind) hq
            rw [u8n _ (by omega)] at hap9
            have hl3 : (L2 ++ le16 x.num).length = L2.length + 2 := by rw [List.length_append]; rfl
            rw [hl3] at hap9 hp6
            clear hp5 hl3 hq oa ho6
            go_wp2_with (at_builtin; first | (refine wpList_append_eq1 rfl (.tmp 46) (.tmp 53) 67 rfl _ _ _ w5 (by simp [Act.eval]) (by simp [Act.eval]) hap8 ?_) | refine wpList_append_eq1 rfl (.tmp 55) (.tmp 61) 67 rfl _ _ _ w6 (by simp [Act.eval]) (by simp [Act.eval]) hap9 ?_)
            rw [← hEq.out] at hp6
            go_roundw
            case rel => exact ⟨i + 1, by go_num, by omega, hp6⟩
            case measure => simp [intOf]; omega
      · obtain rfl : i = l.length := by omega
        rw [List.take_length] at hp hrow ⊢
        have ho := ho1.trans hp.only
        clear hp hpl hsz hmay
        generalize putB l = L at *
        go_wp2
        go_ret2
        exact ⟨A4, c4, by rw [hput.out]; rfl, by rw [hput.out]; exact hrow, ho⟩
  · have hput : putS l = ([], 5) := by unfold putS; rw [if_neg ha]
    replace ha : areS l = false := by simpa using ha
    rw [ha]
    replace hput := Lib.hid hput
    go_wp2
    go_ret2
    exact ⟨none, 0, by rw [hput.out]; rfl, by rw [hput.out]; exact RowB.nil w1, ho1⟩
end Go.Proofs.Ytnclappdokhciaa
