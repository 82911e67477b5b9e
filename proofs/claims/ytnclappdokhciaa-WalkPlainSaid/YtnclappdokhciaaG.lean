/-
  Check and Runes of name, Check, Fault and Runes of the reference.
-/
import Derived.Test.YtnclappdokhciaaWd
import Derived.Lib.Hide
namespace Go.Proofs.Ytnclappdokhciaa
open Go Go.RowKit
set_option linter.unusedVariables false

/-- Whether an entry may have a name. -/
def checkS (s : ByteArray) : Int := if fault s 47 = 0 then (if (s.toList = [] ∨ s.toList = [46]) ∨ s.toList = [46, 46] then 26 else if 24 < s.size then 33 else 0) else fault s 47

set_option maxRecDepth 10000 in
set_option maxHeartbeats 2000000 in
theorem check_any (s : ByteArray) (hs : s.size ≤ 9223372036854775807) (w : World) :
    Calls Try.prog 20 #[.string s] w fun e w' => e = .returned (.int .i64 (checkS s)) ∧ Only (fun _ => False) w w' := by
  have hF := fault_any s 47 (by omega) hs w
  generalize hk : checkS s = k
  unfold checkS at hk
  generalize hf : fault s 47 = e at *
  by_cases h0 : e = 0
  · subst h0
    rw [if_pos rfl] at hk
    go_enter Try.func20, Try.ntmps20
    go_wp2_with (go_at_call 46; refine hF.mono ?_; rintro e w1 ⟨rfl, ho⟩)
    all_goals go_ret
    all_goals refine ⟨?_, ho⟩
    all_goals rw [← hk]
    all_goals first
      | (rw [if_pos (by simp_all)]; rfl)
      | (rw [if_neg (by simp_all), if_pos (by omega)]; rfl)
      | (rw [if_neg (by simp_all), if_neg (by omega)]; rfl)
  · rw [if_neg h0] at hk
    subst hk
    go_enter Try.func20, Try.ntmps20
    go_wp2_with (go_at_call 46; refine hF.mono ?_; rintro e w1 ⟨rfl, ho⟩)
    all_goals go_ret
    all_goals exact ⟨rfl, ho⟩

set_option maxRecDepth 10000 in
set_option maxHeartbeats 2000000 in
theorem runes_any (s : ByteArray) (hs : s.size ≤ 1000000) (w : World) :
    Calls Try.prog 22 #[.string s] w fun e w' => e = .returned (.int .i64 (runes s)) ∧ Only (fun _ => False) w w' := by
  go_enter Try.func22, Try.ntmps22
  go_wp2
  go_loopw [3] (fun t wr => ∃ (pos f n : Nat), t = .int .i64 n ∧ wr.heap[w.heap.size]? = some (.stringIter s pos) ∧ Only (fun _ => False) w wr ∧ n + runesF s f pos = runes s ∧ s.size ≤ pos + f ∧ n ≤ pos) (fun _ wr => s.size - World.iterPos wr w.heap.size)
  case atStart => exact ⟨0, s.size, 0, rfl, World.iter_heap w s 0, (Only.refl _ w).alloc _, by unfold runes; omega, by omega, by omega⟩
  case round =>
    obtain ⟨pos, f, n, rfl, hit, ho, hf, hsz, hn⟩ := hrel
    by_cases hp : pos < s.size
    · have hnx : ∀ ty, (Instr.next (.pointer (some ⟨w.heap.size, 0, none⟩)) true ty).run Try.prog wr = _ := fun ty => Lib.run_next_any_at wr w.heap.size s pos ty hit hp
      have hit2 := Lib.iterAt_heap wr w.heap.size s pos (pos + (Utf8.decode s pos).2) hit
      have ho2 := ho.iterAt (k := w.heap.size) (.inl (Nat.le_refl _)) s (pos + (Utf8.decode s pos).2)
      have hwd := dec_pos s pos
      have hde := dec_end s pos hp
      obtain ⟨f, rfl⟩ : ∃ g, f = g + 1 := ⟨f - 1, by omega⟩
      have hf2 : n + 1 + runesF s f (pos + (Utf8.decode s pos).2) = runes s := by
        rw [← hf]; conv => rhs; unfold runesF
        rw [if_pos hp]; omega
      clear hf
      go_wp2
      go_roundw
      case rel => exact ⟨_, f, n + 1, by go_num, hit2, ho2, hf2, by omega, by omega⟩
      case measure => simp only [World.iterPos, hit, hit2]; omega
    · have hnx : ∀ ty, (Instr.next (.pointer (some ⟨w.heap.size, 0, none⟩)) true ty).run Try.prog wr = _ := fun ty => Lib.run_next_end_at wr w.heap.size s pos ty hit hp
      have k0 : n = runes s := by
        rw [← hf]
        cases f with
        | zero => rfl
        | succ f => unfold runesF; rw [if_neg hp]; rfl
      go_wp2
      go_ret
      exact ⟨by rw [← k0]; rfl, ho⟩

set_option maxRecDepth 10000 in
set_option maxHeartbeats 2000000 in
theorem runesR_any (s : ByteArray) (hs : s.size ≤ 1000000) (w : World) :
    Calls Try.prog 23 #[.string s] w fun e w' => e = .returned (.int .i64 (runes s)) ∧ w = w' := by
  go_enter Try.func23, Try.ntmps23
  go_wp2
  go_loopw [3, 4, 5] (fun t a _ wr => wr = w ∧ ∃ (pos f n : Nat), t = .int .i64 n ∧ a = .int .i64 pos ∧ n + runesF s f pos = runes s ∧ s.size ≤ pos + f ∧ n ≤ pos ∧ pos ≤ s.size) (fun _ a _ _ => s.size - (intOf a).toNat)
  case atStart => exact ⟨rfl, 0, s.size, 0, rfl, rfl, by unfold runes; omega, by omega, by omega, by omega⟩
  case round =>
    obtain ⟨rfl, pos, f, n, rfl, rfl, hf, hsz, hn, hle⟩ := hrel
    by_cases hp : pos < s.size
    · have hwd := dec_pos s pos
      have hde := dec_end s pos hp
      have hor := wd_or s pos
      obtain ⟨f, rfl⟩ : ∃ g, f = g + 1 := ⟨f - 1, by omega⟩
      have hf2 : n + 1 + runesF s f (pos + (Utf8.decode s pos).2) = runes s := by
        rw [← hf]; conv => rhs; unfold runesF
        rw [if_pos hp]; omega
      clear hf
      have cW := width_any s pos hp hs wr
      generalize wd s pos = d at *
      generalize hd2 : (Utf8.decode s pos).2 = d2 at *
      by_cases hz : d = 0
      · rw [if_pos hz] at hor
        subst hz
        subst hor
        go_wp2_with (go_at_call 51; refine cW.mono ?_; rintro e w1 ⟨rfl, rfl⟩)
        go_roundw
        case rel => exact ⟨by first | rfl | trivial, pos + 1, f, n + 1, by go_num, by go_num, hf2, by omega, by omega, by omega⟩
        case measure => simp [intOf]; omega
      · rw [if_neg hz] at hor
        subst hor
        have hz2 : ((d : Int) == 0) = false := beq_false_of_ne (by omega)
        go_wp2_with (go_at_call 51; refine cW.mono ?_; rintro e w1 ⟨rfl, rfl⟩)
        go_roundw
        case rel => exact ⟨by first | rfl | trivial, pos + d, f, n + 1, by go_num, by go_num, hf2, by omega, by omega, by omega⟩
        case measure => simp [intOf]; omega
    · have k0 : n = runes s := by
        rw [← hf]
        cases f with
        | zero => rfl
        | succ f => unfold runesF; rw [if_neg hp]; rfl
      go_wp2
      go_ret
      exact ⟨by rw [← k0]; rfl, rfl⟩

set_option maxRecDepth 10000 in
set_option maxHeartbeats 2000000 in
/-- kintsugiref03.Fault. -/
theorem faultR_any (s : ByteArray) (bad : Nat) (hb : bad < 128) (hs : s.size ≤ 1000000) (w : World) :
    Calls Try.prog 48 #[.string s, .int .u8 (bad : Int)] w fun e w' => e = .returned (.int .i64 (fault s bad)) ∧ w = w' := by
  go_enter Try.func48, Try.ntmps48
  go_wp2
  go_loopw [4, 5, 6] (fun _ a _ wr => wr = w ∧ ∃ (pos f : Nat), a = .int .i64 pos ∧ faultF s bad f pos = fault s bad ∧ s.size ≤ pos + f ∧ pos ≤ s.size) (fun _ a _ _ => s.size - (intOf a).toNat)
  case atStart => exact ⟨rfl, 0, s.size, rfl, rfl, by omega, by omega⟩
  case round =>
    obtain ⟨rfl, pos, f, rfl, hf, hsz, hle⟩ := hrel
    by_cases hp : pos < s.size
    · have i0 : (0 : Int) ≤ (pos : Int) := by omega
      have i1 : (pos : Int) < (s.size : Int) := by omega
      have e0 : ((s[pos]'hp).toNat) = bt s pos := (bt_at s pos hp).symm
      have hwd := dec_pos s pos
      have hde := dec_end s pos hp
      have hw0 : wd s pos = 0 ∨ wd s pos = (Utf8.decode s pos).2 := by unfold wd; split <;> simp
      obtain ⟨f, rfl⟩ : ∃ g, f = g + 1 := ⟨f - 1, by omega⟩
      have hlo := (dec_lo s pos).1
      have cW := width_any s pos hp hs wr
      have hst : (if bt s pos = 0 ∨ bt s pos = bad then 26 else if wd s pos = 0 then 36 else faultF s bad f (pos + wd s pos)) = fault s bad := by
        rw [← hf]; conv => rhs; unfold faultF
        rw [if_pos hp]
      have hw1 : bt s pos < 128 → wd s pos = 1 := fun h => by rw [wd_eq]; unfold widT; exact if_pos h
      clear hf hlo
      have hb0 := bt_lt s pos
      generalize bt s pos = b0 at *
      generalize wd s pos = d at *
      by_cases hz : d = 0
      · subst hz
        have kk := Lib.hid (show fault s bad = 36 by rw [← hst, if_neg (by intro h; have := hw1 (by omega); omega), if_pos rfl])
        clear hst hw1
        go_wp2_with (go_at_call 51; refine cW.mono ?_; rintro e w1 ⟨rfl, rfl⟩)
        go_ret
        exact ⟨by rw [kk.out]; rfl, rfl⟩
      · have hz2 : ((d : Int) == 0) = false := beq_false_of_ne (by omega)
        by_cases hbad : b0 = 0 ∨ b0 = bad
        · have kk := Lib.hid (show fault s bad = 26 by rw [← hst, if_pos hbad])
          clear hst hw1
          by_cases h0 : b0 = 0
          · subst h0
            go_wp2_with (go_at_call 51; refine cW.mono ?_; rintro e w1 ⟨rfl, rfl⟩)
            go_ret
            exact ⟨by rw [kk.out]; rfl, rfl⟩
          · have hb : b0 = bad := hbad.resolve_left h0
            have h02 : ((b0 : Int) == 0) = false := beq_false_of_ne (by omega)
            subst hb
            go_wp2_with (go_at_call 51; refine cW.mono ?_; rintro e w1 ⟨rfl, rfl⟩)
            go_ret
            exact ⟨by rw [kk.out]; rfl, rfl⟩
        · have kk := Lib.hid (show faultF s bad f (pos + d) = fault s bad by rw [← hst, if_neg hbad, if_neg hz])
          clear hst hw1
          have h02 : ((b0 : Int) == 0) = false := beq_false_of_ne (by omega)
          have h03 : ((b0 : Int) == (bad : Int)) = false := beq_false_of_ne (by omega)
          go_wp2_with (go_at_call 51; refine cW.mono ?_; rintro e w1 ⟨rfl, rfl⟩)
          go_roundw
          case rel => exact ⟨by first | rfl | trivial, pos + d, f, by go_num, kk.out, by omega, by omega⟩
          case measure => simp [intOf]; omega
    · have k0 : fault s bad = 0 := by
        rw [← hf]
        cases f with
        | zero => rfl
        | succ f => unfold faultF; exact if_neg hp
      go_wp2
      go_ret
      exact ⟨by rw [k0]; rfl, rfl⟩

set_option maxRecDepth 10000 in
set_option maxHeartbeats 2000000 in
theorem checkR_any (s : ByteArray) (hs : s.size ≤ 1000000) (w : World) :
    Calls Try.prog 21 #[.string s] w fun e w' => e = .returned (.int .i64 (checkS s)) ∧ w = w' := by
  have hF := faultR_any s 47 (by omega) hs w
  generalize hk : checkS s = k
  unfold checkS at hk
  generalize hf : fault s 47 = e at *
  by_cases h0 : e = 0
  · subst h0
    rw [if_pos rfl] at hk
    go_enter Try.func21, Try.ntmps21
    go_wp2_with (go_at_call 48; refine hF.mono ?_; rintro e w1 ⟨rfl, rfl⟩)
    all_goals go_ret
    all_goals refine ⟨?_, rfl⟩
    all_goals rw [← hk]
    all_goals first
      | (rw [if_pos (by simp_all)]; rfl)
      | (rw [if_neg (by simp_all), if_pos (by omega)]; rfl)
      | (rw [if_neg (by simp_all), if_neg (by omega)]; rfl)
  · rw [if_neg h0] at hk
    subst hk
    go_enter Try.func21, Try.ntmps21
    go_wp2_with (go_at_call 48; refine hF.mono ?_; rintro e w1 ⟨rfl, rfl⟩)
    all_goals go_ret
    all_goals exact ⟨rfl, rfl⟩
end Go.Proofs.Ytnclappdokhciaa
