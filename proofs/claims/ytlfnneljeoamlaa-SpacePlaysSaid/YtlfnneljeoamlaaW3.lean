/-
  Contracts of space.all, Release, Back and Is.
-/
import Derived.Test.YtlfnneljeoamlaaW2
import Derived.WalkKit
import Derived.WalkLawsBesides
import Derived.WalkSpells
import Derived.BigQuiet
import Derived.Deep.QuietTactic
import Derived.Deep.RegionHeld3
import Derived.Deep.LoopGhost
import Derived.Outline
import Derived.Lib.Hide
namespace Go.Proofs.Ytlfnneljeoamlaa
open Go.RowKit
/-! ### all: what is held becomes t -/
def freedTo (t : Int) (k : Nat) (l : List Place) : List Place := freed t (l.take k) ++ l.drop k
theorem freedTo_zero (t : Int) (l : List Place) : freedTo t 0 l = l := by simp [freedTo, freed]
theorem freedTo_all (t : Int) (l : List Place) (k : Nat) (h : l.length ≤ k) : freedTo t k l = freed t l := by
  unfold freedTo; rw [List.take_of_length_le h, List.drop_eq_nil_of_le h, List.append_nil]
theorem freedTo_length (t : Int) (k : Nat) (l : List Place) : (freedTo t k l).length = l.length := by
  simp [freedTo, freed]; omega
theorem freedTo_at (t : Int) (k : Nat) (l : List Place) : (freedTo t k l)[k]? = l[k]? := by
  unfold freedTo freed
  by_cases h : k < l.length
  · rw [List.getElem?_append_right (by simp; omega)]; simp [Nat.min_eq_left (Nat.le_of_lt h)]
  · rw [List.getElem?_eq_none (by simp; omega), List.getElem?_eq_none (by omega)]
theorem freedTo_succ (t : Int) (k : Nat) (l : List Place) (x : Place) (hx : l[k]? = some x) :
    freedTo t (k + 1) l = if x.1 = 2 then (freedTo t k l).set k (t, x.2) else freedTo t k l := by
  obtain ⟨hlt, he⟩ := List.getElem?_eq_some_iff.1 hx
  have h1 : l.take (k + 1) = l.take k ++ [x] := by rw [List.take_succ_eq_append_getElem hlt, he]
  have h2 : l.drop k = x :: l.drop (k + 1) := by rw [List.drop_eq_getElem_cons hlt, he]
  have h3 : (freed t (l.take k)).length = k := by simp [freed]; omega
  unfold freedTo
  rw [h1, h2]
  split
  · rename_i h
    rw [List.set_append_right _ _ (by omega), h3]
    simp [freed, h]
  · rename_i h
    simp [freed, h]

theorem turn1_sat {w : World} {p : Nat} {b : Nat → Nat} {L : St} (hs : Sat w p b L) {j : Nat} (hj : j ≤ 1) (k c d : Nat) (f t : Int) {x : Place} (hx : (L j)[k]? = some x)
    (hf : w.cell? ⟨c, 0, none⟩ = some (.int .i64 f)) (ht : w.cell? ⟨d, 0, none⟩ = some (.int .i64 t)) :
    Calls Try.prog 27 #[.pointer (some ⟨b j, k * 2, none⟩), .pointer (some ⟨c, 0, none⟩), .pointer (some ⟨d, 0, none⟩)] w
      fun e w' => ∃ q, e = .returned (.bool q) ∧ Sat w' p b (if x.1 = f then L.upd j ((L j).set k (t, x.2)) else L) ∧ Only (Rows2 b) w w' := by
  obtain ⟨h1, _⟩ := (hs.row j hj).place hx
  have hz : w.frozen? ⟨b j, k * 2, none⟩ = false := Blk.frozen (hs.row j hj) _
  by_cases h : x.1 = f
  · refine (turn1_yes (b j) (k * 2) c d x.1 f t w h1 hf ht hz (by simp [h])).mono ?_
    rintro e w' ⟨rfl, n, rfl⟩
    rw [if_pos h]
    exact ⟨_, rfl, (hs.drewN n).set_is hj hx t, ((Only.refl _ _).drewN n).setCell (.inl (Rows2.of hj)) _⟩
  · refine (turn1_no (b j) (k * 2) c d x.1 f w h1 hf (by simp [h])).mono ?_
    rintro e w' ⟨rfl, n, rfl⟩
    rw [if_neg h]
    exact ⟨_, rfl, hs.drewN n, (Only.refl _ _).drewN n⟩

def midSt (t : Int) (i k : Nat) (L : St) : St := St.upd (fun j => if j < i then freed t (L j) else L j) i (freedTo t k (L i))
theorem midSt_at (t : Int) (i k : Nat) (L : St) : midSt t i k L i = freedTo t k (L i) := by simp [midSt]
theorem midSt_succ (t : Int) (i k : Nat) (L : St) (x : Place) (hx : (L i)[k]? = some x) :
    (if x.1 = 2 then (midSt t i k L).upd i ((midSt t i k L i).set k (t, x.2)) else midSt t i k L) = midSt t i (k + 1) L := by
  rw [midSt_at]
  unfold midSt
  rw [freedTo_succ t k _ x hx]
  split
  · funext j; simp only [St.upd]; split <;> rfl
  · rfl
theorem midSt_done (t : Int) (i k : Nat) (L : St) (h : (L i).length ≤ k) : midSt t i k L = fun j => if j < i + 1 then freed t (L j) else L j := by
  funext j
  unfold midSt
  rw [freedTo_all t _ k h]
  simp only [St.upd]
  by_cases hj : j = i
  · subst hj; simp
  · by_cases hl : j < i
    · simp [hj, hl, show j < i + 1 by omega]
    · simp [hj, hl, show ¬ j < i + 1 by omega]
theorem midSt_zero (t : Int) (i : Nat) (L : St) : midSt t i 0 L = fun j => if j < i then freed t (L j) else L j := by
  unfold midSt; rw [freedTo_zero]
  funext j; simp only [St.upd]; split
  · rename_i h; subst h; simp
  · rfl

set_option maxHeartbeats 1000000 in
theorem all_in {w : World} {p : Nat} {b : Nat → Nat} {L : St} (hs : Sat w p b L) (t : Int) :
    Calls Try.prog 24 #[.pointer (some ⟨p, 0, none⟩), .int .i64 t] w
      fun e w' => e = .returned (.tuple #[]) ∧ Sat w' p b (allAt t L) ∧ Only (Rows2 b) w w' := by
  go_enter Try.func24, Try.ntmps24
  go_wp2
  go_loopw [7] (fun i wr => ∃ k : Nat, k ≤ 2 ∧ i = .int .i64 k ∧ Sat wr p b (midSt t k 0 L) ∧ Only (Rows2 b) w wr) (fun i _ => 2 - (intOf i).toNat)
  case atStart => exact ⟨0, by omega, rfl, by rw [midSt_zero]; simpa using hs, Only.refl _ _⟩
  case round =>
    obtain ⟨i, hi, rfl, hsi, hoi⟩ := hrel
    by_cases hlt : i < 2
    · have hc := hsi.slice (show i ≤ 1 by omega)
      rw [midSt_at, freedTo_zero] at hc
      have hlen : (L i).length ≤ 4096 := by have := hsi.len i (by omega); rw [midSt_at, freedTo_zero] at this; exact this
      have hd := disk_in p i _ wr (by omega) hc
      clear hc
      go_wp2_with (go_at_call 20; refine hd.mono ?_; rintro e w' ⟨rfl, rfl⟩)
      obtain ⟨wo, rfl⟩ : ∃ wo : World, wo = wr := ⟨_, rfl⟩
      clear hd
      go_loopw [15] (fun v wr => ∃ k : Nat, k ≤ (L i).length ∧ v = .int .i64 k ∧ Sat wr p b (midSt t i k L) ∧ Only (Rows2 b) w wr) (fun v _ => (L i).length - (intOf v).toNat)
      case atStart => exact ⟨0, by omega, rfl, hsi, hoi⟩
      case round =>
        obtain ⟨k, hk, rfl, hsk, hok⟩ := hrel
        by_cases hkl : k < (L i).length
        · obtain ⟨x, hx⟩ : ∃ x, (L i)[k]? = some x := ⟨(L i)[k], List.getElem?_eq_getElem hkl⟩
          have hn := two_new wr (.int .i64 2) (.int .i64 t) 3 3
          have hcall := turn1_sat ((hsk.alloc (.cells #[.int .i64 2] 3)).alloc (.cells #[.int .i64 t] 3)).drew (j := i) (by omega) k wr.heap.size (wr.heap.size + 1) 2 t (x := x) (by rw [midSt_at, freedTo_at]; exact hx) (by rw [World.cell?_drew]; exact hn.1) (by rw [World.cell?_drew]; exact hn.2)
          rw [midSt_succ t i k L x hx] at hcall
          clear hn hx
          go_wp2
          go_region_with (first | (go_at_call 22; refine (turn_any _ _ _).mono ?_; rintro e w' ⟨rfl, rfl⟩) | (go_at_call 27; refine hcall.mono ?_; rintro e w' ⟨q, rfl, hs', ho'⟩))
          go_wp2
          go_roundw
          case rel => exact ⟨k + 1, by omega, by go_num, hs', hok.trans ((((Only.refl _ _).alloc _).alloc _).drew.trans ho')⟩
          case measure => simp [intOf]; omega
        · go_wp2
          go_roundw
          case rel => exact ⟨i + 1, by omega, by go_num, by rw [midSt_zero, ← midSt_done t i k L (by omega)]; exact hsk, hok⟩
          case measure => simp [intOf]; omega
    · go_wp2
      go_end0
      have : i = 2 := by omega
      subst this
      refine ⟨rfl, ?_, hoi⟩
      rw [midSt_zero] at hsi
      have e : (fun j => if j < 2 then freed t (L j) else L j) = allAt t L := by
        funext j; unfold allAt
        by_cases hj : j < 2
        · rw [if_pos hj, if_pos (by omega)]
        · rw [if_neg hj, if_neg (by omega)]
      rwa [e] at hsi

theorem release_in {w : World} {p : Nat} {b : Nat → Nat} {L : St} (hs : Sat w p b L) :
    Calls Try.prog 12 #[.pointer (some ⟨p, 0, none⟩)] w fun e w' => e = .returned (.tuple #[]) ∧ Sat w' p b (allAt 0 L) ∧ Only (Rows2 b) w w' := by
  have hc := all_in hs 0
  go_enter Try.func12, Try.ntmps12
  go_wp2_with (go_at_call 24; refine hc.mono ?_; rintro e w' ⟨rfl, hs', ho'⟩)
  go_end0
  exact ⟨rfl, hs', ho'⟩
theorem back_in {w : World} {p : Nat} {b : Nat → Nat} {L : St} (hs : Sat w p b L) :
    Calls Try.prog 17 #[.pointer (some ⟨p, 0, none⟩)] w fun e w' => e = .returned (.tuple #[]) ∧ Sat w' p b (allAt 1 L) ∧ Only (Rows2 b) w w' := by
  have hc := all_in hs 1
  go_enter Try.func17, Try.ntmps17
  go_wp2_with (go_at_call 24; refine hc.mono ?_; rintro e w' ⟨rfl, hs', ho'⟩)
  go_end0
  exact ⟨rfl, hs', ho'⟩

theorem is_out (p : Addr) (d : Int) (a : Int) (w : World) (h : d < 0 ∨ 1 < d) (ha : 0 ≤ a) (_ha' : a ≤ 65535) :
    Calls Try.prog 19 #[.pointer (some p), .int .i64 d, .int .u16 a] w fun e w' => e = .returned (.bool false) ∧ w = w' := by
  go_enter Try.func19, Try.ntmps19
  go_wp2_with (go_at_call 20; refine (disk_out _ _ _ h).mono ?_; rintro e w' ⟨rfl, rfl⟩)
  go_ret
  exact ⟨rfl, rfl⟩
theorem is_nil (d : Int) (a : Int) (w : World) (ha : 0 ≤ a) (_ha' : a ≤ 65535) :
    Calls Try.prog 19 #[.pointer none, .int .i64 d, .int .u16 a] w fun e w' => e = .returned (.bool false) ∧ w = w' := by
  go_enter Try.func19, Try.ntmps19
  go_wp2_with (go_at_call 20; refine (disk_nil _ _).mono ?_; rintro e w' ⟨rfl, rfl⟩)
  go_ret
  exact ⟨rfl, rfl⟩
def isSick (l : List Place) (a : Nat) : Bool := match l[a]? with | some x => x.2 | none => false
theorem is_in {w : World} {p : Nat} {b : Nat → Nat} {L : St} (hs : Sat w p b L) {j : Nat} (hj : j ≤ 1) (a : Nat) (ha' : a ≤ 65535) :
    Calls Try.prog 19 #[.pointer (some ⟨p, 0, none⟩), .int .i64 j, .int .u16 a] w fun e w' => e = .returned (.bool (isSick (L j) a)) ∧ w = w' := by
  have hc := hs.slice hj
  have hd := disk_in p j _ w hj hc
  have hl := hs.len j hj
  clear hc
  by_cases hlt : a < (L j).length
  · obtain ⟨x, hx⟩ : ∃ x, (L j)[a]? = some x := ⟨(L j)[a], List.getElem?_eq_getElem hlt⟩
    obtain ⟨_, h2⟩ := (hs.row j hj).place hx
    have e : isSick (L j) a = x.2 := by unfold isSick; rw [hx]
    rw [e]
    clear hx e
    go_enter Try.func19, Try.ntmps19
    go_wp2_with (go_at_call 20; refine hd.mono ?_; rintro e w' ⟨rfl, rfl⟩)
    go_ret
    exact ⟨rfl, rfl⟩
  · have e : isSick (L j) a = false := by unfold isSick; rw [List.getElem?_eq_none (by omega)]
    rw [e]
    clear e
    go_enter Try.func19, Try.ntmps19
    go_wp2_with (go_at_call 20; refine hd.mono ?_; rintro e w' ⟨rfl, rfl⟩)
    go_ret
    exact ⟨rfl, rfl⟩
end Go.Proofs.Ytlfnneljeoamlaa
