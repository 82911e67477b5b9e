/-
  wire.U16 (func 61, 82), the reference's Num (func 62).
-/
import Derived.Test.YtnclappdokhciaaD5
namespace Go.Proofs.Ytnclappdokhciaa
open Go Go.RowKit
set_option linter.unusedVariables false

/-- Two bytes, the low one first. -/
def le16 (n : Nat) : List UInt8 := [UInt8.ofNat (n % 256), UInt8.ofNat (n / 256)]
theorem u8n (n : Nat) (h : n < 256) : ((UInt8.ofNat n).toNat : Int) = (n : Int) := by
  rw [UInt8.toNat_ofNat']; omega
set_option maxRecDepth 10000 in
set_option maxHeartbeats 4000000 in
theorem put_any (w1 : World) (l : List UInt8) (v : Value) (w : World) (h : PB w1 l v w) (hl : l.length ≤ 50000) (n : Nat) (hn : n < 65536) :
    Calls Try.prog 82 #[v, .int .u16 n, .int .i64 2] w fun r w' => ∃ A c, r = .returned (.slice A (l.length + 2) c) ∧ PB w1 (l ++ le16 n) (.slice A (l.length + 2) c) w' ∧ Only (fun k => v.ownBlock = some k) w w' := by
  go_enter Try.func82, Try.ntmps82
  go_wp2
  go_loopw [0, 1, 8] (fun s0 s1 s8 wr => ∃ (i : Nat) (m : List UInt8) (k : Nat), s8 = .int .i64 i ∧ s1 = .int .u16 k ∧ i ≤ 2 ∧ m.length = i ∧ PB w1 (l ++ m) s0 wr ∧ Only (fun k => v.ownBlock = some k) w wr ∧ (∀ g, s0.ownBlock = some g → v.ownBlock = some g ∨ w.heap.size ≤ g) ∧ k < 65536 ∧ (i = 0 → k = n) ∧ (i = 1 → k = n / 256 ∧ m = [UInt8.ofNat (n % 256)]) ∧ (i = 2 → m = le16 n)) (fun _ _ s8 _ => 2 - (intOf s8).toNat)
  case atStart => exact ⟨0, [], n, rfl, rfl, by omega, rfl, by rw [List.append_nil]; exact h, Only.refl _ _, fun g e => .inl e, hn, fun _ => rfl, fun e => by omega, fun e => by omega⟩
  case round =>
    obtain ⟨i, m, k, rfl, rfl, hi, hm, hp, ho, hown, hk, h0, h1, h2⟩ := hrel
    obtain ⟨A, c, rfl, hrow⟩ := hp.row
    by_cases hlt : i < 2
    · have i1 : (i : Int) < 2 := by omega
      have hb := Blk.new wr 5 #[.int .u8 ((UInt8.ofNat (k % 256)).toNat : Int)]
      have oa := (Only.refl (fun _ => False) wr).alloc (.cells #[.int .u8 ((UInt8.ofNat (k % 256)).toNat : Int)] 5)
      obtain ⟨A', c', w', hap, hp', ho', hat⟩ := hp.one oa (by rw [List.length_append]; omega) wr.heap.size (UInt8.ofNat (k % 256)) hb
      rw [u8n _ (by omega), show ((k % 256 : Nat) : Int) = (k : Int) % 256 from rfl] at hap
      go_wp2_with (at_builtin; refine wpList_append_eq1 rfl (.tmp 10) (.tmp 13) 67 rfl _ _ _ w' (by simp [Act.eval]) (by simp [Act.eval]) hap ?_)
      have hlen : (l ++ m).length = l.length + i := by rw [List.length_append, hm]
      rw [hlen] at hap hp' ho' hat hown
      have hon := ho.trans_of ((oa.mono (S' := fun g => (Value.slice A (l.length + i) c).ownBlock = some g) (fun _ _ h => h.elim)).trans ho') (fun g hg e => (hown g e).resolve_right (by omega))
      have hsz := ho.size
      have hat2 : ∀ g, (Value.slice A' (l.length + i + 1) c').ownBlock = some g → v.ownBlock = some g ∨ w.heap.size ≤ g := fun g e => by
        rcases hat g e with e | e
        · exact hown g e
        · have := oa.size
          exact .inr (by omega)
      rw [List.append_assoc] at hp'
      go_roundw
      case rel =>
        refine ⟨i + 1, m ++ [UInt8.ofNat (k % 256)], k / 256, by go_num, rfl, by omega, by rw [List.length_append, hm]; rfl, hp', hon, hat2, by omega, fun e => by omega, fun e => ?_, fun e => ?_⟩
        · have e0 : i = 0 := by omega
          obtain rfl := h0 e0
          have : m = [] := List.eq_nil_of_length_eq_zero (by omega)
          subst this
          exact ⟨rfl, rfl⟩
        · obtain ⟨hk1, rfl⟩ := h1 (by omega)
          subst hk1
          unfold le16
          rw [Nat.mod_eq_of_lt (a := n / 256) (by omega)]; rfl
      case measure => simp [intOf]; omega
    · obtain rfl : i = 2 := by omega
      have hm2 := h2 rfl
      subst hm2
      have hlen : (l ++ le16 n).length = l.length + 2 := by rw [List.length_append]; rfl
      rw [hlen] at hp
      rw [hlen]
      go_wp2
      go_ret
      exact ⟨A, c, rfl, hp, ho⟩
set_option maxRecDepth 10000 in
set_option maxHeartbeats 4000000 in
theorem u16_any (w1 : World) (l : List UInt8) (v : Value) (w : World) (h : PB w1 l v w) (hl : l.length ≤ 50000) (n : Nat) (hn : n < 65536) :
    Calls Try.prog 61 #[v, .int .u16 n] w fun r w' => ∃ A c, r = .returned (.slice A (l.length + 2) c) ∧ PB w1 (l ++ le16 n) (.slice A (l.length + 2) c) w' ∧ Only (fun k => v.ownBlock = some k) w w' := by
  have hp := Lib.hid (put_any w1 l v w h hl n hn)
  clear h
  go_enter Try.func61, Try.ntmps61
  go_wp2_with fail
  refine hp.out.mono ?_
  rintro r w' ⟨A, c, rfl, h1, h2⟩
  go_wp2
  go_ret
  exact ⟨A, c, rfl, h1, h2⟩
set_option maxRecDepth 10000 in
set_option maxHeartbeats 4000000 in
theorem num_any (n : Nat) (hn : n < 65536) (w : World) :
    Calls Try.prog 62 #[.int .u64 n, .int .i64 2] w fun r w' => ∃ A c, r = .returned (.slice A 2 c) ∧ RowB w' A (le16 n) c ∧ Only (fun _ => False) w w' := by
  go_enter Try.func62, Try.ntmps62
  go_wp2
  go_loopw [0, 5, 6] (fun s1 s0 s8 wr => ∃ (i : Nat) (m : List UInt8) (k : Nat), s8 = .int .i64 i ∧ s1 = .int .u64 k ∧ i ≤ 2 ∧ m.length = i ∧ PB w m s0 wr ∧ k < 65536 ∧ (i = 0 → k = n) ∧ (i = 1 → k = n / 256 ∧ m = [UInt8.ofNat (n % 256)]) ∧ (i = 2 → m = le16 n)) (fun _ _ s8 _ => 2 - (intOf s8).toNat)
  case atStart => exact ⟨0, [], n, rfl, rfl, by omega, rfl, PB.nil w, hn, fun _ => rfl, fun e => by omega, fun e => by omega⟩
  case round =>
    obtain ⟨i, m, k, rfl, rfl, hi, hm, hp, hk, h0, h1, h2⟩ := hrel
    obtain ⟨A, c, rfl, hrow⟩ := hp.row
    by_cases hlt : i < 2
    · have i1 : (i : Int) < 2 := by omega
      have hb := Blk.new wr 5 #[.int .u8 ((UInt8.ofNat (k % 256)).toNat : Int)]
      have oa := (Only.refl (fun _ => False) wr).alloc (.cells #[.int .u8 ((UInt8.ofNat (k % 256)).toNat : Int)] 5)
      obtain ⟨A', c', w', hap, hp', ho', hat⟩ := hp.one oa (by omega) wr.heap.size (UInt8.ofNat (k % 256)) hb
      rw [u8n _ (by omega), show ((k % 256 : Nat) : Int) = (k : Int) % 256 from rfl] at hap
      rw [hm] at hap hp'
      have hpN : PB w (m ++ [UInt8.ofNat (k % 256)]) (Value.slice A' (i + 1) c') w' := hp'
      clear hp' hat ho' oa hb hrow hp
      go_wp2_with (at_builtin; refine wpList_append_eq1 rfl (.tmp 12) (.tmp 16) 67 rfl _ _ _ w' (by simp [Act.eval, hm]) (by simp [Act.eval]) hap ?_)
      go_roundw
      case rel =>
        refine ⟨i + 1, m ++ [UInt8.ofNat (k % 256)], k / 256, by go_num, rfl, by omega, by rw [List.length_append, hm]; rfl, hpN, by omega, fun e => by omega, fun e => ?_, fun e => ?_⟩
        · have e0 : i = 0 := by omega
          obtain rfl := h0 e0
          have : m = [] := List.eq_nil_of_length_eq_zero (by omega)
          subst this
          exact ⟨rfl, rfl⟩
        · obtain ⟨hk1, rfl⟩ := h1 (by omega)
          subst hk1
          unfold le16
          rw [Nat.mod_eq_of_lt (a := n / 256) (by omega)]; rfl
      case measure => simp [intOf]; omega
    · obtain rfl : i = 2 := by omega
      have hm2 := h2 rfl
      subst hm2
      have ho := hp.only
      go_wp2
      go_ret
      exact ⟨A, c, rfl, hrow, ho⟩
end Go.Proofs.Ytnclappdokhciaa
