/-
  name.fault (func 46).
-/
import Derived.Test.YtnclappdokhciaaChecked
import Derived.Test.YtnclappdokhciaaShelf
import Derived.Test.YtnclappdokhciaaOwn
import Derived.Test.YtnclappdokhciaaU
import Derived.WalkKit
import Derived.Lib.OthersKept
import Derived.LoopTactic
namespace Go.Proofs.Ytnclappdokhciaa
open Go Go.RowKit
set_option linter.unusedVariables false

theorem Only.iterAt {S : Nat → Prop} {w w' : World} (h : Only S w w') {k : Nat} (hk : w.heap.size ≤ k ∨ S k) (s : ByteArray) (pos : Nat) : Only S w (w'.iterAt k s pos) :=
  ⟨h.os, h.tape, h.output, by rw [Lib.iterAt_size]; exact h.size, fun i hi hs => (Lib.iterAt_other w' k i s pos (by
    rintro rfl
    rcases hk with hk | hk
    · omega
    · exact hs hk)).trans (h.block i hi hs)⟩

set_option maxRecDepth 10000 in
set_option maxHeartbeats 2000000 in
theorem fault_any (s : ByteArray) (bad : Nat) (hb : bad < 128) (hs : s.size ≤ 9223372036854775807) (w : World) :
    Calls Try.prog 46 #[.string s, .int .i32 (bad : Int)] w fun e w' => e = .returned (.int .i64 (fault s bad)) ∧ Only (fun _ => False) w w' := by
  go_enter Try.func46, Try.ntmps46
  go_wp2
  go_loopw [4, 5, 6] (fun _ _ _ wr => ∃ (pos f : Nat), wr.heap[w.heap.size]? = some (.stringIter s pos) ∧ Only (fun _ => False) w wr ∧ faultF s bad f pos = fault s bad ∧ s.size ≤ pos + f) (fun _ _ _ wr => s.size - World.iterPos wr w.heap.size)
  case atStart => exact ⟨0, s.size, World.iter_heap w s 0, (Only.refl _ w).alloc _, rfl, by omega⟩
  case round =>
    obtain ⟨pos, f, hit, ho, hf, hsz⟩ := hrel
    by_cases hp : pos < s.size
    · have hnx : ∀ ty, (Instr.next (.pointer (some ⟨w.heap.size, 0, none⟩)) true ty).run Try.prog wr = _ := fun ty => Lib.run_next_any_at wr w.heap.size s pos ty hit hp
      have hit2 := Lib.iterAt_heap wr w.heap.size s pos (pos + (Utf8.decode s pos).2) hit
      have ho2 := ho.iterAt (k := w.heap.size) (.inl (Nat.le_refl _)) s (pos + (Utf8.decode s pos).2)
      have hwd := dec_pos s pos
      have hde := dec_end s pos hp
      obtain ⟨f, rfl⟩ : ∃ g, f = g + 1 := ⟨f - 1, by omega⟩
      have k1 := fault_26 s bad f pos hp hb
      have k2 := fault_36 s bad f pos hp hb
      have k3 := fault_go s bad f pos hp hb
      generalize hc : (Utf8.decode s pos).1 = c at *
      rw [hf] at k1 k2 k3
      by_cases c0 : c = 0
      · have kk := k1 (.inl c0)
        subst c0
        go_wp2
        go_ret
        exact ⟨by first | rfl | (rw [kk]; rfl), ho2⟩
      by_cases c1 : c = bad
      · have kk := k1 (.inr c1)
        have n0 : ((c : Int) == 0) = false := beq_false_of_ne (by omega)
        subst c1
        go_wp2
        go_ret
        exact ⟨by first | rfl | (rw [kk]; rfl), ho2⟩
      have n0 : ((c : Int) == 0) = false := beq_false_of_ne (by omega)
      have n1 : ((c : Int) == (bad : Int)) = false := beq_false_of_ne (by omega)
      by_cases c2 : c = 65533
      · subst c2
        cases hh : Lib.hasPrefix (List.take (s.size - pos) (List.drop pos s.data.toList)) [239, 191, 189] with
        | false =>
          have kk := k2 c0 c1 rfl hh
          go_wp2_with (go_at_call 72; refine (Try.strings_HasPrefix _ _ _).mono ?_; rintro e w' ⟨rfl, rfl⟩)
          go_ret
          exact ⟨by first | rfl | (rw [kk]; rfl), ho2⟩
        | true =>
          replace k3 := k3 c0 c1 (fun _ => hh)
          go_wp2_with (go_at_call 72; refine (Try.strings_HasPrefix _ _ _).mono ?_; rintro e w' ⟨rfl, rfl⟩)
          go_roundw
          case rel => exact ⟨_, f, hit2, ho2, k3.symm, by omega⟩
          case measure => simp only [World.iterPos, hit, hit2]; omega
      · replace k3 := k3 c0 c1 (fun e => absurd e c2)
        have n2 : ((c : Int) == 65533) = false := beq_false_of_ne (by omega)
        go_wp2_with fail
        go_roundw
        case rel => exact ⟨_, f, hit2, ho2, k3.symm, by omega⟩
        case measure => simp only [World.iterPos, hit, hit2]; omega
    · have hnx : ∀ ty, (Instr.next (.pointer (some ⟨w.heap.size, 0, none⟩)) true ty).run Try.prog wr = _ := fun ty => Lib.run_next_end_at wr w.heap.size s pos ty hit hp
      have k0 : fault s bad = 0 := by
        rw [← hf]
        cases f with
        | zero => rfl
        | succ f => unfold faultF; exact if_neg hp
      go_wp2
      go_ret
      exact ⟨by first | rfl | (rw [k0]; rfl), ho⟩
end Go.Proofs.Ytnclappdokhciaa
