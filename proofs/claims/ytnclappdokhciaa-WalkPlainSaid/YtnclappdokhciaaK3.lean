/-
  Rows of 16-bit numbers: append, clone (func 56); the walker's last (func 55).
-/
import Derived.Test.YtnclappdokhciaaK2
namespace Go.Proofs.Ytnclappdokhciaa
open Go Go.RowKit
set_option linter.unusedVariables false
theorem und47 : Try.prog.underlying 47 = some (.slice 46) := by kernel_rfl
theorem info46k : (Try.prog.info? 46).map (fun i => (i.zero, i.size, i.bytes)) = some (some (.int .u16 0), 1, 2) := by kernel_rfl
theorem u16s_one (l : List Nat) : ∀ u ∈ u16s l, u.oneCell' = true := fun u hu => by
  obtain ⟨x, _, rfl⟩ := List.mem_map.1 hu
  rfl
theorem u16s_app (x y : List Nat) : u16s (x ++ y) = u16s x ++ u16s y := List.map_append
theorem u16s_len (l : List Nat) : (u16s l).length = l.length := List.length_map ..
/-- New blocks alone. -/
def Fr (B : Nat) (A : Option Addr) : Prop := ∀ a, A = some a → B ≤ a.block
theorem rowU_of {w : World} {B n : Nat} {v : Value} {l : List Nat} (h : w.ownsRow B 46 1 v n (u16s l)) : n = l.length ∧ ∃ A c, v = .slice A n c ∧ RowU w A l c ∧ Fr B A := by
  obtain ⟨A, c, e, hr, hc, hA⟩ := row_form h
  have hn : n = l.length := by rw [← u16s_len, hr.1]
  subst hn
  refine ⟨rfl, A, c, e, ⟨hr, hc, hA⟩, fun a ha => ?_⟩
  subst ha
  subst e
  by_cases h0 : l.length = 0
  · rcases h.2 with ⟨h1, _⟩ | ⟨g, cap, cur, h1, hB, _⟩
    · cases h1
    · cases h1; exact hB
  · rcases h.2 with ⟨h1, _⟩ | ⟨g, cap, cur, h1, hB, _⟩
    · cases h1
    · cases h1; exact hB
/-- append onto a full slice. -/
theorem full_u {w : World} {A A' : Option Addr} {l m : List Nat} {c c' : Nat} (h : RowU w A l c) (h' : RowU w A' m c') (hl : l.length ≤ 10000) (hm : m.length ≤ 10000) (hm0 : 0 < m.length) :
    ∃ A2 c2 w', (Builtin.append_ #[47, 47] 47 #[.slice A l.length l.length, .slice A' m.length c']).run Try.prog w = .ok (.slice A2 (l.length + m.length) c2) w' ∧ RowU w' A2 (l ++ m) c2 ∧ Only (fun _ => False) w w' ∧ Fr w.heap.size A2 := by
  obtain ⟨i, hi, hi0, hi1, hi2⟩ := info_of info46k
  obtain ⟨v', w', hr, hown, hg⟩ := run_append_full (P := Try.prog) w 47 47 46 i _ 2 und47 hi hi0 hi1 hi2 rfl A A' l.length m.length c' w.heap.size w.heap.size (u16s l) (u16s m) (fun e => (h.2.2 e).1) h.1 h'.1 (u16s_one m) hm0 (by unfold maxLen; omega) (by omega)
  rw [← u16s_app] at hown
  obtain ⟨e1, A2, c2, e, h1, h2⟩ := rowU_of hown
  subst e
  exact ⟨A2, c2, w', hr, h1, Only.of_grown hg, h2⟩
theorem full_e {w : World} (g : Nat) {A' : Option Addr} {m : List Nat} {c : Nat} (h' : RowU w A' m c) (hm : m.length ≤ 10000) (hm0 : 0 < m.length) :
    ∃ A2 c2 w', (Builtin.append_ #[47, 47] 47 #[.slice (some ⟨g, 0, none⟩) 0 0, .slice A' m.length c]).run Try.prog w = .ok (.slice A2 m.length c2) w' ∧ RowU w' A2 m c2 ∧ Only (fun _ => False) w w' ∧ Fr w.heap.size A2 := by
  obtain ⟨i, hi, hi0, hi1, hi2⟩ := info_of info46k
  obtain ⟨v', w', hr, hown, hg⟩ := run_append_full (P := Try.prog) w 47 47 46 i _ 2 und47 hi hi0 hi1 hi2 rfl (some ⟨g, 0, none⟩) A' 0 m.length c 0 w.heap.size [] (u16s m) (fun h => by cases h) (Reads.nil_ w 0 _) h'.1 (u16s_one m) hm0 (by unfold maxLen; omega) (by omega)
  rw [Nat.zero_add, List.nil_append] at hown
  obtain ⟨e1, A2, c2, e, h1, h2⟩ := rowU_of hown
  subst e
  exact ⟨A2, c2, w', hr, h1, Only.of_grown hg, h2⟩
theorem Fr.mono {B B' : Nat} {A : Option Addr} (h : Fr B A) (hB : B' ≤ B) : Fr B' A := fun a e => Nat.le_trans hB (h a e)
set_option maxRecDepth 10000 in
set_option maxHeartbeats 2000000 in
theorem cloneU_any (l : List Nat) (A : Option Addr) (c : Nat) (w : World) (h : RowU w A l c) (hl : l.length ≤ 10000) (h0 : 0 < l.length) :
    Calls Try.prog 56 #[.slice A l.length c] w fun r w' => ∃ A' c', r = .returned (.slice A' l.length c') ∧ RowU w' A' l c' ∧ Fr w.heap.size A' ∧ Only (fun _ => False) w w' := by
  cases A with
  | none => have := (h.2.2 rfl).1; omega
  | some a =>
    have hq := fun (W : World) (n c : Nat) => Lib.run_eql_slice_some_nil (P := Try.prog) W a n c und47
    have oa := (Only.refl (fun _ => False) w).alloc (.cells #[] 46)
    obtain ⟨A2, c2, w', hap, hr2, ho2, hf⟩ := full_e w.heap.size (h.only oa (fun _ _ x => x)) hl h0
    have ho3 := oa.trans ho2
    have hf2 := hf.mono oa.size
    generalize l.length = n at *
    have i0 : (0 : Int) < n := by omega
    clear oa ho2 hf
    go_enter Try.func56, Try.ntmps56
    go_wp2_with (at_builtin; refine wpList_append_eq1 rfl (.tmp 5) (.tmp 6) 47 rfl _ _ _ _ (by simp [Act.eval]) (by simp [Act.eval]) hap ?_)
    go_ret
    exact ⟨A2, c2, rfl, hr2, hf2, ho3⟩
theorem lastU_at {l : List Nat} {m : Nat} (h : l.length = m + 1) : l[m]? = some (lastU l) := by
  unfold lastU
  rw [List.getLastD_eq_getLast?, List.getLast?_eq_getElem?, h, Nat.add_sub_cancel]
  rw [List.getElem?_eq_getElem (by omega)]
  rfl
set_option maxRecDepth 10000 in
set_option maxHeartbeats 2000000 in
theorem last_any (l : List Nat) (A : Option Addr) (c g : Nat) (x0 x2 x3 x4 : Value) (w : World) (hb : Blk w g 104 #[x0, .slice A l.length c, x2, x3, x4]) (h : RowU w A l c) (hl : l.length ≤ 10000) (h0 : 0 < l.length) :
    Calls Try.prog 55 #[.pointer (some ⟨g, 0, none⟩)] w fun r w' => r = .returned (.int .u16 (lastU l)) ∧ Only (fun _ => False) w w' := by
  obtain ⟨m, hm⟩ : ∃ m, l.length = m + 1 := ⟨l.length - 1, by omega⟩
  obtain ⟨b, o, rfl, _, d0⟩ := h.lit (lastU_at hm)
  have q1 := hb.cell 1
  simp only [List.getElem?_toArray, List.getElem?_cons_zero, List.getElem?_cons_succ] at q1
  rw [hm] at q1 hb
  generalize lastU l = x at *
  have kw : IntKind.i64.wrap ((m : Int) + 1 - 1) = (m : Int) := by rw [IntKind.wrap_i64]; omega
  have kw2 : IntKind.i64.wrap (((m + 1 : Nat) : Int) - 1) = (m : Int) := by rw [IntKind.wrap_i64]; omega
  have kw3 : IntKind.i64.wrap (m : Int) = (m : Int) := by rw [IntKind.wrap_i64]; omega
  have j0 : (0 : Int) ≤ (m : Int) := by omega
  have j1 : (m : Int) < ((m + 1 : Nat) : Int) := by omega
  replace hm := Lib.hid hm
  clear hb h
  go_enter Try.func55, Try.ntmps55
  go_wp2_with fail
  go_quiet (fail)
  have ho := (Only.refl (fun _ => False) w).drewN nq
  go_wp2
  go_ret
  exact ⟨rfl, ho⟩
end Go.Proofs.Ytnclappdokhciaa
