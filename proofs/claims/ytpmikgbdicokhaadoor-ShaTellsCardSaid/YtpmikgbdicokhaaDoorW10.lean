/-
  Digests of short rows of bytes, reckoned; 'wakes' (func 8).
-/
import Derived.Test.YtpmikgbdicokhaaDoorW9
import Derived.Test.YtpmikgbdicokhaaDoorEv
import Derived.Lib.SlBytesConst
namespace Go.Proofs.YtpmikgbdicokhaaDoor
open Go.RowKit
set_option linter.unusedVariables false

/-- W's numbers are the numbers of the piece B. -/
def chk (B : Nat → Nat) (W : List Nat) : Bool := (List.range 64).all fun i => Nat.beq (W.getD i 0) (nextw B (W.take i))
theorem ws_of (B : Nat → Nat) (W : List Nat) (hW : W.length = 64) (h : chk B W = true) : ∀ k, k ≤ 64 → ws B k = W.take k
  | 0, _ => by simp [ws]
  | k + 1, hk => by
    have h' := List.all_eq_true.1 h k (List.mem_range.2 (by omega))
    have e := Nat.eq_of_beq_eq_true h'
    rw [ws, ws_of B W hW h k (by omega), ← e, List.take_add_one, List.getD_eq_getElem?_getD, List.getElem?_eq_getElem (by omega)]
    rfl
theorem wn_of (B : Nat → Nat) (W : List Nat) (hW : W.length = 64) (h : chk B W = true) {i : Nat} (hi : i < 64) : wn B i = W.getD i 0 := by
  unfold wn
  rw [ws_of B W hW h i (by omega)]
  exact (Nat.eq_of_beq_eq_true (List.all_eq_true.1 h i (List.mem_range.2 hi))).symm
def kws (W : List Nat) : List Nat := List.zipWith (fun k w => (k + w) % 4294967296) kk W
theorem kws_length (W : List Nat) (hW : W.length = 64) : (kws W).length = 64 := by
  unfold kws; rw [List.length_zipWith, hW]; rfl
theorem kws_ok (B : Nat → Nat) (W : List Nat) (hW : W.length = 64) (h : chk B W = true) : ∀ i x, (kws W)[i]? = some x → x % 4294967296 = (kk.getD i 0 + wn B i) % 4294967296 := by
  intro i x hx
  have hi : i < 64 := by
    have := (List.getElem?_eq_some_iff.1 hx).1
    rwa [kws_length W hW] at this
  rw [wn_of B W hW h hi]
  unfold kws at hx
  rw [List.getElem?_zipWith] at hx
  have hk : i < kk.length := hi
  rw [List.getElem?_eq_getElem hk, List.getElem?_eq_getElem (show i < W.length by omega)] at hx
  simp only [Option.some.injEq] at hx
  rw [← hx, List.getD_eq_getElem?_getD, List.getD_eq_getElem?_getD, List.getElem?_eq_getElem hk, List.getElem?_eq_getElem (show i < W.length by omega)]
  simp
/-- One piece, reckoned. -/
theorem taken_of (B : Nat → Nat) (s : S8) (W : List Nat) (hW : W.length = 64) (h : chk B W = true) : blk (kws W) S8.mk s.a s.b s.c s.d s.e s.f s.g s.h = taken s B := by
  rw [blk_eq B s S8.mk (kws W) (kws_length W hW) (kws_ok B W hW h)]

def abcW0 : List Nat := [1633837952, 0, 0, 0, 0, 0, 0, 0, 0, 0, 0, 0, 0, 0, 0, 24, 1633837952, 983040, 2108187653, 1610613702, 1050508152, 25426944, 316456923, 3806512014, 3357629466, 3073800610, 3854317833, 845560923, 2636160359, 3968280267, 1881225380, 3552024379, 2482346367, 996719219, 2952069057, 4043988066, 176896406, 1924104970, 2483675966, 610538786, 2672279444, 4037431130, 1042573945, 657669027, 206005234, 2215296807, 2049510749, 106709978, 4215179723, 3430291419, 3118885940, 2845390439, 2226839261, 3256115900, 344409900, 2987358873, 4015503821, 3957764664, 2682456414, 2025622859, 2755645205, 1720397816, 4004225740, 313650667]
theorem abc_c0 : chk (pc (fill [97, 98, 99]) 0) abcW0 = true := by kernel_rfl
theorem abc_b0 : blk (kws abcW0) S8.mk 1779033703 3144134277 1013904242 2773480762 1359893119 2600822924 528734635 1541459225 = ⟨3128432319, 2399260650, 1094795486, 1571693091, 2953011619, 2518121116, 3021012833, 4060091821⟩ := by kernel_rfl
theorem abc_s0 : stAt (fill [97, 98, 99]) 1 = ⟨3128432319, 2399260650, 1094795486, 1571693091, 2953011619, 2518121116, 3021012833, 4060091821⟩ := by
  rw [stAt, ← taken_of _ _ abcW0 (by rfl) abc_c0]
  exact abc_b0
theorem abc_sha : sha [97, 98, 99] = ⟨3128432319, 2399260650, 1094795486, 1571693091, 2953011619, 2518121116, 3021012833, 4060091821⟩ := by
  have h : (fill [97, 98, 99]).length / 64 = 1 := by kernel_rfl
  unfold sha
  rw [h]
  exact abc_s0
theorem abc_hex : hexv (dby (sha [97, 98, 99])) = .string { data := #[98, 97, 55, 56, 49, 54, 98, 102, 56, 102, 48, 49, 99, 102, 101, 97, 52, 49, 52, 49, 52, 48, 100, 101, 53, 100, 97, 101, 50, 50, 50, 51, 98, 48, 48, 51, 54, 49, 97, 51, 57, 54, 49, 55, 55, 97, 57, 99, 98, 52, 49, 48, 102, 102, 54, 49, 102, 50, 48, 48, 49, 53, 97, 100] } := by
  rw [abc_sha]
  kernel_rfl

theorem Blk.new_marked (w : World) (t : TypeId) (cs : Array Value) (fr : Nat × Nat) (i : Nat) : (w.alloc (.cells cs t fr)).cell? ⟨w.heap.size, i, none⟩ = cs[i]? := cell_of_row _ _ i cs t fr (by show (w.heap.push _)[w.heap.size]? = _; simp)
theorem dby_lt (s : S8) (i : Nat) : dby s i < 256 := Nat.mod_lt _ (by omega)

set_option maxHeartbeats 1000000 in
/-- A digest that is known. -/
theorem wakes_any (w : World) (hk : KK w) : Calls Tryd.prog 8 #[] w fun e w' => e = .returned (.bool true) ∧ Only (fun _ => False) w w' := by
  go_enter Tryd.func8, Tryd.ntmps8
  have hb := Blk.new_marked w 5 #[.int .u8 97, .int .u8 98, .int .u8 99] (3, 4)
  have ho1 := (Only.refl (fun _ => False) w).alloc (.cells #[.int .u8 97, .int .u8 98, .int .u8 99] 5 (3, 4))
  have hlt : w.heap.size < (w.alloc (.cells #[.int .u8 97, .int .u8 98, .int .u8 99] 5 (3, 4))).heap.size := by simp
  have hcv : (convert 22 22 (.slice (some ⟨w.heap.size, 0, none⟩) 3 3)).run Tryd.prog (w.alloc (.cells #[.int .u8 97, .int .u8 98, .int .u8 99] 5)) = .ok (.slice (some ⟨w.heap.size, 0, none⟩) 3 3) (w.alloc (.cells #[.int .u8 97, .int .u8 98, .int .u8 99] 5 (3, 4))) :=
    Lib.run_convert_bytes_const w 22 5 #[.int .u8 97, .int .u8 98, .int .u8 99] 3 3 und22 und5
  go_wp2_with fail
  revert hb ho1 hlt
  generalize w.alloc _ = w1
  intro hb ho1 hlt
  refine (all_any [97, 98, 99] (some ⟨w.heap.size, 0, none⟩) 3 w1 (hk.only ho1 (fun x => x)) (by decide) ⟨rfl, fun _ => ⟨w.heap.size, 0, rfl, hlt, fun j u hu => ?_⟩⟩ (fun h => by cases h) (by decide)).mono ?_
  · match j, hu with
    | 0, hu => cases hu; exact hb 0
    | 1, hu => cases hu; exact hb 1
    | 2, hu => cases hu; exact hb 2
    | j + 3, hu => cases hu
  · rintro e w2 ⟨rfl, ho2⟩
    go_wp2_with fail
    refine (hex_any (dby (sha [97, 98, 99])) (fun i _ => dby_lt _ i) w2).mono ?_
    rw [abc_hex]
    rintro e w3 ⟨rfl, ho3⟩
    go_wp2
    refine bodyPost_ret (v := .bool true) (by simp [results, Tryd.results8, go_sem]) rfl ⟨rfl, (ho1.trans ho2).trans ho3⟩
end Go.Proofs.YtpmikgbdicokhaaDoor
