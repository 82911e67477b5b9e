/-
  The walk of kintsugilaw01.ShaHex (func 4).
-/
import Derived.Test.YtpmikgbdicokhaaDoorW10
import Derived.Test.YtpmikgbdicokhaaDoorCls
namespace Go.Proofs.YtpmikgbdicokhaaDoor
open Go.RowKit
set_option linter.unusedVariables false

theorem dig_inj : ∀ x, x < 16 → ∀ y, y < 16 → dig x = dig y → x = y := by decide
theorem hexl_inj {d e : Nat → Nat} (hd : ∀ i, i < 32 → d i < 256) (he : ∀ i, i < 32 → e i < 256) : ∀ k, k ≤ 32 → hexl d k = hexl e k → ∀ i, i < k → d i = e i
  | 0, _, _, i, hi => absurd hi (by omega)
  | k + 1, hk, h, i, hi => by
    unfold hexl at h
    obtain ⟨h1, h2⟩ := List.append_inj h (by rw [hexl_length, hexl_length])
    have hdk := hd k (by omega)
    have hek := he k (by omega)
    injection h2 with a1 a2
    injection a2 with a2 _
    have b1 := dig_inj _ (by omega) _ (by omega) a1
    have b2 := dig_inj _ (by omega) _ (by omega) a2
    by_cases hik : i < k
    · exact hexl_inj hd he k (by omega) h1 i hik
    · have : i = k := by omega
      subst this
      omega
theorem hexl_congr {d e : Nat → Nat} : ∀ k, (∀ i, i < k → d i = e i) → hexl d k = hexl e k
  | 0, _ => rfl
  | k + 1, h => by
    rw [hexl, hexl, hexl_congr k (fun i hi => h i (by omega)), h k (by omega)]

/-- Whether two rows of 32 bytes are alike. -/
def same32 (d e : Nat → Nat) : Bool := (List.range 32).all fun i => d i == e i
theorem same32_iff {d e : Nat → Nat} : same32 d e = true ↔ ∀ i, i < 32 → d i = e i := by
  simp [same32, List.all_eq_true]
theorem eql24 (d e : Nat → Nat) (hd : ∀ i, i < 32 → d i < 256) (he : ∀ i, i < 32 → e i < 256) (w : World) :
    (binOp .eql 24 (.agg (tab 32 fun i => ub (d i))) (.agg (tab 32 fun i => ub (e i)))).run Tryd.prog w = .ok (.bool (same32 d e)) w := by
  have hc : ∀ f : Nat → Nat, (∀ i, i < 32 → f i < 256) → tab 32 (fun i => ub (f i)) = (((List.range 32).map fun i => UInt8.ofNat (f i)).map Extern.Stop.cell).toArray := by
    intro f hf
    unfold tab
    rw [List.map_map]
    congr 1
    refine List.map_congr_left fun i hi => ?_
    have := hf i (List.mem_range.1 hi)
    show Value.int .u8 (f i : Int) = Value.int .u8 ((UInt8.ofNat (f i)).toNat : Int)
    rw [UInt8.toNat_ofNat_of_lt' this]
  obtain ⟨i5, hi, hi0, hi1, hi2⟩ := info5
  rw [hc d hd, hc e he, run_eql_bytes w 24 5 32 Tryd.underlying24 und5 (fun w => by simp [sizeOf, typeInfo, hi, hi1]) _ _ (by simp) (by simp)]
  congr 2
  rw [Bool.eq_iff_iff, same32_iff]
  simp only [beq_iff_eq]
  constructor
  · intro h i hi
    have := congrArg (fun l => l[i]?) h
    simp only [List.getElem?_map, List.getElem?_range hi, Option.map_some, Option.some.injEq] at this
    have := congrArg UInt8.toNat this
    rwa [UInt8.toNat_ofNat_of_lt' (hd i hi), UInt8.toNat_ofNat_of_lt' (he i hi)] at this
  · intro h
    exact List.map_congr_left fun i hi => by rw [h i (List.mem_range.1 hi)]
theorem hexv_eq {d e : Nat → Nat} (hd : ∀ i, i < 32 → d i < 256) (he : ∀ i, i < 32 → e i < 256) : ((hexl d 32) == (hexl e 32)) = same32 d e := by
  rw [Bool.eq_iff_iff, same32_iff]
  simp only [beq_iff_eq]
  exact ⟨fun h => hexl_inj hd he 32 (by omega) h, fun h => hexl_congr 32 h⟩
theorem hexs_eq {d e : Nat → Nat} (hd : ∀ i, i < 32 → d i < 256) (he : ∀ i, i < 32 → e i < 256) : ((⟨(hexl d 32).toArray⟩ : ByteArray).toList == (⟨(hexl e 32).toArray⟩ : ByteArray).toList) = same32 d e := by
  rw [← hexv_eq hd he]; simp
theorem hexb_eq {d e : Nat → Nat} (hd : ∀ i, i < 32 → d i < 256) (he : ∀ i, i < 32 → e i < 256) : ((⟨(hexl d 32).toArray⟩ : ByteArray) == (⟨(hexl e 32).toArray⟩ : ByteArray)) = same32 d e := by
  rw [beq_toListBytes]; exact hexs_eq hd he
theorem hex_str (d : Nat → Nat) (hd : ∀ i, i < 32 → d i < 256) {S : ByteArray} (hS : S = ⟨(hexl d 32).toArray⟩) (w : World) : Calls Tryd.prog 11 #[.agg (tab 32 fun i => ub (d i))] w fun e w' => e = .returned (.string S) ∧ Only (fun _ => False) w w' := by
  subst hS; exact hex_any d hd w
theorem rhex_str (d : Nat → Nat) (hd : ∀ i, i < 32 → d i < 256) {S : ByteArray} (hS : S = ⟨(hexl d 32).toArray⟩) (w : World) : Calls Tryd.prog 12 #[.agg (tab 32 fun i => ub (d i))] w fun e w' => e = .returned (.string S) ∧ Only (fun _ => False) w w' := by
  subst hS; exact rhex_any d hd w

/-- What holds of the world within ShaHex. -/
structure HW (w : World) (d e : Nat → Nat) (w' : World) : Prop where
  t1 : Tab w' w.heap.size 24 32 (fun i => ub (d i))
  t2 : Tab w' (w.heap.size + 1) 24 32 (fun i => ub (e i))
  kk : KK w'
  only : Only (fun _ => False) w w'
theorem HW.next {w : World} {d e : Nat → Nat} {w' w'' : World} (h : HW w d e w') (ho : Only (fun _ => False) w' w'') : HW w d e w'' :=
  ⟨h.t1.only ho (fun x => x), h.t2.only ho (fun x => x), h.kk.only ho (fun x => x), h.only.trans ho⟩
theorem HW.drew {w : World} {d e : Nat → Nat} {w' : World} (h : HW w d e w') : HW w d e w'.drew := h.next (Only.refl _ _).drew

set_option maxHeartbeats 1000000 in
theorem shaHex_walk (d e : Nat → Nat) (hd : ∀ i, i < 32 → d i < 256) (he : ∀ i, i < 32 → e i < 256) (w : World) (hk : KK w) :
    Calls Tryd.prog 4 #[.agg (tab 32 fun i => ub (d i)), .agg (tab 32 fun i => ub (e i))] w fun x w' => x = .returned (.bool true) ∧ Only (fun _ => False) w w' := by
  go_enter Tryd.func4, Tryd.ntmps4
  have hT1 := (Tab.new w 24 32 (fun i => ub (d i))).alloc (.cells (tab 32 fun i => ub (e i)) 24)
  have hT2 := Tab.new (w.alloc (.cells (tab 32 fun i => ub (d i)) 24)) 24 32 (fun i => ub (e i))
  rw [World.size_alloc] at hT2
  have ho := ((Only.refl (fun _ => False) w).alloc (.cells (tab 32 fun i => ub (d i)) 24)).alloc (.cells (tab 32 fun i => ub (e i)) 24)
  go_wp2
  revert hT1 hT2 ho
  generalize (w.alloc _).alloc _ = w2
  intro hT1 hT2 ho
  have hk2 := hk.only ho (fun x => x)
  obtain ⟨S1, hS1⟩ : ∃ S : ByteArray, S = ⟨(hexl d 32).toArray⟩ := ⟨_, rfl⟩
  obtain ⟨S2, hS2⟩ : ∃ S : ByteArray, S = ⟨(hexl e 32).toArray⟩ := ⟨_, rfl⟩
  have q1 := hexs_eq hd he
  have q2 := hexb_eq hd he
  rw [← hS1, ← hS2] at q1 q2
  have q3 := eql24 d e hd he
  have HS : HW w d e w2 := ⟨hT1, hT2, hk2, ho⟩
  clear hT1 hT2 hk2 ho hk
  have c1 := hex_str d hd hS1
  have c2 := hex_str e he hS2
  have c3 := rhex_str d hd hS1
  replace c1 := Lib.hid c1
  replace c2 := Lib.hid c2
  replace c3 := Lib.hid c3
  clear hS1 hS2
  generalize hse : same32 d e = se at *
  refine wp_region_class (HW w d e) (by kernel_rfl) (by kernel_rfl) HS.drew ?_
  repeat (first
    | go_big_quiet_skip
    | (go_big_quiet_want
       first
         | (refine quiet_load_row 24 (.tmp 2) rfl w.heap.size rfl 24 (tab 32 fun i => ub (d i)) (0, 0) _ (fun _ h => h.t1) Tryd.underlying24 rfl (info24 _) ?_; simp only [Act.put, List.setIfInBounds_toArray, List.set_cons_zero, List.set_cons_succ]; go_big_quiet_on)
         | (refine quiet_load_row 24 (.tmp 3) rfl (w.heap.size + 1) rfl 24 (tab 32 fun i => ub (e i)) (0, 0) _ (fun _ h => h.t2) Tryd.underlying24 rfl (info24 _) ?_; simp only [Act.put, List.setIfInBounds_toArray, List.set_cons_zero, List.set_cons_succ]; go_big_quiet_on)
         | (go_big_quiet_op
            first
              | go_big_quiet_on
              | (refine ⟨_, fun _ _ => by with_reducible rfl, ?_⟩; go_big_quiet_on)
              | (apply Exists.intro
                 refine ⟨fun W hW => ?_, ?_⟩
                 · first
                     | (go_at_call 11; first | (with_reducible refine (c1.out _).mono ?_; rintro x w' ⟨rfl, hn⟩; exact ⟨rfl, HW.next hW hn⟩) | (with_reducible refine (c2.out _).mono ?_; rintro x w' ⟨rfl, hn⟩; exact ⟨rfl, HW.next hW hn⟩))
                     | (go_at_call 12; with_reducible refine (c3.out _).mono ?_; rintro x w' ⟨rfl, hn⟩; exact ⟨rfl, HW.next hW hn⟩)
                     | (go_at_call 8; refine (wakes_any _ hW.kk).mono ?_; rintro x w' ⟨rfl, hn⟩; exact ⟨rfl, HW.next hW hn⟩)
                 go_big_quiet_on))))
  refine wpQuiet_nil ?_
  intro w3 h3
  go_wp2
  exact bodyPost_ret (v := .bool true) (by simp [results, Tryd.results4, go_sem]) rfl ⟨rfl, h3.only⟩
end Go.Proofs.YtpmikgbdicokhaaDoor
