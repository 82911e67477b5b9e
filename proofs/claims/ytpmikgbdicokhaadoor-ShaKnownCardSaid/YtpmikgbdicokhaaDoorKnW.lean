/-
  The walk of kintsugilaw01.ShaKnown (func 7).
-/
import Derived.Test.YtpmikgbdicokhaaDoorKnB
import Derived.Test.YtpmikgbdicokhaaDoorPcW
namespace Go.Proofs.YtpmikgbdicokhaaDoor
open Go.RowKit
set_option linter.unusedVariables false

def nilW0 : List Nat := [2147483648, 0, 0, 0, 0, 0, 0, 0, 0, 0, 0, 0, 0, 0, 0, 0, 2147483648, 0, 2117632, 0, 570427392, 0, 84448578, 2147483648, 1476919296, 4235264, 1451269, 1711282176, 3592562048, 337794312, 3594910044, 3374850048, 3287351444, 676112230, 109604294, 2742808854, 1904000662, 4274181962, 2813755136, 2165675682, 2561075048, 62000258, 1562224585, 2975250741, 3286092305, 614207615, 3297584367, 1575308336, 3741240933, 748767245, 1008022316, 30329261, 369937616, 195877528, 907775968, 3526495142, 43741191, 1967544444, 133517113, 4161330627, 3704256008, 1581412744, 1153231965, 996066459]
theorem nil_c0 : chk (pc (fill []) 0) nilW0 = true := by kernel_rfl
theorem nil_b0 : blk (kws nilW0) S8.mk 1779033703 3144134277 1013904242 2773480762 1359893119 2600822924 528734635 1541459225 = ⟨3820012610, 2566659092, 2600203464, 2574235940, 665731556, 1687917388, 2761267483, 2018687061⟩ := by kernel_rfl
theorem nil_s0 : stAt (fill []) 1 = ⟨3820012610, 2566659092, 2600203464, 2574235940, 665731556, 1687917388, 2761267483, 2018687061⟩ := by
  rw [stAt, ← taken_of _ _ nilW0 (by rfl) nil_c0]
  exact nil_b0
theorem nil_sha : sha [] = ⟨3820012610, 2566659092, 2600203464, 2574235940, 665731556, 1687917388, 2761267483, 2018687061⟩ := by
  have h : (fill []).length / 64 = 1 := by kernel_rfl
  unfold sha
  rw [h]
  exact nil_s0
theorem nil_hex : hexv (dby (sha [])) = .string { data := #[101, 51, 98, 48, 99, 52, 52, 50, 57, 56, 102, 99, 49, 99, 49, 52, 57, 97, 102, 98, 102, 52, 99, 56, 57, 57, 54, 102, 98, 57, 50, 52, 50, 55, 97, 101, 52, 49, 101, 52, 54, 52, 57, 98, 57, 51, 52, 99, 97, 52, 57, 53, 57, 57, 49, 98, 55, 56, 53, 50, 98, 56, 53, 53] } := by
  rw [nil_sha]
  kernel_rfl
def twoW0 : List Nat := [1633837924, 1650680933, 1667523942, 1684366951, 1701209960, 1718052969, 1734895978, 1751738987, 1768581996, 1785425005, 1802268014, 1819111023, 1835954032, 1852797041, 2147483648, 0, 3951039149, 2814619282, 1994996642, 3124946755, 2460557828, 3628590942, 2652241974, 2994776011, 3723171094, 4083517172, 2526859336, 3914979741, 1791803628, 4115443864, 720483034, 3998860489, 2822103402, 503268393, 3605092697, 3281505646, 1863844298, 559366661, 905935492, 2537811576, 3829498855, 218755085, 2626269012, 70081519, 1911633104, 261420131, 2118769763, 1868941719, 191915395, 395514570, 1345344745, 3121765433, 2123600585, 3586894366, 2027968605, 4142358812, 2328375502, 2336727811, 4251869823, 2356030570, 1073851889, 440258711, 2849992546, 1789266489]
theorem two_c0 : chk (pc (fill [97, 98, 99, 100, 98, 99, 100, 101, 99, 100, 101, 102, 100, 101, 102, 103, 101, 102, 103, 104, 102, 103, 104, 105, 103, 104, 105, 106, 104, 105, 106, 107, 105, 106, 107, 108, 106, 107, 108, 109, 107, 108, 109, 110, 108, 109, 110, 111, 109, 110, 111, 112, 110, 111, 112, 113]) 0) twoW0 = true := by kernel_rfl
theorem two_b0 : blk (kws twoW0) S8.mk 1779033703 3144134277 1013904242 2773480762 1359893119 2600822924 528734635 1541459225 = ⟨2246464982, 1098520469, 862140266, 1649204828, 1994429833, 3401971729, 3427480257, 4061025082⟩ := by kernel_rfl
theorem two_s0 : stAt (fill [97, 98, 99, 100, 98, 99, 100, 101, 99, 100, 101, 102, 100, 101, 102, 103, 101, 102, 103, 104, 102, 103, 104, 105, 103, 104, 105, 106, 104, 105, 106, 107, 105, 106, 107, 108, 106, 107, 108, 109, 107, 108, 109, 110, 108, 109, 110, 111, 109, 110, 111, 112, 110, 111, 112, 113]) 1 = ⟨2246464982, 1098520469, 862140266, 1649204828, 1994429833, 3401971729, 3427480257, 4061025082⟩ := by
  rw [stAt, ← taken_of _ _ twoW0 (by rfl) two_c0]
  exact two_b0
def twoW1 : List Nat := [0, 0, 0, 0, 0, 0, 0, 0, 0, 0, 0, 0, 0, 0, 0, 448, 0, 14155776, 0, 13943, 0, 502620173, 448, 469782556, 28311552, 571116948, 41829, 393222119, 1674805301, 151697171, 1282750922, 253339849, 1576317124, 3797353322, 3380328177, 3316936525, 4163189838, 2774061449, 2020172421, 3976663423, 275994870, 957015190, 1448087714, 3307044164, 2658453874, 1712633185, 821826205, 2596701352, 728075709, 3801151379, 2666246732, 2534651358, 1090919095, 3760382523, 124913566, 2111974812, 3367516024, 1973917769, 3644702171, 167996573, 3410979526, 2185205730, 3928959610, 3103886162]
theorem two_c1 : chk (pc (fill [97, 98, 99, 100, 98, 99, 100, 101, 99, 100, 101, 102, 100, 101, 102, 103, 101, 102, 103, 104, 102, 103, 104, 105, 103, 104, 105, 106, 104, 105, 106, 107, 105, 106, 107, 108, 106, 107, 108, 109, 107, 108, 109, 110, 108, 109, 110, 111, 109, 110, 111, 112, 110, 111, 112, 113]) 1) twoW1 = true := by kernel_rfl
theorem two_b1 : blk (kws twoW1) S8.mk 2246464982 1098520469 862140266 1649204828 1994429833 3401971729 3427480257 4061025082 = ⟨613247585, 3523623096, 3854575251, 205414457, 2738676825, 1694441831, 4142722516, 433784513⟩ := by kernel_rfl
theorem two_s1 : stAt (fill [97, 98, 99, 100, 98, 99, 100, 101, 99, 100, 101, 102, 100, 101, 102, 103, 101, 102, 103, 104, 102, 103, 104, 105, 103, 104, 105, 106, 104, 105, 106, 107, 105, 106, 107, 108, 106, 107, 108, 109, 107, 108, 109, 110, 108, 109, 110, 111, 109, 110, 111, 112, 110, 111, 112, 113]) 2 = ⟨613247585, 3523623096, 3854575251, 205414457, 2738676825, 1694441831, 4142722516, 433784513⟩ := by
  rw [stAt, two_s0, ← taken_of _ _ twoW1 (by rfl) two_c1]
  exact two_b1
theorem two_sha : sha [97, 98, 99, 100, 98, 99, 100, 101, 99, 100, 101, 102, 100, 101, 102, 103, 101, 102, 103, 104, 102, 103, 104, 105, 103, 104, 105, 106, 104, 105, 106, 107, 105, 106, 107, 108, 106, 107, 108, 109, 107, 108, 109, 110, 108, 109, 110, 111, 109, 110, 111, 112, 110, 111, 112, 113] = ⟨613247585, 3523623096, 3854575251, 205414457, 2738676825, 1694441831, 4142722516, 433784513⟩ := by
  have h : (fill [97, 98, 99, 100, 98, 99, 100, 101, 99, 100, 101, 102, 100, 101, 102, 103, 101, 102, 103, 104, 102, 103, 104, 105, 103, 104, 105, 106, 104, 105, 106, 107, 105, 106, 107, 108, 106, 107, 108, 109, 107, 108, 109, 110, 108, 109, 110, 111, 109, 110, 111, 112, 110, 111, 112, 113]).length / 64 = 2 := by kernel_rfl
  unfold sha
  rw [h]
  exact two_s1
theorem two_hex : hexv (dby (sha [97, 98, 99, 100, 98, 99, 100, 101, 99, 100, 101, 102, 100, 101, 102, 103, 101, 102, 103, 104, 102, 103, 104, 105, 103, 104, 105, 106, 104, 105, 106, 107, 105, 106, 107, 108, 106, 107, 108, 109, 107, 108, 109, 110, 108, 109, 110, 111, 109, 110, 111, 112, 110, 111, 112, 113])) = .string { data := #[50, 52, 56, 100, 54, 97, 54, 49, 100, 50, 48, 54, 51, 56, 98, 56, 101, 53, 99, 48, 50, 54, 57, 51, 48, 99, 51, 101, 54, 48, 51, 57, 97, 51, 51, 99, 101, 52, 53, 57, 54, 52, 102, 102, 50, 49, 54, 55, 102, 54, 101, 99, 101, 100, 100, 52, 49, 57, 100, 98, 48, 54, 99, 49] } := by
  rw [two_sha]
  kernel_rfl

theorem sum_hex (l : List Nat) {S : ByteArray} (hS : hexv (dby (sha l)) = .string S) (w : World) : Calls Tryd.prog 11 #[.agg (tab 32 fun i => ub (dby (sha l) i))] w fun e w' => e = .returned (.string S) ∧ Only (fun _ => False) w w' := by
  rw [← hS]; exact hex_any _ (dby_lt32 _) w
theorem hash_newB (w : World) (B : Nat) : HashB (w.alloc (.cells (hcells ⟨0, 0, 0, 0, 0, 0, 0, 0⟩ none 0 0 0 false) 45)) w.heap.size B [] :=
  ⟨fun _ hx => absurd hx List.not_mem_nil, none, 0, ⟨⟨0, 0, 0, 0, 0, 0, 0, 0⟩, Blk.new w 45 _, rfl⟩, World.ownsRow_nil _ _ _ _⟩
def two : List Nat := [97, 98, 99, 100, 98, 99, 100, 101, 99, 100, 101, 102, 100, 101, 102, 103, 101, 102, 103, 104, 102, 103, 104, 105, 103, 104, 105, 106, 104, 105, 106, 107, 105, 106, 107, 108, 106, 107, 108, 109, 107, 108, 109, 110, 108, 109, 110, 111, 109, 110, 111, 112, 110, 111, 112, 113]
def twoC : Array Value := #[.int .u8 97, .int .u8 98, .int .u8 99, .int .u8 100, .int .u8 98, .int .u8 99, .int .u8 100, .int .u8 101, .int .u8 99, .int .u8 100, .int .u8 101, .int .u8 102, .int .u8 100, .int .u8 101, .int .u8 102, .int .u8 103, .int .u8 101, .int .u8 102, .int .u8 103, .int .u8 104, .int .u8 102, .int .u8 103, .int .u8 104, .int .u8 105, .int .u8 103, .int .u8 104, .int .u8 105, .int .u8 106, .int .u8 104, .int .u8 105, .int .u8 106, .int .u8 107, .int .u8 105, .int .u8 106, .int .u8 107, .int .u8 108, .int .u8 106, .int .u8 107, .int .u8 108, .int .u8 109, .int .u8 107, .int .u8 108, .int .u8 109, .int .u8 110, .int .u8 108, .int .u8 109, .int .u8 110, .int .u8 111, .int .u8 109, .int .u8 110, .int .u8 111, .int .u8 112, .int .u8 110, .int .u8 111, .int .u8 112, .int .u8 113]
theorem twoC_get (i : Nat) : twoC[i]? = (two.map ub)[i]? := by
  have : twoC = (two.map ub).toArray := rfl
  rw [this]; simp

set_option maxRecDepth 10000 in
set_option maxHeartbeats 2000000 in
theorem shaKnown_walk (w : World) (hk : KK w) : Calls Tryd.prog 7 #[] w fun x w' => x = .returned (.bool true) ∧ Only (fun _ => False) w w' := by
  have hp0 : w.heap.size ≠ 0 := by have := hk.1; omega
  obtain ⟨i5, hi5, hi0, hi1', hi2⟩ := info5
  go_enter Tryd.func7, Tryd.ntmps7
  go_wp2_with fail
  refine (new_any _).mono ?_
  rintro e w1 ⟨rfl, hw1⟩
  have hH1 := fun B => hash_newB w B
  have ho1 := (Only.refl (fun _ => False) w).alloc (.cells (hcells ⟨0, 0, 0, 0, 0, 0, 0, 0⟩ none 0 0 0 false) 45)
  rw [hw1] at hH1 ho1
  have hp1 : w.heap.size < w1.heap.size := (hH1 0).plt
  have hk1 := hk.only ho1 (fun x => x)
  clear hw1
  obtain ⟨w2, hmk, hown, hgr⟩ := run_makeSlice_full (P := Tryd.prog) w1 w1.heap.size 22 5 i5 (.int .u8 0) 1 und22 hi5 hi0 hi1' .i64 .i64 1000 (by omega) (by omega) (by unfold maxLen; omega) (Nat.le_refl _)
  have hmk' : (Instr.makeSlice 22 (.int .i64 1000) (.int .i64 1000)).run Tryd.prog w1 = .ok (.slice (some ⟨w1.heap.size, 0, none⟩) 1000 1000) w2 := hmk
  have ho2 : Only (fun _ => False) w1 w2 := Only.of_grown hgr
  obtain ⟨cur, hB2, hcs⟩ : ∃ cur, Blk w2 w1.heap.size 5 cur ∧ cur.size = 1000 := by
    rcases hown.2 with ⟨h, _⟩ | ⟨g, c, cur, hv, _, hh, _, _, hs, _⟩
    · cases h
    · cases hv
      exact ⟨cur, hh, by omega⟩
  clear hown hgr hmk
  go_wp2
  clear hmk'
  have hk2 := hk1.only ho2 (fun x => x)
  have hH2 : HashB w2 w.heap.size (w1.heap.size + 1) [] := (hH1 _).only ho2 (fun x => x) (fun _ _ x => x)
  have ho2' := ho1.trans ho2
  clear hk1 hH1 ho1 ho2
  generalize w1.heap.size = g at *
  go_loopw [3] (fun t wr => ∃ (k : Nat) (cur : Array Value), t = .int .i64 k ∧ k ≤ 1000 ∧ Blk wr g 5 cur ∧ cur.size = 1000 ∧ (∀ j, j < k → cur[j]? = some (ub 97)) ∧ Only (· = g) w2 wr) (fun t _ => 1000 - (intOf t).toNat)
  case atStart => exact ⟨0, cur, rfl, by omega, hB2, hcs, fun j hj => absurd hj (by omega), Only.refl _ _⟩
  case round =>
    obtain ⟨k, cur', rfl, hkn, hb, hs, hc, ho⟩ := hrel
    by_cases hlt : k < 1000
    · have z0 : ∃ v, cur'[k]? = some v := ⟨_, Array.getElem?_eq_getElem (by omega)⟩
      obtain ⟨v, hv⟩ := z0
      have z1 := (hb.cell k).trans hv
      have z2 := hb.frozen k
      have k0 : (0 : Int) ≤ (k : Int) := by omega
      have k1 : (k : Int) < 1000 := by omega
      have hS := Lib.hid (And.intro ho (And.intro hb hc))
      clear ho hb hc hv hB2
      go_wp2
      go_roundw
      case rel =>
        refine ⟨k + 1, _, by go_num, by omega, hS.out.2.1.set_ k _, by simpa using hs, fun j hj => ?_, hS.out.1.setCell (.inl rfl) _⟩
        by_cases hjk : j = k
        · subst hjk
          rw [Array.getElem?_setIfInBounds, if_pos rfl, if_pos (by omega)]
          rfl
        · rw [Array.getElem?_setIfInBounds, if_neg (fun h => hjk h.symm)]
          exact hS.out.2.2 j (by omega)
      case measure => simp [intOf]; omega
    · obtain rfl : k = 1000 := by omega
      rw [show ((1000 : Nat) : Int) = 1000 from rfl]
      have hH3 : HashB wr w.heap.size (g + 1) (List.replicate (1000 * 0) 97) := hH2.only ho (by omega) (fun k hk => by omega)
      have hk3 := hk2.only ho (by omega)
      have ho3 : Only (fun _ => False) w wr := ho2'.trans_of ho (fun i hi e => by omega)
      clear hH2 hk2 ho2' ho hB2
      have hsz : g < wr.heap.size := hb.lt
      go_wp2
      go_loopw [4] (fun t wr => ∃ (k : Nat), t = .int .i64 k ∧ k ≤ 1000 ∧ Blk wr g 5 cur' ∧ HashB wr w.heap.size (g + 1) (List.replicate (1000 * k) 97) ∧ KK wr ∧ Only (fun _ => False) w wr) (fun t _ => 1000 - (intOf t).toNat)
      case atStart => exact ⟨0, rfl, by omega, hb, hH3, hk3, ho3⟩
      case round =>
        obtain ⟨k, rfl, hkn, hb2, hH, hk4, ho4⟩ := hrel
        clear hb hH3 hk3 ho3
        by_cases hlt : k < 1000
        · have hRN : RN wr w.heap.size (some ⟨g, 0, none⟩) 1000 ((List.replicate 1000 97).map ub) := ⟨⟨by simp, fun _ => ⟨g, 0, rfl, hb2.lt, fun j u hu => by
            rw [List.getElem?_map, List.getElem?_replicate] at hu
            split at hu
            · rename_i hj
              simp only [Option.map_some, Option.some.injEq] at hu
              rw [Nat.zero_add, hb2.cell j, hc j hj, hu]
            · cases hu⟩⟩, fun _ a ha => by cases ha; show g ≠ _; omega⟩
          go_wp2_with fail
          refine (write_n w.heap.size hp0 (List.replicate (1000 * k) 97) (List.replicate 1000 97) 1000 (by simp) (some ⟨g, 0, none⟩) 1000 wr hk4 (hH.mono (by omega)) (fun x hx => by rw [(List.mem_replicate.1 hx).2]; omega) hRN (fun h => by cases h) (by omega) (by simp; omega)).mono ?_
          rintro e w5 ⟨rfl, hH5, ho5⟩
          rw [List.replicate_append_replicate, show 1000 * k + 1000 = 1000 * (k + 1) by omega] at hH5
          have hgl : g < wr.heap.size := hb2.lt
          go_wp2
          go_roundw
          case rel =>
            exact ⟨k + 1, by go_num, by omega, hb2.only ho5 (by omega), hH5.mono (by omega), hk4.only ho5 (by omega), ho4.trans_of ho5 (fun i hi e => by omega)⟩
          case measure => simp [intOf]; omega
        · obtain rfl : k = 1000 := by omega
          obtain ⟨M, hM⟩ : ∃ M, M = List.replicate (1000 * 1000) 97 := ⟨_, rfl⟩
          have hH6 : HashAt wr w.heap.size M := by rw [hM]; exact hH.mono (by omega)
          have hMl : M.length ≤ 1152921504606846976 := by rw [hM, List.length_replicate]; omega
          have hMx : hexv (dby (sha M)) = .string { data := #[99, 100, 99, 55, 54, 101, 53, 99, 57, 57, 49, 52, 102, 98, 57, 50, 56, 49, 97, 49, 99, 55, 101, 50, 56, 52, 100, 55, 51, 101, 54, 55, 102, 49, 56, 48, 57, 97, 52, 56, 97, 52, 57, 55, 50, 48, 48, 101, 48, 52, 54, 100, 51, 57, 99, 99, 99, 55, 49, 49, 50, 99, 100, 48] } := by rw [hM]; exact many_hex
          replace hMx := Lib.hid hMx
          clear hM
          clear hH hb2 hc
          go_wp2_with fail
          refine (all_agg [] 0 rfl none 0 wr hk4 (fun x hx => absurd hx List.not_mem_nil) (Reads.nil_ _ _ _) (fun _ => rfl) (by omega)).mono ?_
          rintro e w5 ⟨rfl, ho5⟩
          have hH7 := hH6.only ho5 (fun x => x) (fun _ _ x => x)
          have hk7 := hk4.only ho5 (fun x => x)
          have ho7 := ho4.trans ho5
          clear hH6 hk4 ho4 ho5
          go_wp2_with fail
          refine (sum_hex [] nil_hex w5).mono ?_
          rintro e w6 ⟨rfl, ho6⟩
          have hH8 := hH7.only ho6 (fun x => x) (fun _ _ x => x)
          have hk8 := hk7.only ho6 (fun x => x)
          have ho8 := ho7.trans ho6
          clear hH7 hk7 ho7 ho6
          have hcv : (convert 22 22 (.slice (some ⟨w6.heap.size, 0, none⟩) 56 56)).run Tryd.prog (w6.alloc (.cells twoC 5)) = .ok (.slice (some ⟨w6.heap.size, 0, none⟩) 56 56) (w6.alloc (.cells twoC 5 (56, 57))) := Lib.run_convert_bytes_const w6 22 5 twoC 56 56 und22 und5
          have ho9 := (Only.refl (fun _ => False) w6).alloc (.cells twoC 5 (56, 57))
          have hR9 : Reads (w6.alloc (.cells twoC 5 (56, 57))) (w6.alloc (.cells twoC 5 (56, 57))).heap.size (some ⟨w6.heap.size, 0, none⟩) 56 (two.map ub) := ⟨rfl, fun _ => ⟨w6.heap.size, 0, rfl, by simp, fun j u hu => by
            rw [Nat.zero_add, Blk.new_marked, twoC_get]; exact hu⟩⟩
          unfold twoC at hcv ho9 hR9
          go_wp2_with fail
          revert ho9 hR9
          generalize w6.alloc _ = w9
          intro ho9 hR9
          have hH10 := hH8.only ho9 (fun x => x) (fun _ _ x => x)
          have hk10 := hk8.only ho9 (fun x => x)
          have ho10 := ho8.trans ho9
          clear hH8 hk8 ho8 ho9 hcv
          refine (all_agg two 56 rfl (some ⟨w6.heap.size, 0, none⟩) 56 w9 hk10 (by decide) hR9 (fun h => by cases h) (by omega)).mono ?_
          rintro e w11 ⟨rfl, ho11⟩
          have hH12 := hH10.only ho11 (fun x => x) (fun _ _ x => x)
          have hk12 := hk10.only ho11 (fun x => x)
          have ho12 := ho10.trans ho11
          clear hH10 hk10 ho10 ho11 hR9
          go_wp2_with fail
          refine (sum_hex two two_hex w11).mono ?_
          rintro e w13 ⟨rfl, ho13⟩
          have hH14 := hH12.only ho13 (fun x => x) (fun _ _ x => x)
          have hk14 := hk12.only ho13 (fun x => x)
          have ho14 := ho12.trans ho13
          clear hH12 hk12 ho12 ho13
          go_wp2_with fail
          refine (sum_agg w.heap.size hp0 M w13 hk14 hH14 hMl).mono ?_
          rintro e w15 ⟨rfl, ho15⟩
          have hk16 := hk14.only ho15 (fun x => x)
          have ho16 := ho14.trans ho15
          clear hH14 hk14 ho14 ho15
          go_wp2_with fail
          refine (sum_hex M hMx.out w15).mono ?_
          rintro e w17 ⟨rfl, ho17⟩
          have hk18 := hk16.only ho17 (fun x => x)
          have ho18 := ho16.trans ho17
          clear hk16 ho16 ho17
          go_wp2_with fail
          refine (wakes_any w17 hk18).mono ?_
          rintro e w19 ⟨rfl, ho19⟩
          go_wp2
          exact bodyPost_ret (v := .bool true) (by simp [results, Tryd.results7, go_sem]) rfl ⟨rfl, ho18.trans ho19⟩
end Go.Proofs.YtpmikgbdicokhaaDoor
