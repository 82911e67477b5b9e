/-
  The law ContentAsks (func 3): its second loop, and its end.
-/
import Derived.Test.YtpkadhgoaaphkaaAs3
import Derived.StillTailTactics
namespace Go.Proofs.Ytpkadhgoaaphkaa
open Go Go.RowKit Go.Shelf
set_option linter.unusedVariables false

set_option maxRecDepth 100000 in
theorem lit281 (g : Nat → Value) : ((List.range 281).map g).toArray = #[g 0, g 1, g 2, g 3, g 4, g 5, g 6, g 7, g 8, g 9, g 10, g 11, g 12, g 13, g 14, g 15, g 16, g 17, g 18, g 19, g 20, g 21, g 22, g 23, g 24, g 25, g 26, g 27, g 28, g 29, g 30, g 31, g 32, g 33, g 34, g 35, g 36, g 37, g 38, g 39, g 40, g 41, g 42, g 43, g 44, g 45, g 46, g 47, g 48, g 49, g 50, g 51, g 52, g 53, g 54, g 55, g 56, g 57, g 58, g 59, g 60, g 61, g 62, g 63, g 64, g 65, g 66, g 67, g 68, g 69, g 70, g 71, g 72, g 73, g 74, g 75, g 76, g 77, g 78, g 79, g 80, g 81, g 82, g 83, g 84, g 85, g 86, g 87, g 88, g 89, g 90, g 91, g 92, g 93, g 94, g 95, g 96, g 97, g 98, g 99, g 100, g 101, g 102, g 103, g 104, g 105, g 106, g 107, g 108, g 109, g 110, g 111, g 112, g 113, g 114, g 115, g 116, g 117, g 118, g 119, g 120, g 121, g 122, g 123, g 124, g 125, g 126, g 127, g 128, g 129, g 130, g 131, g 132, g 133, g 134, g 135, g 136, g 137, g 138, g 139, g 140, g 141, g 142, g 143, g 144, g 145, g 146, g 147, g 148, g 149, g 150, g 151, g 152, g 153, g 154, g 155, g 156, g 157, g 158, g 159, g 160, g 161, g 162, g 163, g 164, g 165, g 166, g 167, g 168, g 169, g 170, g 171, g 172, g 173, g 174, g 175, g 176, g 177, g 178, g 179, g 180, g 181, g 182, g 183, g 184, g 185, g 186, g 187, g 188, g 189, g 190, g 191, g 192, g 193, g 194, g 195, g 196, g 197, g 198, g 199, g 200, g 201, g 202, g 203, g 204, g 205, g 206, g 207, g 208, g 209, g 210, g 211, g 212, g 213, g 214, g 215, g 216, g 217, g 218, g 219, g 220, g 221, g 222, g 223, g 224, g 225, g 226, g 227, g 228, g 229, g 230, g 231, g 232, g 233, g 234, g 235, g 236, g 237, g 238, g 239, g 240, g 241, g 242, g 243, g 244, g 245, g 246, g 247, g 248, g 249, g 250, g 251, g 252, g 253, g 254, g 255, g 256, g 257, g 258, g 259, g 260, g 261, g 262, g 263, g 264, g 265, g 266, g 267, g 268, g 269, g 270, g 271, g 272, g 273, g 274, g 275, g 276, g 277, g 278, g 279, g 280] := by kernel_rfl
set_option maxRecDepth 100000 in
theorem frame2 (g q5 bad : Nat) (A13 A14 : Option Addr) (n13 c13 n14 c14 : Nat) (e : Int) (fr t : Nat) (fl : Bool) (i : Nat) (tm : Array Value) (hs : tm.size = 281) (f : Nat → Value) (hf : f = fun i => tm.getD i undef)
    (s1 : f 1 = .int .u64 bad) (s5 : f 5 = .pointer (some ⟨q5, 0, none⟩)) (s7 : f 7 = .pointer (some ⟨g, 0, none⟩)) (s13 : f 13 = .slice A13 n13 c13) (s14 : f 14 = .slice A14 n14 c14) (s15 : f 15 = .int .i64 e) (s16 : f 16 = .int .i64 fr) (s17 : f 17 = .int .i64 t) (s18 : f 18 = .bool fl) (s19 : f 19 = .int .i64 i) : tm = #[f 0, .int .u64 bad, f 2, f 3, f 4, .pointer (some ⟨q5, 0, none⟩), f 6, .pointer (some ⟨g, 0, none⟩), f 8, f 9, f 10, f 11, f 12, .slice A13 n13 c13, .slice A14 n14 c14, .int .i64 e, .int .i64 fr, .int .i64 t, .bool fl, .int .i64 i, f 20, f 21, f 22, f 23, f 24, f 25, f 26, f 27, f 28, f 29, f 30, f 31, f 32, f 33, f 34, f 35, f 36, f 37, f 38, f 39, f 40, f 41, f 42, f 43, f 44, f 45, f 46, f 47, f 48, f 49, f 50, f 51, f 52, f 53, f 54, f 55, f 56, f 57, f 58, f 59, f 60, f 61, f 62, f 63, f 64, f 65, f 66, f 67, f 68, f 69, f 70, f 71, f 72, f 73, f 74, f 75, f 76, f 77, f 78, f 79, f 80, f 81, f 82, f 83, f 84, f 85, f 86, f 87, f 88, f 89, f 90, f 91, f 92, f 93, f 94, f 95, f 96, f 97, f 98, f 99, f 100, f 101, f 102, f 103, f 104, f 105, f 106, f 107, f 108, f 109, f 110, f 111, f 112, f 113, f 114, f 115, f 116, f 117, f 118, f 119, f 120, f 121, f 122, f 123, f 124, f 125, f 126, f 127, f 128, f 129, f 130, f 131, f 132, f 133, f 134, f 135, f 136, f 137, f 138, f 139, f 140, f 141, f 142, f 143, f 144, f 145, f 146, f 147, f 148, f 149, f 150, f 151, f 152, f 153, f 154, f 155, f 156, f 157, f 158, f 159, f 160, f 161, f 162, f 163, f 164, f 165, f 166, f 167, f 168, f 169, f 170, f 171, f 172, f 173, f 174, f 175, f 176, f 177, f 178, f 179, f 180, f 181, f 182, f 183, f 184, f 185, f 186, f 187, f 188, f 189, f 190, f 191, f 192, f 193, f 194, f 195, f 196, f 197, f 198, f 199, f 200, f 201, f 202, f 203, f 204, f 205, f 206, f 207, f 208, f 209, f 210, f 211, f 212, f 213, f 214, f 215, f 216, f 217, f 218, f 219, f 220, f 221, f 222, f 223, f 224, f 225, f 226, f 227, f 228, f 229, f 230, f 231, f 232, f 233, f 234, f 235, f 236, f 237, f 238, f 239, f 240, f 241, f 242, f 243, f 244, f 245, f 246, f 247, f 248, f 249, f 250, f 251, f 252, f 253, f 254, f 255, f 256, f 257, f 258, f 259, f 260, f 261, f 262, f 263, f 264, f 265, f 266, f 267, f 268, f 269, f 270, f 271, f 272, f 273, f 274, f 275, f 276, f 277, f 278, f 279, f 280] := by
  rw [← s1, ← s5, ← s7, ← s13, ← s14, ← s15, ← s16, ← s17, ← s18, ← s19, ← lit281 f, hf]
  exact tmps_lit tm 281 hs
set_option maxRecDepth 100000 in
set_option maxHeartbeats 4000000 in
theorem ak_round (B g q5 bad : Nat) (A13 A14 : Option Addr) (n13 c13 n14 c14 : Nat) (e : Int) (fr t : Nat) (qs : List Nat) (last : Ac) (w0 : World) (hlen : qs.length ≤ 100) (hA : qs ≠ [] → AskN last.d fr t qs) (hW : AkW B g q5 bad qs last w0) (a : Act) (wr : World) (i : Nat) (hI : AkI B g q5 bad A13 A14 n13 c13 n14 c14 e fr t qs last w0 i a wr)
    (K : Act → World → Prop) (Q : Exit → Act → World → Prop) (hK : ∀ a w', AkI B g q5 bad A13 A14 n13 c13 n14 c14 e fr t qs last w0 (i + 1) a w' → K a w')
    (hexit : ∀ (tm : Array Value) (w' : World), tm.size = 281 → tm.getD 13 undef = .slice A13 n13 c13 → tm.getD 14 undef = .slice A14 n14 c14 → tm.getD 15 undef = .int .i64 e → tm.getD 18 undef = .bool (qs.any (isBad bad)) → Only (fun _ => False) w0 w' → Q (.exit 3) ⟨tm, []⟩ w') : Code.wp Try.prog body37 (Exit.then K Q) a wr := by
  obtain ⟨tm, df⟩ := a
  obtain ⟨hsz, hdf, s1, s5, s7, s13, s14, s15, s16, s17, s18, s19, hle, ho⟩ := hI
  simp only at hsz hdf s1 s5 s7 s13 s14 s15 s16 s17 s18 s19
  subst hdf
  obtain ⟨f, hf⟩ : ∃ f : Nat → Value, f = fun i => tm.getD i undef := ⟨_, rfl⟩
  generalize hfl : (qs.take i).any (isBad bad) = fl at *
  have hfr := frame2 g q5 bad A13 A14 n13 c13 n14 c14 e fr t fl i tm hsz f hf (by rw [hf]; exact s1) (by rw [hf]; exact s5) (by rw [hf]; exact s7) (by rw [hf]; exact s13) (by rw [hf]; exact s14) (by rw [hf]; exact s15) (by rw [hf]; exact s16) (by rw [hf]; exact s17) (by rw [hf]; exact s18) (by rw [hf]; exact s19)
  rw [hfr]
  clear hfr hf s1 s5 s7 s13 s14 s15 s16 s17 s18 s19 hsz
  have hWr := hW.only ho
  by_cases hlt : i < qs.length
  · obtain ⟨k, hik⟩ : ∃ k, qs[i]? = some k := ⟨_, List.getElem?_eq_getElem hlt⟩
    have hA' := hA (by intro h; rw [h] at hlt; exact absurd hlt (Nat.not_lt_zero _))
    clear hexit hA
    by_cases hd : last.d = 1
    · by_cases hq : fr ≤ 512 * k
      · rcases Nat.eq_zero_or_pos i with hp | hp
        · exact ak_20 B g q5 bad A13 A14 n13 c13 n14 c14 e fr t qs last w0 wr i k hik hlen hA' f fl hfl hWr ho hd hq hp K Q hK
        · exact ak_21 B g q5 bad A13 A14 n13 c13 n14 c14 e fr t qs last w0 wr i k hik hlen hA' f fl hfl hWr ho hd hq hp K Q hK
      · rcases Nat.eq_zero_or_pos i with hp | hp
        · exact ak_10 B g q5 bad A13 A14 n13 c13 n14 c14 e fr t qs last w0 wr i k hik hlen hA' f fl hfl hWr ho hd hq hp K Q hK
        · exact ak_11 B g q5 bad A13 A14 n13 c13 n14 c14 e fr t qs last w0 wr i k hik hlen hA' f fl hfl hWr ho hd hq hp K Q hK
    · rcases Nat.eq_zero_or_pos i with hp | hp
      · exact ak_00 B g q5 bad A13 A14 n13 c13 n14 c14 e fr t qs last w0 wr i k hik hlen hA' f fl hfl hWr ho hd hp K Q hK
      · exact ak_01 B g q5 bad A13 A14 n13 c13 n14 c14 e fr t qs last w0 wr i k hik hlen hA' f fl hfl hWr ho hd hp K Q hK
  · obtain rfl : i = qs.length := by omega
    rw [List.take_length] at hfl
    rw [hfl] at hexit
    obtain ⟨Ar, cr, c65, _⟩ := hWr.row
    have i2 : ¬ (qs.length : Int) < (qs.length : Int) := by omega
    clear hK hA hWr hW hfl hlt
    replace ho := Lib.hid ho
    conv => arg 2; whnf
    go_wp2
    exact hexit _ _ rfl rfl rfl rfl rfl ho.out

theorem ak_loop (B g q5 bad : Nat) (A13 A14 : Option Addr) (n13 c13 n14 c14 : Nat) (e : Int) (fr t : Nat) (qs : List Nat) (last : Ac) (w0 : World) (hlen : qs.length ≤ 100) (hA : qs ≠ [] → AskN last.d fr t qs) (hW : AkW B g q5 bad qs last w0) (a : Act) (wr : World) (hI : AkI B g q5 bad A13 A14 n13 c13 n14 c14 e fr t qs last w0 0 a wr) (Q : Exit → Act → World → Prop)
    (hexit : ∀ (tm : Array Value) (w' : World), tm.size = 281 → tm.getD 13 undef = .slice A13 n13 c13 → tm.getD 14 undef = .slice A14 n14 c14 → tm.getD 15 undef = .int .i64 e → tm.getD 18 undef = .bool (qs.any (isBad bad)) → Only (fun _ => False) w0 w' → Q (.exit 3) ⟨tm, []⟩ w') : (Code.loop body37).wp Try.prog Q a wr := by
  refine wp_loop_k (fun a w' => ∃ i, AkI B g q5 bad A13 A14 n13 c13 n14 c14 e fr t qs last w0 i a w') (fun a _ => qs.length - (intOf (a.tmps.getD 19 undef)).toNat) ⟨0, hI⟩ ?_
  rintro a wr ⟨i, hk⟩ K hK
  refine ak_round B g q5 bad A13 A14 n13 c13 n14 c14 e fr t qs last w0 hlen hA hW a wr i hk K Q (fun a' w' h => hK a' w' ⟨⟨i + 1, h⟩, ?_⟩) hexit
  rw [h.s19, hk.s19]
  have := h.le
  simp [intOf]; omega
noncomputable def tail36 : Code := sndC tail35
set_option maxRecDepth 100000 in
set_option maxHeartbeats 4000000 in
theorem as_end (A13 A14 : Option Addr) (n13 c13 n14 c14 : Nat) (e : Int) (fl : Bool) (he : (e = 0 ∧ fl = false) ∨ (((e = 21 ∧ fl = true) ∨ (e = 26 ∧ fl = false) ∨ (e = 29 ∧ fl = false)) ∧ n13 = 0 ∧ n14 = 0)) (f : Nat → Value) (w0 : World) (K : Act → World → Prop) (Q : Exit → Act → World → Prop) (hret : ∀ (tm : Array Value) (w' : World), tm.size = 281 → tm.getD 6 undef = .bool true → Only (fun _ => False) w0 w' → K ⟨tm, []⟩ w') :
    Code.wp Try.prog (fstC tail44) (Exit.then K Q) ⟨#[f 0, f 1, f 2, f 3, f 4, f 5, f 6, f 7, f 8, f 9, f 10, f 11, f 12, .slice A13 n13 c13, .slice A14 n14 c14, .int .i64 e, f 16, f 17, .bool fl, f 19, f 20, f 21, f 22, f 23, f 24, f 25, f 26, f 27, f 28, f 29, f 30, f 31, f 32, f 33, f 34, f 35, f 36, f 37, f 38, f 39, f 40, f 41, f 42, f 43, f 44, f 45, f 46, f 47, f 48, f 49, f 50, f 51, f 52, f 53, f 54, f 55, f 56, f 57, f 58, f 59, f 60, f 61, f 62, f 63, f 64, f 65, f 66, f 67, f 68, f 69, f 70, f 71, f 72, f 73, f 74, f 75, f 76, f 77, f 78, f 79, f 80, f 81, f 82, f 83, f 84, f 85, f 86, f 87, f 88, f 89, f 90, f 91, f 92, f 93, f 94, f 95, f 96, f 97, f 98, f 99, f 100, f 101, f 102, f 103, f 104, f 105, f 106, f 107, f 108, f 109, f 110, f 111, f 112, f 113, f 114, f 115, f 116, f 117, f 118, f 119, f 120, f 121, f 122, f 123, f 124, f 125, f 126, f 127, f 128, f 129, f 130, f 131, f 132, f 133, f 134, f 135, f 136, f 137, f 138, f 139, f 140, f 141, f 142, f 143, f 144, f 145, f 146, f 147, f 148, f 149, f 150, f 151, f 152, f 153, f 154, f 155, f 156, f 157, f 158, f 159, f 160, f 161, f 162, f 163, f 164, f 165, f 166, f 167, f 168, f 169, f 170, f 171, f 172, f 173, f 174, f 175, f 176, f 177, f 178, f 179, f 180, f 181, f 182, f 183, f 184, f 185, f 186, f 187, f 188, f 189, f 190, f 191, f 192, f 193, f 194, f 195, f 196, f 197, f 198, f 199, f 200, f 201, f 202, f 203, f 204, f 205, f 206, f 207, f 208, f 209, f 210, f 211, f 212, f 213, f 214, f 215, f 216, f 217, f 218, f 219, f 220, f 221, f 222, f 223, f 224, f 225, f 226, f 227, f 228, f 229, f 230, f 231, f 232, f 233, f 234, f 235, f 236, f 237, f 238, f 239, f 240, f 241, f 242, f 243, f 244, f 245, f 246, f 247, f 248, f 249, f 250, f 251, f 252, f 253, f 254, f 255, f 256, f 257, f 258, f 259, f 260, f 261, f 262, f 263, f 264, f 265, f 266, f 267, f 268, f 269, f 270, f 271, f 272, f 273, f 274, f 275, f 276, f 277, f 278, f 279, f 280], []⟩ w0 := by
  have hK := wakes_any
  replace hK := Lib.hid hK
  rcases he with ⟨rfl, rfl⟩ | ⟨⟨rfl, rfl⟩ | ⟨rfl, rfl⟩ | ⟨rfl, rfl⟩, rfl, rfl⟩
  all_goals
    conv => arg 2; whnf
    go_wp2_with fail
    refine (hK.out _).mono ?_
    rintro r w1 ⟨rfl, ho⟩
    replace ho := Lib.hid ho
    go_wp2
    exact hret _ _ rfl rfl ho.out
set_option maxRecDepth 100000 in
theorem frameE (A13 A14 : Option Addr) (n13 c13 n14 c14 : Nat) (e : Int) (fl : Bool) (tm : Array Value) (hs : tm.size = 281) (f : Nat → Value) (hf : f = fun i => tm.getD i undef)
    (s13 : f 13 = .slice A13 n13 c13) (s14 : f 14 = .slice A14 n14 c14) (s15 : f 15 = .int .i64 e) (s18 : f 18 = .bool fl) : tm = #[f 0, f 1, f 2, f 3, f 4, f 5, f 6, f 7, f 8, f 9, f 10, f 11, f 12, .slice A13 n13 c13, .slice A14 n14 c14, .int .i64 e, f 16, f 17, .bool fl, f 19, f 20, f 21, f 22, f 23, f 24, f 25, f 26, f 27, f 28, f 29, f 30, f 31, f 32, f 33, f 34, f 35, f 36, f 37, f 38, f 39, f 40, f 41, f 42, f 43, f 44, f 45, f 46, f 47, f 48, f 49, f 50, f 51, f 52, f 53, f 54, f 55, f 56, f 57, f 58, f 59, f 60, f 61, f 62, f 63, f 64, f 65, f 66, f 67, f 68, f 69, f 70, f 71, f 72, f 73, f 74, f 75, f 76, f 77, f 78, f 79, f 80, f 81, f 82, f 83, f 84, f 85, f 86, f 87, f 88, f 89, f 90, f 91, f 92, f 93, f 94, f 95, f 96, f 97, f 98, f 99, f 100, f 101, f 102, f 103, f 104, f 105, f 106, f 107, f 108, f 109, f 110, f 111, f 112, f 113, f 114, f 115, f 116, f 117, f 118, f 119, f 120, f 121, f 122, f 123, f 124, f 125, f 126, f 127, f 128, f 129, f 130, f 131, f 132, f 133, f 134, f 135, f 136, f 137, f 138, f 139, f 140, f 141, f 142, f 143, f 144, f 145, f 146, f 147, f 148, f 149, f 150, f 151, f 152, f 153, f 154, f 155, f 156, f 157, f 158, f 159, f 160, f 161, f 162, f 163, f 164, f 165, f 166, f 167, f 168, f 169, f 170, f 171, f 172, f 173, f 174, f 175, f 176, f 177, f 178, f 179, f 180, f 181, f 182, f 183, f 184, f 185, f 186, f 187, f 188, f 189, f 190, f 191, f 192, f 193, f 194, f 195, f 196, f 197, f 198, f 199, f 200, f 201, f 202, f 203, f 204, f 205, f 206, f 207, f 208, f 209, f 210, f 211, f 212, f 213, f 214, f 215, f 216, f 217, f 218, f 219, f 220, f 221, f 222, f 223, f 224, f 225, f 226, f 227, f 228, f 229, f 230, f 231, f 232, f 233, f 234, f 235, f 236, f 237, f 238, f 239, f 240, f 241, f 242, f 243, f 244, f 245, f 246, f 247, f 248, f 249, f 250, f 251, f 252, f 253, f 254, f 255, f 256, f 257, f 258, f 259, f 260, f 261, f 262, f 263, f 264, f 265, f 266, f 267, f 268, f 269, f 270, f 271, f 272, f 273, f 274, f 275, f 276, f 277, f 278, f 279, f 280] := by
  rw [← s13, ← s14, ← s15, ← s18, ← lit281 f, hf]
  exact tmps_lit tm 281 hs
theorem as_endT (A13 A14 : Option Addr) (n13 c13 n14 c14 : Nat) (e : Int) (fl : Bool) (he : (e = 0 ∧ fl = false) ∨ (((e = 21 ∧ fl = true) ∨ (e = 26 ∧ fl = false) ∨ (e = 29 ∧ fl = false)) ∧ n13 = 0 ∧ n14 = 0)) (tm : Array Value) (hs : tm.size = 281)
    (s13 : tm.getD 13 undef = .slice A13 n13 c13) (s14 : tm.getD 14 undef = .slice A14 n14 c14) (s15 : tm.getD 15 undef = .int .i64 e) (s18 : tm.getD 18 undef = .bool fl) (w0 : World) (K : Act → World → Prop) (Q : Exit → Act → World → Prop) (hret : ∀ (tm : Array Value) (w' : World), tm.size = 281 → tm.getD 6 undef = .bool true → Only (fun _ => False) w0 w' → K ⟨tm, []⟩ w') :
    Code.wp Try.prog (fstC tail44) (Exit.then K Q) ⟨tm, []⟩ w0 := by
  obtain ⟨f, hf⟩ : ∃ f : Nat → Value, f = fun i => tm.getD i undef := ⟨_, rfl⟩
  rw [frameE A13 A14 n13 c13 n14 c14 e fl tm hs f hf (by rw [hf]; exact s13) (by rw [hf]; exact s14) (by rw [hf]; exact s15) (by rw [hf]; exact s18)]
  exact as_end A13 A14 n13 c13 n14 c14 e fl he f w0 K Q hret
set_option maxRecDepth 100000 in
set_option maxHeartbeats 4000000 in
theorem as_chk (B g q5 bad : Nat) (A13 A14 : Option Addr) (n13 c13 n14 c14 : Nat) (e : Int) (fr t : Nat) (qs : List Nat) (last : Ac) (w0 : World) (hlen : qs.length ≤ 100) (hA : qs ≠ [] → AskN last.d fr t qs) (hW : AkW B g q5 bad qs last w0)
    (he : (e = 0 ∧ qs.any (isBad bad) = false) ∨ (((e = 21 ∧ qs.any (isBad bad) = true) ∨ (e = 26 ∧ qs.any (isBad bad) = false) ∨ (e = 29 ∧ qs.any (isBad bad) = false)) ∧ n13 = 0 ∧ n14 = 0)) (f : Nat → Value) (K : Act → World → Prop) (Q : Exit → Act → World → Prop) (hK : ∀ a w', Code.wp Try.prog tail36 Q a w' → K a w') (hret : ∀ (tm : Array Value) (w' : World), tm.size = 281 → tm.getD 6 undef = .bool true → Only (fun _ => False) w0 w' → Q .ret ⟨tm, []⟩ w') :
    Code.wp Try.prog (fstC tail35) (Exit.then K Q) ⟨#[f 0, .int .u64 bad, f 2, f 3, f 4, .pointer (some ⟨q5, 0, none⟩), f 6, .pointer (some ⟨g, 0, none⟩), f 8, f 9, f 10, f 11, f 12, .slice A13 n13 c13, .slice A14 n14 c14, .int .i64 e, .int .i64 fr, .int .i64 t, f 18, f 19, f 20, f 21, f 22, f 23, f 24, f 25, f 26, f 27, f 28, f 29, f 30, f 31, f 32, f 33, f 34, f 35, f 36, f 37, f 38, f 39, f 40, f 41, f 42, f 43, f 44, f 45, f 46, f 47, f 48, f 49, f 50, f 51, f 52, f 53, f 54, f 55, f 56, f 57, f 58, f 59, f 60, f 61, f 62, f 63, f 64, f 65, f 66, f 67, f 68, f 69, f 70, f 71, f 72, f 73, f 74, f 75, f 76, f 77, f 78, f 79, f 80, f 81, f 82, f 83, f 84, f 85, f 86, f 87, f 88, f 89, f 90, f 91, f 92, f 93, f 94, f 95, f 96, f 97, f 98, f 99, f 100, f 101, f 102, f 103, f 104, f 105, f 106, f 107, f 108, f 109, f 110, f 111, f 112, f 113, f 114, f 115, f 116, f 117, f 118, f 119, f 120, f 121, f 122, f 123, f 124, f 125, f 126, f 127, f 128, f 129, f 130, f 131, f 132, f 133, f 134, f 135, f 136, f 137, f 138, f 139, f 140, f 141, f 142, f 143, f 144, f 145, f 146, f 147, f 148, f 149, f 150, f 151, f 152, f 153, f 154, f 155, f 156, f 157, f 158, f 159, f 160, f 161, f 162, f 163, f 164, f 165, f 166, f 167, f 168, f 169, f 170, f 171, f 172, f 173, f 174, f 175, f 176, f 177, f 178, f 179, f 180, f 181, f 182, f 183, f 184, f 185, f 186, f 187, f 188, f 189, f 190, f 191, f 192, f 193, f 194, f 195, f 196, f 197, f 198, f 199, f 200, f 201, f 202, f 203, f 204, f 205, f 206, f 207, f 208, f 209, f 210, f 211, f 212, f 213, f 214, f 215, f 216, f 217, f 218, f 219, f 220, f 221, f 222, f 223, f 224, f 225, f 226, f 227, f 228, f 229, f 230, f 231, f 232, f 233, f 234, f 235, f 236, f 237, f 238, f 239, f 240, f 241, f 242, f 243, f 244, f 245, f 246, f 247, f 248, f 249, f 250, f 251, f 252, f 253, f 254, f 255, f 256, f 257, f 258, f 259, f 260, f 261, f 262, f 263, f 264, f 265, f 266, f 267, f 268, f 269, f 270, f 271, f 272, f 273, f 274, f 275, f 276, f 277, f 278, f 279, f 280], []⟩ w0 := by
  conv => arg 2; whnf
  go_wp2
  conv => arg 2; whnf
  go_wp2
  refine ak_loop B g q5 bad A13 A14 n13 c13 n14 c14 e fr t qs last w0 hlen hA hW _ _ ⟨rfl, rfl, rfl, rfl, rfl, rfl, rfl, rfl, rfl, rfl, rfl, rfl, Nat.zero_le _, Only.refl _ _⟩ _ ?_
  intro tm' w' h0 h13 h14 h15 h18 ho
  have hE := as_endT A13 A14 n13 c13 n14 c14 e _ he tm' h0 h13 h14 h15 h18 w'
  clear h13 h14 h15 h18 h0
  go_upto_region 44 with fail
  rename_i hK9
  exact hE _ _ fun tm w2 h1 h2 h3 => hK9 _ _ (wp_ret (hret tm w2 h1 h2 (ho.trans h3)))
set_option maxRecDepth 100000 in
set_option maxHeartbeats 4000000 in
theorem as_chk0 (B g q5 bad : Nat) (A13 A14 : Option Addr) (n13 c13 n14 c14 : Nat) (e : Int) (last : Ac) (w0 : World) (hW : AkW B g q5 bad [] last w0)
    (he : e = 0 ∨ ((e = 26 ∨ e = 29) ∧ n13 = 0 ∧ n14 = 0)) (f : Nat → Value) (K : Act → World → Prop) (Q : Exit → Act → World → Prop) (hK : ∀ a w', Code.wp Try.prog tail36 Q a w' → K a w') (hret : ∀ (tm : Array Value) (w' : World), tm.size = 281 → tm.getD 6 undef = .bool true → Only (fun _ => False) w0 w' → Q .ret ⟨tm, []⟩ w') :
    Code.wp Try.prog (fstC tail35) (Exit.then K Q) ⟨#[f 0, f 1, f 2, f 3, f 4, .pointer (some ⟨q5, 0, none⟩), f 6, .pointer (some ⟨g, 0, none⟩), f 8, f 9, f 10, f 11, f 12, .slice A13 n13 c13, .slice A14 n14 c14, .int .i64 e, f 16, f 17, f 18, f 19, f 20, f 21, f 22, f 23, f 24, f 25, f 26, f 27, f 28, f 29, f 30, f 31, f 32, f 33, f 34, f 35, f 36, f 37, f 38, f 39, f 40, f 41, f 42, f 43, f 44, f 45, f 46, f 47, f 48, f 49, f 50, f 51, f 52, f 53, f 54, f 55, f 56, f 57, f 58, f 59, f 60, f 61, f 62, f 63, f 64, f 65, f 66, f 67, f 68, f 69, f 70, f 71, f 72, f 73, f 74, f 75, f 76, f 77, f 78, f 79, f 80, f 81, f 82, f 83, f 84, f 85, f 86, f 87, f 88, f 89, f 90, f 91, f 92, f 93, f 94, f 95, f 96, f 97, f 98, f 99, f 100, f 101, f 102, f 103, f 104, f 105, f 106, f 107, f 108, f 109, f 110, f 111, f 112, f 113, f 114, f 115, f 116, f 117, f 118, f 119, f 120, f 121, f 122, f 123, f 124, f 125, f 126, f 127, f 128, f 129, f 130, f 131, f 132, f 133, f 134, f 135, f 136, f 137, f 138, f 139, f 140, f 141, f 142, f 143, f 144, f 145, f 146, f 147, f 148, f 149, f 150, f 151, f 152, f 153, f 154, f 155, f 156, f 157, f 158, f 159, f 160, f 161, f 162, f 163, f 164, f 165, f 166, f 167, f 168, f 169, f 170, f 171, f 172, f 173, f 174, f 175, f 176, f 177, f 178, f 179, f 180, f 181, f 182, f 183, f 184, f 185, f 186, f 187, f 188, f 189, f 190, f 191, f 192, f 193, f 194, f 195, f 196, f 197, f 198, f 199, f 200, f 201, f 202, f 203, f 204, f 205, f 206, f 207, f 208, f 209, f 210, f 211, f 212, f 213, f 214, f 215, f 216, f 217, f 218, f 219, f 220, f 221, f 222, f 223, f 224, f 225, f 226, f 227, f 228, f 229, f 230, f 231, f 232, f 233, f 234, f 235, f 236, f 237, f 238, f 239, f 240, f 241, f 242, f 243, f 244, f 245, f 246, f 247, f 248, f 249, f 250, f 251, f 252, f 253, f 254, f 255, f 256, f 257, f 258, f 259, f 260, f 261, f 262, f 263, f 264, f 265, f 266, f 267, f 268, f 269, f 270, f 271, f 272, f 273, f 274, f 275, f 276, f 277, f 278, f 279, f 280], []⟩ w0 := by
  obtain ⟨Ar, cr, c65, _⟩ := hW.row
  simp only [List.length_nil] at c65
  conv => arg 2; whnf
  go_wp2
  conv => arg 2; whnf
  go_wp2
  refine wp_loop_k (fun a w' => (a = _ ∧ w' = w0)) (fun _ _ => 0) ⟨rfl, rfl⟩ ?_
  rintro a wr ⟨rfl, rfl⟩ K hK
  clear hK
  go_upto_region 44 with fail
  rename_i hK9
  exact as_endT A13 A14 n13 c13 n14 c14 e false (by
    rcases he with h | ⟨h | h, h2⟩
    · exact .inl ⟨h, rfl⟩
    · exact .inr ⟨.inr (.inl ⟨h, rfl⟩), h2⟩
    · exact .inr ⟨.inr (.inr ⟨h, rfl⟩), h2⟩) _ rfl rfl rfl rfl rfl wr _ _ fun tm w2 h1 h2 h3 => hK9 _ _ (wp_ret (hret tm w2 h1 h2 h3))
set_option maxRecDepth 100000 in
theorem frameC (g q5 bad : Nat) (A13 A14 : Option Addr) (n13 c13 n14 c14 : Nat) (e : Int) (fr t : Nat) (tm : Array Value) (hs : tm.size = 281) (f : Nat → Value) (hf : f = fun i => tm.getD i undef) (s1 : f 1 = .int .u64 bad) (s5 : f 5 = .pointer (some ⟨q5, 0, none⟩)) (s7 : f 7 = .pointer (some ⟨g, 0, none⟩)) (s13 : f 13 = .slice A13 n13 c13) (s14 : f 14 = .slice A14 n14 c14) (s15 : f 15 = .int .i64 e) (s16 : f 16 = .int .i64 fr) (s17 : f 17 = .int .i64 t) : tm = #[f 0, .int .u64 bad, f 2, f 3, f 4, .pointer (some ⟨q5, 0, none⟩), f 6, .pointer (some ⟨g, 0, none⟩), f 8, f 9, f 10, f 11, f 12, .slice A13 n13 c13, .slice A14 n14 c14, .int .i64 e, .int .i64 fr, .int .i64 t, f 18, f 19, f 20, f 21, f 22, f 23, f 24, f 25, f 26, f 27, f 28, f 29, f 30, f 31, f 32, f 33, f 34, f 35, f 36, f 37, f 38, f 39, f 40, f 41, f 42, f 43, f 44, f 45, f 46, f 47, f 48, f 49, f 50, f 51, f 52, f 53, f 54, f 55, f 56, f 57, f 58, f 59, f 60, f 61, f 62, f 63, f 64, f 65, f 66, f 67, f 68, f 69, f 70, f 71, f 72, f 73, f 74, f 75, f 76, f 77, f 78, f 79, f 80, f 81, f 82, f 83, f 84, f 85, f 86, f 87, f 88, f 89, f 90, f 91, f 92, f 93, f 94, f 95, f 96, f 97, f 98, f 99, f 100, f 101, f 102, f 103, f 104, f 105, f 106, f 107, f 108, f 109, f 110, f 111, f 112, f 113, f 114, f 115, f 116, f 117, f 118, f 119, f 120, f 121, f 122, f 123, f 124, f 125, f 126, f 127, f 128, f 129, f 130, f 131, f 132, f 133, f 134, f 135, f 136, f 137, f 138, f 139, f 140, f 141, f 142, f 143, f 144, f 145, f 146, f 147, f 148, f 149, f 150, f 151, f 152, f 153, f 154, f 155, f 156, f 157, f 158, f 159, f 160, f 161, f 162, f 163, f 164, f 165, f 166, f 167, f 168, f 169, f 170, f 171, f 172, f 173, f 174, f 175, f 176, f 177, f 178, f 179, f 180, f 181, f 182, f 183, f 184, f 185, f 186, f 187, f 188, f 189, f 190, f 191, f 192, f 193, f 194, f 195, f 196, f 197, f 198, f 199, f 200, f 201, f 202, f 203, f 204, f 205, f 206, f 207, f 208, f 209, f 210, f 211, f 212, f 213, f 214, f 215, f 216, f 217, f 218, f 219, f 220, f 221, f 222, f 223, f 224, f 225, f 226, f 227, f 228, f 229, f 230, f 231, f 232, f 233, f 234, f 235, f 236, f 237, f 238, f 239, f 240, f 241, f 242, f 243, f 244, f 245, f 246, f 247, f 248, f 249, f 250, f 251, f 252, f 253, f 254, f 255, f 256, f 257, f 258, f 259, f 260, f 261, f 262, f 263, f 264, f 265, f 266, f 267, f 268, f 269, f 270, f 271, f 272, f 273, f 274, f 275, f 276, f 277, f 278, f 279, f 280] := by
  rw [← s1, ← s5, ← s7, ← s13, ← s14, ← s15, ← s16, ← s17, ← lit281 f, hf]
  exact tmps_lit tm 281 hs
set_option maxRecDepth 100000 in
theorem frameC0 (g q5 : Nat) (A13 A14 : Option Addr) (n13 c13 n14 c14 : Nat) (e : Int) (tm : Array Value) (hs : tm.size = 281) (f : Nat → Value) (hf : f = fun i => tm.getD i undef) (s5 : f 5 = .pointer (some ⟨q5, 0, none⟩)) (s7 : f 7 = .pointer (some ⟨g, 0, none⟩)) (s13 : f 13 = .slice A13 n13 c13) (s14 : f 14 = .slice A14 n14 c14) (s15 : f 15 = .int .i64 e) : tm = #[f 0, f 1, f 2, f 3, f 4, .pointer (some ⟨q5, 0, none⟩), f 6, .pointer (some ⟨g, 0, none⟩), f 8, f 9, f 10, f 11, f 12, .slice A13 n13 c13, .slice A14 n14 c14, .int .i64 e, f 16, f 17, f 18, f 19, f 20, f 21, f 22, f 23, f 24, f 25, f 26, f 27, f 28, f 29, f 30, f 31, f 32, f 33, f 34, f 35, f 36, f 37, f 38, f 39, f 40, f 41, f 42, f 43, f 44, f 45, f 46, f 47, f 48, f 49, f 50, f 51, f 52, f 53, f 54, f 55, f 56, f 57, f 58, f 59, f 60, f 61, f 62, f 63, f 64, f 65, f 66, f 67, f 68, f 69, f 70, f 71, f 72, f 73, f 74, f 75, f 76, f 77, f 78, f 79, f 80, f 81, f 82, f 83, f 84, f 85, f 86, f 87, f 88, f 89, f 90, f 91, f 92, f 93, f 94, f 95, f 96, f 97, f 98, f 99, f 100, f 101, f 102, f 103, f 104, f 105, f 106, f 107, f 108, f 109, f 110, f 111, f 112, f 113, f 114, f 115, f 116, f 117, f 118, f 119, f 120, f 121, f 122, f 123, f 124, f 125, f 126, f 127, f 128, f 129, f 130, f 131, f 132, f 133, f 134, f 135, f 136, f 137, f 138, f 139, f 140, f 141, f 142, f 143, f 144, f 145, f 146, f 147, f 148, f 149, f 150, f 151, f 152, f 153, f 154, f 155, f 156, f 157, f 158, f 159, f 160, f 161, f 162, f 163, f 164, f 165, f 166, f 167, f 168, f 169, f 170, f 171, f 172, f 173, f 174, f 175, f 176, f 177, f 178, f 179, f 180, f 181, f 182, f 183, f 184, f 185, f 186, f 187, f 188, f 189, f 190, f 191, f 192, f 193, f 194, f 195, f 196, f 197, f 198, f 199, f 200, f 201, f 202, f 203, f 204, f 205, f 206, f 207, f 208, f 209, f 210, f 211, f 212, f 213, f 214, f 215, f 216, f 217, f 218, f 219, f 220, f 221, f 222, f 223, f 224, f 225, f 226, f 227, f 228, f 229, f 230, f 231, f 232, f 233, f 234, f 235, f 236, f 237, f 238, f 239, f 240, f 241, f 242, f 243, f 244, f 245, f 246, f 247, f 248, f 249, f 250, f 251, f 252, f 253, f 254, f 255, f 256, f 257, f 258, f 259, f 260, f 261, f 262, f 263, f 264, f 265, f 266, f 267, f 268, f 269, f 270, f 271, f 272, f 273, f 274, f 275, f 276, f 277, f 278, f 279, f 280] := by
  rw [← s5, ← s7, ← s13, ← s14, ← s15, ← lit281 f, hf]
  exact tmps_lit tm 281 hs

theorem as_chkT (B g q5 bad : Nat) (A13 A14 : Option Addr) (n13 c13 n14 c14 : Nat) (e : Int) (fr t : Nat) (qs : List Nat) (last : Ac) (w0 : World) (hlen : qs.length ≤ 100) (hA : qs ≠ [] → AskN last.d fr t qs) (hW : AkW B g q5 bad qs last w0)
    (he : (e = 0 ∧ qs.any (isBad bad) = false) ∨ (((e = 21 ∧ qs.any (isBad bad) = true) ∨ (e = 26 ∧ qs.any (isBad bad) = false) ∨ (e = 29 ∧ qs.any (isBad bad) = false)) ∧ n13 = 0 ∧ n14 = 0)) (tm : Array Value) (hs : tm.size = 281) (s1 : tm.getD 1 undef = .int .u64 bad) (s5 : tm.getD 5 undef = .pointer (some ⟨q5, 0, none⟩)) (s7 : tm.getD 7 undef = .pointer (some ⟨g, 0, none⟩)) (s13 : tm.getD 13 undef = .slice A13 n13 c13) (s14 : tm.getD 14 undef = .slice A14 n14 c14) (s15 : tm.getD 15 undef = .int .i64 e) (s16 : tm.getD 16 undef = .int .i64 fr) (s17 : tm.getD 17 undef = .int .i64 t) (K : Act → World → Prop) (Q : Exit → Act → World → Prop) (hK : ∀ a w', Code.wp Try.prog tail36 Q a w' → K a w') (hret : ∀ (tm : Array Value) (w' : World), tm.size = 281 → tm.getD 6 undef = .bool true → Only (fun _ => False) w0 w' → Q .ret ⟨tm, []⟩ w') :
    Code.wp Try.prog (fstC tail35) (Exit.then K Q) ⟨tm, []⟩ w0 := by
  obtain ⟨f, hf⟩ : ∃ f : Nat → Value, f = fun i => tm.getD i undef := ⟨_, rfl⟩
  rw [frameC g q5 bad A13 A14 n13 c13 n14 c14 e fr t tm hs f hf (by rw [hf]; exact s1) (by rw [hf]; exact s5) (by rw [hf]; exact s7) (by rw [hf]; exact s13) (by rw [hf]; exact s14) (by rw [hf]; exact s15) (by rw [hf]; exact s16) (by rw [hf]; exact s17)]
  exact as_chk B g q5 bad A13 A14 n13 c13 n14 c14 e fr t qs last w0 hlen hA hW he f K Q hK hret
theorem as_chk0T (B g q5 bad : Nat) (A13 A14 : Option Addr) (n13 c13 n14 c14 : Nat) (e : Int) (last : Ac) (w0 : World) (hW : AkW B g q5 bad [] last w0)
    (he : e = 0 ∨ ((e = 26 ∨ e = 29) ∧ n13 = 0 ∧ n14 = 0)) (tm : Array Value) (hs : tm.size = 281) (s5 : tm.getD 5 undef = .pointer (some ⟨q5, 0, none⟩)) (s7 : tm.getD 7 undef = .pointer (some ⟨g, 0, none⟩)) (s13 : tm.getD 13 undef = .slice A13 n13 c13) (s14 : tm.getD 14 undef = .slice A14 n14 c14) (s15 : tm.getD 15 undef = .int .i64 e) (K : Act → World → Prop) (Q : Exit → Act → World → Prop) (hK : ∀ a w', Code.wp Try.prog tail36 Q a w' → K a w') (hret : ∀ (tm : Array Value) (w' : World), tm.size = 281 → tm.getD 6 undef = .bool true → Only (fun _ => False) w0 w' → Q .ret ⟨tm, []⟩ w') :
    Code.wp Try.prog (fstC tail35) (Exit.then K Q) ⟨tm, []⟩ w0 := by
  obtain ⟨f, hf⟩ : ∃ f : Nat → Value, f = fun i => tm.getD i undef := ⟨_, rfl⟩
  rw [frameC0 g q5 A13 A14 n13 c13 n14 c14 e tm hs f hf (by rw [hf]; exact s5) (by rw [hf]; exact s7) (by rw [hf]; exact s13) (by rw [hf]; exact s14) (by rw [hf]; exact s15)]
  exact as_chk0 B g q5 bad A13 A14 n13 c13 n14 c14 e last w0 hW he f K Q hK hret
end Go.Proofs.Ytpkadhgoaaphkaa
