/-
  name.Split (func 14).
-/
import Derived.Test.YtnclappdokhciaaS2
import Derived.RegionTactic
import Derived.BigRegion
import Derived.Deep.RegionHeld3
import Derived.Test.YtnclappdokhciaaHeld
namespace Go.Proofs.Ytnclappdokhciaa
open Go Go.RowKit
set_option linter.unusedVariables false

theorem res14 (tm : Array Value) (W : World) (g : Nat) (x y z : Value) (e : Int) (h2 : tm.getD 2 undef = .pointer (some ⟨g, 0, none⟩)) (h3 : tm.getD 3 undef = .int .i64 e) (hb : Blk W g 25 #[x, y, z]) :
    (results Try.f14 tm).run Try.prog W = .ok (.tuple #[.agg #[x, y, z], .int .i64 e]) W := by
  have hl := run_loadVar_row (P := Try.prog) W g 25 25 #[x, y, z] (0, 0) _ hb Try.underlying25 rfl (by kernel_rfl)
  unfold results
  rw [Try.results14]
  simp only [List.mapM_toArray, List.mapM_cons, List.mapM_nil, h2, h3]
  simp [asAddr, hl]
/-- What holds ahead of a round of Split's loop. -/
structure SL (s : ByteArray) (w : World) (p k B : Nat) (wr : World) (pos : Nat) : Prop where
  it : wr.heap[k + 1 + 1 + 1]? = some (.stringIter s pos)
  st : ∃ v sl, PSt wr B p (k + 1) (k + 1 + 1) k s (cut s pos).1 (longB (cut s pos).2) (decide (bt s 0 = 47)) v ((cut s pos).2.filter keepB) sl ∧ (sl || endB s) = (dotsB (lastNE (cut s pos).2) || endB s)
  rs : Blk wr (p + 1) 25 #[.bool false, .slice none 0 0, .bool false]
  on : Only (fun _ => False) w wr
  le : pos ≤ s.size
theorem nat47 (b : Nat) : ((b : Int) == 47) = decide (b = 47) := by
  by_cases h : b = 47
  · rw [decide_eq_true h, h]; rfl
  · rw [decide_eq_false h]; exact beq_false_of_ne (by omega)
theorem SL.start (s : ByteArray) (w w1 : World) (hsz : w.heap.size + 2 ≤ w1.heap.size) (hb0 : Blk w1 w.heap.size 9 #[.string s]) (hb1 : Blk w1 (w.heap.size + 1) 25 #[.bool false, .slice none 0 0, .bool false]) (ho : Only (fun _ => False) w w1) :
    SL s w w.heap.size w1.heap.size (w1.heap.size + 4) ((((w1.alloc (.cells #[.bool ((bt s 0 : Int) == 47), .slice none 0 0, .bool ((bt s (s.size - 1) : Int) == 47)] 25)).alloc (.cells #[.int .i64 0] 3)).alloc (.cells #[.bool false] 4)).drew.iter s 0) 0 := by
  have hq := (((Blk.new w1 25 #[.bool ((bt s 0 : Int) == 47), .slice none 0 0, .bool ((bt s (s.size - 1) : Int) == 47)]).alloc (.cells #[.int .i64 0] 3)).alloc (.cells #[.bool false] 4)).drew.alloc (.stringIter s 0)
  have ha := ((Blk.new (w1.alloc (.cells #[.bool ((bt s 0 : Int) == 47), .slice none 0 0, .bool ((bt s (s.size - 1) : Int) == 47)] 25)) 3 #[.int .i64 0]).alloc (.cells #[.bool false] 4)).drew.alloc (.stringIter s 0)
  have hl := (Blk.new ((w1.alloc (.cells #[.bool ((bt s 0 : Int) == 47), .slice none 0 0, .bool ((bt s (s.size - 1) : Int) == 47)] 25)).alloc (.cells #[.int .i64 0] 3)) 4 #[.bool false]).drew.alloc (.stringIter s 0)
  rw [World.size_alloc] at ha
  rw [World.size_alloc, World.size_alloc] at hl
  have hO : ∀ S, Only S w1 ((((w1.alloc (.cells #[.bool ((bt s 0 : Int) == 47), .slice none 0 0, .bool ((bt s (s.size - 1) : Int) == 47)] 25)).alloc (.cells #[.int .i64 0] 3)).alloc (.cells #[.bool false] 4)).drew.iter s 0) := fun S => (((((Only.refl S w1).alloc _).alloc _).alloc _).drew).alloc _
  refine ⟨?_, ⟨.slice none 0 0, ((bt s (s.size - 1) : Int) == 47), ⟨hb0.only (hO (fun _ => False)) (fun x => x), ha, hl, by rw [← nat47]; exact hq, World.ownsRow_nil _ _ _ _, ⟨by omega, by omega, by omega, by omega⟩, ⟨by omega, by omega, by omega, by omega, by omega, by omega⟩, ?_⟩, ?_⟩, hb1.only (hO (fun _ => False)) (fun x => x), ho.trans (hO _), by omega⟩
  · have := World.iter_heap (((w1.alloc (.cells #[.bool ((bt s 0 : Int) == 47), .slice none 0 0, .bool ((bt s (s.size - 1) : Int) == 47)] 25)).alloc (.cells #[.int .i64 0] 3)).alloc (.cells #[.bool false] 4)).drew s 0
    simpa using this
  · simp [World.iter]
  · rw [nat47]; unfold endB; simp [cut, lastNE, dotsB]

/-- A path as it was told. -/
def RowS (w : World) (A : Option Addr) (l : List ByteArray) (c : Nat) : Prop := Reads w w.heap.size A l.length (strs l) ∧ l.length ≤ c ∧ (A = none → l.length = 0 ∧ c = 0)
theorem PSt.rowS {w : World} {B pb ab lb qb : Nat} {s : ByteArray} {at_ : Nat} {lg ab_ : Bool} {v : Value} {parts : List ByteArray} {sl : Bool} (h : PSt w B pb ab lb qb s at_ lg ab_ v parts sl) : ∃ A c, v = .slice A parts.length c ∧ RowS w A parts c := by
  obtain ⟨A, c, e, hr, hc, hA⟩ := row_form h.row
  exact ⟨A, c, e, hr, hc, hA⟩
theorem RowS.nil (w : World) : RowS w none [] 0 := ⟨Reads.nil_ _ _ _, Nat.le_refl _, fun _ => ⟨rfl, rfl⟩⟩
theorem RowS.only {w w' : World} {A : Option Addr} {l : List ByteArray} {c : Nat} {S : Nat → Prop} (h : RowS w A l c) (ho : Only S w w') (hs : ∀ b o, A = some ⟨b, o, none⟩ → ¬ S b) : RowS w' A l c := by
  refine ⟨⟨h.1.1, fun hn => ?_⟩, h.2⟩
  obtain ⟨b, o, e, hb, hc⟩ := h.1.2 hn
  exact ⟨b, o, e, Nat.lt_of_lt_of_le hb ho.size, fun j u hu => (Blk.cell_only ho (a := ⟨b, o + j, none⟩) hb (hs b o e)).trans (hc j u hu)⟩
theorem SL.next {s : ByteArray} {w : World} {p k : Nat} {wr : World} {pos : Nat} (h : SL s w p k (k + 4) wr pos) (hpk : p + 2 ≤ k) (hwp : w.heap.size ≤ k) (hp : pos < s.size) (h47 : ¬ bt s pos = 47) : SL s w p k (k + 4) (wr.iterAt (k + 1 + 1 + 1) s (pos + (Utf8.decode s pos).2)) (pos + (Utf8.decode s pos).2) := by
  obtain ⟨hit, ⟨v, sl, hP, hsl⟩, hrs, hon, hle⟩ := h
  have ho : Only (· = k + 1 + 1 + 1) wr (wr.iterAt (k + 1 + 1 + 1) s (pos + (Utf8.decode s pos).2)) := (Only.refl (fun x => x = k + 1 + 1 + 1) wr).iterAt (.inr rfl) s _
  have hc := cut_rune s pos
  rw [if_neg h47] at hc
  exact ⟨Lib.iterAt_heap wr _ s pos _ hit, ⟨v, sl, by rw [hc]; exact hP.next ho (fun x e => by omega), by rw [hc]; exact hsl⟩, hrs.only ho (by omega), hon.iterAt (.inl (by omega)) s _, dec_end s pos hp⟩

set_option maxRecDepth 10000 in
set_option maxHeartbeats 2000000 in
theorem split_ok (s : ByteArray) (h0 : 0 < s.size) (h1 : s.size ≤ 256) (hf : fault s 0 = 0) (ta : Bool) (tp : List ByteArray) (ts : Bool) (te : Int)
    (hT : (if longB (pieces s) = true then ⟨false, [], false, 33⟩ else ⟨decide (bt s 0 = 47), (pieces s).filter keepB, endB s || dotsB (lastNE (pieces s)), 0⟩ : Told) = ⟨ta, tp, ts, te⟩) (w : World) :
    Calls Try.prog 14 #[.string s] w fun e w' => ∃ A c, e = .returned (.tuple #[.agg #[.bool ta, .slice A tp.length c, .bool ts], .int .i64 te]) ∧ RowS w' A tp c ∧ Only (fun _ => False) w w' := by
  replace hT := Lib.hid hT
  have hF := fun w => fault_any s 0 (by omega) (by omega) w
  rw [hf] at hF
  have hne : ¬ s.toList = [] := fun e => by
    have := toList_empty s
    rw [e, decide_eq_false (by omega)] at this
    cases this
  have hne2 : s.toList.isEmpty = false := by rw [toList_empty, decide_eq_false (by omega)]
  have i0 : (0 : Int) < (s.size : Int) := by omega
  have i1 : (0 : Int) ≤ (s.size : Int) - 1 := by omega
  have i2 : (s.size : Int) - 1 < (s.size : Int) := by omega
  have i3 : ¬ (256 : Int) < (s.size : Int) := by omega
  have e0 : ((s[0]'h0).toNat) = bt s 0 := (bt_at s 0 h0).symm
  have i4 : s.size - 1 < s.size := by omega
  have e1 : ((s[s.size - 1]'i4).toNat) = bt s (s.size - 1) := (bt_at s (s.size - 1) i4).symm
  go_enter Try.func14, Try.ntmps14
  go_wp2_with (go_at_call 46; refine (hF _).mono ?_; rintro e w1 ⟨rfl, ho1⟩)
  have hb0 := ((Blk.new w 9 #[.string s]).alloc (.cells #[.bool false, .slice none 0 0, .bool false] 25)).only ho1 (fun x => x)
  have hb1 := (Blk.new (w.alloc (.cells #[.string s] 9)) 25 #[.bool false, .slice none 0 0, .bool false]).only ho1 (fun x => x)
  rw [World.size_alloc] at hb1
  have ho2 : Only (fun _ => False) w w1 := (((Only.refl _ w).alloc _).alloc _).trans ho1
  have hsz : w.heap.size + 2 ≤ w1.heap.size := by have := ho1.size; simpa using this
  have y0 := hb0.cell 0
  simp only [List.getElem?_toArray, List.getElem?_cons_zero] at y0
  clear ho1 hF
  have ya : ∀ o, (w1.alloc o).cell? ⟨w.heap.size, 0, none⟩ = some (.string s) := fun o => ((hb0.alloc o).cell 0)
  have wr1 : IntKind.i64.wrap ((s.size : Int) - 1) = ((s.size - 1 : Nat) : Int) := by rw [show (s.size : Int) - 1 = ((s.size - 1 : Nat) : Int) by omega]; exact IntWalk.i64_in _ (by omega)
  have ya3 : ∀ o1 o2 o3, (((w1.alloc o1).alloc o2).alloc o3).cell? ⟨w.heap.size, 0, none⟩ = some (.string s) := fun o1 o2 o3 => ((((hb0.alloc o1).alloc o2).alloc o3).cell 0)
  have hS := Lib.hid (SL.start s w w1 hsz hb0 hb1 ho2)
  have hwp : w.heap.size ≤ w1.heap.size := by omega
  clear hb0 hb1 ho2
  generalize hp : w.heap.size = p at *
  refine wp_region_E 11 (fun W => W.cell? ⟨p, 0, none⟩ = some (.string s)) (by kernel_rfl) ?_
  have hS0 : w1.drew.cell? ⟨p, 0, none⟩ = some (.string s) := y0
  refine E_take (v := ?v0) 0 rfl (by kernel_rfl) (by kernel_rfl) (by kernel_rfl) (by kernel_rfl) (by kernel_rfl) (by kernel_rfl) (fun _ _ _ h => h) rfl hS0 ?vh0 ?_
  case vh0 => intro W hW; have s1 := hW; go_simp; try with_reducible rfl
  simp only [Act.put, List.setIfInBounds_toArray, List.set_cons_zero, List.set_cons_succ]
  refine E_take (v := ?v1) 1 rfl (by kernel_rfl) (by kernel_rfl) (by kernel_rfl) (by kernel_rfl) (by kernel_rfl) (by kernel_rfl) (fun _ _ _ h => h) rfl hS0 ?vh1 ?_
  case vh1 => intro W hW; have s1 := hW; go_simp; try with_reducible rfl
  simp only [Act.put, List.setIfInBounds_toArray, List.set_cons_zero, List.set_cons_succ]
  refine E_take (v := ?v2) 2 rfl (by kernel_rfl) (by kernel_rfl) (by kernel_rfl) (by kernel_rfl) (by kernel_rfl) (by kernel_rfl) (fun _ _ _ h => h) rfl hS0 ?vh2 ?_
  case vh2 => intro W hW; have s1 := hW; go_simp; try with_reducible rfl
  simp only [Act.put, List.setIfInBounds_toArray, List.set_cons_zero, List.set_cons_succ]
  refine E_take (v := ?v3) 3 rfl (by kernel_rfl) (by kernel_rfl) (by kernel_rfl) (by kernel_rfl) (by kernel_rfl) (by kernel_rfl) (fun _ _ _ h => h) rfl hS0 ?vh3 ?_
  case vh3 => intro W hW; have s1 := hW; go_simp; try with_reducible rfl
  simp only [Act.put, List.setIfInBounds_toArray, List.set_cons_zero, List.set_cons_succ]
  refine E_take (v := ?v4) 4 rfl (by kernel_rfl) (by kernel_rfl) (by kernel_rfl) (by kernel_rfl) (by kernel_rfl) (by kernel_rfl) (fun _ _ _ h => h) rfl hS0 ?vh4 ?_
  case vh4 => intro W hW; have s1 := hW; go_simp; try with_reducible rfl
  simp only [Act.put, List.setIfInBounds_toArray, List.set_cons_zero, List.set_cons_succ]
  refine E_take (v := ?v5) 5 rfl (by kernel_rfl) (by kernel_rfl) (by kernel_rfl) (by kernel_rfl) (by kernel_rfl) (by kernel_rfl) (fun _ _ _ h => h) rfl hS0 ?vh5 ?_
  case vh5 => intro W hW; have s1 := hW; go_simp; try with_reducible rfl
  simp only [Act.put, List.setIfInBounds_toArray, List.set_cons_zero, List.set_cons_succ]
  refine E_take (v := ?v6) 6 rfl (by kernel_rfl) (by kernel_rfl) (by kernel_rfl) (by kernel_rfl) (by kernel_rfl) (by kernel_rfl) (fun _ _ _ h => h) rfl hS0 ?vh6 ?_
  case vh6 => intro W hW; have s1 := hW; go_simp; try with_reducible rfl
  simp only [Act.put, List.setIfInBounds_toArray, List.set_cons_zero, List.set_cons_succ]
  refine E_take (v := ?v7) 7 rfl (by kernel_rfl) (by kernel_rfl) (by kernel_rfl) (by kernel_rfl) (by kernel_rfl) (by kernel_rfl) (fun _ _ _ h => h) rfl hS0 ?vh7 ?_
  case vh7 => intro W hW; have s1 := hW; go_simp; try with_reducible rfl
  simp only [Act.put, List.setIfInBounds_toArray, List.set_cons_zero, List.set_cons_succ]
  refine E_take (v := ?v8) 8 rfl (by kernel_rfl) (by kernel_rfl) (by kernel_rfl) (by kernel_rfl) (by kernel_rfl) (by kernel_rfl) (fun _ _ _ h => h) rfl hS0 ?vh8 ?_
  case vh8 => intro W hW; have s1 := hW; go_simp; try with_reducible rfl
  simp only [Act.put, List.setIfInBounds_toArray, List.set_cons_zero, List.set_cons_succ]
  refine E_take (v := ?v9) 9 rfl (by kernel_rfl) (by kernel_rfl) (by kernel_rfl) (by kernel_rfl) (by kernel_rfl) (by kernel_rfl) (fun _ _ _ h => h) rfl hS0 ?vh9 ?_
  case vh9 => intro W hW; have s1 := hW; go_simp; try with_reducible rfl
  simp only [Act.put, List.setIfInBounds_toArray, List.set_cons_zero, List.set_cons_succ]
  refine E_one 10 (by kernel_rfl) rfl (fun K hK => ?_)
  go_simp
  refine hK.out _ _ (fun _ => ya _) ?_
  clear hK K
  try simp only [Act.put, List.setIfInBounds_toArray, List.set_cons_zero, List.set_cons_succ]
  refine E_one 11 (by kernel_rfl) rfl (fun K hK => ?_)
  go_simp
  refine hK.out _ _ (fun h => absurd h (by decide)) ?_
  clear hK K
  try simp only [Act.put, List.setIfInBounds_toArray, List.set_cons_zero, List.set_cons_succ]
  refine E_done (by kernel_rfl) ?_
  go_wp2
  clear y0 ya ya3
  generalize hk : w1.heap.size = k at *
  generalize hW : World.iter _ s 0 = w2 at *
  clear hW
  go_loopw [9, 10] (fun _ _ wr => ∃ pos, SL s w p k (k + 4) wr pos) (fun _ _ wr => s.size - World.iterPos wr (k + 1 + 1 + 1))
  case atStart => exact ⟨0, hS.out⟩
  case round =>
    clear hS
    obtain ⟨pos, hSL⟩ := hrel
    have hit := hSL.it
    by_cases hps : pos < s.size
    · have hnx : ∀ ty, (Instr.next (.pointer (some ⟨k + 1 + 1 + 1, 0, none⟩)) true ty).run Try.prog wr = _ := fun ty => Lib.run_next_any_at wr (k + 1 + 1 + 1) s pos ty hit hps
      have hit2 := Lib.iterAt_heap wr (k + 1 + 1 + 1) s pos (pos + (Utf8.decode s pos).2) hit
      have hwd := dec_pos s pos
      by_cases h47 : bt s pos = 47
      · have hd := (dec_lo s pos).1 (by omega)
        have hd1 : (Utf8.decode s pos).1 = 47 := by rw [hd]; exact h47
        have hd2 : (Utf8.decode s pos).2 = 1 := by rw [hd]
        have hc := cut_rune s pos
        rw [if_pos h47] at hc
        rw [hd2] at hc hit2
        rw [hd1, hd2] at hnx
        obtain ⟨_, ⟨v, sl, hP, hsl⟩, hrs, hon, hle⟩ := hSL
        have hoI : Only (fun x => x = k + 1 + 1 + 1) wr (wr.iterAt (k + 1 + 1 + 1) s (pos + 1)) := (Only.refl (fun x => x = k + 1 + 1 + 1) wr).iterAt (.inr rfl) s _
        have hcall := Lib.hid (part_any _ (k + 4) p (k + 1) (k + 1 + 1) k s (cut s pos).1 pos _ v (cut s pos).2 sl (hP.next hoI (fun x e => by omega)) (cut_le s pos) (by omega) (by omega) (Nat.le_trans (cut_len s pos) (by omega)) hsl (fun _ => h47))
        have hH := Lib.hid (And.intro (hrs.only hoI (by omega)) (hon.iterAt (k := k + 1 + 1 + 1) (.inl (by omega)) s (pos + 1)))
        clear hP hsl hrs hon hoI hd hd1 hd2 e0 e1
        go_wp2_with fail
        refine hcall.out.mono ?_
        rintro e w5 ⟨rfl, ho5, v', sl', hP', hsl'⟩
        obtain ⟨hrs, hon⟩ := hH.out
        have hit5 : w5.heap[k + 1 + 1 + 1]? = some (.stringIter s (pos + 1)) := by
          rw [ho5.block (k + 1 + 1 + 1) (Array.getElem?_eq_some_iff.1 hit2).1 (by rintro (h | h | h | h) <;> omega)]; exact hit2
        have hN := Lib.hid (show SL s w p k (k + 4) w5 (pos + 1) from ⟨hit5, ⟨v', sl', by rw [hc]; exact hP', by rw [hc]; exact hsl'⟩, hrs.only ho5 (by rintro (h | h | h | h) <;> omega), hon.trans_of ho5 (fun i hi h => by rcases h with h | h | h | h <;> omega), by omega⟩)
        clear hP' hsl' hrs hon ho5 hcall hH hc
        go_wp2
        go_roundw
        case rel => exact ⟨_, hN.out⟩
        case measure => simp only [World.iterPos, hit, hit5]; omega
      · have hN := Lib.hid (hSL.next (by omega) (by omega) hps h47)
        have hcc : (((Utf8.decode s pos).1 : Int) == 47) = false := beq_false_of_ne (by have := (dec_is s pos 47 (by omega)); omega)
        have hmm : s.size - (pos + (Utf8.decode s pos).2) < s.size - pos := by omega
        clear hSL
        go_wp2
        go_roundw
        case rel => exact ⟨_, hN.out⟩
        case measure => simp only [World.iterPos, hit, hit2]; exact hmm
    · obtain rfl : pos = s.size := by have := hSL.le; omega
      have hnx : ∀ ty, (Instr.next (.pointer (some ⟨k + 1 + 1 + 1, 0, none⟩)) true ty).run Try.prog wr = _ := fun ty => Lib.run_next_end_at wr (k + 1 + 1 + 1) s s.size ty hit hps
      obtain ⟨_, ⟨v, sl, hP, hsl⟩, hrs, hon, hle⟩ := hSL
      have hcall := Lib.hid (part_any _ (k + 4) p (k + 1) (k + 1 + 1) k s (cut s s.size).1 s.size _ v (cut s s.size).2 sl hP (cut_le s s.size) (by omega) (by omega) (Nat.le_trans (cut_len s s.size) (by omega)) hsl (fun h => absurd h (by omega)))
      have hp0 := hP.hp.cell 0
      simp only [List.getElem?_toArray, List.getElem?_cons_zero] at hp0
      have hH := Lib.hid (And.intro hrs hon)
      clear hP hsl hrs hon
      go_wp2_with fail
      refine hcall.out.mono ?_
      rintro e w5 ⟨rfl, ho5, v', sl', hP, hsl⟩
      obtain ⟨hrs, hon⟩ := hH.out
      have hrs5 := hrs.only ho5 (by rintro (h | h | h | h) <;> omega)
      have hon5 : Only (fun _ => False) w w5 := hon.trans_of ho5 (fun i hi h => by rcases h with h | h | h | h <;> omega)
      change PSt w5 (k + 4) p (k + 1) (k + 1 + 1) k s (s.size + 1) (longB (pieces s)) _ v' ((pieces s).filter keepB) sl' at hP
      change (sl' || endB s) = (dotsB (lastNE (pieces s)) || endB s) at hsl
      clear hrs hon ho5 hcall hH hp0
      obtain ⟨A, c, rfl, hrow⟩ := hP.rowS
      have y0 := hP.hp.cell 0
      have yl := hP.hl.cell 0
      have q0 := hP.hq.cell 0
      have q1 := hP.hq.cell 1
      have q2 := hP.hq.cell 2
      have z2 := hP.hq.frozen 2
      have r0 := hrs5.cell 0
      have r1 := hrs5.cell 1
      have r2 := hrs5.cell 2
      have zr := hrs5.frozen
      have hown : ∀ g, (Value.slice A ((pieces s).filter keepB).length c).ownBlock = some g → k + 4 ≤ g := fun g hg => (row_lt hP.row g hg).1
      simp only [List.getElem?_toArray, List.getElem?_cons_zero, List.getElem?_cons_succ] at y0 yl q0 q1 q2 r0 r1 r2
      clear hP
      have hsl2 := Lib.hid (show (endB s || dotsB (lastNE (pieces s))) = (sl' || endB s) by rw [hsl, Bool.or_comm])
      replace hrow := Lib.hid hrow
      replace hown := Lib.hid hown
      clear hsl
      have b0 : s.size - 1 < s.size := i4
      have hpk : p + 1 ≠ k := by omega
      have hz0 := zr 0
      have hz1 := zr 1
      have hz2 := zr 2
      clear zr
      cases hlg : longB (pieces s) with
      | true =>
        rw [hlg] at yl
        have hTT := hT.out
        rw [hlg, if_pos rfl] at hTT
        injection hTT with t1 t2 t3 t4
        subst t1 t2 t3 t4
        replace hlg := Lib.hid hlg
        have fin : ∀ b : Bool, Blk ((((w5.setCell ⟨k, 2, none⟩ (.bool b)).setCell ⟨p + 1, 0, none⟩ (.bool false)).setCell ⟨p + 1, 1, none⟩ (.slice none 0 0)).setCell ⟨p + 1, 2, none⟩ (.bool false)) (p + 1) 25 #[.bool false, .slice none 0 0, .bool false] ∧ Only (fun _ => False) w ((((w5.setCell ⟨k, 2, none⟩ (.bool b)).setCell ⟨p + 1, 0, none⟩ (.bool false)).setCell ⟨p + 1, 1, none⟩ (.slice none 0 0)).setCell ⟨p + 1, 2, none⟩ (.bool false)) := fun b => by
          have hB := (((hrs5.far (p := ⟨k, 2, none⟩) hpk (.bool b)).set_ 0 (.bool false)).set_ 1 (.slice none 0 0)).set_ 2 (.bool false)
          exact ⟨hB, (((hon5.setCell (.inr (by show _ ≤ k; omega)) _).setCell (.inr (by show _ ≤ p + 1; omega)) _).setCell (.inr (by show _ ≤ p + 1; omega)) _).setCell (.inr (by show _ ≤ p + 1; omega)) _⟩
        replace fin := Lib.hid fin
        cases sl' with
        | true =>
          go_wp2
          refine bodyPost_ret (res14 _ _ (p + 1) _ _ _ _ rfl rfl (fin.out _).1) rfl ⟨none, 0, rfl, RowS.nil _, (fin.out _).2⟩
        | false =>
          go_wp2
          refine bodyPost_ret (res14 _ _ (p + 1) _ _ _ _ rfl rfl (fin.out _).1) rfl ⟨none, 0, rfl, RowS.nil _, (fin.out _).2⟩
      | false =>
        rw [hlg] at yl
        have hTT := hT.out
        rw [hlg, if_neg (by decide)] at hTT
        injection hTT with t1 t2 t3 t4
        subst t1 t2 t4
        rw [hsl2.out] at t3
        replace hlg := Lib.hid hlg
        have fin : ∀ b : Bool, Blk ((((w5.setCell ⟨k, 2, none⟩ (.bool b)).setCell ⟨p + 1, 0, none⟩ (.bool (decide (bt s 0 = 47)))).setCell ⟨p + 1, 1, none⟩ (.slice A ((pieces s).filter keepB).length c)).setCell ⟨p + 1, 2, none⟩ (.bool b)) (p + 1) 25 #[.bool (decide (bt s 0 = 47)), .slice A ((pieces s).filter keepB).length c, .bool b] ∧ RowS ((((w5.setCell ⟨k, 2, none⟩ (.bool b)).setCell ⟨p + 1, 0, none⟩ (.bool (decide (bt s 0 = 47)))).setCell ⟨p + 1, 1, none⟩ (.slice A ((pieces s).filter keepB).length c)).setCell ⟨p + 1, 2, none⟩ (.bool b)) A ((pieces s).filter keepB) c ∧ Only (fun _ => False) w ((((w5.setCell ⟨k, 2, none⟩ (.bool b)).setCell ⟨p + 1, 0, none⟩ (.bool (decide (bt s 0 = 47)))).setCell ⟨p + 1, 1, none⟩ (.slice A ((pieces s).filter keepB).length c)).setCell ⟨p + 1, 2, none⟩ (.bool b)) := fun b => by
          have hB := (((hrs5.far (p := ⟨k, 2, none⟩) hpk (.bool b)).set_ 0 (.bool (decide (bt s 0 = 47)))).set_ 1 (.slice A ((pieces s).filter keepB).length c)).set_ 2 (.bool b)
          have ho : Only (fun j => j = k ∨ j = p + 1) w5 ((((w5.setCell ⟨k, 2, none⟩ (.bool b)).setCell ⟨p + 1, 0, none⟩ (.bool (decide (bt s 0 = 47)))).setCell ⟨p + 1, 1, none⟩ (.slice A ((pieces s).filter keepB).length c)).setCell ⟨p + 1, 2, none⟩ (.bool b)) := ((((Only.refl _ w5).setCell (p := ⟨k, 2, none⟩) (.inl (.inl rfl)) _).setCell (p := ⟨p + 1, 0, none⟩) (.inl (.inr rfl)) _).setCell (p := ⟨p + 1, 1, none⟩) (.inl (.inr rfl)) _).setCell (p := ⟨p + 1, 2, none⟩) (.inl (.inr rfl)) _
          refine ⟨hB, hrow.out.only ho (fun g o e h => ?_), (((hon5.setCell (.inr (by show _ ≤ k; omega)) _).setCell (.inr (by show _ ≤ p + 1; omega)) _).setCell (.inr (by show _ ≤ p + 1; omega)) _).setCell (.inr (by show _ ≤ p + 1; omega)) _⟩
          subst e
          have := hown.out g rfl
          omega
        replace fin := Lib.hid fin
        cases sl' with
        | true =>
          replace t3 : ts = true := by rw [← t3]; rfl
          subst t3
          go_wp2
          refine bodyPost_ret (res14 _ _ (p + 1) _ _ _ _ rfl rfl (fin.out _).1) rfl ⟨A, c, rfl, (fin.out _).2.1, (fin.out _).2.2⟩
        | false =>
          replace t3 : ts = ((bt s (s.size - 1) : Int) == 47) := by rw [← t3, nat47]; rfl
          subst t3
          go_wp2
          refine bodyPost_ret (res14 _ _ (p + 1) _ _ _ _ rfl rfl (fin.out _).1) rfl ⟨A, c, rfl, (fin.out _).2.1, (fin.out _).2.2⟩
end Go.Proofs.Ytnclappdokhciaa
