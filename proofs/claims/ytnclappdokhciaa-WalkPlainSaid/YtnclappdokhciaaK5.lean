/-
  The walker's link (func 57).
-/
import Derived.Test.YtnclappdokhciaaK4
import Derived.Deep.CutBlock
import Derived.Deep.DeepCutAuto
namespace Go.Proofs.Ytnclappdokhciaa
open Go Go.RowKit
set_option linter.unusedVariables false
theorem split_len (s : ByteArray) : (split s).parts.length ≤ s.size + 1 := by
  unfold split
  split
  · exact Nat.zero_le _
  split
  · exact Nat.zero_le _
  split
  · exact Nat.zero_le _
  split
  · exact Nat.zero_le _
  · exact Nat.le_trans (List.length_filter_le _ _) (pieces_len s)
theorem rowU_one {w : World} {q n : Nat} (h : Blk w q 46 #[.int .u16 n]) : RowU w (some ⟨q, 0, none⟩) [n] 1 := by
  refine ⟨⟨rfl, fun _ => ⟨q, 0, rfl, h.lt, fun j u hu => ?_⟩⟩, Nat.le_refl _, fun h => by cases h⟩
  rw [Nat.zero_add, h.cell j]
  rw [← hu]
  simp [u16s]
def linkS (ts : List Thg) (num links : Nat) : Int := if 8 ≤ links then 35 else if (targS ts num).2 ≠ 0 then (targS ts num).2 else (split (targS ts num).1).err
/-- What link leaves. -/
def LinkPost (ts : List Thg) (A : Option Addr) (c g gw num links lk : Nat) (pl : List Nat) (ps : List ByteArray) (must : Bool) (w : World) (r : Ending) (w' : World) : Prop :=
    ∃ d, d ≤ 1 ∧ (8 ≤ links → d = 0) ∧ Blk w' g 45 #[.slice A ts.length c, .int .i64 (lk + d : Nat)] ∧ Only (fun k => k = g ∨ k = gw) w w' ∧ r = .returned (.int .i64 (linkS ts num links)) ∧
      (linkS ts num links = 0 → d = 1 ∧ ∃ Ap' cp' Aq' cq', Blk w' gw 104 #[.iface 42 (.pointer (some ⟨g, 0, none⟩)), .slice Ap' (if (split (targS ts num).1).ab = true then [1] else pl).length cp', .slice Aq' ((split (targS ts num).1).parts ++ ps).length cq', .bool (must || (ps.isEmpty && (split (targS ts num).1).sl)), .int .i64 (links + 1 : Nat)] ∧
        RowU w' Ap' (if (split (targS ts num).1).ab = true then [1] else pl) cp' ∧ RowS w' Aq' ((split (targS ts num).1).parts ++ ps) cq')
set_option maxRecDepth 20000 in
set_option maxHeartbeats 8000000 in
theorem link_any (ts : List Thg) (A : Option Addr) (c g gw num links lk : Nat) (pl : List Nat) (Ap : Option Addr) (cp : Nat) (ps : List ByteArray) (Aq : Option Addr) (cq : Nat) (must : Bool) (w : World)
    (hb : Blk w g 45 #[.slice A ts.length c, .int .i64 lk]) (hw : Blk w gw 104 #[.iface 42 (.pointer (some ⟨g, 0, none⟩)), .slice Ap pl.length cp, .slice Aq ps.length cq, .bool must, .int .i64 links])
    (h : RowT w A ts c) (hp : RowU w Ap pl cp) (hq : RowS w Aq ps cq) (hG : Good ts) (hlk : lk ≤ 10000) (hlinks : links ≤ 10000) (hpl : pl.length ≤ 10000) (hps : ps.length ≤ 10000) (hn : num < 65536) :
    Calls Try.prog 57 #[.pointer (some ⟨gw, 0, none⟩), .int .u16 num] w fun r w' => LinkPost ts A c g gw num links lk pl ps must w r w' := by
  have hgw := hw.ne hb (by decide)
  have q0 := hw.cell 0
  have q1 := hw.cell 1
  have q2 := hw.cell 2
  have q3 := hw.cell 3
  have q4 := hw.cell 4
  have f1 := hw.frozen 1
  have f2 := hw.frozen 2
  have f3 := hw.frozen 3
  have f4 := hw.frozen 4
  simp only [List.getElem?_toArray, List.getElem?_cons_zero, List.getElem?_cons_succ] at q0 q1 q2 q3 q4
  have kw : IntKind.i64.wrap ((links : Int) + 1) = (links : Int) + 1 := by rw [IntKind.wrap_i64]; omega
  have hw1 := hw.set_ 4 (.int .i64 ((links : Int) + 1))
  simp only [List.setIfInBounds_toArray, List.set_cons_zero, List.set_cons_succ] at hw1
  have ho1 : Only (fun k => k = gw) w (w.setCell ⟨gw, 4, none⟩ (.int .i64 ((links : Int) + 1))) := (Only.refl (fun k => k = gw) w).setCell (p := ⟨gw, 4, none⟩) (.inl rfl) _
  have hstr : ∀ (x0 x1 x2 x3 x4 : Value), (∀ s, x0 ≠ .string s) → (∀ s, x1 ≠ .string s) → (∀ s, x2 ≠ .string s) → (∀ s, x3 ≠ .string s) → (∀ s, x4 ≠ .string s) → ∀ (i : Nat) (s : ByteArray), (#[x0, x1, x2, x3, x4] : Array Value)[i]? ≠ some (.string s) := fun x0 x1 x2 x3 x4 h0 h1 h2 h3 h4 i s => by
    match i with
    | 0 => simpa using h0 s
    | 1 => simpa using h1 s
    | 2 => simpa using h2 s
    | 3 => simpa using h3 s
    | 4 => simpa using h4 s
    | i + 5 => simp
  have h1 := h.apart hw (hstr _ _ _ _ _ (by simp) (by simp) (by simp) (by simp) (by simp)) ho1
  have hq1 := hq.apart hw (hstr _ _ _ _ _ (by simp) (by simp) (by simp) (by simp) (by simp)) ho1
  have hb1 := hb.only ho1 (fun e => hgw e.symm)
  by_cases h8 : 8 ≤ links
  · have hd : linkS ts num links = 35 := by unfold linkS; rw [if_pos h8]
    have i0 : (8 : Int) < (links : Int) + 1 := by omega
    have i1 : (8 : Int) ≤ (links : Int) := by omega
    replace hd := Lib.hid hd
    replace hb1 := Lib.hid hb1
    go_enter Try.func57, Try.ntmps57
    go_wp2
    go_ret
    exact ⟨0, by omega, fun _ => rfl, hb1.out, ho1.mono (fun _ _ h => .inr h), by rw [hd.out]; rfl, fun e => absurd (hd.out.symm.trans e) (by decide)⟩
  have i0 : ¬ (8 : Int) < (links : Int) + 1 := by omega
  have hm : ∀ w, (method 272 42 (.pointer (some ⟨g, 0, none⟩)) "Target").run Try.prog w = .ok (114, .pointer (some ⟨g, 0, none⟩)) w := fun _ => by kernel_rfl
  have hT := target_any ts A c g num lk _ hb1 h1 hn hG.1 (by omega)
  go_enter Try.func57, Try.ntmps57
  go_wp2_with fail
  refine hT.mono ?_
  rintro r w2 ⟨rfl, hb2, ho2⟩
  have hw2 := hw1.only ho2 hgw
  have hbs : ∀ (i : Nat) (s : ByteArray), (#[Value.slice A ts.length c, .int .i64 lk] : Array Value)[i]? ≠ some (.string s) := fun i s => by
    match i with
    | 0 => simp
    | 1 => simp
    | i + 2 => simp
  have hbu : ∀ (i : Nat) (n : Int), (#[Value.slice A ts.length c, .int .i64 lk] : Array Value)[i]? ≠ some (.int .u16 n) := fun i s => by
    match i with
    | 0 => simp
    | 1 => simp
    | i + 2 => simp
  have h2 := h1.apart hb1 hbs ho2
  have hq2 := hq1.apart hb1 hbs ho2
  have hwu : ∀ (x1 x2 : Option Addr) (n1 c1 n2 c2 : Nat) (m : Bool) (k : Int) (i : Nat) (n : Int), (#[Value.iface 42 (.pointer (some ⟨g, 0, none⟩)), .slice x1 n1 c1, .slice x2 n2 c2, .bool m, .int .i64 k] : Array Value)[i]? ≠ some (.int .u16 n) := fun x1 x2 n1 c1 n2 c2 m k i n => by
    match i with
    | 0 => simp
    | 1 => simp
    | 2 => simp
    | 3 => simp
    | 4 => simp
    | i + 5 => simp
  have hp2 := (hp.apart hw (hwu _ _ _ _ _ _ _ _) ho1).apart hb1 hbu ho2
  have ho12 : Only (fun k => k = g ∨ k = gw) w w2 := (ho1.mono (fun _ _ h => .inr h)).trans (ho2.mono (fun _ _ h => .inl h))
  have hld : linkS ts num links = if (targS ts num).2 ≠ 0 then (targS ts num).2 else (split (targS ts num).1).err := by unfold linkS; rw [if_neg h8]
  have htg := targ_good hG num
  generalize hTS : targS ts num = TS at *
  obtain ⟨s, te⟩ := TS
  simp only at hld htg
  clear ho1 ho2 hT hb hb1 h1 hw1 hw hp hq hq1 q0 q1 q2 q3 q4 h hbs hbu f1 f2 f3 f4
  by_cases hte : te = 0
  · subst hte
    rw [if_neg (by simp)] at hld
    replace hld := Lib.hid hld
    replace hTS := Lib.hid hTS
    have hS := split_any s w2
    have hpln := split_len s
    generalize hsp : split s = sp at *
    replace hsp := Lib.hid hsp
    obtain ⟨ab, parts, sl, err⟩ := sp
    simp only at hld hS hpln
    replace hS := Lib.hid hS
    go_wp2_with fail
    refine hS.out.mono ?_
    rintro r w3 ⟨Ax, cx, rfl, hx, ho3⟩
    have hgp := Blk.new w3 25 #[.bool ab, .slice Ax parts.length cx, .bool sl]
    have oa := (Only.refl (fun _ => False) w3).alloc (.cells #[.bool ab, .slice Ax parts.length cx, .bool sl] 25)
    have ho34 := ho3.trans oa
    have hw4 := hw2.only ho34 (fun x => x)
    have hb4 := hb2.only ho34 (fun x => x)
    have h4 := h2.only ho34 (fun _ _ x => x)
    have hq4 := hq2.only ho34 (fun _ _ _ x => x)
    have hp4 := hp2.only ho34 (fun _ _ x => x)
    have hx4 := hx.only oa (fun _ _ _ x => x)
    have ho14 := ho12.trans ho34.weak
    clear hS hw2 hb2 h2 hq2 hp2 hx ho3 oa ho34 ho12
    by_cases herr : err = 0
    · subst herr
      go_upto_if 41 with fail
      generalize w3.alloc (.cells #[.bool ab, .slice Ax parts.length cx, .bool sl] 25) = w4 at *
      generalize w3.heap.size = gp at *
      go_cut [] (fun W => ∃ (Ap' : Option Addr) (cp' : Nat), Blk W gp 25 #[.bool ab, .slice Ax parts.length cx, .bool sl] ∧ Blk W gw 104 #[.iface 42 (.pointer (some ⟨g, 0, none⟩)), .slice Ap' (if ab = true then [1] else pl).length cp', .slice Aq ps.length cq, .bool must, .int .i64 ((links : Int) + 1)] ∧ RowU W Ap' (if ab = true then [1] else pl) cp' ∧ RowS W Aq ps cq ∧ RowS W Ax parts cx ∧ Blk W g 45 #[.slice A ts.length c, .int .i64 ((lk + 1 : Nat) : Int)] ∧ Only (fun k => k = g ∨ k = gw) w W)
      case first =>
        have f1 := hw4.frozen 1
        have r1 := hw4.cell 1
        simp only [List.getElem?_toArray, List.getElem?_cons_zero, List.getElem?_cons_succ] at r1
        cases ab with
        | true =>
          have hn := Blk.new w4 46 #[.int .u16 1]
          have on := (Only.refl (fun _ => False) w4).alloc (.cells #[.int .u16 1] 46)
          have hw5 := (hw4.only on (fun x => x)).set_ 1 (.slice (some ⟨w4.heap.size, 0, none⟩) 1 1)
          have f1' := (hw4.only on (fun x => x)).frozen 1
          have r1' := (hw4.only on (fun x => x)).cell 1
          simp only [List.getElem?_toArray, List.getElem?_cons_zero, List.getElem?_cons_succ] at r1'
          simp only [List.setIfInBounds_toArray, List.set_cons_zero, List.set_cons_succ] at hw5
          have os : Only (fun k => k = gw) (w4.alloc (.cells #[.int .u16 1] 46)) ((w4.alloc (.cells #[.int .u16 1] 46)).setCell ⟨gw, 1, none⟩ (.slice (some ⟨w4.heap.size, 0, none⟩) 1 1)) := (Only.refl (fun k => k = gw) _).setCell (p := ⟨gw, 1, none⟩) (.inl rfl) _
          have hwn := hw4.only on (fun x => x)
          have hst := hstr (.iface 42 (.pointer (some ⟨g, 0, none⟩))) (.slice Ap pl.length cp) (.slice Aq ps.length cq) (.bool must) (.int .i64 ((links : Int) + 1)) (by simp) (by simp) (by simp) (by simp) (by simp)
          have k1 := (hq4.only on (fun _ _ _ x => x)).apart hwn hst os
          have k2 := (hx4.only on (fun _ _ _ x => x)).apart hwn hst os
          have k3 := (rowU_one hn).apart hwn (hwu _ _ _ _ _ _ _ _) os
          have k4 := (hgp.only on (fun x => x)).only os (fun e => (hgp.ne hw4 (by decide)) e)
          have k5 := (hb4.only on (fun x => x)).only os (fun e => hgw e.symm)
          have k6 := ho14.trans (on.weak.trans (os.mono (fun _ _ h => .inr h)))
          clear hgp hw4 hp4 hq4 hx4 hb4 ho14 hn on os hwn hst h4
          go_wp2_with fail
          go_meet
          exact ⟨_, 1, k4, hw5, k3, k1, k2, k5, k6⟩
        | false =>
          go_wp2_with fail
          go_meet
          exact ⟨Ap, cp, hgp, hw4, hp4, hq4, hx4, hb4, ho14⟩
      case rest =>
        obtain ⟨Ap', cp', hgp', hw', hp', hq', hx', hb', ho'⟩ := hcut
        clear hgp hw4 hp4 hq4 hx4 hb4 ho14 h4
        go_upto_region 12 with fail
        go_cut [] (fun W => Blk W gp 25 #[.bool ab, .slice Ax parts.length cx, .bool sl] ∧ Blk W gw 104 #[.iface 42 (.pointer (some ⟨g, 0, none⟩)), .slice Ap' (if ab = true then [1] else pl).length cp', .slice Aq ps.length cq, .bool (must || (ps.isEmpty && sl)), .int .i64 ((links : Int) + 1)] ∧ RowU W Ap' (if ab = true then [1] else pl) cp' ∧ RowS W Aq ps cq ∧ RowS W Ax parts cx ∧ Blk W g 45 #[.slice A ts.length c, .int .i64 ((lk + 1 : Nat) : Int)] ∧ Only (fun k => k = g ∨ k = gw) w W)
        case first =>
          have f3 := hw'.frozen 3
          have r2 := hw'.cell 2
          have r3 := hw'.cell 3
          have r5 := hgp'.cell 2
          simp only [List.getElem?_toArray, List.getElem?_cons_zero, List.getElem?_cons_succ] at r2 r3 r5
          have hwS := fun v => hw'.set_ 3 v
          simp only [List.setIfInBounds_toArray, List.set_cons_zero, List.set_cons_succ] at hwS
          have os := fun v => (Only.refl (fun k => k = gw) wc).setCell (p := ⟨gw, 3, none⟩) (.inl rfl) v
          have hst := hstr (.iface 42 (.pointer (some ⟨g, 0, none⟩))) (.slice Ap' (if ab = true then [1] else pl).length cp') (.slice Aq ps.length cq) (.bool must) (.int .i64 ((links : Int) + 1)) (by simp) (by simp) (by simp) (by simp) (by simp)
          have K := Lib.hid (fun v => (show _ ∧ _ ∧ _ ∧ _ ∧ _ ∧ _ from ⟨hgp'.only (os v) (fun e => (hgp'.ne hw' (by decide)) e), hp'.apart hw' (hwu _ _ _ _ _ _ _ _) (os v), hq'.apart hw' hst (os v), hx'.apart hw' hst (os v), hb'.only (os v) (fun e => hgw e.symm), ho'.trans ((os v).mono (fun _ _ h => Or.inr h))⟩))
          replace hwS := Lib.hid hwS
          clear os hst hgp' hw' hp' hq' hx' hb' ho'
          cases must with
          | true =>
            go_wp2_with fail
            go_meet
            obtain ⟨k1, k2, k3, k4, k5, k6⟩ := K.out (.bool true)
            exact ⟨k1, hwS.out _, k2, k3, k4, k5, k6⟩
          | false =>
            cases ps with
            | nil =>
              simp only [List.length_nil] at r2
              go_wp2_with fail
              go_meet
              obtain ⟨k1, k2, k3, k4, k5, k6⟩ := K.out (.bool sl)
              exact ⟨k1, hwS.out _, k2, k3, k4, k5, k6⟩
            | cons y rest =>
              have hne : ((rest.length : Int) + 1 == 0) = false := by simp; omega
              simp only [List.length_cons] at r2
              go_wp2_with fail
              go_meet
              obtain ⟨k1, k2, k3, k4, k5, k6⟩ := K.out (.bool false)
              exact ⟨k1, hwS.out _, k2, k3, k4, k5, k6⟩
        case rest =>
          rename World => w6
          obtain ⟨kp, kw6, ku, kq, kx, kb, ko⟩ := hcut
          clear hgp' hw' hp' hq' hx' hb' ho'
          go_wp2_with fail
          have od := (Only.refl (fun _ => False) w6).drew
          have kp1 := kp.only od (fun x => x)
          have kw1 := kw6.only od (fun x => x)
          have ku1 := ku.only od (fun _ _ x => x)
          have kq1 := kq.only od (fun _ _ _ x => x)
          have kx1 := kx.only od (fun _ _ _ x => x)
          have kb1 := kb.only od (fun x => x)
          have ko1 := ko.trans od.weak
          clear kp kw6 ku kq kx kb ko od
          generalize hwd : w6.drew = wd at *
          replace hwd := Lib.hid hwd
          have F : ∀ W, Only (fun _ => False) wd W → W.cell? ⟨gp, 1, none⟩ = some (.slice Ax parts.length cx) ∧ W.cell? ⟨gw, 2, none⟩ = some (.slice Aq ps.length cq) := fun W hW => ⟨(kp1.only hW (fun x => x)).cell 1, (kw1.only hW (fun x => x)).cell 2⟩
          replace F := Lib.hid F
          have hS0 := Only.refl (fun _ => False) wd
          refine wp_region_noPanic ?_
          refine wp_region_E 11 (fun W => Only (fun _ => False) wd W) (by kernel_rfl) ?_
          rw [hwd.out]
          refine E_take (v := ?v0) 0 rfl (by kernel_rfl) (by kernel_rfl) (by kernel_rfl) (by kernel_rfl) (by kernel_rfl) (by kernel_rfl) (fun _ _ _ h => h) rfl hS0 ?vh0 ?_
          case vh0 => intro W hW; obtain ⟨t0, t1⟩ := F.out W hW; go_simp; try with_reducible rfl
          simp only [Act.put, List.setIfInBounds_toArray, List.set_cons_zero, List.set_cons_succ]
          refine E_take (v := ?v1) 1 rfl (by kernel_rfl) (by kernel_rfl) (by kernel_rfl) (by kernel_rfl) (by kernel_rfl) (by kernel_rfl) (fun _ _ _ h => h) rfl hS0 ?vh1 ?_
          case vh1 => intro W hW; obtain ⟨t0, t1⟩ := F.out W hW; go_simp; try with_reducible rfl
          simp only [Act.put, List.setIfInBounds_toArray, List.set_cons_zero, List.set_cons_succ]
          refine E_take (v := ?v2) 2 rfl (by kernel_rfl) (by kernel_rfl) (by kernel_rfl) (by kernel_rfl) (by kernel_rfl) (by kernel_rfl) (fun _ _ _ h => h) rfl hS0 ?vh2 ?_
          case vh2 => intro W hW; obtain ⟨t0, t1⟩ := F.out W hW; go_simp; try with_reducible rfl
          simp only [Act.put, List.setIfInBounds_toArray, List.set_cons_zero, List.set_cons_succ]
          refine E_take (v := ?v3) 3 rfl (by kernel_rfl) (by kernel_rfl) (by kernel_rfl) (by kernel_rfl) (by kernel_rfl) (by kernel_rfl) (fun _ _ _ h => h) rfl hS0 ?vh3 ?_
          case vh3 => intro W hW; obtain ⟨t0, t1⟩ := F.out W hW; go_simp; try with_reducible rfl
          simp only [Act.put, List.setIfInBounds_toArray, List.set_cons_zero, List.set_cons_succ]
          refine E_take (v := ?v4) 4 rfl (by kernel_rfl) (by kernel_rfl) (by kernel_rfl) (by kernel_rfl) (by kernel_rfl) (by kernel_rfl) (fun _ _ _ h => h) rfl hS0 ?vh4 ?_
          case vh4 => intro W hW; obtain ⟨t0, t1⟩ := F.out W hW; go_simp; try with_reducible rfl
          simp only [Act.put, List.setIfInBounds_toArray, List.set_cons_zero, List.set_cons_succ]
          refine E_take (v := ?v5) 5 rfl (by kernel_rfl) (by kernel_rfl) (by kernel_rfl) (by kernel_rfl) (by kernel_rfl) (by kernel_rfl) (fun _ _ _ h => h) rfl hS0 ?vh5 ?_
          case vh5 => intro W hW; obtain ⟨t0, t1⟩ := F.out W hW; go_simp; try with_reducible rfl
          simp only [Act.put, List.setIfInBounds_toArray, List.set_cons_zero, List.set_cons_succ]
          refine E_take (v := ?v6) 6 rfl (by kernel_rfl) (by kernel_rfl) (by kernel_rfl) (by kernel_rfl) (by kernel_rfl) (by kernel_rfl) (fun _ _ _ h => h) rfl hS0 ?vh6 ?_
          case vh6 => intro W hW; obtain ⟨t0, t1⟩ := F.out W hW; go_simp; try with_reducible rfl
          simp only [Act.put, List.setIfInBounds_toArray, List.set_cons_zero, List.set_cons_succ]
          have ob := (Only.refl (fun _ => False) wd).alloc (.cells #[.slice Ax parts.length cx, .slice Aq ps.length cq] 23)
          have hsl := Blk.new wd 23 #[.slice Ax parts.length cx, .slice Aq ps.length cq]
          have hC := concat_76 [⟨Ax, parts.length, cx, strs parts⟩, ⟨Aq, ps.length, cq, strs ps⟩] wd.heap.size _ hsl (fun p hp => by
            simp only [List.mem_cons, List.not_mem_nil, or_false] at hp
            rcases hp with rfl | rfl
            · have := kx1.only ob (fun _ _ _ x => x)
              exact ⟨by rw [Nat.mul_one]; exact this.1, this.2.1, this.2.2, strs_one _⟩
            · have := kq1.only ob (fun _ _ _ x => x)
              exact ⟨by rw [Nat.mul_one]; exact this.1, this.2.1, this.2.2, strs_one _⟩) (by simp [tot]; omega) (by simp)
          have hcat : cat [⟨Ax, parts.length, cx, strs parts⟩, ⟨Aq, ps.length, cq, strs ps⟩] = strs (parts ++ ps) := by simp [cat, strs]
          rw [hcat] at hC
          clear hcat hsl
          replace hC := Lib.hid hC
          refine E_one 7 (by kernel_rfl) rfl (fun K hK => ?_)
          go_simp
          refine hK.out _ _ (fun _ => ob) ?_
          clear hK K
          try simp only [Act.put, List.setIfInBounds_toArray, List.set_cons_zero, List.set_cons_succ]
          refine E_one 8 (by kernel_rfl) rfl (fun K hK => ?_)
          go_simp
          refine hC.out.mono ?_
          rintro r w7 ⟨v, rfl, hown, ho7⟩
          have ho8 := ob.trans ho7
          refine hK.out _ _ (fun _ => ho8) ?_
          clear hK K
          try simp only [Act.put, List.setIfInBounds_toArray, List.set_cons_zero, List.set_cons_succ]
          have htot : tot [⟨Ax, parts.length, cx, strs parts⟩, ⟨Aq, ps.length, cq, strs ps⟩] = (parts ++ ps).length := by simp [tot]
          rw [htot] at hown
          obtain ⟨A9, c9, ev, hr9, hc9, hA9⟩ := row_form hown
          subst ev
          have hq9 : RowS w7 A9 (parts ++ ps) c9 := ⟨hr9, hc9, hA9⟩
          have kw9 := kw1.only ho8 (fun x => x)
          have ku9 := ku1.only ho8 (fun _ _ x => x)
          have kb9 := kb1.only ho8 (fun x => x)
          have ko9 := ko1.trans ho8.weak
          have f2 := kw9.frozen 2
          have r2 := kw9.cell 2
          simp only [List.getElem?_toArray, List.getElem?_cons_zero, List.getElem?_cons_succ] at r2
          have hwS := kw9.set_ 2 (.slice A9 (parts ++ ps).length c9)
          simp only [List.setIfInBounds_toArray, List.set_cons_zero, List.set_cons_succ] at hwS
          have os := (Only.refl (fun k => k = gw) w7).setCell (p := ⟨gw, 2, none⟩) (.inl rfl) (.slice A9 (parts ++ ps).length c9)
          have hst := hstr (.iface 42 (.pointer (some ⟨g, 0, none⟩))) (.slice Ap' (if ab = true then [1] else pl).length cp') (.slice Aq ps.length cq) (.bool (must || (ps.isEmpty && sl))) (.int .i64 ((links : Int) + 1)) (by simp) (by simp) (by simp) (by simp) (by simp)
          have m1 := ku9.apart kw9 (hwu _ _ _ _ _ _ _ _) os
          have m2 := hq9.apart kw9 hst os
          have m3 := kb9.only os (fun e => hgw e.symm)
          have m4 := ko9.trans (os.mono (fun _ _ h => Or.inr h))
          generalize hln : (parts ++ ps).length = ln at *
          clear hown htot hr9 hc9 hA9 hq9 kw9 ku9 kb9 ko9 kw1 ku1 kb1 ko1 kp1 kq1 kx1 hC ob ho7 os hst
          refine E_one 9 (by kernel_rfl) rfl (fun K hK => ?_)
          go_simp
          refine hK.out _ _ (fun _ => ho8) ?_
          clear hK K
          try simp only [Act.put, List.setIfInBounds_toArray, List.set_cons_zero, List.set_cons_succ]
          refine E_one 10 (by kernel_rfl) rfl (fun K hK => ?_)
          go_simp
          refine hK.out _ _ (fun _ => ho8) ?_
          clear hK K
          try simp only [Act.put, List.setIfInBounds_toArray, List.set_cons_zero, List.set_cons_succ]
          refine E_one 11 (by kernel_rfl) rfl (fun K hK => ?_)
          go_simp
          refine hK.out _ _ (fun h => absurd h (by decide)) ?_
          clear hK K
          try simp only [Act.put, List.setIfInBounds_toArray, List.set_cons_zero, List.set_cons_succ]
          refine E_done (by kernel_rfl) (NoPanic.normal ?_)
          clear F hS0 ho8
          subst hln
          replace hwS := Lib.hid hwS
          replace m3 := Lib.hid m3
          go_wp2
          go_ret
          exact ⟨1, by omega, fun e => absurd e h8, m3.out, m4, by rw [hld.out]; rfl, fun _ => ⟨rfl, Ap', cp', A9, c9, by rw [hTS.out, hsp.out]; exact hwS.out, by rw [hTS.out, hsp.out]; exact m1, by rw [hTS.out, hsp.out]; exact m2⟩⟩
    · have heb : (err != 0) = true := by rw [bne, beq_false_of_ne herr]; rfl
      replace herr := Lib.hid herr
      replace hb4 := Lib.hid hb4
      clear hx4 hp4 hq4 h4 hw4 hgp
      go_wp2
      go_ret
      exact ⟨1, by omega, fun e => absurd e h8, hb4.out, ho14, by rw [hld.out]; rfl, fun e => absurd (hld.out.symm.trans e) herr.out⟩
  · rw [if_pos hte] at hld
    have heb : (te != 0) = true := by rw [bne, beq_false_of_ne hte]; rfl
    replace hte := Lib.hid hte
    replace hld := Lib.hid hld
    replace hb2 := Lib.hid hb2
    clear hw2 h2 hq2 hp2
    go_wp2
    go_ret
    exact ⟨1, by omega, fun e => absurd e h8, hb2.out, ho12, by rw [hld.out]; rfl, fun e => absurd (hld.out.symm.trans e) hte.out⟩
end Go.Proofs.Ytnclappdokhciaa
