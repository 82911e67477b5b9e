/-
  dir.place, dir.Find (func 59, 32), the reference's Find (func 43).
-/
import Derived.Test.YtnclappdokhciaaD1
namespace Go.Proofs.Ytnclappdokhciaa
open Go Go.RowKit
set_option linter.unusedVariables false
theorem Blk.set3 {w : World} {g : Nat} {t : TypeId} {x y z x' y' z' : Value} (h : Blk w g t #[x, y, z]) : Blk (((w.setCell ⟨g, 0, none⟩ x').setCell ⟨g, 1, none⟩ y').setCell ⟨g, 2, none⟩ z') g t #[x', y', z'] :=
  ((h.set_ 0 x').set_ 1 y').set_ 2 z'
theorem Only.set3 {w w0 : World} {g : Nat} (h : Only (fun _ => False) w0 w) (hg : w0.heap.size ≤ g) (x' y' z' : Value) : Only (fun _ => False) w0 (((w.setCell ⟨g, 0, none⟩ x').setCell ⟨g, 1, none⟩ y').setCell ⟨g, 2, none⟩ z') :=
  ((h.setCell (p := ⟨g, 0, none⟩) (.inr hg) x').setCell (p := ⟨g, 1, none⟩) (.inr hg) y').setCell (p := ⟨g, 2, none⟩) (.inr hg) z'
theorem res43 (tm : Array Value) (W : World) (g : Nat) (x y z : Value) (e : Bool) (h2 : tm.getD 4 undef = .pointer (some ⟨g, 0, none⟩)) (h3 : tm.getD 5 undef = .bool e) (hb : Blk W g 79 #[x, y, z]) :
    (results Try.f43 tm).run Try.prog W = .ok (.tuple #[.agg #[x, y, z], .bool e]) W := by
  have hl := run_loadVar_row (P := Try.prog) W g 79 79 #[x, y, z] (0, 0) _ hb Try.underlying79 rfl (by kernel_rfl)
  unfold results
  rw [Try.results43]
  simp only [List.mapM_toArray, List.mapM_cons, List.mapM_nil, h2, h3]
  simp [asAddr, hl]
theorem res32 (tm : Array Value) (W : World) (g : Nat) (x y z : Value) (e : Bool) (h2 : tm.getD 4 undef = .pointer (some ⟨g, 0, none⟩)) (h3 : tm.getD 5 undef = .bool e) (hb : Blk W g 63 #[x, y, z]) :
    (results Try.f32 tm).run Try.prog W = .ok (.tuple #[.agg #[x, y, z], .bool e]) W := by
  have hl := run_loadVar_row (P := Try.prog) W g 63 63 #[x, y, z] (0, 0) _ hb Try.underlying63 rfl (by kernel_rfl)
  unfold results
  rw [Try.results32]
  simp only [List.mapM_toArray, List.mapM_cons, List.mapM_nil, h2, h3]
  simp [asAddr, hl]
set_option maxRecDepth 10000 in
set_option maxHeartbeats 2000000 in
theorem cmp_any (e : Ent) (s : ByteArray) (w : World) :
    Calls Try.prog 80 #[.agg e.cells.toArray, .string s] w fun r w' => r = .returned (.int .i64 (Lib.compareBytes e.nm.data.toList s.data.toList)) ∧ Only (fun _ => False) w w' := by
  have ho := (Only.refl (fun _ => False) w).alloc (.cells #[.string e.nm, .int .u16 e.num, .int .u8 e.kind] 63)
  replace ho := Lib.hid ho
  simp only [Ent.cells]
  go_enter Try.func80, Try.ntmps80
  go_wp2_with fail
  refine (Try.strings_Compare e.nm s _).mono ?_
  rintro r w' ⟨rfl, rfl⟩
  go_wp2
  go_ret
  exact ⟨rfl, ho.out⟩
def findE (l : List Ent) (s : ByteArray) : Option Ent := l.find? fun e => e.nm.toList == s.toList
def noEnt : Ent := ⟨⟨#[]⟩, 0, 0⟩
set_option maxRecDepth 10000 in
set_option maxHeartbeats 2000000 in
theorem findR_any (l : List Ent) (A : Option Addr) (c : Nat) (s : ByteArray) (w : World) (h : RowE w A l c) (hn : l.length ≤ 100000) :
    Calls Try.prog 43 #[.slice A l.length c, .string s] w fun r w' => r = .returned (.tuple #[.agg ((findE l s).getD noEnt).cells.toArray, .bool (findE l s).isSome]) ∧ Only (fun _ => False) w w' := by
  have ho0 := (Only.refl (fun _ => False) w).alloc (.cells #[.string ⟨#[]⟩, .int .u16 0, .int .u8 0] 79)
  have hb0 := Blk.new w 79 #[.string ⟨#[]⟩, .int .u16 0, .int .u8 0]
  go_enter Try.func43, Try.ntmps43
  go_wp2
  generalize w.alloc _ = w2 at *
  have hg := Nat.le_refl w.heap.size
  generalize hg0 : w.heap.size = g at *
  have q0 := hb0.cell 0
  have q1 := hb0.cell 1
  have q2 := hb0.cell 2
  have f0 := hb0.frozen 0
  have f1 := hb0.frozen 1
  have f2 := hb0.frozen 2
  simp only [List.getElem?_toArray, List.getElem?_cons_zero, List.getElem?_cons_succ] at q0 q1 q2
  go_loopw [6] (fun k wr => wr = w2 ∧ ∃ (i : Nat), k = .int .i64 i ∧ i ≤ l.length ∧ findE l s = findE (l.drop i) s) (fun k _ => l.length - (intOf k).toNat)
  case atStart => exact ⟨rfl, 0, rfl, by omega, rfl⟩
  case round =>
    obtain ⟨rfl, i, rfl, hi, hf⟩ := hrel
    by_cases hlt : i < l.length
    · obtain ⟨x, hx⟩ : ∃ x, l[i]? = some x := ⟨_, List.getElem?_eq_getElem hlt⟩
      obtain ⟨b, o, rfl, hb1, d0, d1, d2⟩ := (h.only ho0 (fun _ _ x => x)).lit hx
      have i0 : (0 : Int) ≤ (i : Int) := by omega
      have i1 : (i : Int) < (l.length : Int) := by omega
      have hdr : l.drop i = x :: l.drop (i + 1) := by
        rw [List.drop_eq_getElem_cons hlt]
        rw [List.getElem?_eq_getElem hlt] at hx
        cases hx; rfl
      rw [hdr] at hf
      replace hx := Lib.hid hx
      replace hdr := Lib.hid hdr
      by_cases he : x.nm.toList = s.toList
      · have hf2 : findE l s = some x := by rw [hf]; unfold findE; rw [List.find?_cons, he]; simp
        replace hf2 := Lib.hid hf2
        clear hf
        have hb3 := Lib.hid (hb0.set3 (x' := .string x.nm) (y' := .int .u16 x.num) (z' := .int .u8 x.kind))
        have hon := Lib.hid (ho0.set3 (g := g) (Nat.le_of_eq hg0) (.string x.nm) (.int .u16 x.num) (.int .u8 x.kind))
        clear hb0 ho0
        go_wp2
        refine bodyPost_ret (res43 _ _ g _ _ _ _ rfl rfl hb3.out) rfl ?_
        exact ⟨by rw [hf2.out]; rfl, hon.out⟩
      · have heb : (x.nm.toList == s.toList) = false := beq_false_of_ne he
        have hf2 : findE l s = findE (l.drop (i + 1)) s := by rw [hf]; unfold findE; rw [List.find?_cons, beq_false_of_ne he]
        replace hf2 := Lib.hid hf2
        clear hf
        go_wp2
        go_roundw
        case rel => exact ⟨by first | rfl | trivial, i + 1, by go_num, by omega, hf2.out⟩
        case measure => simp [intOf]; omega
    · have hf2 : findE l s = none := by rw [hf, List.drop_eq_nil_of_le (by omega)]; rfl
      replace hf2 := Lib.hid hf2
      clear hf
      have hb3 := Lib.hid (hb0.set3 (x' := .string ⟨#[]⟩) (y' := .int .u16 0) (z' := .int .u8 0))
      have hon := Lib.hid (ho0.set3 (g := g) (Nat.le_of_eq hg0) (.string ⟨#[]⟩) (.int .u16 0) (.int .u8 0))
      clear hb0 ho0
      go_wp2
      refine bodyPost_ret (res43 _ _ g _ _ _ _ rfl rfl hb3.out) rfl ?_
      exact ⟨by rw [hf2.out]; rfl, hon.out⟩

def cmpN (l : List Ent) (i : Nat) (s : ByteArray) : Int := Lib.compareBytes ((l[i]?.map Ent.nm).getD ⟨#[]⟩).data.toList s.data.toList
theorem cmpN_at {l : List Ent} {i : Nat} {e : Ent} (h : l[i]? = some e) (s : ByteArray) : cmpN l i s = Lib.compareBytes e.nm.data.toList s.data.toList := by unfold cmpN; rw [h]; rfl
/-- Where a name is, or would be. -/
def PlaceAt (l : List Ent) (s : ByteArray) (i : Nat) (b : Bool) : Prop := i ≤ l.length ∧ (∀ t, t < i → cmpN l t s < 0) ∧ (∀ t, i ≤ t → t < l.length → 0 ≤ cmpN l t s) ∧ b = (decide (i < l.length) && decide (cmpN l i s = 0))
def MonoN (l : List Ent) (s : ByteArray) : Prop := ∀ a b, a ≤ b → b < l.length → cmpN l b s < 0 → cmpN l a s < 0
set_option maxRecDepth 10000 in
set_option maxHeartbeats 4000000 in
theorem search_any (l : List Ent) (A : Option Addr) (c : Nat) (s : ByteArray) (w : World) (h : RowE w A l c) (hn : l.length ≤ 100000) (hm : MonoN l s) :
    Calls Try.prog 79 #[.slice A l.length c, .string s, .func (.func 80) #[] #[]] w fun r w' => ∃ i b, r = .returned (.tuple #[.int .i64 ((i : Nat) : Int), .bool b]) ∧ PlaceAt l s i b ∧ Only (fun _ => False) w w' := by
  have eg : ∀ args w, (callFunc 80 args).run Try.prog w = .ok (.enter 80 args) w := enters_of Try.func80 (by kernel_rfl) rfl
  replace hm := Lib.hid hm
  go_enter Try.func79, Try.ntmps79
  go_wp2
  go_loopg [9, 10] l.length (fun kx s9 s10 wr => ∃ lo hi : Nat, s9 = .int .i64 lo ∧ s10 = .int .i64 hi ∧ lo ≤ hi ∧ hi ≤ l.length ∧ hi - lo ≤ kx ∧ Only (fun _ => False) w wr ∧
    Hid ((∀ t, t < lo → cmpN l t s < 0) ∧ (∀ t, hi ≤ t → t < l.length → 0 ≤ cmpN l t s)))
  case atStart => exact ⟨0, l.length, rfl, rfl, Nat.zero_le _, Nat.le_refl _, by omega, Only.refl _ _, Lib.hid ⟨fun t ht => absurd ht (Nat.not_lt_zero _), fun t h1 h2 => by omega⟩⟩
  case round =>
    obtain ⟨lo, hi, rfl, rfl, hlh, hin, hg, ho, I⟩ := hrel
    by_cases hlt : lo < hi
    · obtain ⟨x, hx⟩ : ∃ x, l[(lo + hi) / 2]? = some x := ⟨_, List.getElem?_eq_getElem (by omega)⟩
      have hcx := Lib.hid (cmpN_at hx s)
      obtain ⟨b, o, rfl, hb1, d0, d1, d2⟩ := (h.only ho (fun _ _ x => x)).lit hx
      have hc := cmp_any x s wr
      replace hx := Lib.hid hx
      by_cases hlt0 : Lib.compareBytes x.nm.data.toList s.data.toList < 0
      · go_wp2_with (go_at_fn 80; refine hc.mono ?_; rintro e w' ⟨rfl, ho2⟩)
        go_roundg (hi - ((lo + hi) / 2 + 1))
        case measure => omega
        case rel =>
          exact ⟨(lo + hi) / 2 + 1, hi, by rw [show ((lo : Int) + (hi : Int)) / 2 + 1 = (((lo + hi) / 2 + 1 : Nat) : Int) by omega], rfl, by omega, hin, Nat.le_refl _, ho.trans ho2, Lib.hid ⟨fun t ht => hm.out t ((lo + hi) / 2) (by omega) (by omega) (by rw [hcx.out]; exact hlt0), I.out.2⟩⟩
      · go_wp2_with (go_at_fn 80; refine hc.mono ?_; rintro e w' ⟨rfl, ho2⟩)
        go_roundg ((lo + hi) / 2 - lo)
        case measure => omega
        case rel =>
          exact ⟨lo, (lo + hi) / 2, rfl, by rw [show ((lo : Int) + (hi : Int)) / 2 = (((lo + hi) / 2 : Nat) : Int) by omega], by omega, by omega, Nat.le_refl _, ho.trans ho2, Lib.hid ⟨I.out.1, fun t ht htn => Int.not_lt.1 fun h => by have := hm.out ((lo + hi) / 2) t ht htn h; rw [hcx.out] at this; omega⟩⟩
    · obtain rfl : hi = lo := by omega
      by_cases hn2 : hi < l.length
      · obtain ⟨x, hx⟩ : ∃ x, l[hi]? = some x := ⟨_, List.getElem?_eq_getElem (by omega)⟩
        have hcx := Lib.hid (cmpN_at hx s)
        obtain ⟨b, o, rfl, hb1, d0, d1, d2⟩ := (h.only ho (fun _ _ x => x)).lit hx
        have hc := cmp_any x s wr
        replace hx := Lib.hid hx
        by_cases hyx : Lib.compareBytes x.nm.data.toList s.data.toList = 0
        · go_wp2_with (go_at_fn 80; refine hc.mono ?_; rintro e w' ⟨rfl, ho2⟩)
          go_ret2
          exact ⟨hi, true, rfl, ⟨hin, I.out.1, I.out.2, by rw [hcx.out, hyx]; simp [hn2]⟩, ho.trans ho2⟩
        · go_wp2_with (go_at_fn 80; refine hc.mono ?_; rintro e w' ⟨rfl, ho2⟩)
          go_ret2
          exact ⟨hi, _, rfl, ⟨hin, I.out.1, I.out.2, by rw [hcx.out]; simp [hyx, hn2]⟩, ho.trans ho2⟩
      · go_wp2
        go_ret2
        exact ⟨hi, false, rfl, ⟨hin, I.out.1, I.out.2, by simp [hn2]⟩, ho⟩

set_option maxRecDepth 10000 in
set_option maxHeartbeats 2000000 in
theorem place_any (l : List Ent) (A : Option Addr) (c : Nat) (s : ByteArray) (w : World) (h : RowE w A l c) (hn : l.length ≤ 100000) (hm : MonoN l s) :
    Calls Try.prog 59 #[.slice A l.length c, .string s] w fun r w' => ∃ i b, r = .returned (.tuple #[.int .i64 ((i : Nat) : Int), .bool b]) ∧ PlaceAt l s i b ∧ Only (fun _ => False) w w' := by
  go_enter Try.func59, Try.ntmps59
  go_wp2_with fail
  refine (search_any l A c s w h hn hm).mono ?_
  rintro r w' ⟨i, b, rfl, hp, ho⟩
  replace hp := Lib.hid hp
  go_wp2
  go_ret2
  exact ⟨i, b, rfl, hp.out, ho⟩
set_option maxRecDepth 10000 in
set_option maxHeartbeats 2000000 in
theorem find_any (l : List Ent) (A : Option Addr) (c : Nat) (s : ByteArray) (w : World) (h : RowE w A l c) (hn : l.length ≤ 100000) (hm : MonoN l s) :
    Calls Try.prog 32 #[.slice A l.length c, .string s] w fun r w' => ∃ i b, PlaceAt l s i b ∧ r = .returned (.tuple #[.agg ((if b then l[i]? else none).getD noEnt).cells.toArray, .bool b]) ∧ Only (fun _ => False) w w' := by
  have ho0 := (Only.refl (fun _ => False) w).alloc (.cells #[.string ⟨#[]⟩, .int .u16 0, .int .u8 0] 63)
  have hb0 := Blk.new w 63 #[.string ⟨#[]⟩, .int .u16 0, .int .u8 0]
  go_enter Try.func32, Try.ntmps32
  go_wp2_with fail
  generalize w.alloc _ = w2 at *
  generalize hg0 : w.heap.size = g at *
  refine (place_any l A c s w2 (h.only ho0 (fun _ _ x => x)) hn hm).mono ?_
  rintro r w' ⟨i, b, rfl, hp, ho⟩
  have ho1 := ho0.trans ho
  have hb1 := hb0.only ho (fun x => x)
  have q0 := hb1.cell 0
  have q1 := hb1.cell 1
  have q2 := hb1.cell 2
  have f0 := hb1.frozen 0
  have f1 := hb1.frozen 1
  have f2 := hb1.frozen 2
  simp only [List.getElem?_toArray, List.getElem?_cons_zero, List.getElem?_cons_succ] at q0 q1 q2
  have hgw := Nat.le_of_eq hg0
  cases b with
  | true =>
    have hil : i < l.length := by
      have := hp.2.2.2
      simp at this
      exact this.1
    obtain ⟨x, hx⟩ : ∃ x, l[i]? = some x := ⟨_, List.getElem?_eq_getElem hil⟩
    obtain ⟨b, o, rfl, hb2, d0, d1, d2⟩ := (h.only ho1 (fun _ _ x => x)).lit hx
    have i0 : (0 : Int) ≤ (i : Int) := by omega
    have i1 : (i : Int) < (l.length : Int) := by omega
    have hb3 := Lib.hid (hb1.set3 (x' := .string x.nm) (y' := .int .u16 x.num) (z' := .int .u8 x.kind))
    have hon := Lib.hid (ho1.set3 (g := g) hgw (.string x.nm) (.int .u16 x.num) (.int .u8 x.kind))
    replace hx := Lib.hid hx
    replace hp := Lib.hid hp
    clear hb0 ho0 hb1 ho1 ho
    go_wp2
    refine bodyPost_ret (res32 _ _ g _ _ _ _ rfl rfl hb3.out) rfl ?_
    exact ⟨i, true, hp.out, by rw [if_pos rfl, hx.out]; rfl, hon.out⟩
  | false =>
    have hb3 := Lib.hid (hb1.set3 (x' := .string ⟨#[]⟩) (y' := .int .u16 0) (z' := .int .u8 0))
    have hon := Lib.hid (ho1.set3 (g := g) hgw (.string ⟨#[]⟩) (.int .u16 0) (.int .u8 0))
    replace hp := Lib.hid hp
    clear hb0 ho0 hb1 ho1 ho
    go_wp2
    refine bodyPost_ret (res32 _ _ g _ _ _ _ rfl rfl hb3.out) rfl ?_
    exact ⟨i, false, hp.out, rfl, hon.out⟩
end Go.Proofs.Ytnclappdokhciaa
