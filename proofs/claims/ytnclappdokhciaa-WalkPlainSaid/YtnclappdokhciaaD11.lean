/-
  dir.rows (func 69); order of names; dir.Drop, the reference's Drop (func 41, 42).
-/
import Derived.Test.YtnclappdokhciaaD10
import Derived.IntWalk
namespace Go.Proofs.Ytnclappdokhciaa
open Go Go.RowKit
set_option linter.unusedVariables false
set_option maxRecDepth 10000 in
set_option maxHeartbeats 2000000 in
theorem rows_any (ps : List Part) (q : Nat) (w : World) (hq : Blk w q 59 (ps.map Part.v).toArray) (hp : ∀ p ∈ ps, p.ok w 3) (htot : tot ps ≤ 100000) (hps : ps.length ≤ 1000) :
    Calls Try.prog 69 #[.slice (some ⟨q, 0, none⟩) ps.length ps.length] w fun r w' => ∃ v, r = .returned v ∧ w'.ownsRow w.heap.size 63 3 v (tot ps) (cat ps) ∧ Only (fun _ => False) w w' := by
  have hC := Lib.hid (concat_87 ps q w hq hp htot hps)
  clear hq hp
  go_enter Try.func69, Try.ntmps69
  go_wp2_with fail
  refine hC.out.mono ?_
  rintro r w1 ⟨v, rfl, h1, h2⟩
  go_wp2
  go_ret
  exact ⟨v, rfl, h1, h2⟩
/-- Names rise. -/
def Rise (l : List Ent) : Prop := ∀ (a b : Nat) (x y : Ent), a < b → l[a]? = some x → l[b]? = some y → Lib.compareBytes x.nm.data.toList y.nm.data.toList < 0
theorem rise_of {l : List Ent} (h : areS l = true) : Rise l := by
  obtain ⟨_, hok⟩ := are_ok h
  intro a b
  induction b with
  | zero => intro x y h; omega
  | succ b ih =>
    intro x y hab hx hy
    have h1 := hok (b + 1) y hy
    unfold okAt at h1
    obtain ⟨z, hz⟩ : ∃ z, l[b]? = some z := ⟨_, List.getElem?_eq_getElem (by have := (List.getElem?_eq_some_iff.1 hy).1; omega)⟩
    have h2 : Lib.compareBytes z.nm.data.toList y.nm.data.toList < 0 := by
      simp only [Nat.add_sub_cancel, hz, Option.map_some, Option.getD_some, Bool.and_eq_true, Bool.or_eq_true, decide_eq_true_eq] at h1
      have h3 := h1.2.resolve_left (by omega)
      unfold lessB at h3
      rw [less_cmp] at h3
      have := of_decide_eq_true h3
      rwa [ByteArray.toList_eq, ByteArray.toList_eq] at this
    by_cases hab2 : a = b
    · subst hab2
      rw [hz] at hx; cases hx
      exact h2
    · exact cmp_trans _ _ _ (ih x z (by omega) hx hz) (Int.le_of_lt h2)
theorem mono_of {l : List Ent} (h : Rise l) (s : ByteArray) : MonoN l s := by
  intro a b hab hb hlt
  obtain ⟨y, hy⟩ : ∃ z, l[b]? = some z := ⟨_, List.getElem?_eq_getElem hb⟩
  obtain ⟨x, hx⟩ : ∃ z, l[a]? = some z := ⟨_, List.getElem?_eq_getElem (by omega)⟩
  rw [cmpN_at hy] at hlt
  rw [cmpN_at hx]
  by_cases hab2 : a = b
  · subst hab2
    rw [hx] at hy; cases hy
    exact hlt
  · exact cmp_trans _ _ _ (h a b x y (by omega) hx hy) (Int.le_of_lt hlt)
/-- A part that is entries. -/
def epart (A : Option Addr) (l : List Ent) (c : Nat) : Part := ⟨A, l.length, c, ents l⟩
theorem epart_ok {w : World} {A : Option Addr} {l : List Ent} {c : Nat} (h : RowE w A l c) : (epart A l c).ok w 3 := ⟨h.1, h.2.1, h.2.2, ents_one l⟩
theorem RowE.take {w : World} {A : Option Addr} {l : List Ent} {c i : Nat} (h : RowE w A l c) (hi : i ≤ l.length) : RowE w A (l.take i) c := by
  have hl : (l.take i).length = i := by rw [List.length_take]; omega
  have hc := h.2.1
  refine ⟨?_, by omega, fun e => ?_⟩
  · rw [hl, ← ents_take]; exact h.1.take (by omega)
  · have := h.2.2 e; omega
theorem RowE.drop {w : World} {b o : Nat} {l : List Ent} {c i : Nat} (h : RowE w (some ⟨b, o, none⟩) l c) (hi : i ≤ l.length) : RowE w (if c = i then some ⟨b, o, none⟩ else some ⟨b, o + i * 3, none⟩) (l.drop i) (c - i) := by
  have hl : (l.drop i).length = l.length - i := List.length_drop
  have hc := h.2.1
  refine ⟨?_, by omega, fun e => ?_⟩
  · rw [hl, ← ents_drop, show (l.length - i) * 3 = l.length * 3 - i * 3 by omega]
    have := h.1.drop (k := i * 3) (cap := c * 3) (by omega) (by omega)
    simp only [Option.map_some, add_lit] at this
    by_cases hci : c = i
    · rw [if_pos (by omega)] at this; rw [if_pos hci]; exact this
    · rw [if_neg (by omega)] at this; rw [if_neg hci]; exact this
  · split at e <;> cases e
theorem cmp_swap : ∀ (a b : List UInt8), Lib.compareBytes a b = - Lib.compareBytes b a
  | [], [] => rfl
  | [], _ :: _ => rfl
  | _ :: _, [] => rfl
  | a :: x, b :: y => by
    unfold Lib.compareBytes
    by_cases h : a < b
    · have h2 : ¬ b < a := fun h' => absurd (UInt8.lt_trans h h') (UInt8.lt_irrefl a)
      simp [h, h2]
    · by_cases h2 : b < a
      · simp [h, h2]
      · simp [h, h2, cmp_swap x y]
def dropL (l : List Ent) (s : ByteArray) : List Ent := l.filter fun e => !(e.nm.toList == s.toList)
def dropS (l : List Ent) (s : ByteArray) : List Ent × Int := if (findE l s).isSome = true then (dropL l s, 0) else ([], 20)
def insE : List Ent → Ent → List Ent
  | [], e => [e]
  | x :: r, e => if lessB e.nm x.nm = true then e :: x :: r else x :: insE r e
theorem nm_eq {a b : ByteArray} : (a.toList == b.toList) = decide (Lib.compareBytes a.data.toList b.data.toList = 0) := by
  rw [ByteArray.toList_eq, ByteArray.toList_eq, Bool.eq_iff_iff]
  simp [cmp_zero]
theorem place_true {l : List Ent} {s : ByteArray} {i : Nat} (hR : Rise l) (hP : PlaceAt l s i true) : ∃ x, l[i]? = some x ∧ findE l s = some x ∧ dropL l s = l.take i ++ l.drop (i + 1) := by
  obtain ⟨h1, h2, h3, h4⟩ := hP
  have h4' := h4.symm
  rw [Bool.and_eq_true] at h4'
  have hil : i < l.length := of_decide_eq_true h4'.1
  have h0 : cmpN l i s = 0 := of_decide_eq_true h4'.2
  obtain ⟨x, hx⟩ : ∃ z, l[i]? = some z := ⟨_, List.getElem?_eq_getElem hil⟩
  rw [cmpN_at hx] at h0
  have hxe := List.getElem?_eq_some_iff.1 hx
  refine ⟨x, hx, ?_, ?_⟩
  · unfold findE
    rw [List.find?_eq_some_iff_getElem]
    refine ⟨by rw [nm_eq]; exact decide_eq_true h0, i, hil, hxe.2, fun j hj => ?_⟩
    have hc := h2 j hj
    have hxj : l[j]? = some l[j] := List.getElem?_eq_getElem (by omega)
    rw [cmpN_at hxj] at hc
    rw [nm_eq]
    simp only [Bool.not_eq_true', decide_eq_false_iff_not]
    omega
  · have hsp : l = l.take i ++ x :: l.drop (i + 1) := by
      rw [← hxe.2, ← List.drop_eq_getElem_cons hil, List.take_append_drop]
    unfold dropL
    conv => lhs; rw [hsp]
    rw [List.filter_append, List.filter_cons]
    have hx0 : (!(x.nm.toList == s.toList)) = false := by rw [nm_eq, decide_eq_true h0]; rfl
    rw [hx0]
    simp only [Bool.false_eq_true, if_false]
    congr 1
    · rw [List.filter_eq_self]
      intro y hy
      obtain ⟨j, hj⟩ := List.getElem?_of_mem hy
      rw [List.getElem?_take] at hj
      split at hj
      · rename_i hji
        have hc := h2 j hji
        rw [cmpN_at hj] at hc
        rw [nm_eq]
        simp only [Bool.not_eq_true', decide_eq_false_iff_not]
        omega
      · cases hj
    · rw [List.filter_eq_self]
      intro y hy
      obtain ⟨j, hj⟩ := List.getElem?_of_mem hy
      rw [List.getElem?_drop] at hj
      have hc := hR i (i + 1 + j) x y (by omega) hx hj
      have he := (cmp_zero _ _).1 h0
      rw [he] at hc
      rw [nm_eq]
      simp only [Bool.not_eq_true', decide_eq_false_iff_not]
      intro e0
      rw [cmp_swap] at hc
      omega
theorem place_false {l : List Ent} {s : ByteArray} {i : Nat} (hR : Rise l) (hP : PlaceAt l s i false) : findE l s = none ∧ (∀ t y, t < i → l[t]? = some y → lessB s y.nm = false) ∧ (∀ y, l[i]? = some y → lessB s y.nm = true) := by
  obtain ⟨h1, h2, h3, h4⟩ := hP
  have h5 : ∀ y, l[i]? = some y → 0 < Lib.compareBytes y.nm.data.toList s.data.toList := fun y hy => by
    have hil := (List.getElem?_eq_some_iff.1 hy).1
    have ha := h3 i (Nat.le_refl _) hil
    rw [cmpN_at hy] at ha
    have hb : ¬ Lib.compareBytes y.nm.data.toList s.data.toList = 0 := fun e => by
      rw [cmpN_at hy, e] at h4
      simp [hil] at h4
    omega
  have hless : ∀ y : Ent, lessB s y.nm = decide (0 < Lib.compareBytes y.nm.data.toList s.data.toList) := fun y => by
    unfold lessB
    rw [less_cmp, ByteArray.toList_eq, ByteArray.toList_eq, cmp_swap, Bool.eq_iff_iff]
    simp
  refine ⟨?_, fun t y ht hy => ?_, fun y hy => ?_⟩
  · unfold findE
    rw [List.find?_eq_none]
    intro y hy
    obtain ⟨j, hj⟩ := List.getElem?_of_mem hy
    rw [nm_eq]
    simp only [decide_eq_true_eq]
    rcases Nat.lt_trichotomy j i with h | h | h
    · have := h2 j h
      rw [cmpN_at hj] at this
      omega
    · subst h
      have := h5 y hj
      omega
    · obtain ⟨z, hz⟩ : ∃ z, l[i]? = some z := ⟨_, List.getElem?_eq_getElem (by have := (List.getElem?_eq_some_iff.1 hj).1; omega)⟩
      have ha := h5 z hz
      have hb := hR i j z y h hz hj
      intro e0
      rw [(cmp_zero _ _).1 e0] at hb
      omega
  · have := h2 t ht
    rw [cmpN_at hy] at this
    rw [hless]
    simp only [decide_eq_false_iff_not]
    omega
  · rw [hless]
    exact decide_eq_true (h5 y hy)
theorem ins_at : ∀ (l : List Ent) (e : Ent) (i : Nat), i ≤ l.length → (∀ t y, t < i → l[t]? = some y → lessB e.nm y.nm = false) → (∀ y, l[i]? = some y → lessB e.nm y.nm = true) → insE l e = l.take i ++ [e] ++ l.drop i
  | [], e, i, hi, _, _ => by
    obtain rfl : i = 0 := by simpa using hi
    rfl
  | x :: r, e, 0, _, _, h2 => by
    unfold insE
    rw [if_pos (h2 x rfl)]; rfl
  | x :: r, e, i + 1, hi, h1, h2 => by
    unfold insE
    rw [if_neg (by rw [h1 0 x (by omega) rfl]; decide), ins_at r e i (by simpa using hi) (fun t y ht hy => h1 (t + 1) y (by omega) (by simpa using hy)) (fun y hy => h2 y (by simpa using hy))]
    simp
set_option maxRecDepth 10000 in
set_option maxHeartbeats 2000000 in
theorem drop_any (l : List Ent) (A : Option Addr) (c : Nat) (s : ByteArray) (w : World) (h : RowE w A l c) (hn : l.length ≤ 64) (hR : Rise l) :
    Calls Try.prog 41 #[.slice A l.length c, .string s] w fun r w' => ∃ A' c', r = .returned (.tuple #[.slice A' (dropS l s).1.length c', .int .i64 (dropS l s).2]) ∧ RowE w' A' (dropS l s).1 c' ∧ Only (fun _ => False) w w' := by
  go_enter Try.func41, Try.ntmps41
  go_wp2_with fail
  refine (place_any l A c s w h (by omega) (mono_of hR s)).mono ?_
  rintro r w1 ⟨i, b, rfl, hP, ho1⟩
  have h1 := h.only ho1 (fun _ _ x => x)
  cases b with
  | false =>
    have hd : dropS l s = ([], 20) := by unfold dropS; rw [(place_false hR hP).1]; rfl
    clear hP
    replace hd := Lib.hid hd
    go_wp2
    go_ret2
    exact ⟨none, 0, by rw [hd.out]; rfl, by rw [hd.out]; exact RowE.nil _, ho1⟩
  | true =>
    have hd : dropS l s = (l.take i ++ l.drop (i + 1), 0) := by
      obtain ⟨x, _, h1, h2⟩ := place_true hR hP
      unfold dropS; rw [h1, h2]; rfl
    have hil : i < l.length := by have := hP.2.2.2; simp at this; exact this.1
    obtain ⟨x, hx⟩ : ∃ z, l[i]? = some z := ⟨_, List.getElem?_eq_getElem hil⟩
    obtain ⟨b, o, rfl, _, _⟩ := h1.lit hx
    have hc := h1.2.1
    have i0 : (0 : Int) ≤ (i : Int) := by omega
    have i1 : (i : Int) < (l.length : Int) := by omega
    have hic : ¬ c = i := by omega
    have hl1 : i ≤ c := by omega
    have hl2 : (i : Int) + 1 ≤ (l.length : Int) := by omega
    clear hP
    replace hx := Lib.hid hx
    have hlen : (l.take i ++ l.drop (i + 1)).length = min i l.length + (l.length - (i + 1)) := by rw [List.length_append, List.length_take, List.length_drop]
    replace hlen := Lib.hid hlen
    replace hd := Lib.hid hd
    go_wp2_with fail
    have hw1 : IntKind.i64.wrap ((i : Int) + 1) = (i : Int) + 1 := IntWalk.i64_in _ (by omega)
    have hw2 : (0 : Int) ≤ (i : Int) + 1 := by omega
    have hw3 : ((i : Int) + 1).toNat = i + 1 := by omega
    have h2 := h1.take (i := i) (by omega)
    have h3 := h1.drop (i := i + 1) (by omega)
    refine wp_region_noPanic ?_
    refine wp_region_E 10 (fun _ => True) (by kernel_rfl) ?_
    refine E_take (v := ?v0) 0 rfl (by kernel_rfl) (by kernel_rfl) (by kernel_rfl) (by kernel_rfl) (by kernel_rfl) (by kernel_rfl) (fun _ _ _ h => h) rfl trivial ?vh0 ?_
    case vh0 => intro W hW; have _ := hW; go_simp; try with_reducible rfl
    simp only [Act.put, List.setIfInBounds_toArray, List.set_cons_zero, List.set_cons_succ]
    refine E_take (v := ?v1) 1 rfl (by kernel_rfl) (by kernel_rfl) (by kernel_rfl) (by kernel_rfl) (by kernel_rfl) (by kernel_rfl) (fun _ _ _ h => h) rfl trivial ?vh1 ?_
    case vh1 => intro W hW; have _ := hW; go_simp; try with_reducible rfl
    simp only [Act.put, List.setIfInBounds_toArray, List.set_cons_zero, List.set_cons_succ]
    refine E_take (v := ?v2) 2 rfl (by kernel_rfl) (by kernel_rfl) (by kernel_rfl) (by kernel_rfl) (by kernel_rfl) (by kernel_rfl) (fun _ _ _ h => h) rfl trivial ?vh2 ?_
    case vh2 => intro W hW; have _ := hW; go_simp; try with_reducible rfl
    simp only [Act.put, List.setIfInBounds_toArray, List.set_cons_zero, List.set_cons_succ]
    refine E_take (v := ?v3) 3 rfl (by kernel_rfl) (by kernel_rfl) (by kernel_rfl) (by kernel_rfl) (by kernel_rfl) (by kernel_rfl) (fun _ _ _ h => h) rfl trivial ?vh3 ?_
    case vh3 => intro W hW; have _ := hW; go_simp; try with_reducible rfl
    simp only [Act.put, List.setIfInBounds_toArray, List.set_cons_zero, List.set_cons_succ]
    refine E_take (v := ?v4) 4 rfl (by kernel_rfl) (by kernel_rfl) (by kernel_rfl) (by kernel_rfl) (by kernel_rfl) (by kernel_rfl) (fun _ _ _ h => h) rfl trivial ?vh4 ?_
    case vh4 => intro W hW; have _ := hW; go_simp; try with_reducible rfl
    simp only [Act.put, List.setIfInBounds_toArray, List.set_cons_zero, List.set_cons_succ]
    refine E_take (v := ?v5) 5 rfl (by kernel_rfl) (by kernel_rfl) (by kernel_rfl) (by kernel_rfl) (by kernel_rfl) (by kernel_rfl) (fun _ _ _ h => h) rfl trivial ?vh5 ?_
    case vh5 => intro W hW; have _ := hW; go_simp; try with_reducible rfl
    simp only [Act.put, List.setIfInBounds_toArray, List.set_cons_zero, List.set_cons_succ]
    refine E_take (v := ?v6) 6 rfl (by kernel_rfl) (by kernel_rfl) (by kernel_rfl) (by kernel_rfl) (by kernel_rfl) (by kernel_rfl) (fun _ _ _ h => h) rfl trivial ?vh6 ?_
    case vh6 => intro W hW; have _ := hW; go_simp; try with_reducible rfl
    simp only [Act.put, List.setIfInBounds_toArray, List.set_cons_zero, List.set_cons_succ]
    generalize (if c = i + 1 then some (⟨b, o, none⟩ : Addr) else some ⟨b, o + (i + 1) * 3, none⟩) = A2 at *
    have oa := (Only.refl (fun _ => False) w1).drew.alloc (.cells #[.slice (some ⟨b, o, none⟩) i c, .slice A2 (l.length - (i + 1)) (c - (i + 1))] 59)
    have hq : Blk (w1.drew.alloc (.cells #[.slice (some ⟨b, o, none⟩) i c, .slice A2 (l.length - (i + 1)) (c - (i + 1))] 59)) w1.drew.heap.size 59 (([epart (some ⟨b, o, none⟩) (l.take i) c, epart A2 (l.drop (i + 1)) (c - (i + 1))].map Part.v).toArray) := by
      have hb := Blk.new w1.drew 59 #[.slice (some ⟨b, o, none⟩) i c, .slice A2 (l.length - (i + 1)) (c - (i + 1))]
      have e1 : (l.take i).length = i := by rw [List.length_take]; omega
      simp only [epart, Part.v, List.map_cons, List.map_nil, e1, List.length_drop]
      exact hb
    have hC := rows_any [epart (some ⟨b, o, none⟩) (l.take i) c, epart A2 (l.drop (i + 1)) (c - (i + 1))] w1.drew.heap.size _ hq (fun p hp => by
      simp only [List.mem_cons, List.not_mem_nil, or_false] at hp
      rcases hp with rfl | rfl
      · exact epart_ok (h2.only oa (fun _ _ x => x))
      · exact epart_ok (h3.only oa (fun _ _ x => x))) (by simp only [tot, epart, List.map_cons, List.map_nil, List.sum_cons, List.sum_nil, List.length_take, List.length_drop]; omega) (by simp)
    have hcat : cat [epart (some ⟨b, o, none⟩) (l.take i) c, epart A2 (l.drop (i + 1)) (c - (i + 1))] = ents (l.take i ++ l.drop (i + 1)) := by
      simp [cat, epart, ents_app]
    rw [hcat] at hC
    replace hC := Lib.hid hC
    have ho2 := Lib.hid (ho1.trans oa)
    clear hq hcat oa h2 h3
    refine E_one 7 (by kernel_rfl) rfl (fun K hK => ?_)
    go_simp
    refine hK.out _ _ (fun _ => trivial) ?_
    clear hK K
    try simp only [Act.put, List.setIfInBounds_toArray, List.set_cons_zero, List.set_cons_succ]
    refine E_one 8 (by kernel_rfl) rfl (fun K hK => ?_)
    go_simp
    refine hC.out.mono ?_
    rintro r w2 ⟨v, rfl, hown, ho3⟩
    refine hK.out _ _ (fun _ => trivial) ?_
    clear hK K
    try simp only [Act.put, List.setIfInBounds_toArray, List.set_cons_zero, List.set_cons_succ]
    obtain ⟨hn4, A4, c4, rfl, hr4⟩ := rowE_of hown
    rw [hn4] at hown ⊢
    have ho4 := Lib.hid (ho2.out.trans ho3)
    clear hn4 hown ho3
    refine E_one 9 (by kernel_rfl) rfl (fun K hK => ?_)
    go_simp
    refine hK.out _ _ (fun _ => trivial) ?_
    clear hK K
    try simp only [Act.put, List.setIfInBounds_toArray, List.set_cons_zero, List.set_cons_succ]
    refine E_one 10 (by kernel_rfl) rfl (fun K hK => ?_)
    go_simp
    refine hK.out _ _ (fun h => absurd h (by decide)) ?_
    clear hK K
    try simp only [Act.put, List.setIfInBounds_toArray, List.set_cons_zero, List.set_cons_succ]
    refine E_done (by kernel_rfl) (NoPanic.normal ?_)
    go_wp2
    go_ret2
    exact ⟨A4, c4, by rw [hd.out]; simp only []; rw [hlen.out]; rfl, by rw [hd.out]; exact hr4, ho4.out⟩
theorem dropL_snoc (l : List Ent) (s : ByteArray) (i : Nat) (x : Ent) (hx : l[i]? = some x) : dropL (l.take (i + 1)) s = dropL (l.take i) s ++ (if x.nm.toList = s.toList then [] else [x]) := by
  rw [takeE_snoc l i x hx]
  unfold dropL
  rw [List.filter_append]
  congr 1
  by_cases h : x.nm.toList = s.toList
  · simp [h]
  · simp [h]
/-- Entries of the call's own, that grow. -/
def PE (e : TypeId) (w1 : World) (l : List Ent) (v : Value) (W : World) : Prop := W.ownsRow w1.heap.size e 3 v l.length (ents l) ∧ Only (fun _ => False) w1 W
theorem PE.nil (e : TypeId) (w1 : World) : PE e w1 [] (.slice none 0 0) w1 := ⟨World.ownsRow_nil _ _ _ _, Only.refl _ _⟩
theorem PE.row {e : TypeId} {w1 W : World} {l : List Ent} {v : Value} (h : PE e w1 l v W) : ∃ A c, v = .slice A l.length c ∧ RowE W A l c := (rowE_of h.1).2
theorem PE.next {e : TypeId} {w1 W W' : World} {l : List Ent} {v : Value} (h : PE e w1 l v W) (ho : Only (fun _ => False) W W') : PE e w1 l v W' := ⟨row_only h.1 ho (fun _ _ x => x), h.2.trans ho⟩
theorem PE.one {t e : TypeId} (hty : EntTy t e) {w1 W W2 : World} {l : List Ent} {v : Value} (h : PE e w1 l v W) (hW : Only (fun _ => False) W W2) (hn : l.length ≤ 100000) (q : Nat) (x : Ent) (hq : Blk W2 q e #[.string x.nm, .int .u16 x.num, .int .u8 x.kind]) :
    ∃ A9 c9 w', (Builtin.append_ #[t, t] t #[v, .slice (some ⟨q, 0, none⟩) 1 1]).run Try.prog W2 = .ok (.slice A9 (l.length + 1) c9) w' ∧ PE e w1 (l ++ [x]) (.slice A9 (l.length + 1) c9) w' := by
  obtain ⟨A9, c9, w', h1, h2, h3⟩ := app_ent hty h.1 hW h.2.size hn x hq
  refine ⟨A9, c9, w', h1, by rw [List.length_append]; exact h2, h.2.trans_of h3 (fun k hk e => ?_)⟩
  have := (row_lt h.1 k e).1
  omega
set_option maxRecDepth 10000 in
set_option maxHeartbeats 4000000 in
theorem dropR_any (l : List Ent) (A : Option Addr) (c : Nat) (s : ByteArray) (w : World) (h : RowE w A l c) (hn : l.length ≤ 64) :
    Calls Try.prog 42 #[.slice A l.length c, .string s] w fun r w' => ∃ A' c', r = .returned (.tuple #[.slice A' (dropS l s).1.length c', .int .i64 (dropS l s).2]) ∧ RowE w' A' (dropS l s).1 c' ∧ Only (fun _ => False) w w' := by
  go_enter Try.func42, Try.ntmps42
  go_wp2_with fail
  refine (findR_any l A c s w h (by omega)).mono ?_
  rintro r w1 ⟨rfl, ho1⟩
  have hb1 := Blk.new w1 79 #[.string ((findE l s).getD noEnt).nm, .int .u16 ((findE l s).getD noEnt).num, .int .u8 ((findE l s).getD noEnt).kind]
  simp only [Ent.cells]
  by_cases hf : (findE l s).isSome = true
  · have hd : dropS l s = (dropL l s, 0) := by unfold dropS; rw [if_pos hf]
    rw [hf]
    clear hb1
    generalize (findE l s).getD noEnt = e0 at *
    replace hd := Lib.hid hd
    clear hf
    go_wp2
    have ho2 := ho1.alloc (.cells #[.string e0.nm, .int .u16 e0.num, .int .u8 e0.kind] 79)
    generalize w1.alloc _ = w2 at *
    have h2 := h.only ho2 (fun _ _ x => x)
    clear ho1
    go_loopw [8, 9] (fun s8 s9 wr => ∃ i : Nat, s9 = .int .i64 i ∧ i ≤ l.length ∧ PE 79 w2 (dropL (l.take i) s) s8 wr) (fun _ s9 _ => l.length - (intOf s9).toNat)
    case atStart => exact ⟨0, rfl, by omega, PE.nil _ _⟩
    case round =>
      obtain ⟨i, rfl, hi, hp⟩ := hrel
      by_cases hlt : i < l.length
      · obtain ⟨x, hx⟩ : ∃ x, l[i]? = some x := ⟨_, List.getElem?_eq_getElem hlt⟩
        obtain ⟨b, o, rfl, hb1, d0, d1, d2⟩ := (h2.only hp.2 (fun _ _ x => x)).lit hx
        have i0 : (0 : Int) ≤ (i : Int) := by omega
        have i1 : (i : Int) < (l.length : Int) := by omega
        have hsn := dropL_snoc l s i x hx
        replace hx := Lib.hid hx
        by_cases he : x.nm.toList = s.toList
        · have heb : (x.nm.toList == s.toList) = true := by rw [he]; simp
          have heb2 : (x.nm.toList != s.toList) = false := by rw [he]; simp
          rw [if_pos he, List.append_nil] at hsn
          rw [← hsn] at hp
          clear hsn he
          go_wp2
          go_roundw
          case rel => exact ⟨i + 1, by go_num, by omega, hp⟩
          case measure => simp [intOf]; omega
        · have heb : (x.nm.toList == s.toList) = false := by simpa using he
          have heb2 : (x.nm.toList != s.toList) = true := by simpa using he
          rw [if_neg he] at hsn
          have hq := Blk.new wr 79 #[.string x.nm, .int .u16 x.num, .int .u8 x.kind]
          have hdl : (dropL (l.take i) s).length ≤ l.length := Nat.le_trans (List.length_filter_le _ _) (by rw [List.length_take]; omega)
          obtain ⟨A9, c9, w', hap, hp2⟩ := hp.one ty66 ((Only.refl (fun _ => False) wr).alloc _) (by omega) wr.heap.size x hq
          rw [← hsn] at hp2
          clear hsn he hq hdl hp
          go_wp2_with (at_builtin; refine wpList_append_eq1 rfl (.tmp 31) (.tmp 36) 66 rfl _ _ _ w' (by simp [Act.eval]) (by simp [Act.eval]) hap ?_)
          go_roundw
          case rel => exact ⟨i + 1, by go_num, by omega, hp2⟩
          case measure => simp [intOf]; omega
      · obtain rfl : i = l.length := by omega
        rw [List.take_length] at hp
        obtain ⟨A9, c9, rfl, hr9⟩ := hp.row
        have ho3 := ho2.trans hp.2
        clear hp
        go_wp2
        go_ret2
        exact ⟨A9, c9, by rw [hd.out]; rfl, by rw [hd.out]; exact hr9, ho3⟩
  · have hd : dropS l s = ([], 20) := by unfold dropS; rw [if_neg hf]
    replace hf : (findE l s).isSome = false := by simpa using hf
    rw [hf]
    replace hd := Lib.hid hd
    clear hf
    generalize (findE l s).getD noEnt = e0 at *
    go_wp2
    go_ret2
    exact ⟨none, 0, by rw [hd.out]; rfl, by rw [hd.out]; exact RowE.nil _, ho1.alloc _⟩
end Go.Proofs.Ytnclappdokhciaa
