/-
  dir.Take, the reference's Take (func 38, 39).
-/
import Derived.Test.YtnclappdokhciaaD12
import Derived.WalkMore
import Derived.Deep.LoopGhost
namespace Go.Proofs.Ytnclappdokhciaa
open Go Go.RowKit
set_option linter.unusedVariables false
/-- A reader that has not failed, with what is left; or one that has. -/
def RS (w : World) (g : Nat) : Option (List UInt8) → Prop
  | some l => Rdr w g l 0 ∧ l.length ≤ 100000
  | none => Bad w g
def rawF (n : Nat) : Option (List UInt8) → Option (List UInt8) × List UInt8
  | some l => if n ≤ l.length then (some (l.drop n), l.take n) else (none, [])
  | none => (none, [])
def u8F : Option (List UInt8) → Option (List UInt8) × Nat
  | some (x :: l) => (some l, x.toNat)
  | _ => (none, 0)
def u16F : Option (List UInt8) → Option (List UInt8) × Nat
  | some (x :: y :: l) => (some l, x.toNat + 256 * y.toNat)
  | _ => (none, 0)
theorem raw_any (n g : Nat) (o : Option (List UInt8)) (w : World) (h : RS w g o) (hn : n ≤ 100000) :
    Calls Try.prog 67 #[.pointer (some ⟨g, 0, none⟩), .int .i64 n] w fun r w' => ∃ A c, r = .returned (.slice A (rawF n o).2.length c) ∧ RowB w' A (rawF n o).2 c ∧ RS w' g (rawF n o).1 ∧ Only (fun k => k = g) w w' := by
  cases o with
  | none =>
    refine (raw_fails n g w (.inl h) hn).mono ?_
    rintro r w' ⟨rfl, h1, h2⟩
    exact ⟨none, 0, rfl, RowB.nil _, h1, h2⟩
  | some l =>
    by_cases hl : n ≤ l.length
    · refine (raw_ok l n g w h.1 hl h.2).mono ?_
      rintro r w' ⟨A, c, rfl, h1, h2, h3⟩
      have e : rawF n (some l) = (some (l.drop n), l.take n) := by simp only [rawF, if_pos hl]
      rw [e]
      have e2 : (l.take n).length = n := by rw [List.length_take]; omega
      exact ⟨A, c, by rw [e2], h1, ⟨h2, by have := h.2; rw [List.length_drop]; omega⟩, h3⟩
    · refine (raw_fails n g w (.inr ⟨l, h.1, by omega⟩) hn).mono ?_
      rintro r w' ⟨rfl, h1, h2⟩
      have e : rawF n (some l) = (none, []) := by simp only [rawF, if_neg hl]
      rw [e]
      exact ⟨none, 0, rfl, RowB.nil _, h1, h2⟩
theorem u8_any (g : Nat) (o : Option (List UInt8)) (w : World) (h : RS w g o) :
    Calls Try.prog 66 #[.pointer (some ⟨g, 0, none⟩)] w fun r w' => r = .returned (.int .u8 (u8F o).2) ∧ RS w' g (u8F o).1 ∧ Only (fun k => k = g) w w' := by
  match o, h with
  | none, h => exact (u8_fails g w (.inl h)).mono fun _ _ h => h
  | some [], h => exact (u8_fails g w (.inr ⟨[], h.1, by simp⟩)).mono fun _ _ h => h
  | some (x :: l), h =>
    refine (u8_ok x l g w h.1 h.2).mono ?_
    rintro r w' ⟨rfl, h1, h2⟩
    exact ⟨rfl, ⟨h1, by have := h.2; rw [List.length_cons] at this; omega⟩, h2⟩
theorem u16_reads (g : Nat) (o : Option (List UInt8)) (w : World) (h : RS w g o) :
    Calls Try.prog 68 #[.pointer (some ⟨g, 0, none⟩)] w fun r w' => r = .returned (.int .u16 (u16F o).2) ∧ RS w' g (u16F o).1 ∧ Only (fun k => k = g) w w' := by
  match o, h with
  | none, h => exact (u16_fails g w (.inl h)).mono fun _ _ h => h
  | some [], h => exact (u16_fails g w (.inr ⟨[], h.1, by simp⟩)).mono fun _ _ h => h
  | some [x], h => exact (u16_fails g w (.inr ⟨[x], h.1, by simp⟩)).mono fun _ _ h => h
  | some (x :: y :: l), h =>
    refine (u16_ok x y l g w h.1 h.2).mono ?_
    rintro r w' ⟨rfl, h1, h2⟩
    exact ⟨rfl, ⟨h1, by have := h.2; simp only [List.length_cons] at this; omega⟩, h2⟩
/-- One entry is read. -/
def entF (l : List UInt8) : Option (List UInt8) × Ent :=
  let a := u8F (some l)
  let b := rawF a.2 a.1
  let c := u16F b.1
  let d := u8F c.1
  (d.1, ⟨⟨b.2.toArray⟩, c.2, d.2⟩)
def takeRaw : Nat → List UInt8 → Option (List Ent)
  | 0, _ => some []
  | f + 1, l => if l = [] then some [] else match (entF l).1 with
    | some r => (takeRaw f r).map ((entF l).2 :: ·)
    | none => none
def takeS (b : List UInt8) : List Ent × Int := match takeRaw b.length b with
  | some l => if areS l = true then (l, 0) else ([], 5)
  | none => ([], 5)
theorem rawF_len (n : Nat) (o : Option (List UInt8)) (k : Nat) (h : ∀ l, o = some l → l.length ≤ k) : ∀ l, (rawF n o).1 = some l → l.length ≤ k := fun l hl => by
  cases o with
  | none => cases hl
  | some m =>
    simp only [rawF] at hl
    split at hl
    · cases hl; have := h m rfl; rw [List.length_drop]; omega
    · cases hl
theorem u8F_len (o : Option (List UInt8)) (k : Nat) (h : ∀ l, o = some l → l.length ≤ k) : ∀ l, (u8F o).1 = some l → l.length + 1 ≤ k := fun l hl => by
  match o, h, hl with
  | some (x :: m), h, hl => cases hl; have := h _ rfl; simpa using this
theorem u16F_len (o : Option (List UInt8)) (k : Nat) (h : ∀ l, o = some l → l.length ≤ k) : ∀ l, (u16F o).1 = some l → l.length + 2 ≤ k := fun l hl => by
  match o, h, hl with
  | some (x :: y :: m), h, hl => cases hl; have := h _ rfl; simpa using this
theorem entF_len (l r : List UInt8) (h : (entF l).1 = some r) : r.length + 4 ≤ l.length := by
  have h0 : ∀ r, (u8F (some l)).1 = some r → r.length ≤ l.length - 1 := fun r hr => by have := u8F_len (some l) l.length (fun m hm => by cases hm; exact Nat.le_refl _) r hr; omega
  have h00 : ∀ r, (u8F (some l)).1 = some r → 1 ≤ l.length := fun r hr => by have := u8F_len (some l) l.length (fun m hm => by cases hm; exact Nat.le_refl _) r hr; omega
  have h1 := rawF_len (u8F (some l)).2 _ _ h0
  have h2 : ∀ r, (u16F (rawF (u8F (some l)).2 (u8F (some l)).1).1).1 = some r → r.length + 2 ≤ l.length - 1 := u16F_len _ _ h1
  have h3 := u8F_len _ (l.length - 1 - 2) (fun r hr => by have := h2 r hr; omega) r h
  omega
theorem PE.block {e : TypeId} {w1 W : World} {l : List Ent} {v : Value} (h : PE e w1 l v W) {k : Nat} (hk : v.ownBlock = some k) : ∃ cs, Blk W k e cs := by
  rcases h.1.2 with ⟨h1, _⟩ | ⟨g', cap, cur, h1, _, hh, _⟩
  · subst h1; cases hk
  · subst h1; cases hk; exact ⟨cur, hh⟩
theorem RS.far {w w' : World} {g : Nat} {o : Option (List UInt8)} {S : Nat → Prop} (h : RS w g o) (ho : Only S w w') (hS : ∀ k, S k → ∃ cs, Blk w k 63 cs) : RS w' g o := by
  cases o with
  | none =>
    obtain ⟨l, e, h, he⟩ := h
    exact ⟨l, e, h.far ho hS, he⟩
  | some l => exact ⟨h.1.far ho hS, h.2⟩
theorem RS.blk {w : World} {g : Nat} {o : Option (List UInt8)} (h : RS w g o) : ∃ cs, Blk w g 146 cs := by
  cases o with
  | none => obtain ⟨l, e, ⟨A, c, hb, _⟩, _⟩ := h; exact ⟨_, hb⟩
  | some l => obtain ⟨⟨A, c, hb, _⟩, _⟩ := h; exact ⟨_, hb⟩
theorem PE.read {w1 W W' : World} {l : List Ent} {v : Value} {g : Nat} (h : PE 63 w1 l v W) (hb : ∃ cs, Blk W g 146 cs) (hg : w1.heap.size ≤ g) (ho : Only (fun k => k = g) W W') : PE 63 w1 l v W' := by
  refine ⟨⟨h.1.1, ?_⟩, h.2.trans_of ho (fun k hk e => by omega)⟩
  rcases h.1.2 with hn | ⟨g', cap, cur, h1, h2, hh, h3⟩
  · exact .inl hn
  · refine .inr ⟨g', cap, cur, h1, h2, ?_, h3⟩
    have hb' : Blk W g' 63 cur := hh
    refine hb'.only ho (fun e => ?_)
    subst e
    obtain ⟨cs, hb⟩ := hb
    exact absurd (hb.one hb') (by decide)
theorem PE.away {e : TypeId} {w1 W W' : World} {l : List Ent} {v : Value} {S : Nat → Prop} (h : PE e w1 l v W) (ho : Only S W W') (hS : ∀ k, k < w1.heap.size → ¬ S k) (hv : ∀ k, v.ownBlock = some k → ¬ S k) : PE e w1 l v W' := by
  refine ⟨⟨h.1.1, ?_⟩, h.2.trans_of ho (fun k hk e => absurd e (hS k hk))⟩
  rcases h.1.2 with hn | ⟨g', cap, cur, h1, h2, hh, h3⟩
  · exact .inl hn
  · refine .inr ⟨g', cap, cur, h1, h2, ?_, h3⟩
    have hb' : Blk W g' e cur := hh
    exact hb'.only ho (hv g' (by rw [h1]; rfl))
theorem RS.only {w w' : World} {g : Nat} {o : Option (List UInt8)} (h : RS w g o) (ho : Only (fun _ => False) w w') : RS w' g o := h.far ho (fun _ h => h.elim)
theorem u8F_lt (o : Option (List UInt8)) : (u8F o).2 < 256 := by
  unfold u8F
  split
  · rename_i x _; exact x.toNat_lt
  · decide
theorem u16F_lt (o : Option (List UInt8)) : (u16F o).2 < 65536 := by
  unfold u16F
  split
  · rename_i x y _; have := x.toNat_lt; have := y.toNat_lt; simp only; omega
  · decide
theorem rawF_le (n : Nat) (o : Option (List UInt8)) : (rawF n o).2.length ≤ n := by
  unfold rawF
  split
  · split
    · exact List.length_take_le _ _
    · exact Nat.zero_le _
  · exact Nat.zero_le _
theorem PE.oneS {t e : TypeId} (hty : EntTy t e) {w1 W W2 : World} {l : List Ent} {v : Value} (h : PE e w1 l v W) (hW : Only (fun _ => False) W W2) (hn : l.length ≤ 100000) (q : Nat) (x : Ent) (hq : Blk W2 q e #[.string x.nm, .int .u16 x.num, .int .u8 x.kind]) :
    ∃ A9 c9 w', (Builtin.append_ #[t, t] t #[v, .slice (some ⟨q, 0, none⟩) 1 1]).run Try.prog W2 = .ok (.slice A9 (l.length + 1) c9) w' ∧ PE e w1 (l ++ [x]) (.slice A9 (l.length + 1) c9) w' ∧ Only (fun k => v.ownBlock = some k) W2 w' := by
  obtain ⟨A9, c9, w', h1, h2, h3⟩ := app_ent hty (row_only h.1 hW (fun _ _ x => x)) (Only.refl _ _) (Nat.le_trans h.2.size hW.size) hn x hq
  refine ⟨A9, c9, w', h1, ⟨by rw [List.length_append]; exact h2, (h.2.trans hW).trans_of h3 (fun k hk e => ?_)⟩, h3⟩
  have := (row_lt h.1 k e).1
  omega
theorem take_many {b l : List UInt8} {acc : List Ent} {f : Nat} (h : takeRaw b.length b = (takeRaw f l).map (acc ++ ·)) (ha : 64 < acc.length) : takeS b = ([], 5) := by
  unfold takeS
  rw [h]
  cases takeRaw f l with
  | none => rfl
  | some m =>
    simp only [Option.map_some]
    rw [if_neg]
    intro hA
    have := (are_ok hA).1
    rw [List.length_append] at this
    omega
theorem take_none {b : List UInt8} (h : takeRaw b.length b = none) : takeS b = ([], 5) := by unfold takeS; rw [h]
theorem take_end {b : List UInt8} {acc : List Ent} {f : Nat} (h : takeRaw b.length b = (takeRaw f []).map (acc ++ ·)) : takeS b = if areS acc = true then (acc, 0) else ([], 5) := by
  have e : takeRaw f [] = some [] := by cases f <;> rfl
  unfold takeS
  rw [h, e]
  simp
def TkR (b : List UInt8) (acc : List Ent) (kx : Nat) : Option (List UInt8) → Prop
  | some l => l.length + 1 ≤ kx ∧ ∃ f, l.length ≤ f ∧ takeRaw b.length b = (takeRaw f l).map (acc ++ ·)
  | none => takeRaw b.length b = none
theorem take_step {b l : List UInt8} {acc : List Ent} {kx : Nat} (h : TkR b acc kx (some l)) (hl : l ≠ []) : TkR b (acc ++ [(entF l).2]) (kx - 1) (entF l).1 := by
  obtain ⟨hk, f, hf, h⟩ := h
  have hp : 0 < l.length := List.length_pos_iff.2 hl
  obtain ⟨f, rfl⟩ : ∃ k, f = k + 1 := ⟨f - 1, by omega⟩
  have hlen := entF_len l
  rw [takeRaw, if_neg hl] at h
  cases he : (entF l).1 with
  | none => rw [he] at h; simpa [TkR] using h
  | some r =>
    rw [he] at h
    have h4 := hlen r he
    refine ⟨by omega, f, by omega, ?_⟩
    rw [h]
    simp only [Option.map_map]
    congr 1
    funext x
    simp
set_option maxRecDepth 10000 in
set_option maxHeartbeats 4000000 in
theorem takeD_any (b : List UInt8) (A : Option Addr) (c : Nat) (w : World) (h : RowB w A b c) (hl : b.length ≤ 4000) :
    Calls Try.prog 38 #[.slice A b.length c] w fun r w' => ∃ A' c', r = .returned (.tuple #[.slice A' (takeS b).1.length c', .int .i64 (takeS b).2]) ∧ RowE w' A' (takeS b).1 c' ∧ Only (fun _ => False) w w' := by
  go_enter Try.func38, Try.ntmps38
  go_wp2
  go_step3
  go_wp2_with fail
  refine (new_any b A c w h (by omega)).mono ?_
  rintro r w1 ⟨g, rfl, hr1, hg, ho1⟩
  have hS1 : RS w1 g (some b) := ⟨hr1, by omega⟩
  have hP1 : PE 63 w [] (.slice none 0 0) w1 := ⟨World.ownsRow_nil _ _ _ _, ho1⟩
  clear hr1
  go_wp2
  go_step3
  go_wp2
  go_loopg [5] (b.length + 2) (fun kx s5 wr => ∃ (acc : List Ent) (o : Option (List UInt8)), RS wr g o ∧ PE 63 w acc s5 wr ∧ acc.length ≤ 65 ∧ (∀ e ∈ acc, e.nm.size ≤ 1000000) ∧ TkR b acc kx o)
  case atStart => exact ⟨[], some b, hS1, hP1, by simp, by simp, by omega, b.length, Nat.le_refl _, by simp⟩
  case round =>
    obtain ⟨acc, o, hS, hP, hacc, hsz, hm⟩ := hrel
    replace hsz := Lib.hid hsz
    cases o with
    | none =>
      have hd := Lib.hid (take_none hm)
      obtain ⟨l0, e0, hr0, he⟩ := hS
      have ho9 := hP.2
      have heb : (e0 == 0) = false := beq_false_of_ne he
      have heb2 : (e0 != 0) = true := by rw [bne, heb]; rfl
      clear hm hP hS1 hP1
      go_wp2_with fail
      refine (err_any l0 g e0 wr hr0).mono ?_
      rintro r w' ⟨rfl, rfl⟩
      clear hr0 he
      go_wp2
      try rw [Exit.noGoto_ret]
      go_ret2
      exact ⟨none, 0, by rw [hd.out]; rfl, by rw [hd.out]; exact RowE.nil _, ho9⟩
    | some l =>
      have hm0 := hm
      obtain ⟨hk, f, hf, hT⟩ := hm
      replace hm0 := Lib.hid hm0
      replace hT := Lib.hid hT
      obtain ⟨hr, hll⟩ := hS
      obtain ⟨A5, c5, rfl, hrow⟩ := hP.row
      by_cases h64 : 64 < acc.length
      · have hd := Lib.hid (take_many hT.out h64)
        have ho9 := hP.2
        have i64 : (64 : Int) < (acc.length : Int) := by omega
        clear hT hP hS1 hP1 hrow
        go_wp2_with fail
        refine (err_any l g 0 wr hr).mono ?_
        rintro r w' ⟨rfl, rfl⟩
        go_wp2
        try rw [Exit.noGoto_ret]
        go_ret2
        exact ⟨none, 0, by rw [hd.out]; rfl, by rw [hd.out]; exact RowE.nil _, ho9⟩
      · have i64 : ¬ (64 : Int) < (acc.length : Int) := by omega
        by_cases hl0 : l = []
        · subst hl0
          have hd := Lib.hid (take_end hT.out)
          have ho9 := hP.2
          clear hT hP hS1 hP1 h64
          go_wp2_with fail
          refine (err_any [] g 0 wr hr).mono ?_
          rintro r w' ⟨rfl, rfl⟩
          go_wp2_with fail
          refine (left_any [] g 0 wr hr).mono ?_
          rintro r w' ⟨rfl, rfl⟩
          simp only [List.length_nil]
          go_wp2_with fail
          refine (are_any acc A5 c5 wr hrow (by omega) hsz.out).mono ?_
          rintro r w2 ⟨rfl, ho2⟩
          have ho10 := ho9.trans ho2
          have hrow2 := hrow.only ho2 (fun _ _ x => x)
          cases ha : areS acc with
          | true =>
            rw [ha, if_pos rfl] at hd
            clear ha
            go_wp2
            try rw [Exit.noGoto_ret]
            go_ret2
            exact ⟨A5, c5, by rw [hd.out]; rfl, by rw [hd.out]; exact hrow2, ho10⟩
          | false =>
            rw [ha, if_neg (by decide)] at hd
            clear ha
            go_wp2
            try rw [Exit.noGoto_ret]
            go_ret2
            exact ⟨none, 0, by rw [hd.out]; rfl, by rw [hd.out]; exact RowE.nil _, ho10⟩
        · have hst := Lib.hid (take_step hm0.out hl0)
          have hlp : 0 < l.length := List.length_pos_iff.2 hl0
          have lb0 : ((l.length : Int) == 0) = false := by have : ¬ (l.length : Int) = 0 := by omega
                                                           exact beq_false_of_ne this
          obtain ⟨o1, n1, e1⟩ : ∃ o n, u8F (some l) = (o, n) := ⟨_, _, rfl⟩
          obtain ⟨o2, n2, e2⟩ : ∃ o n, rawF n1 o1 = (o, n) := ⟨_, _, rfl⟩
          obtain ⟨o3, n3, e3⟩ : ∃ o n, u16F o2 = (o, n) := ⟨_, _, rfl⟩
          obtain ⟨o4, n4, e4⟩ : ∃ o n, u8F o3 = (o, n) := ⟨_, _, rfl⟩
          have hent : entF l = (o4, ⟨⟨n2.toArray⟩, n3, n4⟩) := by unfold entF; simp only [e1, e2, e3, e4]
          have b1 := u8F_lt (some l)
          have b2 := rawF_le n1 o1
          have b3 := u16F_lt o2
          have b4 := u8F_lt o3
          have c1 := fun W => u8_any g (some l) W
          have c2 := fun W h => raw_any n1 g o1 W h
          have c3 := fun W => u16_reads g o2 W
          have c4 := fun W => u8_any g o3 W
          rw [e1] at b1
          rw [e2] at b2
          rw [e3] at b3
          rw [e4] at b4
          simp only [e1] at c1
          simp only [e2] at c2
          simp only [e3] at c3
          simp only [e4] at c4
          simp only at b1 b2 b3 b4
          replace c1 := Lib.hid c1
          replace c2 := Lib.hid c2
          replace c3 := Lib.hid c3
          replace c4 := Lib.hid c4
          rw [hent] at hst
          replace hst := Lib.hid hst.out
          clear e1 e2 e3 e4 hent hT hS1 hP1 h64 hm0
          go_wp2_with fail
          refine (err_any l g 0 wr hr).mono ?_
          rintro r w' ⟨rfl, rfl⟩
          go_wp2_with fail
          refine (left_any l g 0 wr hr).mono ?_
          rintro r w' ⟨rfl, rfl⟩
          have oa := (Only.refl (fun _ => False) wr).alloc (.cells #[.string ⟨#[]⟩, .int .u16 0, .int .u8 0] 63)
          have hb6 := Blk.new wr 63 #[.string ⟨#[]⟩, .int .u16 0, .int .u8 0]
          have hS2 : RS (wr.alloc (.cells #[.string ⟨#[]⟩, .int .u16 0, .int .u8 0] 63)) g (some l) := RS.only ⟨hr, hll⟩ oa
          have hP2 := hP.next oa
          have hg6 : ∀ k, (Value.slice A5 acc.length c5).ownBlock = some k → k < wr.heap.size := fun k hk => (row_lt hP.1 k hk).2
          have hg7 : w.heap.size ≤ wr.heap.size := hP.2.size
          clear hr hP oa hrow
          go_wp2_with fail
          generalize wr.alloc _ = w2 at *
          generalize wr.heap.size = g6 at *
          refine (c1.out w2 hS2).mono ?_
          rintro r w3 ⟨rfl, hS3, ho3⟩
          have hne : ¬ g6 = g := fun e => by
            subst e
            obtain ⟨cs, hb⟩ := hS2.blk
            exact absurd (hb.one hb6) (by decide)
          have hP3 := hP2.read hS2.blk hg ho3
          have hb7 := hb6.only ho3 hne
          clear hb6 hS2 hP2 ho3
          go_wp2_with fail
          refine (c2.out w3 hS3 (by omega)).mono ?_
          rintro r w4 ⟨A6, c6, rfl, hr6, hS4, ho4⟩
          have hcv := hr6.str
          have hP4 := hP3.read hS3.blk hg ho4
          have hb8 := hb7.only ho4 hne
          clear hb7 hS3 hP3 ho4 hr6
          have q0 := hb8.cell 0
          have q1 := hb8.cell 1
          have q2 := hb8.cell 2
          have f0 := hb8.frozen 0
          have f1 := hb8.frozen 1
          have f2 := hb8.frozen 2
          simp only [List.getElem?_toArray, List.getElem?_cons_zero, List.getElem?_cons_succ] at q0 q1 q2
          have os0 := (Only.refl (fun k => k = g6) w4).setCell (p := ⟨g6, 0, none⟩) (.inl rfl) (.string ⟨n2.toArray⟩)
          have hb9 : Blk (w4.setCell ⟨g6, 0, none⟩ (.string ⟨n2.toArray⟩)) g6 63 #[.string ⟨n2.toArray⟩, .int .u16 0, .int .u8 0] := hb8.set_ 0 (.string ⟨n2.toArray⟩)
          have hS5 := hS4.far os0 (fun k e => by subst e; exact ⟨_, hb8⟩)
          have hP5 := hP4.away os0 (fun k hk e => by omega) (fun k hk e => by have := hg6 k hk; omega)
          clear os0 hS4 hP4
          clear hb8
          replace hb9 := Lib.hid hb9
          go_wp2_with fail
          clear q0 q1 q2 f0 f1 f2 hcv
          generalize w4.setCell _ _ = w5 at *
          replace hb9 := hb9.out
          refine (c3.out w5 hS5).mono ?_
          rintro r w6 ⟨rfl, hS6, ho6⟩
          have hP6 := hP5.read hS5.blk hg ho6
          have hb10 := hb9.only ho6 hne
          clear hb9 hS5 hP5 ho6
          have q0 := hb10.cell 0
          have q1 := hb10.cell 1
          have q2 := hb10.cell 2
          have f0 := hb10.frozen 0
          have f1 := hb10.frozen 1
          have f2 := hb10.frozen 2
          simp only [List.getElem?_toArray, List.getElem?_cons_zero, List.getElem?_cons_succ] at q0 q1 q2
          have os1 := (Only.refl (fun k => k = g6) w6).setCell (p := ⟨g6, 1, none⟩) (.inl rfl) (.int .u16 n3)
          have hb11 : Blk (w6.setCell ⟨g6, 1, none⟩ (.int .u16 n3)) g6 63 #[.string ⟨n2.toArray⟩, .int .u16 n3, .int .u8 0] := hb10.set_ 1 (.int .u16 n3)
          have hS7 := hS6.far os1 (fun k e => by subst e; exact ⟨_, hb10⟩)
          have hP7 := hP6.away os1 (fun k hk e => by omega) (fun k hk e => by have := hg6 k hk; omega)
          clear os1 hS6 hP6
          clear hb10
          replace hb11 := Lib.hid hb11
          go_wp2_with fail
          clear q0 q1 q2 f0 f1 f2
          generalize w6.setCell _ _ = w7 at *
          replace hb11 := hb11.out
          refine (c4.out w7 hS7).mono ?_
          rintro r w8 ⟨rfl, hS8, ho8⟩
          have hP8 := hP7.read hS7.blk hg ho8
          have hb12 := hb11.only ho8 hne
          clear hb11 hS7 hP7 ho8
          have q0 := hb12.cell 0
          have q1 := hb12.cell 1
          have q2 := hb12.cell 2
          have f0 := hb12.frozen 0
          have f1 := hb12.frozen 1
          have f2 := hb12.frozen 2
          simp only [List.getElem?_toArray, List.getElem?_cons_zero, List.getElem?_cons_succ] at q0 q1 q2
          have os2 := (Only.refl (fun k => k = g6) w8).setCell (p := ⟨g6, 2, none⟩) (.inl rfl) (.int .u8 n4)
          have hb13 : Blk (w8.setCell ⟨g6, 2, none⟩ (.int .u8 n4)) g6 63 #[.string ⟨n2.toArray⟩, .int .u16 n3, .int .u8 n4] := hb12.set_ 2 (.int .u8 n4)
          have hS9 := hS8.far os2 (fun k e => by subst e; exact ⟨_, hb12⟩)
          have hP9 := hP8.away os2 (fun k hk e => by omega) (fun k hk e => by have := hg6 k hk; omega)
          clear os2 hS8 hP8
          clear hb12
          replace hb13 := Lib.hid hb13
          have hx : Blk ((w8.setCell ⟨g6, 2, none⟩ (.int .u8 n4)).alloc (.cells #[.string ⟨n2.toArray⟩, .int .u16 n3, .int .u8 n4] 63)) (w8.setCell ⟨g6, 2, none⟩ (.int .u8 n4)).heap.size 63 #[.string ⟨n2.toArray⟩, .int .u16 n3, .int .u8 n4] := Blk.new _ _ _
          have ob := (Only.refl (fun _ => False) (w8.setCell ⟨g6, 2, none⟩ (.int .u8 n4))).alloc (.cells #[.string ⟨n2.toArray⟩, .int .u16 n3, .int .u8 n4] 63)
          have hS10 := hS9.only ob
          have hv63 : ∀ k, (Value.slice A5 acc.length c5).ownBlock = some k → ∃ cs, Blk ((w8.setCell ⟨g6, 2, none⟩ (.int .u8 n4)).alloc (.cells #[.string ⟨n2.toArray⟩, .int .u16 n3, .int .u8 n4] 63)) k 63 cs := fun k hk => by
            obtain ⟨cs, hb⟩ := hP9.block hk
            exact ⟨cs, hb.only ob (fun x => x)⟩
          obtain ⟨A9, c9, w10, hap, hP10, ho10⟩ := hP9.oneS ty59 ob (by omega) (w8.setCell ⟨g6, 2, none⟩ (.int .u8 n4)).heap.size ⟨⟨n2.toArray⟩, n3, n4⟩ hx
          have hS11 := hS10.far ho10 hv63
          have esz : (w8.setCell ⟨g6, 2, none⟩ (.int .u8 n4)).heap.size = w8.heap.size := by simp [World.setCell]
          rw [esz] at hap
          have hacc2 : (acc ++ [(⟨⟨n2.toArray⟩, n3, n4⟩ : Ent)]).length = acc.length + 1 := by rw [List.length_append]; rfl
          have hsz2 : Hid (∀ e ∈ acc ++ [(⟨⟨n2.toArray⟩, n3, n4⟩ : Ent)], e.nm.size ≤ 1000000) := Lib.hid (fun e he => by
            rcases List.mem_append.1 he with he | he
            · exact hsz.out e he
            · cases List.mem_singleton.1 he
              show n2.toArray.size ≤ 1000000
              simp only [List.size_toArray]; omega)
          replace hacc2 := Lib.hid hacc2
          clear hx ob hS10 hS9 hP9 hv63 ho10 esz hb13 c1 c2 c3 c4
          go_wp2_with (at_builtin; refine wpList_append_eq1 rfl (.tmp 37) (.tmp 39) 59 rfl _ _ _ w10 (by simp [Act.eval]) (by simp [Act.eval]) hap ?_)
          go_roundg (gk - 1)
          case measure => omega
          case rel => exact ⟨acc ++ [(⟨⟨n2.toArray⟩, n3, n4⟩ : Ent)], o4, hS11, hP10, by rw [hacc2.out]; omega, hsz2.out, hst.out⟩
end Go.Proofs.Ytnclappdokhciaa
