/-
  The walk's steps, as plain laws; what Walk keeps from round to round.
-/
import Derived.Test.YtnclappdokhciaaK5
namespace Go.Proofs.Ytnclappdokhciaa
open Go Go.RowKit
set_option linter.unusedVariables false
section
variable {ts : List Thg} {follow : Bool} {f : Nat} {pl : List Nat} {part : ByteArray} {rest : List ByteArray} {must : Bool} {links : Nat} {x : Ent}
theorem goes_nil : goesF ts follow (f + 1) pl [] must links = (⟨0, ⟨#[]⟩, lastU pl, 2, must, pl⟩, 0) := rfl
theorem goes_dots (hd : part.toList = [46, 46]) : goesF ts follow (f + 1) pl (part :: rest) must links = goesF ts follow f (pl.take (max 1 (pl.length - 1))) rest must links := by
  rw [goesF, if_pos hd]
theorem goes_err (hd : ¬ part.toList = [46, 46]) (he : ¬ (entsS ts (lastU pl)).2 = 0) : goesF ts follow (f + 1) pl (part :: rest) must links = (noF, (entsS ts (lastU pl)).2) := by
  rw [goesF, if_neg hd, if_pos he]
theorem goes_none (hd : ¬ part.toList = [46, 46]) (he : (entsS ts (lastU pl)).2 = 0) (hf : findE (entsS ts (lastU pl)).1 part = none) :
    goesF ts follow (f + 1) pl (part :: rest) must links = if rest ≠ [] then (noF, 20) else (⟨lastU pl, part, 0, 0, must, pl⟩, 0) := by
  rw [goesF, if_neg hd, if_neg (fun h => h he), hf]
theorem goes_some (hd : ¬ part.toList = [46, 46]) (he : (entsS ts (lastU pl)).2 = 0) (hf : findE (entsS ts (lastU pl)).1 part = some x) :
    goesF ts follow (f + 1) pl (part :: rest) must links = if x.kind = 3 ∧ (rest ≠ [] ∨ must = true ∨ follow = true) then
          (if linkS ts x.num links ≠ 0 then (noF, linkS ts x.num links)
          else goesF ts follow f (if (split (targS ts x.num).1).ab = true then [1] else pl) ((split (targS ts x.num).1).parts ++ rest) (must || (rest.isEmpty && (split (targS ts x.num).1).sl)) (links + 1))
        else if x.kind ≠ 2 ∧ (rest ≠ [] ∨ must = true) then (noF, 24)
        else if rest = [] then (⟨lastU pl, part, x.num, x.kind, must, pl⟩, 0)
        else goesF ts follow f (pl ++ [x.num]) rest must links := by
  rw [goesF, if_neg hd, if_neg (fun h => h he), hf]
  simp only
  split
  · unfold linkS
    by_cases h8 : 8 ≤ links
    · rw [if_pos h8, if_pos h8, if_pos (by decide)]
    · rw [if_neg h8, if_neg h8]
      by_cases h2 : (targS ts x.num).2 ≠ 0
      · rw [if_pos h2, if_pos h2, if_pos h2]
      · rw [if_neg h2, if_neg h2]
  · rfl
end
theorem link_ok {ts : List Thg} {num links : Nat} (h : linkS ts num links = 0) : links < 8 := by
  unfold linkS at h
  by_cases h8 : 8 ≤ links
  · rw [if_pos h8] at h; cases h
  · omega
theorem Reads.apartS {w w' : World} {S : Nat → Prop} {N n : Nat} {A : Option Addr} {xs : List Value} (h : Reads w N A n xs) (hN : N ≤ w.heap.size) (hS : ∀ g, S g → ∃ t cs, Blk w g t cs ∧ ∀ u, xs[0]? = some u → ∃ (j : Nat) (v : Value), xs[j]? = some v ∧ ∀ i : Nat, cs[i]? ≠ some v) (ho : Only S w w') : Reads w' N A n xs := by
  refine ⟨h.1, fun hn => ?_⟩
  obtain ⟨b, o, e, hlt, hc⟩ := h.2 hn
  refine ⟨b, o, e, hlt, fun j u hu => ?_⟩
  have hne : ¬ S b := fun hs => by
    obtain ⟨t, cs, hb, hx⟩ := hS b hs
    have h0 : 0 < xs.length := by rw [h.1]; exact hn
    obtain ⟨k, v, hk, hv⟩ := hx _ (List.getElem?_eq_getElem h0)
    have h1 := hc k v hk
    rw [hb.cell] at h1
    exact hv _ h1
  exact (Blk.cell_only ho (a := ⟨b, o + j, none⟩) (Nat.lt_of_lt_of_le hlt hN) hne).trans (hc j u hu)
theorem RowE.apartS {w w' : World} {S : Nat → Prop} {A : Option Addr} {l : List Ent} {c : Nat} (h : RowE w A l c) (hS : ∀ g, S g → ∃ t cs, Blk w g t cs ∧ ∀ (i : Nat) (s : ByteArray), cs[i]? ≠ some (Value.string s)) (ho : Only S w w') : RowE w' A l c := by
  refine ⟨(Reads.apartS h.1 (Nat.le_refl _) (fun g hg => ?_) ho).more ho.size, h.2⟩
  obtain ⟨t, cs, hb, hs⟩ := hS g hg
  refine ⟨t, cs, hb, fun u hu => ?_⟩
  cases l with
  | nil => cases hu
  | cons x r => exact ⟨0, _, rfl, fun i => hs i _⟩
theorem RowT.apartS {w w' : World} {S : Nat → Prop} {A : Option Addr} {l : List Thg} {c : Nat} (h : RowT w A l c) (hS : ∀ g, S g → ∃ t cs, Blk w g t cs ∧ ∀ (i : Nat) (s : ByteArray), cs[i]? ≠ some (Value.string s)) (ho : Only S w w') : RowT w' A l c := by
  refine ⟨(Reads.apartS h.reads (Nat.le_refl _) (fun g hg => ?_) ho).more ho.size, h.cap, fun t ht => (h.rows t ht).apartS hS ho⟩
  obtain ⟨t, cs, hb, hs⟩ := hS g hg
  refine ⟨t, cs, hb, fun u hu => ?_⟩
  cases l with
  | nil => cases hu
  | cons x r => exact ⟨1, .string x.tg, rfl, fun i => hs i _⟩
theorem toy_str (A : Option Addr) (n c : Nat) (k : Int) (i : Nat) (s : ByteArray) : (#[Value.slice A n c, .int .i64 k] : Array Value)[i]? ≠ some (.string s) := by
  match i with
  | 0 => simp
  | 1 => simp
  | i + 2 => simp
/-- What a walk leaves to be told: where all lies. -/
structure WInv (ts : List Thg) (A : Option Addr) (c g lk gc gw gf : Nat) (w0 W : World) (pl : List Nat) (ps : List ByteArray) (must : Bool) (links : Nat) (Ap : Option Addr) (cp : Nat) (Aq : Option Addr) (cq : Nat) : Prop where
  bc : Blk W gc 102 #[.pointer (some ⟨gw, 0, none⟩)]
  bw : Blk W gw 104 #[.iface 42 (.pointer (some ⟨g, 0, none⟩)), .slice Ap pl.length cp, .slice Aq ps.length cq, .bool must, .int .i64 links]
  bf : Blk W gf 49 #[.int .u16 0, .string ⟨#[]⟩, .int .u16 0, .int .u8 0, .bool false, .slice none 0 0]
  bg : Blk W g 45 #[.slice A ts.length c, .int .i64 ((lk + links : Nat) : Int)]
  rt : RowT W A ts c
  rp : RowU W Ap pl cp
  rq : RowS W Aq ps cq
  p0 : 0 < pl.length
  p1 : ∀ n ∈ pl, 1 ≤ n ∧ n < 65536
  p2 : pl.length + todo ps links ≤ 9900
  l8 : links ≤ 8
  ho : Only (fun k => k = g) w0 W
  nw : w0.heap.size ≤ gc ∧ w0.heap.size ≤ gw ∧ w0.heap.size ≤ gf
section
variable {ts : List Thg} {A : Option Addr} {c g lk gc gw gf : Nat} {w0 W W' : World} {pl : List Nat} {ps : List ByteArray} {must : Bool} {links : Nat} {Ap : Option Addr} {cp : Nat} {Aq : Option Addr} {cq : Nat}
theorem WInv.only (h : WInv ts A c g lk gc gw gf w0 W pl ps must links Ap cp Aq cq) (ho : Only (fun _ => False) W W') : WInv ts A c g lk gc gw gf w0 W' pl ps must links Ap cp Aq cq where
  bc := h.bc.only ho (fun x => x)
  bw := h.bw.only ho (fun x => x)
  bf := h.bf.only ho (fun x => x)
  bg := h.bg.only ho (fun x => x)
  rt := h.rt.only ho (fun _ _ x => x)
  rp := h.rp.only ho (fun _ _ x => x)
  rq := h.rq.only ho (fun _ _ _ x => x)
  p0 := h.p0
  p1 := h.p1
  p2 := h.p2
  l8 := h.l8
  ho := h.ho.trans ho.weak
  nw := h.nw
theorem todo_le (ps : List ByteArray) (links : Nat) : ps.length ≤ todo ps links := by unfold todo; omega
theorem lastU_mem {l : List Nat} (h : 0 < l.length) : lastU l ∈ l := by
  obtain ⟨m, hm⟩ : ∃ m, l.length = m + 1 := ⟨l.length - 1, by omega⟩
  exact List.mem_of_getElem? (lastU_at hm)
/-- No string, no u16 among a walker's cells. -/
theorem wk_str (x : Value) (n1 c1 n2 c2 : Nat) (A1 A2 : Option Addr) (m : Bool) (k : Int) (i : Nat) (s : ByteArray) : (#[Value.iface 42 x, .slice A1 n1 c1, .slice A2 n2 c2, .bool m, .int .i64 k] : Array Value)[i]? ≠ some (.string s) := by
  match i with
  | 0 => simp
  | 1 => simp
  | 2 => simp
  | 3 => simp
  | 4 => simp
  | i + 5 => simp
theorem wk_u16 (x : Value) (n1 c1 n2 c2 : Nat) (A1 A2 : Option Addr) (m : Bool) (k : Int) (i : Nat) (n : Int) : (#[Value.iface 42 x, .slice A1 n1 c1, .slice A2 n2 c2, .bool m, .int .i64 k] : Array Value)[i]? ≠ some (.int .u16 n) := by
  match i with
  | 0 => simp
  | 1 => simp
  | 2 => simp
  | 3 => simp
  | 4 => simp
  | i + 5 => simp
/-- The walker's parts turn. -/
theorem WInv.setq (h : WInv ts A c g lk gc gw gf w0 W pl ps must links Ap cp Aq cq) {ps' : List ByteArray} {Aq' : Option Addr} {cq' : Nat} (hq : RowS W Aq' ps' cq') (hl : todo ps' links ≤ todo ps links) :
    WInv ts A c g lk gc gw gf w0 (W.setCell ⟨gw, 2, none⟩ (.slice Aq' ps'.length cq')) pl ps' must links Ap cp Aq' cq' := by
  have os := (Only.refl (fun k => k = gw) W).setCell (p := ⟨gw, 2, none⟩) (.inl rfl) (.slice Aq' ps'.length cq')
  have hs := h.bw.set_ 2 (.slice Aq' ps'.length cq')
  simp only [List.setIfInBounds_toArray, List.set_cons_zero, List.set_cons_succ] at hs
  exact ⟨h.bc.only os (h.bc.ne h.bw (by decide)), hs, h.bf.only os (h.bf.ne h.bw (by decide)), h.bg.only os (h.bg.ne h.bw (by decide)), h.rt.apart h.bw (wk_str _ _ _ _ _ _ _ _ _) os, h.rp.apart h.bw (wk_u16 _ _ _ _ _ _ _ _ _) os, hq.apart h.bw (wk_str _ _ _ _ _ _ _ _ _) os, h.p0, h.p1, by have := h.p2; omega, h.l8, h.ho.trans_of os (fun k hk e => by have := h.nw.2.1; omega), h.nw⟩
/-- The walker's place turns. -/
theorem WInv.setp (h : WInv ts A c g lk gc gw gf w0 W pl ps must links Ap cp Aq cq) {pl' : List Nat} {Ap' : Option Addr} {cp' : Nat} (hp : RowU W Ap' pl' cp') (h0 : 0 < pl'.length) (h1 : ∀ n ∈ pl', 1 ≤ n ∧ n < 65536) (hl : pl'.length + todo ps links ≤ 9900) :
    WInv ts A c g lk gc gw gf w0 (W.setCell ⟨gw, 1, none⟩ (.slice Ap' pl'.length cp')) pl' ps must links Ap' cp' Aq cq := by
  have os := (Only.refl (fun k => k = gw) W).setCell (p := ⟨gw, 1, none⟩) (.inl rfl) (.slice Ap' pl'.length cp')
  have hs := h.bw.set_ 1 (.slice Ap' pl'.length cp')
  simp only [List.setIfInBounds_toArray, List.set_cons_zero, List.set_cons_succ] at hs
  exact ⟨h.bc.only os (h.bc.ne h.bw (by decide)), hs, h.bf.only os (h.bf.ne h.bw (by decide)), h.bg.only os (h.bg.ne h.bw (by decide)), h.rt.apart h.bw (wk_str _ _ _ _ _ _ _ _ _) os, hp.apart h.bw (wk_u16 _ _ _ _ _ _ _ _ _) os, h.rq.apart h.bw (wk_str _ _ _ _ _ _ _ _ _) os, h0, h1, hl, h.l8, h.ho.trans_of os (fun k hk e => by have := h.nw.2.1; omega), h.nw⟩
end
/-- A link has been gone through. -/
theorem WInv.link {ts : List Thg} {A : Option Addr} {c g lk gc gw gf num : Nat} {w0 W W' : World} {pl : List Nat} {ps : List ByteArray} {must : Bool} {links : Nat} {Ap : Option Addr} {cp : Nat} {Aq : Option Addr} {cq : Nat}
    (h : WInv ts A c g lk gc gw gf w0 W pl ps must links Ap cp Aq cq) (hG : Good ts) {r : Ending} (hL : LinkPost ts A c g gw num links (lk + links) pl ps must W r W') (h0 : linkS ts num links = 0) :
    ∃ Ap' cp' Aq' cq', WInv ts A c g lk gc gw gf w0 W' (if (split (targS ts num).1).ab = true then [1] else pl) ((split (targS ts num).1).parts ++ ps) (must || (ps.isEmpty && (split (targS ts num).1).sl)) (links + 1) Ap' cp' Aq' cq' := by
  obtain ⟨d, _, _, hbg, ho, _, hn⟩ := hL
  obtain ⟨rfl, Ap', cp', Aq', cq', hbw, hp, hq⟩ := hn h0
  have hl := link_ok h0
  have h1 := split_len (targS ts num).1
  have h2 := targ_good hG num
  have h3 := h.p2
  have h4 := h.p0
  have hpl : (if (split (targS ts num).1).ab = true then [1] else pl).length ≤ pl.length ∧ 0 < (if (split (targS ts num).1).ab = true then [1] else pl).length := by split <;> simp <;> omega
  have hoz := h.ho.trans_of ho (fun k hk e => by rcases e with e | e; exact e; have := h.nw.2.1; omega)
  have hc1 := h.bc.ne h.bw (by decide)
  have hc2 := h.bc.ne h.bg (by decide)
  have hf1 := h.bf.ne h.bw (by decide)
  have hf2 := h.bf.ne h.bg (by decide)
  refine ⟨Ap', cp', Aq', cq', h.bc.only ho (fun e => e.elim hc2 hc1), hbw, h.bf.only ho (fun e => e.elim hf2 hf1), hbg, h.rt.apartS (fun k hk => ?_) ho, hp, hq, hpl.2, fun n hn => ?_, ?_, by omega, hoz, h.nw⟩
  · rcases hk with rfl | rfl
    · exact ⟨45, _, h.bg, toy_str _ _ _ _⟩
    · exact ⟨104, _, h.bw, wk_str _ _ _ _ _ _ _ _ _⟩
  · split at hn
    · simp at hn; omega
    · exact h.p1 n hn
  · unfold todo at h3 ⊢
    rw [List.length_append]
    omega
/-- What Walk tells. -/
def Fnd.cells (F : Fnd) (Au : Option Addr) (cu : Nat) : Array Value := #[.int .u16 F.dir, .string F.name, .int .u16 F.num, .int .u8 F.kind, .bool F.must, .slice Au F.up.length cu]
def WalkPost (ts : List Thg) (A : Option Addr) (c g lk : Nat) (R : Fnd × Int) (w : World) (r : Ending) (w' : World) : Prop :=
  ∃ d Au cu, d ≤ 8 ∧ r = .returned (.tuple #[.agg (R.1.cells Au cu), .int .i64 R.2]) ∧ RowU w' Au R.1.up cu ∧ Blk w' g 45 #[.slice A ts.length c, .int .i64 ((lk + d : Nat) : Int)] ∧ Only (fun k => k = g) w w'
theorem res27 (tm : Array Value) (W : World) (g : Nat) (cs : Array Value) (hcs : cs.size = 6) (e : Int) (h2 : tm.getD 6 undef = .pointer (some ⟨g, 0, none⟩)) (h3 : tm.getD 7 undef = .int .i64 e) (hb : Blk W g 49 cs) :
    (results Try.f27 tm).run Try.prog W = .ok (.tuple #[.agg cs, .int .i64 e]) W := by
  have hl := run_loadVar_row (P := Try.prog) W g 49 49 cs (0, 0) _ hb Try.underlying49 rfl (by rw [hcs]; kernel_rfl)
  unfold results
  rw [Try.results27]
  simp only [List.mapM_toArray, List.mapM_cons, List.mapM_nil, h2, h3]
  simp [asAddr, hl]
end Go.Proofs.Ytnclappdokhciaa
