/-
  The law ContentAsks (func 3): what holds ahead of a round of its loops.
-/
import Derived.Test.YtpkadhgoaaphkaaAs0
import Derived.StillTailTactics
namespace Go.Proofs.Ytpkadhgoaaphkaa
open Go Go.RowKit Go.Shelf
set_option linter.unusedVariables false

theorem wp_loop_k {P : Program} {Q : Exit → Act → World → Prop} {a : Act} {w : World} {c : Code} (I : Act → World → Prop) (μ : Act → World → Nat) (h0 : I a w)
    (round : ∀ a w, I a w → ∀ K : Act → World → Prop, (∀ a' w', I a' w' ∧ μ a' w' < μ a w → K a' w') → c.wp P (Exit.then K Q) a w) : (Code.loop c).wp P Q a w :=
  wp_loop I μ h0 fun a w h => round a w h _ fun _ _ h => h
theorem tmps_lit (t : Array Value) (n : Nat) (h : t.size = n) : t = ((List.range n).map fun i => t.getD i undef).toArray := by
  subst h
  apply Array.ext_getElem?
  intro i
  by_cases hi : i < t.size
  · simp [hi]
  · simp [hi]
def firstLoop : Code → Option Code
  | .loop c => some c
  | .seq a b => match firstLoop a with
    | some c => some c
    | none => firstLoop b
  | .block _ c => firstLoop c
  | .scope c => firstLoop c
  | .cond _ a b => match firstLoop a with
    | some c => some c
    | none => firstLoop b
  | _ => none
def sndC : Code → Code
  | .seq _ b => b
  | c => c
def fstC : Code → Code
  | .seq a _ => a
  | c => c
noncomputable def code3 : Code := Try.f3.body.getD .skip
noncomputable def body3 : Code := (firstLoop code3).getD .skip
/-- Behind loop 1; behind the last act; behind loop 2. -/
noncomputable def tail18 : Code := sndC (sndC (sndC (sndC (sndC code3))))
noncomputable def tail35 : Code := sndC (sndC (sndC (sndC (sndC (sndC tail18)))))
noncomputable def body37 : Code := (firstLoop tail35).getD .skip
noncomputable def tail44 : Code := sndC (sndC tail35)
theorem RowAc.turn {w w' : World} {A : Option Addr} {l : List Ac} {c : Nat} (h : RowAc w A l c) (ho : Turn w.heap.size w w') : RowAc w' A l c := h.only ho fun k hk x => by have := x.1; omega
theorem Reads.lt {w : World} {B n : Nat} {A : Option Addr} {xs : List Value} (h : Reads w B A n xs) (hn : 0 < n) {a : Addr} (e : A = some a) : a.block < B := by
  obtain ⟨b, o, e2, hb, _⟩ := h.2 hn
  rw [e] at e2
  cases e2
  exact hb
theorem Cg.ok.lower {N M : Nat} {w : World} {c : Cg} (h : c.ok N w) (hM : M ≤ N) : c.ok M w := by
  unfold Cg.ok at h ⊢
  split at h
  · exact h
  · exact ⟨h.1, Nat.le_trans hM h.2.1, h.2.2⟩
/-- The world behind some acts. -/
structure AsW (w : World) (g q5 : Nat) (last : Ac) (i size : Nat) (w' : World) : Prop where
  sh : ∃ v m va ask, Sh w.heap.size g v m 0 va ask w' ∧ ask.length ≤ i * 64
  bx : Blk w' q5 26 #[.int .u8 last.d, .int .i64 last.at_, .int .i64 last.n, .slice last.A last.b.length last.c]
  tn : Turn w.heap.size w w'
  sz : size ≤ 32768
theorem AsW.only {w : World} {g q5 : Nat} {last : Ac} {i size : Nat} {w1 w2 : World} (h : AsW w g q5 last i size w1) (ho : Only (fun _ => False) w1 w2) : AsW w g q5 last i size w2 := by
  obtain ⟨v, m, va, ask, hs, hl⟩ := h.sh
  exact ⟨⟨v, m, va, ask, hs.only ho, hl⟩, h.bx.only ho (fun x => x), h.tn.only ho, h.sz⟩
/-- What holds ahead of round i: the slots that stay, and the world. -/
structure AsI (A : Option Addr) (c : Nat) (acts : List Ac) (bad g q5 : Nat) (last : Ac) (w : World) (i : Nat) (a : Act) (w' : World) : Prop where
  size : a.tmps.size = 281
  defs : a.defers = []
  s0 : a.tmps.getD 0 undef = .slice A acts.length c
  s1 : a.tmps.getD 1 undef = .int .u64 bad
  s5 : a.tmps.getD 5 undef = .pointer (some ⟨q5, 0, none⟩)
  s7 : a.tmps.getD 7 undef = .pointer (some ⟨g, 0, none⟩)
  s8 : ∃ sz : Nat, a.tmps.getD 8 undef = .int .u32 sz ∧ AsW w g q5 last i sz w'
  s9 : a.tmps.getD 9 undef = .int .i64 i
  le : i ≤ acts.length
end Go.Proofs.Ytpkadhgoaaphkaa
