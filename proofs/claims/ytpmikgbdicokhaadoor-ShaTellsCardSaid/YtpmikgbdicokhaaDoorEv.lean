/-
  SHA-256 reckoned by the kernel: each number is brought to its digits before the next step. Plain Lean, no program in sight.
-/
import Derived.Test.YtpmikgbdicokhaaDoorHst
import Derived.KernelRfl
namespace Go.Proofs.YtpmikgbdicokhaaDoor

/-- f of x, x brought to its digits first. -/
def fz (x : Nat) (f : Nat → S8) : S8 := Nat.rec (motive := fun _ => S8) (f 0) (fun n _ => f (Nat.succ n)) x
theorem fz_eq (x : Nat) (f : Nat → S8) : fz x f = f x := by cases x <;> rfl

abbrev Kont := Nat → Nat → Nat → Nat → Nat → Nat → Nat → Nat → S8

def e1 (e : Nat) : Nat := Nat.xor (Nat.xor (Nat.lor (Nat.mod (Nat.mul e 67108864) 4294967296) (Nat.div e 64)) (Nat.lor (Nat.mod (Nat.mul e 2097152) 4294967296) (Nat.div e 2048))) (Nat.lor (Nat.mod (Nat.mul e 128) 4294967296) (Nat.div e 33554432))
def e0 (a : Nat) : Nat := Nat.xor (Nat.xor (Nat.lor (Nat.mod (Nat.mul a 1073741824) 4294967296) (Nat.div a 4)) (Nat.lor (Nat.mod (Nat.mul a 524288) 4294967296) (Nat.div a 8192))) (Nat.lor (Nat.mod (Nat.mul a 1024) 4294967296) (Nat.div a 4194304))
def tt (e f g h x : Nat) : Nat := Nat.mod (Nat.add (Nat.add (Nat.add h (e1 e)) (Nat.xor (Nat.land e f) (Nat.land (Nat.sub 4294967295 e) g))) x) 4294967296
def na (t a b c : Nat) : Nat := Nat.mod (Nat.add t (Nat.mod (Nat.add (e0 a) (Nat.xor (Nat.xor (Nat.land a b) (Nat.land a c)) (Nat.land b c))) 4294967296)) 4294967296

/-- One step, then the rest. -/
def st1 (r : Kont → Kont) (x : Nat) (K : Kont) : Kont := fun a b c d e f g h => fz (tt e f g h x) fun t => fz (na t a b c) fun a' => fz (Nat.mod (Nat.add d t) 4294967296) fun e' => r K a' a b c e' e f g
/-- The steps by the numbers l (each the step's constant and the piece's number together). -/
noncomputable def go (l : List Nat) : Kont → Kont := List.rec (motive := fun _ => Kont → Kont) (fun K => K) (fun x _ ih => st1 ih x) l

theorem tt_eq (s : S8) (k w x : Nat) (hx : x % 4294967296 = (k + w) % 4294967296) : tt s.e s.f s.g s.h x = (s.h + bg1 s.e + ch s.e s.f s.g + k + w) % 4294967296 := by
  show (s.h + bg1 s.e + ch s.e s.f s.g + x) % 4294967296 = _
  omega
theorem na_eq (t : Nat) (s : S8) : na t s.a s.b s.c = (t + (bg0 s.a + maj s.a s.b s.c) % 4294967296) % 4294967296 := rfl
theorem st1_eq (r : Kont → Kont) (s : S8) (k w x : Nat) (K : Kont) (hx : x % 4294967296 = (k + w) % 4294967296) :
    st1 r x K s.a s.b s.c s.d s.e s.f s.g s.h = r K (stp s k w).a (stp s k w).b (stp s k w).c (stp s k w).d (stp s k w).e (stp s k w).f (stp s k w).g (stp s k w).h := by
  unfold st1
  rw [fz_eq, fz_eq, fz_eq, tt_eq s k w x hx]
  rfl
/-- The numbers of the steps from n on. -/
theorem go_eq (B : Nat → Nat) (s : S8) (K : Kont) : ∀ (l : List Nat) (n : Nat), (∀ i x, l[i]? = some x → x % 4294967296 = (kk.getD (n + i) 0 + wn B (n + i)) % 4294967296) →
    go l K (stps B s n).a (stps B s n).b (stps B s n).c (stps B s n).d (stps B s n).e (stps B s n).f (stps B s n).g (stps B s n).h =
      K (stps B s (n + l.length)).a (stps B s (n + l.length)).b (stps B s (n + l.length)).c (stps B s (n + l.length)).d (stps B s (n + l.length)).e (stps B s (n + l.length)).f (stps B s (n + l.length)).g (stps B s (n + l.length)).h
  | [], n, _ => rfl
  | x :: l, n, h => by
    have h0 := h 0 x rfl
    have := go_eq B s K l (n + 1) (fun i y hi => by have := h (i + 1) y hi; rw [show n + (i + 1) = n + 1 + i by omega] at this; exact this)
    show st1 (go l) x K _ _ _ _ _ _ _ _ = _
    rw [st1_eq (go l) (stps B s n) _ _ x K h0]
    rw [List.length_cons, show n + (l.length + 1) = n + 1 + l.length by omega]
    exact this
/-- A piece taken in, then the rest. -/
noncomputable def blk (l : List Nat) (K : Kont) : Kont := fun a b c d e f g h => go l (fun a' b' c' d' e' f' g' h' => fz (Nat.mod (Nat.add a a') 4294967296) fun a => fz (Nat.mod (Nat.add b b') 4294967296) fun b => fz (Nat.mod (Nat.add c c') 4294967296) fun c => fz (Nat.mod (Nat.add d d') 4294967296) fun d =>
  fz (Nat.mod (Nat.add e e') 4294967296) fun e => fz (Nat.mod (Nat.add f f') 4294967296) fun f => fz (Nat.mod (Nat.add g g') 4294967296) fun g => fz (Nat.mod (Nat.add h h') 4294967296) fun h => K a b c d e f g h) a b c d e f g h
theorem blk_eq (B : Nat → Nat) (s : S8) (K : Kont) (l : List Nat) (hl : l.length = 64) (h : ∀ i x, l[i]? = some x → x % 4294967296 = (kk.getD i 0 + wn B i) % 4294967296) :
    blk l K s.a s.b s.c s.d s.e s.f s.g s.h = K (taken s B).a (taken s B).b (taken s B).c (taken s B).d (taken s B).e (taken s B).f (taken s B).g (taken s B).h := by
  unfold blk
  have := fun K => go_eq B s K l 0 (fun i x hi => by rw [Nat.zero_add]; exact h i x hi)
  rw [Nat.zero_add, hl] at this
  have e := this (fun a' b' c' d' e' f' g' h' => fz (Nat.mod (Nat.add s.a a') 4294967296) fun a => fz (Nat.mod (Nat.add s.b b') 4294967296) fun b => fz (Nat.mod (Nat.add s.c c') 4294967296) fun c => fz (Nat.mod (Nat.add s.d d') 4294967296) fun d =>
    fz (Nat.mod (Nat.add s.e e') 4294967296) fun e => fz (Nat.mod (Nat.add s.f f') 4294967296) fun f => fz (Nat.mod (Nat.add s.g g') 4294967296) fun g => fz (Nat.mod (Nat.add s.h h') 4294967296) fun h => K a b c d e f g h)
  rw [fz_eq, fz_eq, fz_eq, fz_eq, fz_eq, fz_eq, fz_eq, fz_eq] at e
  unfold taken
  generalize stps B s 64 = r at *
  exact e
/-- n times the same piece. -/
noncomputable def blks (l : List Nat) (n : Nat) : Kont := Nat.rec (motive := fun _ => Kont) S8.mk (fun _ ih => blk l ih) n
def takens (B : Nat → Nat) (s : S8) : Nat → S8
  | 0 => s
  | n + 1 => takens B (taken s B) n
theorem blks_eq (B : Nat → Nat) (l : List Nat) (hl : l.length = 64) (h : ∀ i x, l[i]? = some x → x % 4294967296 = (kk.getD i 0 + wn B i) % 4294967296) : ∀ (n : Nat) (s : S8), blks l n s.a s.b s.c s.d s.e s.f s.g s.h = takens B s n
  | 0, _ => rfl
  | n + 1, s => by
    show blk l (blks l n) _ _ _ _ _ _ _ _ = _
    rw [blk_eq B s _ l hl h]
    exact blks_eq B l hl h n (taken s B)
end Go.Proofs.YtpmikgbdicokhaaDoor
