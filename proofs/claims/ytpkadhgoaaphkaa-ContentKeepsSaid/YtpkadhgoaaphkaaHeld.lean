/-
  A region that draws its order and ends in one operation that waits for all others: what its loads read holds behind each operation but the last.
-/
import Derived.OrdersHeld
import Derived.StillTail
import Derived.RegionTactic
import Derived.WalkKit
import Derived.Deep.RegionHeld
namespace Go.Proofs.Ytpkadhgoaaphkaa
open Go
set_option linter.unusedVariables false

section
variable {P : Program} {ops : Array Oper} {Q : Exit → Act → World → Prop} {md : Region.Mode} {S : World → Prop} {z : Nat}

def wpAnyE (P : Program) (md : Region.Mode) (ops : Array Oper) (Q : Exit → Act → World → Prop) (S : World → Prop) (z : Nat) : Nat → Array Bool → Act → World → Prop
  | 0, l, a, w => Region.ready md ops l = [] ∧ Q .normal a w
  | f + 1, l, a, w => (Region.ready md ops l = [] → Q .normal a w) ∧
      ∀ i ∈ Region.ready md ops l, wpOp P ops Q i (fun a' w' => ((l.setIfInBounds i true).getD z true = false → S w') ∧ wpAnyE P md ops Q S z f (l.setIfInBounds i true) a' w') a w

theorem E_any : ∀ (f : Nat) (l : Array Bool) (a : Act) (w : World), wpAnyE P md ops Q S z f l a w → wpAny P md ops Q f l a w
  | 0, _, _, _, h => h
  | f + 1, _, _, _, h => ⟨h.1, fun i hi => wpOp_mono (fun a' w' h' => E_any f _ a' w' h'.2) (h.2 i hi)⟩

theorem E_first {i : Nat} {oi oz : Oper} {v : Value} (hi : ops[i]? = some oi) (hz : ops[z]? = some oz) (hzi : z ≠ i) (hw : ∃ e ∈ oz.after, Region.binds md e = true ∧ e.on = i)
    (hsel : ∀ (j : Nat) (o : Oper) cs b, ops[j]? = some o → o.op ≠ .select cs b)
    (hQ : ∀ c a w, Q (.panic c) (a.put oi.dst v) w → Q (.panic c) a w) :
    ∀ (f : Nat) (l : Array Bool) (a : Act) (w : World),
      (∀ j oj, ops[j]? = some oj → j ≠ i → l.getD j true = false → (∀ e ∈ oj.after, Region.binds md e = true → e.on ≠ i) → oi.apart ops oj = true) →
      i ∈ Region.ready md ops l → l.getD z true = false → YieldsIf P ops S oi v a → S w →
      wpAnyE P md ops Q S z f (l.setIfInBounds i true) (a.put oi.dst v) w → wpAnyE P md ops Q S z (f + 1) l a w := by
  intro f
  induction f with
  | zero =>
    intro l a w _ hr hu hy hS H
    refine ⟨fun h => (by rw [h] at hr; cases hr), fun j hj => ?_⟩
    by_cases hji : j = i
    · subst hji; exact hy.wpOp hi hS ⟨fun _ => hS, H⟩
    · have := ready_mono hj hji
      rw [H.1] at this
      cases this
  | succ f ih =>
    intro l a w hfree hr hu hy hS H
    refine ⟨fun h => (by rw [h] at hr; cases hr), fun j hj => ?_⟩
    by_cases hji : j = i
    · subst hji; exact hy.wpOp hi hS ⟨fun _ => hS, H⟩
    · have h1 := H.2 j (ready_mono hj hji)
      obtain ⟨hjun, oj, hoj, hall⟩ := mem_ready.1 hj
      have hiun := (mem_ready.1 hr).1
      have hnot : ∀ e ∈ oj.after, Region.binds md e = true → e.on ≠ i := fun e he hb heq => by
        have h1 := hall e he hb
        rw [heq, getD_both hiun] at h1
        cases h1
      have hzj : j ≠ z := fun e => by
        subst e
        rw [hz] at hoj
        cases hoj
        obtain ⟨e, he, hb, hon⟩ := hw
        exact hnot e he hb hon
      have h2 := wpOp_putIf hoj (hfree j oj hoj hji hjun hnot) (fun cs b => hsel i oi cs b hi) (fun cs b => hsel j oj cs b hoj) hQ hy h1
      have hfree' : ∀ k ok, ops[k]? = some ok → k ≠ i → (l.setIfInBounds j true).getD k true = false →
          (∀ e ∈ ok.after, Region.binds md e = true → e.on ≠ i) → oi.apart ops ok = true := fun k ok hk hki hun hno => by
        refine hfree k ok hk hki ?_ hno
        by_cases hjk : j = k
        · subst hjk; exact hjun
        · rw [getD_set_ne true hjk] at hun; exact hun
      have hu' : (l.setIfInBounds j true).getD z true = false := by rw [getD_set_ne true hzj]; exact hu
      have hu2 : ((l.setIfInBounds i true).setIfInBounds j true).getD z true = false := by rw [getD_set_ne true hzj, getD_set_ne true (Ne.symm hzi)]; exact hu
      refine wpOp_mono (fun a' w' h3 => ⟨fun _ => h3.2.1 hu2, ih (l.setIfInBounds j true) a' w' hfree' (ready_mono hr (Ne.symm hji)) hu' h3.1 (h3.2.1 hu2) ?_⟩) h2
      rw [Array.setIfInBounds_comm _ _ hji]
      exact h3.2.2

/-- One is taken ahead of the others. -/
theorem E_take (i : Nat) {oi : Oper} {v : Value} {f : Nat} {l : Array Bool} {a : Act} {w : World} (hi : ops.toList[i]? = some oi)
    (hs : Region.noSelect ops = true) (hf : Region.free md ops l i = true) (hr : (Region.ready md ops l).contains i = true) (hw : Region.waitsFor md ops z i = true) (hz : (z == i) = false) (hu : l.getD z true = false)
    (hQ : ∀ c a w, Q (.panic c) (a.put oi.dst v) w → Q (.panic c) a w) (hwant : Region.wanted oi (yielded ops a.tmps) = true) (hS : S w) (hy : ∀ w, S w → (execOp a.eval oi).run P w = .ok (.value v) w)
    (h : wpAnyE P md ops Q S z f (l.setIfInBounds i true) (a.put oi.dst v) w) : wpAnyE P md ops Q S z (f + 1) l a w := by
  have hi' : ops[i]? = some oi := by rw [← Array.getElem?_toList]; exact hi
  obtain ⟨oz, hoz, hww⟩ := Region.waitsFor_spec hw
  exact E_first hi' hoz (by simpa using hz) (by obtain ⟨e, he, hb, ho⟩ := hww; exact ⟨e, he, hb, ho⟩) (Region.noSelect_spec hs) hQ f l a w (Region.free_spec hi' hf) (by simpa using hr) hu (.inl ⟨hwant, hy⟩) hS h

/-- One alone may come up. -/
theorem E_one (i : Nat) {oi : Oper} {f : Nat} {l : Array Bool} {a : Act} {w : World} (hr : Region.ready md ops l = [i]) (hi : ops.toList[i]? = some oi)
    (h : ∀ K : Act → World → Prop, Shut (∀ a' w', ((l.setIfInBounds i true).getD z true = false → S w') → wpAnyE P md ops Q S z f (l.setIfInBounds i true) a' w' → K a' w') → if Region.wanted oi (yielded ops a.tmps) = true then oi.wp P a w K Q else K (a.put oi.dst undef) w) : wpAnyE P md ops Q S z (f + 1) l a w := by
  have hi' : ops[i]? = some oi := by rw [← Array.getElem?_toList]; exact hi
  refine ⟨fun e => (by rw [hr] at e; cases e), fun j hj => ?_⟩
  rw [hr] at hj
  obtain rfl : j = i := by simpa using hj
  exact wpOp_step hi' fun K hK => h K (fun a' w' h1 h2 => hK a' w' ⟨h1, h2⟩)
theorem E_done {l : Array Bool} {a : Act} {w : World} (hr : Region.ready md ops l = []) (h : Q .normal a w) : wpAnyE P md ops Q S z 0 l a w := ⟨hr, h⟩
theorem wp_region_E {id : Nat} {a : Act} {w : World} {l : List Oper} (z : Nat) (S : World → Prop) (hm : P.follows .mixedOrders = true)
    (h : wpAnyE P .any l.toArray Q S z l.length (Array.replicate l.length false) a w.drew) : (Code.region id l.toArray true).wp P Q a w :=
  wp_region_any hm (E_any _ _ _ _ (by simpa using h))
end
end Go.Proofs.Ytpkadhgoaaphkaa
