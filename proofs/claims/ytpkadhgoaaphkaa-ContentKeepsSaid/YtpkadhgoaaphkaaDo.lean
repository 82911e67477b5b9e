/-
  content.Write, Truncate, Read at any arguments: an error, and nothing is turned; or what their main laws say.
-/
import Derived.Test.YtpkadhgoaaphkaaTk
import Derived.Test.YtpkadhgoaaphkaaOpA
namespace Go.Proofs.Ytpkadhgoaaphkaa
open Go Go.RowKit Go.Shelf
set_option linter.unusedVariables false
/-- An act that is refused. -/
def Refd (w : World) (r : Ending) (w' : World) : Prop := ∃ e : Int, (e = 26 ∨ e = 29) ∧ r = .returned (.tuple #[.slice none 0 0, .int .u32 0, .int .i64 e]) ∧ Only (fun _ => False) w w'
theorem may_ok {at_ : Int} {n : Nat} (h : ¬ mayF at_ n = 26) : ∃ fr : Nat, at_ = fr ∧ n ≤ 2048 := by
  unfold mayF at h
  split at h
  · exact absurd rfl h
  · split at h
    · exact absurd rfl h
    · split at h
      · exact absurd rfl h
      · exact ⟨at_.toNat, by omega, by omega⟩
theorem write_any (B g : Nat) (v : Nat → Value) (m : Nat → List UInt8) (bad : Nat) (va : Value) (ask : List Nat) (size : Nat) (at_ : Int) (bs : List UInt8) (Ab : Option Addr) (cb : Nat) (w : World) (h : Sh B g v m bad va ask w) (hB : B ≤ w.heap.size) (hs : size ≤ 32768) (hl : ask.length ≤ 100000)
    (hbr : Reads w w.heap.size Ab bs.length (Lib.byteCells bs)) (hbc : bs.length ≤ cb) (hbA : 0 < bs.length → ∀ a, Ab = some a → a.block < B ∨ tyAt w a.block 5) :
    Calls Try.prog 8 #[.iface 29 (.pointer (some ⟨g, 0, none⟩)), .int .u32 size, .int .i64 at_, .slice Ab bs.length cb] w fun r w' => Refd w r w' ∨ ∃ fr : Nat, at_ = fr ∧ bs.length ≤ 2048 ∧ fr + bs.length ≤ 32768 ∧ ChPost B g v m bad ask w (wrK m bad bs fr (fr + bs.length)) (cnt fr (fr + bs.length)) (if bs.length = 0 then size else max size (fr + bs.length)) r w' := by
  by_cases h26 : mayF at_ bs.length = 26
  · refine (write_err _ g (.inr rfl) size at_ 26 Ab bs.length cb rfl w fun w => ?_).mono fun r w' hr => .inl ⟨26, .inl rfl, hr.1, hr.2⟩
    have := may_any g at_ bs.length w
    rw [h26] at this
    exact this
  · obtain ⟨fr, rfl, h2⟩ := may_ok h26
    by_cases hbig : 32768 - (bs.length : Int) < fr
    · exact (write_big g size fr Ab bs.length cb h2 (by omega) hbig w).mono fun r w' hr => .inl ⟨29, .inr rfl, hr.1, hr.2⟩
    · exact (write_main B g v m bad va ask size fr bs Ab cb w h hB hs h2 (by omega) hl hbr hbc hbA).mono fun r w' hr => .inr ⟨fr, rfl, h2, by omega, hr⟩
theorem trunc_any (B g : Nat) (v : Nat → Value) (m : Nat → List UInt8) (bad : Nat) (va : Value) (ask : List Nat) (size : Nat) (at_ : Int) (w : World) (h : Sh B g v m bad va ask w) (hB : B ≤ w.heap.size) (hs : size ≤ 32768) (hl : ask.length ≤ 100000) :
    Calls Try.prog 9 #[.iface 29 (.pointer (some ⟨g, 0, none⟩)), .int .u32 size, .int .i64 at_] w fun r w' => Refd w r w' ∨ ∃ fr : Nat, at_ = fr ∧ fr ≤ 32768 ∧ ChPost B g v m bad ask w (trK m bad fr size) (cnt fr size) fr r w' := by
  by_cases h26 : mayF at_ ((0 : Nat) : Int) = 26
  · refine (trunc_err _ g (.inr rfl) size at_ 26 rfl w fun w => ?_).mono fun r w' hr => .inl ⟨26, .inl rfl, hr.1, hr.2⟩
    have := may_any g at_ ((0 : Nat) : Int) w
    rw [h26] at this
    exact this
  · obtain ⟨fr, rfl, h2⟩ := may_ok h26
    by_cases hbig : (32768 : Int) < fr
    · exact (trunc_big g size fr hbig w).mono fun r w' hr => .inl ⟨29, .inr rfl, hr.1, hr.2⟩
    · exact (trunc_main B g v m bad va ask size fr w h hB hs (by omega) hl).mono fun r w' hr => .inr ⟨fr, rfl, by omega, hr⟩
theorem read_any (B g : Nat) (v : Nat → Value) (m : Nat → List UInt8) (bad : Nat) (va : Value) (ask : List Nat) (size : Nat) (at_ n : Int) (w : World) (h : Sh B g v m bad va ask w) (hB : B ≤ w.heap.size) (hs : size ≤ 32768) (hl : ask.length ≤ 100000) :
    Calls Try.prog 11 #[.iface 29 (.pointer (some ⟨g, 0, none⟩)), .int .u32 size, .int .i64 at_, .int .i64 n] w fun r w' =>
      (r = .returned (.tuple #[.slice none 0 0, .int .i64 26]) ∧ Only (fun _ => False) w w') ∨ ∃ fr k : Nat, at_ = fr ∧ n = k ∧ k ≤ 2048 ∧
        ((size ≤ fr ∧ r = .returned (.tuple #[.slice none 0 0, .int .i64 0]) ∧ Only (fun _ => False) w w') ∨ (fr < size ∧ ReadPost B g v m bad ask fr (min size (fr + k)) w r w')) := by
  by_cases h26 : mayF at_ n = 26
  · refine (read_err _ g (.inr rfl) size at_ n 26 rfl w fun w => ?_).mono fun r w' hr => .inl ⟨hr.1, hr.2⟩
    have := may_any g at_ n w
    rw [h26] at this
    exact this
  · obtain ⟨fr, k, rfl, rfl, h2⟩ : ∃ fr k : Nat, at_ = fr ∧ n = k ∧ k ≤ 2048 := by
      unfold mayF at h26
      split at h26
      · exact absurd rfl h26
      · split at h26
        · exact absurd rfl h26
        · split at h26
          · exact absurd rfl h26
          · exact ⟨at_.toNat, n.toNat, by omega, by omega, by omega⟩
    by_cases he : size ≤ fr
    · exact (read_end g size fr k hs he h2 w).mono fun r w' hr => .inr ⟨fr, k, rfl, rfl, h2, .inl ⟨he, hr.1, hr.2⟩⟩
    · exact (read_main B g v m bad va ask size fr k w h hB hs (by omega) h2 hl).mono fun r w' hr => .inr ⟨fr, k, rfl, rfl, h2, .inr ⟨by omega, hr⟩⟩
/-- What a shelf, and the size, become by an act that is done. -/
def Next (x : Ac) (m : Nat → List UInt8) (size : Nat) (m' : Nat → List UInt8) (size' : Nat) : Prop :=
  (x.d = 1 ∧ ∃ fr : Nat, x.at_ = fr ∧ fr + x.b.length ≤ 32768 ∧ size' = (if x.b.length = 0 then size else max size (fr + x.b.length)) ∧ m' = ovM m (wrL m x.b fr (fr + x.b.length) (cnt fr (fr + x.b.length)))) ∨
  (1 < x.d ∧ ∃ fr : Nat, x.at_ = fr ∧ fr ≤ 32768 ∧ size' = fr ∧ m' = ovM m (trL m fr size (cnt fr size)))
/-- Changes that are told, of a shelf that can be read. -/
def Done (B g : Nat) (v : Nat → Value) (m : Nat → List UInt8) (ask : List Nat) (x : Ac) (size : Nat) (w : World) (r : Ending) (w' : World) : Prop :=
  ∃ (A : Option Addr) (c : Nat) (L : List Cg) (ns : Nat), r = .returned (.tuple #[.slice A L.length c, .int .u32 ns, .int .i64 0]) ∧ Next x m size (ovM m (L.map Cg.pair)) ns ∧ ns ≤ 32768 ∧ L.length ≤ 1000 ∧ L.length ≤ c ∧ Ris L ∧
    Reads w' w'.heap.size A (L.length * 2) (cgs L) ∧ (∀ y ∈ L, y.ok w.heap.size w') ∧ (∃ va' ask', Sh B g v m 0 va' ask' w' ∧ ask'.length ≤ ask.length + 64) ∧ Turn B w w'
theorem chPost_done {B g : Nat} {v : Nat → Value} {m : Nat → List UInt8} {ask : List Nat} {x : Ac} {size : Nat} {w : World} {K : Law} {N ns : Nat} {r : Ending} {w' : World} (h : ChPost B g v m 0 ask w K N ns r w') (hD : ∀ i, ¬ K.D i) (hN : ∀ m', m' = ovM m (K.L N) → Next x m size m' ns) (hns : ns ≤ 32768) (hR : RisP (K.L N)) (hLN : (K.L N).length ≤ 64) (hA : (K.A N).length ≤ 64) : Done B g v m ask x size w r w' := by
  rcases h with ⟨A, c, L, hr, ho⟩ | ⟨i, -, -, -, hd, -⟩
  · obtain ⟨va', hs⟩ := ho.sh
    have he := ho.eq
    have hll : L.length = (K.L N).length := by rw [← he, List.length_map]
    exact ⟨A, c, L, ns, hr, by rw [he]; exact hN _ rfl, hns, by omega, ho.cap, Ris.of (by rw [he]; exact hR), ho.rd, ho.ok, ⟨va', _, hs, by rw [List.length_append]; omega⟩, ho.tn⟩
  · exact absurd hd (hD i)
theorem write_did (B g : Nat) (v : Nat → Value) (m : Nat → List UInt8) (va : Value) (ask : List Nat) (size : Nat) (x : Ac) (hx : x.d = 1) (w : World) (h : Sh B g v m 0 va ask w) (hB : B ≤ w.heap.size) (hs : size ≤ 32768) (hl : ask.length ≤ 100000)
    (hbr : Reads w w.heap.size x.A x.b.length (Lib.byteCells x.b)) (hbc : x.b.length ≤ x.c) (hbA : 0 < x.b.length → ∀ a, x.A = some a → a.block < B ∨ tyAt w a.block 5) :
    Calls Try.prog 8 #[.iface 29 (.pointer (some ⟨g, 0, none⟩)), .int .u32 size, .int .i64 x.at_, .slice x.A x.b.length x.c] w fun r w' => Refd w r w' ∨ Done B g v m ask x size w r w' := by
  refine (write_any B g v m 0 va ask size x.at_ x.b x.A x.c w h hB hs hl hbr hbc hbA).mono fun r w' hr => ?_
  rcases hr with hr | ⟨fr, e, h2, h3, hr⟩
  · exact .inl hr
  · have hc : cnt fr (fr + x.b.length) ≤ 64 := cnt_le h3
    refine .inr (chPost_done hr (wrK_noD _ _ _ _) (fun m' e' => .inl ⟨hx, fr, e, h3, rfl, e'⟩) (by split <;> omega) (wrL_ris m x.b h3) ?_ ?_)
    · show (wrL m x.b fr _ _).length ≤ 64
      rw [wrL_len]; exact hc
    · have := wrA_len fr (fr + x.b.length) (cnt fr (fr + x.b.length))
      show (wrA fr _ _).length ≤ 64
      omega
theorem trunc_did (B g : Nat) (v : Nat → Value) (m : Nat → List UInt8) (va : Value) (ask : List Nat) (size : Nat) (x : Ac) (hx : 1 < x.d) (w : World) (h : Sh B g v m 0 va ask w) (hB : B ≤ w.heap.size) (hs : size ≤ 32768) (hl : ask.length ≤ 100000) :
    Calls Try.prog 9 #[.iface 29 (.pointer (some ⟨g, 0, none⟩)), .int .u32 size, .int .i64 x.at_] w fun r w' => Refd w r w' ∨ Done B g v m ask x size w r w' := by
  refine (trunc_any B g v m 0 va ask size x.at_ w h hB hs hl).mono fun r w' hr => ?_
  rcases hr with hr | ⟨fr, e, h3, hr⟩
  · exact .inl hr
  · have hc : cnt fr size ≤ 64 := cnt_le hs
    refine .inr (chPost_done hr (trK_noD _ _ _) (fun m' e' => .inr ⟨hx, fr, e, h3, rfl, e'⟩) h3 (trL_ris m hs) ?_ ?_)
    · have := trL_len m fr size (cnt fr size)
      show (trL m fr _ _).length ≤ 64
      omega
    · have := trA_len fr size (cnt fr size)
      show (trA fr _ _).length ≤ 64
      omega
/-- No byte behind the size. -/
def Zer (m : Nat → List UInt8) (size : Nat) : Prop := ∀ p, size ≤ p → p < 32768 → byteAt m p = 0
end Go.Proofs.Ytpkadhgoaaphkaa
