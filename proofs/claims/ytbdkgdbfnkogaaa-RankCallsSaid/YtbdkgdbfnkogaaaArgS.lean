/-
  An argument of entries, opened as a list; laid-out facts of the program. Conditions: the argument reads as a slice of entries. An argument that is an entry by value, opened and shut. No condition.
-/
import Derived.Test.YtbdkgdbfnkogaaaCnt
import Derived.Test.YtbdkgdbfnkogaaaHeaps
import Derived.Test.YtbdkgdbfnkogaaaRows
import Derived.WalkKit
import Derived.ProofKit
import Derived.OpenShut
import Derived.ChangeOld
import Derived.Below
import Derived.SizedLaws
import Derived.Deep.SlicePairs
import Derived.Lib.SmallJoins
namespace Go.Proofs.Ytbdkgdbfnkogaaa.R
open Go.ChangeShapes Go.WideShapes Go.ChangeAt Go.RowKit Go.Proofs.YtbdkgdbfnkogaaaW.PrintWords Go.Proofs.YtbdkgdbfnkogaaaW.PrintLast Go.Proofs.YtbdkgdbfnkogaaaW.PrintMore
set_option linter.unusedVariables false
set_option linter.unusedSimpArgs false

/-- An argument of entries, as a list. -/
theorem arg30 {H : Type} {enc : TypeId × Value → H} {w : World} {base : Nat} {spare : Nat → Bool} {held : Bool} {a : Option Addr} {len cap : Nat} {d : DataW H} {ps : List MemPlace}
    (h : DataW.Trod enc Try.prog w base spare held 22 (.slice a len cap) d ps) : ∃ zs : List S30, zs.length = len ∧ len ≤ cap ∧ Kd.C k30 w a zs.length zs ∧ ∀ x ∈ zs, Wf30 x := by
  obtain ⟨fuel, hf⟩ := h
  rcases Deep.open_slice_pairs Try.underlying22 Try.underlying30 cells30 rfl rfl cells2 cells2 hf with ⟨hcs, _⟩ | ⟨ad, l, c, m, n, V0, V1, D0, D1, P0, P1, hcs, _, hl, hm, hmm, _, hx⟩
  · simp [Value.cells] at hcs
    obtain ⟨rfl, rfl, rfl⟩ := hcs
    exact ⟨[], rfl, Nat.le_refl _, Kd.C_nil _ _, by simp⟩
  · simp [Value.cells] at hcs
    obtain ⟨rfl, rfl, rfl⟩ := hcs
    have hlm : len ≤ m := by rw [hmm]; split <;> omega
    have each : ∀ i, i < m → ∃ x : S30, w.cell? (ad.add (i * 2)) = some (.int .i64 x.f0) ∧ w.cell? (ad.add (i * 2 + 1)) = some (.int .i64 x.f1) ∧ Wf30 x := by
      intro i hi
      obtain ⟨h0, h1, t0, t1⟩ := hx i hi
      obtain ⟨x0, e0, _, w0⟩ := DataW.trod_int Try.underlying2 t0
      obtain ⟨x1, e1, _, w1⟩ := DataW.trod_int Try.underlying2 t1
      injection e0 with e0
      injection e1 with e1
      exact ⟨⟨x0, x1⟩, by rw [h0, e0], by rw [h1, e1], w0, w1⟩
    obtain ⟨q, hq⟩ := Deep.choose_lt each
    refine ⟨(List.range len).map q, by simp, hl, ⟨by simp, by simp [maxLen] at hm ⊢; omega, fun _ => ⟨ad, rfl, fun j p hj => ?_⟩⟩, ?_⟩
    · have hjl : j < len := by
        have := (List.getElem?_eq_some_iff.1 hj).1
        simpa using this
      have hp : p = q j := by
        rw [List.getElem?_map, List.getElem?_range hjl] at hj
        exact (Option.some.inj hj).symm
      subst hp
      obtain ⟨g0, g1, _⟩ := hq j (by omega)
      refine ⟨_, rfl, k30_mk w (q j), fun i u hu => ?_⟩
      match i, hu with
      | 0, hu => cases hu; exact g0
      | 1, hu => cases hu; exact g1
      | n + 2, hu => simp at hu
    · intro x hx
      obtain ⟨j, hj, rfl⟩ := List.mem_map.1 hx
      exact (hq j (by have := List.mem_range.1 hj; omega)).2.2
end Go.Proofs.Ytbdkgdbfnkogaaa.R

namespace Go.Proofs.Ytbdkgdbfnkogaaa.R
open Go.ChangeShapes Go.WideShapes Go.ChangeAt Go.RowKit Go.Joins Go.Proofs.YtbdkgdbfnkogaaaW.PrintWords Go.Proofs.YtbdkgdbfnkogaaaW.PrintLast Go.Proofs.YtbdkgdbfnkogaaaW.PrintMore
set_option linter.unusedVariables false
set_option linter.unusedSimpArgs false

/-- An entry as a datum. -/
def dat30 {H : Type} (x : S30) : DataW H := .agg [.lit (.int .i64 x.f0), .lit (.int .i64 x.f1)]
set_option maxRecDepth 100000 in
theorem argS30 {H : Type} {enc : TypeId × Value → H} {w : World} {base : Nat} {spare : Nat → Bool} {held : Bool} {r : Reach} {b0 : Nat} {v : Value} {d : DataW H} {p : List MemPlace} (hv : Value.okWide Try.prog w r b0 30 v)
    (h : DataW.Trod enc Try.prog w base spare held 30 v d p) : ∃ x : S30, v = .agg #[.int .i64 x.f0, .int .i64 x.f1] ∧ d = dat30 x ∧ p = [] ∧ Wf30 x := by
  obtain ⟨c0, c1, y0, y1, m, rfl, rfl, rfl, hy0, hy1⟩ := open_agg2 Try.underlying30 (by kernel_rfl) cells30 hv h
  obtain ⟨a, e0, rfl, wa⟩ := DataW.trod_int Try.underlying2 hy0
  obtain ⟨b, e1, rfl, wb⟩ := DataW.trod_int Try.underlying2 hy1
  simp at e0 e1
  subst e0 e1
  exact ⟨⟨a, b⟩, rfl, rfl, rfl, wa, wb⟩
set_option maxRecDepth 100000 in
theorem shutS30 {H : Type} {enc : TypeId × Value → H} {w : World} {base : Nat} {spare : Nat → Bool} {held : Bool} {x : S30} (hx : Wf30 x) : DataW.Trod enc Try.prog w base spare held 30 (.agg #[.int .i64 x.f0, .int .i64 x.f1]) (dat30 x) [] :=
  shut_agg2 (y0 := (.lit (.int .i64 x.f0), [])) (y1 := (.lit (.int .i64 x.f1), [])) Try.underlying30 (by kernel_rfl) cells30 ⟨1, by simp [DataW.trod, Try.underlying2, hx.1]⟩ ⟨1, by simp [DataW.trod, Try.underlying2, hx.2]⟩
end Go.Proofs.Ytbdkgdbfnkogaaa.R
