import Derived.Test.YtbdkgdbfnkogaaaRk
import Derived.Test.YtbdkgdbfnkogaaaRows
import Derived.WalkKit
import Derived.ProofKit
import Derived.OpenShut
import Derived.ChangeOld
import Derived.Below
import Derived.SizedLaws
import Derived.Deep.Matrix

/-
  Arguments that are int32s, and lists of int32s, opened as lists. Conditions: the argument reads as a slice of them.
-/
namespace Go.Proofs.Ytbdkgdbfnkogaaa.R
open Go.ChangeShapes Go.WideShapes Go.ChangeAt Go.RowKit Go.Proofs.YtbdkgdbfnkogaaaW.PrintWords Go.Proofs.YtbdkgdbfnkogaaaW.PrintLast Go.Proofs.YtbdkgdbfnkogaaaW.PrintMore
set_option linter.unusedVariables false
set_option linter.unusedSimpArgs false

/-- Cells of numbers, as a row of them. -/
theorem C_ints {w : World} {k : IntKind} {a : Option Addr} {zs : List Int} {n : Nat} (hn : zs.length = n) (hm : n ≤ 9223372036854775807) (ha : 0 < n → ∃ ad, a = some ad ∧ ∀ j, j < n → w.cell? (ad.add j) = some (.int k (zs.getD j 0))) : Kd.C (Kd.int k) w a n zs := by
  refine ⟨hn, hm, fun h => ?_⟩
  obtain ⟨ad, e, hc⟩ := ha h
  refine ⟨ad, e, fun j p hj => ?_⟩
  obtain ⟨hjl, hp⟩ := List.getElem?_eq_some_iff.1 hj
  have := hc j (by omega)
  rw [List.getD_eq_getElem?_getD, hj] at this
  refine ⟨[.int k p], rfl, rfl, fun i u hu => ?_⟩
  match i, hu with
  | 0, hu => cases hu; show w.cell? (ad.add (j * 1 + 0)) = _; rw [Nat.mul_one, Nat.add_zero]; simpa using this
  | i + 1, hu => simp at hu

section
variable {H : Type} {enc : TypeId × Value → H} {w : World} {base : Nat} {held : Bool} {a : Option Addr} {len cap : Nat} {d : DataW H} {ps : List MemPlace}
set_option maxRecDepth 100000 in
theorem arg32 (h : DataW.Trod enc Try.prog w base (fun _ => true) held 52 (.slice a len cap) d ps) : ∃ zs : List Int, zs.length = len ∧ len ≤ cap ∧ Kd.C (Kd.int .i32) w a zs.length zs ∧ ∀ n ∈ zs, (Lit.int .i32 n).wf = true := by
  obtain ⟨fuel, hf⟩ := h
  rcases open_ints Try.underlying52 Try.underlying21 (by kernel_rfl) hf with ⟨hcs, _⟩ | ⟨x, l, c, zs, hcs, _, hl, hm, hz, _, hcell, hwz⟩
  · simp [Value.cells] at hcs
    obtain ⟨rfl, rfl, rfl⟩ := hcs
    exact ⟨[], rfl, Nat.le_refl _, Kd.C_nil _ _, by simp⟩
  · simp [Value.cells] at hcs
    obtain ⟨rfl, rfl, rfl⟩ := hcs
    simp only [if_true] at hz
    have hlen : (zs.take len).length = len := by rw [List.length_take]; omega
    refine ⟨zs.take len, hlen, hl, C_ints rfl (by rw [hlen]; unfold maxLen at hm; omega) (fun _ => ⟨x, rfl, fun j hj => ?_⟩), fun n hn => hwz n (List.mem_of_mem_take hn)⟩
    rw [hlen] at hj
    rw [hcell j (by omega), List.getD_eq_getElem?_getD, List.getD_eq_getElem?_getD, List.getElem?_take_of_lt hj]

set_option maxRecDepth 100000 in
theorem argL32 (h : DataW.Trod enc Try.prog w base (fun _ => true) held 51 (.slice a len cap) d ps) : ∃ cs : List (List Int), cs.length = len ∧ len ≤ cap ∧ Kd.C (Kd.slice 21 (Kd.int .i32)) w a cs.length cs ∧ ∀ x ∈ cs, ∀ n ∈ x, (Lit.int .i32 n).wf = true := by
  obtain ⟨fuel, hf⟩ := h
  rcases Deep.open_int_rows Try.underlying51 Try.underlying52 Try.underlying21 (by kernel_rfl) (by kernel_rfl) hf with ⟨hcs, _⟩ | ⟨ad, l, c, A, L, C, Z, hcs, _, hl, hm, _, hx⟩
  · simp [Value.cells] at hcs
    obtain ⟨rfl, rfl, rfl⟩ := hcs
    exact ⟨[], rfl, Nat.le_refl _, Kd.C_nil _ _, by simp⟩
  · simp [Value.cells] at hcs
    obtain ⟨rfl, rfl, rfl⟩ := hcs
    refine ⟨(List.range len).map (fun r => (Z r).take (L r)), by simp, hl, ⟨rfl, by simp; unfold maxLen at hm; omega, fun _ => ⟨ad, rfl, fun j p hj => ?_⟩⟩, fun x hxm n hn => ?_⟩
    · have hjl : j < len := by
        have := (List.getElem?_eq_some_iff.1 hj).1
        simpa using this
      have hp : p = (Z j).take (L j) := by
        rw [List.getElem?_map, List.getElem?_range hjl] at hj
        exact (Option.some.inj hj).symm
      subst hp
      obtain ⟨h0, h1, h2, h3, h4, h5, h6⟩ := hx j (by omega)
      have hlen : ((Z j).take (L j)).length = L j := by rw [List.length_take]; omega
      refine ⟨[.slice (A j) (L j) (C j)], rfl, ⟨A j, C j, by rw [hlen], by rw [hlen]; exact h1, ?_⟩, fun i u hu => ?_⟩
      · refine C_ints rfl (by rw [hlen]; unfold maxLen at h2; omega) (fun hpos => ?_)
        rw [hlen] at hpos
        cases hA : A j with
        | none => have := h5 hA; omega
        | some a' =>
          refine ⟨a', rfl, fun i hi => ?_⟩
          rw [hlen] at hi
          rw [(h6 a' hA).2 i (by omega), List.getD_eq_getElem?_getD, List.getD_eq_getElem?_getD, List.getElem?_take_of_lt hi]
      · match i, hu with
        | 0, hu => cases hu; show w.cell? (ad.add (j * 1 + 0)) = _; rw [Nat.mul_one, Nat.add_zero]; exact h0
        | i + 1, hu => simp at hu
    · obtain ⟨r, hr, rfl⟩ := List.mem_map.1 hxm
      exact (hx r (by have := List.mem_range.1 hr; omega)).2.2.2.2.1 n (List.mem_of_mem_take hn)
end
theorem laidC : laidOutB Try.prog = true := by kernel_rfl
end Go.Proofs.Ytbdkgdbfnkogaaa.R
