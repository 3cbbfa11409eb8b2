/-
  A row of the call's own (Kd.R) as the sort's words have it (HoldsK, SWK), and back. Conditions: the kind's cells are a plain function of the element.
-/
import Derived.Test.YtbdkgdbfnkogaaaRk
import Derived.Shelf.SlSortCmp.KitK
namespace Go.Proofs.YtbdkgdbfnkogaaaW.PrintWords
open Go.Shelf Go.RowKit Go.Lib Go.Sort Go.Proofs
set_option linter.unusedVariables false
set_option linter.unusedSimpArgs false

/-- A kind whose cells are a plain function of the element. -/
structure Plainly {α : Type} (d : Kd α) (enc : α → List Value) : Prop where
  sz : ∀ x, (enc x).length = d.sz
  one : ∀ x, ∀ v ∈ enc x, v.oneCell' = true
  pos : 0 < d.sz
  K : ∀ {w x cs}, d.K w x cs → cs = enc x
  M : ∀ w base ok x, d.M w base ok x (enc x)

section
variable {α : Type} [Inhabited α] {d : Kd α} {enc : α → List Value} {e base g cap : Nat} {ok : Nat → Prop} {w w' : World} {xs : List α}

theorem arr_get (xs : List α) (i : Nat) (h : i < xs.length) : xs.toArray[i]! = xs[i] := by simp [h]

theorem holds_of_C (P : Plainly d enc) {n : Nat} (hC : d.C w (some ⟨g, 0, none⟩) n xs) (hf : ∀ j, w.frozen? ⟨g, j, none⟩ = false) : HoldsK enc d.sz w g 0 xs.toArray := by
  intro t ht
  have hn : xs.length = n := hC.1
  rw [size_flatK] at ht
  have ht' : t < xs.length * d.sz := by simpa using ht
  have hi : t / d.sz < xs.length := Nat.div_lt_of_lt_mul (by rw [Nat.mul_comm]; exact ht')
  refine ⟨?_, hf _⟩
  obtain ⟨ad, c, ea, _, hK, hc⟩ := Kd.C_get hC default ((t / d.sz : Nat) : Int) (Int.natCast_nonneg _) (Int.ofNat_lt.2 (hn ▸ hi))
  injection ea with ea
  subst ea
  rw [P.K hK] at hc
  rw [get_flatK _ _ _ _ ht]
  have hj : t % d.sz < (enc (xs.toArray[t / d.sz]!)).length := by rw [P.sz]; exact Nat.mod_lt _ P.pos
  have he : xs.getD (t / d.sz) default = xs.toArray[t / d.sz]! := by
    rw [arr_get _ _ hi, List.getD_eq_getElem?_getD, List.getElem?_eq_getElem hi]; rfl
  have h2 : (enc (xs.getD ((t / d.sz : Nat) : Int).toNat default))[t % d.sz]? = some ((enc (xs.toArray[t / d.sz]!))[t % d.sz]!) := by
    rw [Int.toNat_natCast, he, List.getElem?_eq_getElem hj, getElem!_pos (enc (xs.toArray[t / d.sz]!)) (t % d.sz) hj]
  have h3 := hc (t % d.sz) _ h2
  rw [add_plain, Int.toNat_natCast, Nat.div_add_mod'] at h3
  rw [Nat.zero_add]
  exact h3

theorem holds_of_R (P : Plainly d enc) (h : d.R e w base ok (.slice (some ⟨g, 0, none⟩) xs.length cap) xs) : HoldsK enc d.sz w g 0 xs.toArray := by
  have hr := Kd.R_reads' h
  obtain ⟨_, inner, ho, _⟩ := h
  refine holds_of_C P hr.2.2 (fun j => ?_)
  rcases ho.2 with ⟨hv, _⟩ | ⟨g', cap', cur, hv, _, hb, _⟩
  · cases hv
  · injection hv with hv _ _
    injection hv with hv
    injection hv with hv
    subst hv
    simp [World.frozen?, hb]

theorem rowK_of_R (P : Plainly d enc) (h : d.R e w base ok (.slice (some ⟨g, 0, none⟩) xs.length cap) xs) : RowK enc d.sz w g 0 xs.toArray :=
  ⟨P.sz, P.one, holds_of_R P h, own_lt h.2.choose_spec.1 g rfl⟩

theorem swk_heap {d' : Array α} {k : Nat} (h : SWK enc k w g 0 d' w') (hg : g < w.heap.size) :
    w'.os = w.os ∧ w'.tape = w.tape ∧ w'.output = w.output ∧ w.heap.size ≤ w'.heap.size ∧ (∀ b, b < w.heap.size → b ≠ g → w'.heap[b]? = w.heap[b]?) ∧
    ∀ cur t fr, w.heap[g]? = some (.cells cur t fr) → w'.heap[g]? = some (.cells (putCells id 0 (flatK enc k d') cur) t fr) := by
  obtain ⟨m, os, rfl⟩ := h
  unfold sortWorldK grow putRowK putRow mapBlock Sort.ahead
  refine ⟨rfl, rfl, rfl, by simp, fun b hb hne => ?_, fun cur t fr hc => ?_⟩
  · show ((w.heap.modify g _) ++ os)[b]? = _
    rw [Array.getElem?_append_left (by simpa using hb), Array.getElem?_modify, if_neg (Ne.symm hne)]
  · show ((w.heap.modify g _) ++ os)[g]? = _
    rw [Array.getElem?_append_left (by simpa using hg), Array.getElem?_modify, if_pos rfl, hc]
    rfl

theorem kept_of_swk {d' : Array α} {k : Nat} (h : SWK enc k w g 0 d' w') (hg : g < w.heap.size) : Kept w w' (fun b => b = g) :=
  ⟨(swk_heap h hg).2.2.2.1, fun b hb hne => (swk_heap h hg).2.2.2.2.1 b hb hne⟩
theorem below_of_swk {d' : Array α} {k : Nat} (h : SWK enc k w g 0 d' w') (hg : g < w.heap.size) {B : Nat} (hB : B ≤ g) : Below B w w' :=
  ⟨(swk_heap h hg).1, (swk_heap h hg).2.1, (swk_heap h hg).2.2.1, (swk_heap h hg).2.2.2.1, fun b hb => (swk_heap h hg).2.2.2.2.1 b (by omega) (by omega)⟩

theorem flat_list (P : Plainly d enc) (d' : Array α) (j : Nat) (hj : j < d'.size) : ((flatK enc d.sz d').toList.drop (j * d.sz)).take d.sz = enc d'[j]! := by
  have hlt : j * d.sz + d.sz ≤ d'.size * d.sz := by
    have := Nat.mul_le_mul_right d.sz (show j + 1 ≤ d'.size from hj)
    rwa [Nat.add_mul, Nat.one_mul] at this
  apply List.ext_getElem?
  intro c
  rw [List.getElem?_take]
  split
  · rename_i hc
    rw [List.getElem?_drop]
    have h1 : j * d.sz + c < (flatK enc d.sz d').size := by rw [size_flatK]; omega
    have h2 := get_flatK enc d.sz d' (j * d.sz + c) (by rw [size_flatK] at h1; exact h1)
    rw [getElem!_pos (flatK enc d.sz d') (j * d.sz + c) h1] at h2
    have hdiv : (j * d.sz + c) / d.sz = j := by rw [Nat.mul_comm, Nat.mul_add_div P.pos, Nat.div_eq_of_lt hc, Nat.add_zero]
    have hmod : (j * d.sz + c) % d.sz = c := by rw [Nat.mul_comm, Nat.mul_add_mod, Nat.mod_eq_of_lt hc]
    rw [hdiv, hmod] at h2
    have h3 : c < (enc d'[j]!).length := by rw [P.sz]; exact hc
    rw [Array.getElem?_toList, Array.getElem?_eq_getElem h1, h2, getElem!_pos (enc d'[j]!) c h3, List.getElem?_eq_getElem h3]
  · rename_i hc
    rw [List.getElem?_eq_none (by rw [P.sz]; omega)]

theorem R_of_swk (P : Plainly d enc) {n : Nat} (hn : n = xs.length) (h : d.R e w base ok (.slice (some ⟨g, 0, none⟩) n cap) xs) {d' : Array α} (hs : d'.size = xs.length) (S : SWK enc d.sz w g 0 d' w') : d.R e w' base ok (.slice (some ⟨g, 0, none⟩) n cap) d'.toList := by
  subst hn
  have hlt := own_lt h.2.choose_spec.1 g rfl
  obtain ⟨h0, inner, ho, _⟩ := h
  refine ⟨h0, (flatK enc d.sz d').toList, ⟨by simp [hs], .inr ?_⟩, by simp [hs], fun j p hj => ?_⟩
  · rcases ho.2 with ⟨hv, _⟩ | ⟨g', cap', cur, hv, hb, hh, h1, h2, h3, _⟩
    · cases hv
    · injection hv with hv _ hc
      injection hv with hv
      injection hv with hv
      subst hv
      subst hc
      refine ⟨g, cap, putCells id 0 (flatK enc d.sz d') cur, by simp [hs], hb, (swk_heap S hlt).2.2.2.2.2 _ _ _ hh, by simpa [hs] using h1, h2, by simp [putCells, h3], ?_⟩
      apply List.ext_getElem?
      intro t
      have hle : xs.length * d.sz ≤ cap * d.sz := Nat.mul_le_mul_right _ h1
      rw [List.getElem?_take]
      split
      · rename_i ht
        have ht : t < xs.length * d.sz := by simpa [hs] using ht
        have hlt' : t < (flatK enc d.sz d').size := by rw [size_flatK, hs]; exact ht
        have hcur : t < cur.size := by omega
        rw [Array.getElem?_toList, Array.getElem?_toList]
        unfold putCells
        rw [Array.getElem?_mapIdx, Array.getElem?_eq_getElem hcur, Array.getElem?_eq_getElem hlt']
        simp only [Option.map_some]
        rw [if_pos ⟨Nat.zero_le _, by omega⟩, Nat.sub_zero, getElem!_pos (flatK enc d.sz d') t hlt']
        rfl
      · rename_i ht
        rw [List.getElem?_eq_none (by simp [hs] at ht ⊢; omega)]
  · obtain ⟨hj1, hj2⟩ := List.getElem?_eq_some_iff.1 hj
    have hj1 : j < d'.size := by simpa using hj1
    rw [flat_list P d' j hj1]
    have : d'[j]! = p := by rw [getElem!_pos d' j hj1]; simpa using hj2
    rw [this]
    exact P.M _ _ _ _
end
end Go.Proofs.YtbdkgdbfnkogaaaW.PrintWords
