/-
  A row of the call's own (Kd.R) as the sort's words have it (HoldsK, SWK), and back. Conditions: the kind's cells are a plain function of the element. The builtin copy of a whole row of elements of several cells onto a row of the call's own of the same length. Conditions: as told.
-/
import Derived.Test.YtbdkgdbfnkogaaaRk
import Derived.Shelf.SlSortCmp.KitK
import Derived.Laws.CopyOwn
import Derived.Laws.CopyRow
namespace Go.Proofs.YtbdkgdbfnkogaaaW.PrintWords
open Go.Shelf Go.RowKit Go.Lib Go.Sort Go.Proofs
set_option linter.unusedVariables false
set_option linter.unusedSimpArgs false

/-- A kind whose cells are a plain function of the element. -/
structure Plainly {α : Type} (d : Kd α) (enc : α → List Value) : Prop where
  sz : ∀ x, (enc x).length = d.sz
  one : ∀ x, ∀ v ∈ enc x, v.oneCell' = true
  pos : 0 < d.sz
  K : ∀ {w x cs}, d.K w x cs → cs = enc x
  M : ∀ w base ok x, d.M w base ok x (enc x)

section
variable {α : Type} [Inhabited α] {d : Kd α} {enc : α → List Value} {e base g cap : Nat} {ok : Nat → Prop} {w w' : World} {xs : List α}

theorem arr_get (xs : List α) (i : Nat) (h : i < xs.length) : xs.toArray[i]! = xs[i] := by simp [h]

theorem holds_of_C (P : Plainly d enc) {n : Nat} (hC : d.C w (some ⟨g, 0, none⟩) n xs) (hf : ∀ j, w.frozen? ⟨g, j, none⟩ = false) : HoldsK enc d.sz w g 0 xs.toArray := by
  intro t ht
  have hn : xs.length = n := hC.1
  rw [size_flatK] at ht
  have ht' : t < xs.length * d.sz := by simpa using ht
  have hi : t / d.sz < xs.length := Nat.div_lt_of_lt_mul (by rw [Nat.mul_comm]; exact ht')
  refine ⟨?_, hf _⟩
  obtain ⟨ad, c, ea, _, hK, hc⟩ := Kd.C_get hC default ((t / d.sz : Nat) : Int) (Int.natCast_nonneg _) (Int.ofNat_lt.2 (hn ▸ hi))
  injection ea with ea
  subst ea
  rw [P.K hK] at hc
  rw [get_flatK _ _ _ _ ht]
  have hj : t % d.sz < (enc (xs.toArray[t / d.sz]!)).length := by rw [P.sz]; exact Nat.mod_lt _ P.pos
  have he : xs.getD (t / d.sz) default = xs.toArray[t / d.sz]! := by
    rw [arr_get _ _ hi, List.getD_eq_getElem?_getD, List.getElem?_eq_getElem hi]; rfl
  have h2 : (enc (xs.getD ((t / d.sz : Nat) : Int).toNat default))[t % d.sz]? = some ((enc (xs.toArray[t / d.sz]!))[t % d.sz]!) := by
    rw [Int.toNat_natCast, he, List.getElem?_eq_getElem hj, getElem!_pos (enc (xs.toArray[t / d.sz]!)) (t % d.sz) hj]
  have h3 := hc (t % d.sz) _ h2
  rw [add_plain, Int.toNat_natCast, Nat.div_add_mod'] at h3
  rw [Nat.zero_add]
  exact h3

theorem holds_of_R (P : Plainly d enc) (h : d.R e w base ok (.slice (some ⟨g, 0, none⟩) xs.length cap) xs) : HoldsK enc d.sz w g 0 xs.toArray := by
  have hr := Kd.R_reads' h
  obtain ⟨_, inner, ho, _⟩ := h
  refine holds_of_C P hr.2.2 (fun j => ?_)
  rcases ho.2 with ⟨hv, _⟩ | ⟨g', cap', cur, hv, _, hb, _⟩
  · cases hv
  · injection hv with hv _ _
    injection hv with hv
    injection hv with hv
    subst hv
    simp [World.frozen?, hb]

theorem rowK_of_R (P : Plainly d enc) (h : d.R e w base ok (.slice (some ⟨g, 0, none⟩) xs.length cap) xs) : RowK enc d.sz w g 0 xs.toArray :=
  ⟨P.sz, P.one, holds_of_R P h, own_lt h.2.choose_spec.1 g rfl⟩

theorem swk_heap {d' : Array α} {k : Nat} (h : SWK enc k w g 0 d' w') (hg : g < w.heap.size) :
    w'.os = w.os ∧ w'.tape = w.tape ∧ w'.output = w.output ∧ w.heap.size ≤ w'.heap.size ∧ (∀ b, b < w.heap.size → b ≠ g → w'.heap[b]? = w.heap[b]?) ∧
    ∀ cur t fr, w.heap[g]? = some (.cells cur t fr) → w'.heap[g]? = some (.cells (putCells id 0 (flatK enc k d') cur) t fr) := by
  obtain ⟨m, os, rfl⟩ := h
  unfold sortWorldK grow putRowK putRow mapBlock Sort.ahead
  refine ⟨rfl, rfl, rfl, by simp, fun b hb hne => ?_, fun cur t fr hc => ?_⟩
  · show ((w.heap.modify g _) ++ os)[b]? = _
    rw [Array.getElem?_append_left (by simpa using hb), Array.getElem?_modify, if_neg (Ne.symm hne)]
  · show ((w.heap.modify g _) ++ os)[g]? = _
    rw [Array.getElem?_append_left (by simpa using hg), Array.getElem?_modify, if_pos rfl, hc]
    rfl

theorem kept_of_swk {d' : Array α} {k : Nat} (h : SWK enc k w g 0 d' w') (hg : g < w.heap.size) : Kept w w' (fun b => b = g) :=
  ⟨(swk_heap h hg).2.2.2.1, fun b hb hne => (swk_heap h hg).2.2.2.2.1 b hb hne⟩
theorem below_of_swk {d' : Array α} {k : Nat} (h : SWK enc k w g 0 d' w') (hg : g < w.heap.size) {B : Nat} (hB : B ≤ g) : Below B w w' :=
  ⟨(swk_heap h hg).1, (swk_heap h hg).2.1, (swk_heap h hg).2.2.1, (swk_heap h hg).2.2.2.1, fun b hb => (swk_heap h hg).2.2.2.2.1 b (by omega) (by omega)⟩

theorem flat_list (P : Plainly d enc) (d' : Array α) (j : Nat) (hj : j < d'.size) : ((flatK enc d.sz d').toList.drop (j * d.sz)).take d.sz = enc d'[j]! := by
  have hlt : j * d.sz + d.sz ≤ d'.size * d.sz := by
    have := Nat.mul_le_mul_right d.sz (show j + 1 ≤ d'.size from hj)
    rwa [Nat.add_mul, Nat.one_mul] at this
  apply List.ext_getElem?
  intro c
  rw [List.getElem?_take]
  split
  · rename_i hc
    rw [List.getElem?_drop]
    have h1 : j * d.sz + c < (flatK enc d.sz d').size := by rw [size_flatK]; omega
    have h2 := get_flatK enc d.sz d' (j * d.sz + c) (by rw [size_flatK] at h1; exact h1)
    rw [getElem!_pos (flatK enc d.sz d') (j * d.sz + c) h1] at h2
    have hdiv : (j * d.sz + c) / d.sz = j := by rw [Nat.mul_comm, Nat.mul_add_div P.pos, Nat.div_eq_of_lt hc, Nat.add_zero]
    have hmod : (j * d.sz + c) % d.sz = c := by rw [Nat.mul_comm, Nat.mul_add_mod, Nat.mod_eq_of_lt hc]
    rw [hdiv, hmod] at h2
    have h3 : c < (enc d'[j]!).length := by rw [P.sz]; exact hc
    rw [Array.getElem?_toList, Array.getElem?_eq_getElem h1, h2, getElem!_pos (enc d'[j]!) c h3, List.getElem?_eq_getElem h3]
  · rename_i hc
    rw [List.getElem?_eq_none (by rw [P.sz]; omega)]

theorem R_of_swk (P : Plainly d enc) {n : Nat} (hn : n = xs.length) (h : d.R e w base ok (.slice (some ⟨g, 0, none⟩) n cap) xs) {d' : Array α} (hs : d'.size = xs.length) (S : SWK enc d.sz w g 0 d' w') : d.R e w' base ok (.slice (some ⟨g, 0, none⟩) n cap) d'.toList := by
  subst hn
  have hlt := own_lt h.2.choose_spec.1 g rfl
  obtain ⟨h0, inner, ho, _⟩ := h
  refine ⟨h0, (flatK enc d.sz d').toList, ⟨by simp [hs], .inr ?_⟩, by simp [hs], fun j p hj => ?_⟩
  · rcases ho.2 with ⟨hv, _⟩ | ⟨g', cap', cur, hv, hb, hh, h1, h2, h3, _⟩
    · cases hv
    · injection hv with hv _ hc
      injection hv with hv
      injection hv with hv
      subst hv
      subst hc
      refine ⟨g, cap, putCells id 0 (flatK enc d.sz d') cur, by simp [hs], hb, (swk_heap S hlt).2.2.2.2.2 _ _ _ hh, by simpa [hs] using h1, h2, by simp [putCells, h3], ?_⟩
      apply List.ext_getElem?
      intro t
      have hle : xs.length * d.sz ≤ cap * d.sz := Nat.mul_le_mul_right _ h1
      rw [List.getElem?_take]
      split
      · rename_i ht
        have ht : t < xs.length * d.sz := by simpa [hs] using ht
        have hlt' : t < (flatK enc d.sz d').size := by rw [size_flatK, hs]; exact ht
        have hcur : t < cur.size := by omega
        rw [Array.getElem?_toList, Array.getElem?_toList]
        unfold putCells
        rw [Array.getElem?_mapIdx, Array.getElem?_eq_getElem hcur, Array.getElem?_eq_getElem hlt']
        simp only [Option.map_some]
        rw [if_pos ⟨Nat.zero_le _, by omega⟩, Nat.sub_zero, getElem!_pos (flatK enc d.sz d') t hlt']
        rfl
      · rename_i ht
        rw [List.getElem?_eq_none (by simp [hs] at ht ⊢; omega)]
  · obtain ⟨hj1, hj2⟩ := List.getElem?_eq_some_iff.1 hj
    have hj1 : j < d'.size := by simpa using hj1
    rw [flat_list P d' j hj1]
    have : d'[j]! = p := by rw [getElem!_pos d' j hj1]; simpa using hj2
    rw [this]
    exact P.M _ _ _ _
end
end Go.Proofs.YtbdkgdbfnkogaaaW.PrintWords

namespace Go.Proofs.YtbdkgdbfnkogaaaW.PrintWords
open Go.Shelf Go.RowKit Go.Lib Go.Sort Go.Proofs
set_option linter.unusedVariables false
set_option linter.unusedSimpArgs false

section
variable {P : Program}
theorem run_copy_rows (w : World) (dT sT ty elem : TypeId) (sz g dLen dCap : Nat) (a : Option Addr) (sLen sCap : Nat) (cur : Array Value) (t : TypeId) (cs : List Value)
    (hu : P.underlying dT = some (.slice elem)) (hs : (P.info? elem).map (·.size) = some sz)
    (hg : w.heap[g]? = some (.cells cur t (0, 0))) (hn : cs.length = Nat.min sLen dLen * sz) (ha : a = none → cs = [])
    (hsrc : ∀ ad, a = some ad → ∀ j v, cs[j]? = some v → w.cell? (ad.add j) = some v) (hfit : cs.length ≤ cur.size) (h1 : ∀ v ∈ cs, v.oneCell' = true) :
    (Builtin.copy_ #[dT, sT] ty #[.slice (some ⟨g, 0, none⟩) dLen dCap, .slice a sLen sCap]).run P w =
      .ok (goInt (Nat.min sLen dLen)) (w.setRow g (cs ++ cur.toList.drop cs.length).toArray) := by
  have hst := run_storeCells_at P g 0 t cs 0 cur w hg (by simpa using hfit) h1
  simp only [Nat.add_zero, Nat.zero_add, List.take_zero, List.nil_append] at hst
  cases hq : P.info? elem with
  | none => simp [hq] at hs
  | some i =>
    have hi : i.size = sz := by simpa [hq] using hs
    cases a with
    | none =>
      obtain rfl := ha rfl
      simp only [List.length_nil] at hn hst
      simp [Builtin.copy_, run_underlying hu, Builtin.lenOf, Builtin.firstCells, sizeOf, typeInfo, hq, hi, storeCells]
      rw [setRow_self w g cur t (0, 0) hg]
    | some ad =>
      have hl := run_loadCells_list (P := P) w ad cs (hsrc ad rfl)
      simp [Builtin.copy_, run_underlying hu, Builtin.lenOf, Builtin.firstCells, sizeOf, typeInfo, hq, hi, ← hn, hl, hst]
end

section
variable {P : Program} {ops : Array Oper} {rest : List Oper} {o : Oper} {a : Act} {Q : Exit → Act → World → Prop} {α : Type} [Inhabited α] {d : Kd α} {enc : α → List Value} {e base g cap c2 n : Nat} {ok : Nat → Prop} {w : World} {xs ys : List α} {A : Option Addr}

theorem cells_of_C (PL : Plainly d enc) (hC : d.C w A n xs) : (A = none → (flatK enc d.sz xs.toArray).toList = []) ∧ ∀ ad, A = some ad → ∀ j v, (flatK enc d.sz xs.toArray).toList[j]? = some v → w.cell? (ad.add j) = some v := by
  have hn : xs.length = n := hC.1
  constructor
  · rintro rfl
    rcases Nat.eq_zero_or_pos n with h0 | h0
    · have : xs = [] := List.eq_nil_of_length_eq_zero (by omega)
      subst this
      apply List.eq_nil_of_length_eq_zero
      simp
    · obtain ⟨ad, h, _⟩ := hC.2.2 h0
      cases h
  · rintro ad rfl t v hv
    obtain ⟨ht0, hv⟩ := List.getElem?_eq_some_iff.1 hv
    have ht : t < xs.toArray.size * d.sz := by simpa using ht0
    have ht' : t < xs.length * d.sz := by simpa using ht
    have hi : t / d.sz < xs.length := Nat.div_lt_of_lt_mul (by rw [Nat.mul_comm]; exact ht')
    obtain ⟨ad', c, ea, _, hK, hc⟩ := Kd.C_get hC default ((t / d.sz : Nat) : Int) (Int.natCast_nonneg _) (Int.ofNat_lt.2 (hn ▸ hi))
    injection ea with ea
    subst ea
    rw [PL.K hK] at hc
    have hg := get_flatK enc d.sz xs.toArray t ht
    have hj : t % d.sz < (enc (xs.toArray[t / d.sz]!)).length := by rw [PL.sz]; exact Nat.mod_lt _ PL.pos
    have he : xs.getD (t / d.sz) default = xs.toArray[t / d.sz]! := by
      rw [arr_get _ _ hi, List.getD_eq_getElem?_getD, List.getElem?_eq_getElem hi]; rfl
    have h2 : (enc (xs.getD ((t / d.sz : Nat) : Int).toNat default))[t % d.sz]? = some ((enc (xs.toArray[t / d.sz]!))[t % d.sz]!) := by
      rw [Int.toNat_natCast, he, List.getElem?_eq_getElem hj, getElem!_pos (enc (xs.toArray[t / d.sz]!)) (t % d.sz) hj]
    have h3 := hc (t % d.sz) _ h2
    rw [Int.toNat_natCast, Nat.div_add_mod'] at h3
    rw [← hg] at h3
    have hts : t < (flatK enc d.sz xs.toArray).size := by simpa using ht
    rw [getElem!_pos (flatK enc d.sz xs.toArray) t hts] at h3
    rw [← hv]
    simpa using h3

theorem flat_one (PL : Plainly d enc) (xs : List α) : ∀ v ∈ (flatK enc d.sz xs.toArray).toList, v.oneCell' = true := by
  intro v hv
  obtain ⟨t, ht0, rfl⟩ := List.mem_iff_getElem.1 hv
  have hts : t < (flatK enc d.sz xs.toArray).size := by simpa using ht0
  have ht : t < xs.toArray.size * d.sz := by simpa using hts
  have hg := get_flatK enc d.sz xs.toArray t ht
  have hj : t % d.sz < (enc (xs.toArray[t / d.sz]!)).length := by rw [PL.sz]; exact Nat.mod_lt _ PL.pos
  rw [getElem!_pos (flatK enc d.sz xs.toArray) t hts, getElem!_pos (enc (xs.toArray[t / d.sz]!)) (t % d.sz) hj] at hg
  have : (flatK enc d.sz xs.toArray).toList[t] = (flatK enc d.sz xs.toArray)[t] := by simp
  rw [this, hg]
  exact PL.one _ _ (List.getElem_mem _)

theorem wpList_copy_all (PL : Plainly d enc) (hgd : o.guard = none) (dO sO : Operand) (dT sT : TypeId) (ho : o.op = .call { callee := .builtin .copy, args := #[dO, sO], argTypes := #[dT, sT] })
    (hu : P.underlying dT = some (.slice e)) (hsz : (P.info? e).map (·.size) = some d.sz) (hd : a.eval dO = .slice (some ⟨g, 0, none⟩) n cap) (hs : a.eval sO = .slice A n c2)
    (HO : d.R e w base ok (.slice (some ⟨g, 0, none⟩) n cap) ys) (HC : d.C w A n xs)
    (h : ∀ w', d.R e w' base ok (.slice (some ⟨g, 0, none⟩) n cap) xs → Kept w w' (fun b => b = g) → Below g w w' → wpList P ops Q rest (a.put o.dst (goInt n)) w') : wpList P ops Q (o :: rest) a w := by
  have hlt := own_lt HO.2.choose_spec.1 g rfl
  obtain ⟨h0, inner, hown, hr⟩ := HO
  have hyl : ys.length = n := by
    rcases hown.2 with ⟨hv, _⟩ | ⟨g', cap', cur, hv, _⟩
    · cases hv
    · injection hv with _ hv _; exact hv.symm
  have hn : xs.length = n := HC.1
  have hfl : (flatK enc d.sz xs.toArray).toList.length = n * d.sz := by simp [hn]
  rcases hown.2 with ⟨hv, _⟩ | ⟨g', cap', cur, hv, hb, hh, h1, h2, h3, _⟩
  · cases hv
  · injection hv with hv _ hc
    injection hv with hv
    injection hv with hv
    subst hv
    subst hc
    have hfit : (flatK enc d.sz xs.toArray).toList.length ≤ cur.size := by rw [hfl, h3]; exact Nat.mul_le_mul_right _ (hyl ▸ h1)
    have hrun := run_copy_rows (P := P) w dT sT o.type e d.sz g n cap A n c2 cur e (flatK enc d.sz xs.toArray).toList hu hsz hh (by rw [hfl]; simp [Nat.min_def]) (cells_of_C PL HC).1 (cells_of_C PL HC).2 hfit (flat_one PL xs)
    have hmin : Nat.min n n = n := Nat.min_self n
    rw [hmin] at hrun
    refine wpList_plain hgd fun K hK => ?_
    unfold Oper.wp
    simp [execOp, ho, resolve, invoke, builtin, hd, hs, hrun, Result.andThen]
    refine hK _ _ (h _ ?_ ?_ ?_)
    · refine ⟨h0, (flatK enc d.sz xs.toArray).toList, ⟨by rw [hfl, hn], .inr ⟨g, cap, _, by rw [hn], hb, setRow_heap w g cur _ e (0, 0) hh, by rw [hn, ← hyl]; exact h1, h2, ?_, ?_⟩⟩, by rw [hfl, hn], fun j p hj => ?_⟩
      · rw [List.size_toArray, List.length_append, List.length_drop, hfl, Array.length_toList, ← h3]
        rw [hfl] at hfit
        rw [hn]
        omega
      · rw [hn, ← hfl]
        simp
      · obtain ⟨hj1, hj2⟩ := List.getElem?_eq_some_iff.1 hj
        rw [flat_list PL xs.toArray j (by simpa using hj1), arr_get xs j hj1, hj2]
        exact PL.M _ _ _ _
    · exact ⟨by simp [World.setRow], fun b _ hb => setRow_other w g b _ hb⟩
    · exact below_setRow (Below.refl g w) (Nat.le_refl g) _
end
end Go.Proofs.YtbdkgdbfnkogaaaW.PrintWords
