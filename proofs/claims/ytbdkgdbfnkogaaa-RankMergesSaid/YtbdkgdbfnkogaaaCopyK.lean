/-
  The builtin copy of a whole row of elements of several cells onto a row of the call's own of the same length. Conditions: as told.
-/
import Derived.Test.YtbdkgdbfnkogaaaSwk
import Derived.Laws.CopyOwn
import Derived.Laws.CopyRow
namespace Go.Proofs.YtbdkgdbfnkogaaaW.PrintWords
open Go.Shelf Go.RowKit Go.Lib Go.Sort Go.Proofs
set_option linter.unusedVariables false
set_option linter.unusedSimpArgs false

section
variable {P : Program}
theorem run_copy_rows (w : World) (dT sT ty elem : TypeId) (sz g dLen dCap : Nat) (a : Option Addr) (sLen sCap : Nat) (cur : Array Value) (t : TypeId) (cs : List Value)
    (hu : P.underlying dT = some (.slice elem)) (hs : (P.info? elem).map (·.size) = some sz)
    (hg : w.heap[g]? = some (.cells cur t (0, 0))) (hn : cs.length = Nat.min sLen dLen * sz) (ha : a = none → cs = [])
    (hsrc : ∀ ad, a = some ad → ∀ j v, cs[j]? = some v → w.cell? (ad.add j) = some v) (hfit : cs.length ≤ cur.size) (h1 : ∀ v ∈ cs, v.oneCell' = true) :
    (Builtin.copy_ #[dT, sT] ty #[.slice (some ⟨g, 0, none⟩) dLen dCap, .slice a sLen sCap]).run P w =
      .ok (goInt (Nat.min sLen dLen)) (w.setRow g (cs ++ cur.toList.drop cs.length).toArray) := by
  have hst := run_storeCells_at P g 0 t cs 0 cur w hg (by simpa using hfit) h1
  simp only [Nat.add_zero, Nat.zero_add, List.take_zero, List.nil_append] at hst
  cases hq : P.info? elem with
  | none => simp [hq] at hs
  | some i =>
    have hi : i.size = sz := by simpa [hq] using hs
    cases a with
    | none =>
      obtain rfl := ha rfl
      simp only [List.length_nil] at hn hst
      simp [Builtin.copy_, run_underlying hu, Builtin.lenOf, Builtin.firstCells, sizeOf, typeInfo, hq, hi, storeCells]
      rw [setRow_self w g cur t (0, 0) hg]
    | some ad =>
      have hl := run_loadCells_list (P := P) w ad cs (hsrc ad rfl)
      simp [Builtin.copy_, run_underlying hu, Builtin.lenOf, Builtin.firstCells, sizeOf, typeInfo, hq, hi, ← hn, hl, hst]
end

section
variable {P : Program} {ops : Array Oper} {rest : List Oper} {o : Oper} {a : Act} {Q : Exit → Act → World → Prop} {α : Type} [Inhabited α] {d : Kd α} {enc : α → List Value} {e base g cap c2 n : Nat} {ok : Nat → Prop} {w : World} {xs ys : List α} {A : Option Addr}

theorem cells_of_C (PL : Plainly d enc) (hC : d.C w A n xs) : (A = none → (flatK enc d.sz xs.toArray).toList = []) ∧ ∀ ad, A = some ad → ∀ j v, (flatK enc d.sz xs.toArray).toList[j]? = some v → w.cell? (ad.add j) = some v := by
  have hn : xs.length = n := hC.1
  constructor
  · rintro rfl
    rcases Nat.eq_zero_or_pos n with h0 | h0
    · have : xs = [] := List.eq_nil_of_length_eq_zero (by omega)
      subst this
      apply List.eq_nil_of_length_eq_zero
      simp
    · obtain ⟨ad, h, _⟩ := hC.2.2 h0
      cases h
  · rintro ad rfl t v hv
    obtain ⟨ht0, hv⟩ := List.getElem?_eq_some_iff.1 hv
    have ht : t < xs.toArray.size * d.sz := by simpa using ht0
    have ht' : t < xs.length * d.sz := by simpa using ht
    have hi : t / d.sz < xs.length := Nat.div_lt_of_lt_mul (by rw [Nat.mul_comm]; exact ht')
    obtain ⟨ad', c, ea, _, hK, hc⟩ := Kd.C_get hC default ((t / d.sz : Nat) : Int) (Int.natCast_nonneg _) (Int.ofNat_lt.2 (hn ▸ hi))
    injection ea with ea
    subst ea
    rw [PL.K hK] at hc
    have hg := get_flatK enc d.sz xs.toArray t ht
    have hj : t % d.sz < (enc (xs.toArray[t / d.sz]!)).length := by rw [PL.sz]; exact Nat.mod_lt _ PL.pos
    have he : xs.getD (t / d.sz) default = xs.toArray[t / d.sz]! := by
      rw [arr_get _ _ hi, List.getD_eq_getElem?_getD, List.getElem?_eq_getElem hi]; rfl
    have h2 : (enc (xs.getD ((t / d.sz : Nat) : Int).toNat default))[t % d.sz]? = some ((enc (xs.toArray[t / d.sz]!))[t % d.sz]!) := by
      rw [Int.toNat_natCast, he, List.getElem?_eq_getElem hj, getElem!_pos (enc (xs.toArray[t / d.sz]!)) (t % d.sz) hj]
    have h3 := hc (t % d.sz) _ h2
    rw [Int.toNat_natCast, Nat.div_add_mod'] at h3
    rw [← hg] at h3
    have hts : t < (flatK enc d.sz xs.toArray).size := by simpa using ht
    rw [getElem!_pos (flatK enc d.sz xs.toArray) t hts] at h3
    rw [← hv]
    simpa using h3

theorem flat_one (PL : Plainly d enc) (xs : List α) : ∀ v ∈ (flatK enc d.sz xs.toArray).toList, v.oneCell' = true := by
  intro v hv
  obtain ⟨t, ht0, rfl⟩ := List.mem_iff_getElem.1 hv
  have hts : t < (flatK enc d.sz xs.toArray).size := by simpa using ht0
  have ht : t < xs.toArray.size * d.sz := by simpa using hts
  have hg := get_flatK enc d.sz xs.toArray t ht
  have hj : t % d.sz < (enc (xs.toArray[t / d.sz]!)).length := by rw [PL.sz]; exact Nat.mod_lt _ PL.pos
  rw [getElem!_pos (flatK enc d.sz xs.toArray) t hts, getElem!_pos (enc (xs.toArray[t / d.sz]!)) (t % d.sz) hj] at hg
  have : (flatK enc d.sz xs.toArray).toList[t] = (flatK enc d.sz xs.toArray)[t] := by simp
  rw [this, hg]
  exact PL.one _ _ (List.getElem_mem _)

theorem wpList_copy_all (PL : Plainly d enc) (hgd : o.guard = none) (dO sO : Operand) (dT sT : TypeId) (ho : o.op = .call { callee := .builtin .copy, args := #[dO, sO], argTypes := #[dT, sT] })
    (hu : P.underlying dT = some (.slice e)) (hsz : (P.info? e).map (·.size) = some d.sz) (hd : a.eval dO = .slice (some ⟨g, 0, none⟩) n cap) (hs : a.eval sO = .slice A n c2)
    (HO : d.R e w base ok (.slice (some ⟨g, 0, none⟩) n cap) ys) (HC : d.C w A n xs)
    (h : ∀ w', d.R e w' base ok (.slice (some ⟨g, 0, none⟩) n cap) xs → Kept w w' (fun b => b = g) → Below g w w' → wpList P ops Q rest (a.put o.dst (goInt n)) w') : wpList P ops Q (o :: rest) a w := by
  have hlt := own_lt HO.2.choose_spec.1 g rfl
  obtain ⟨h0, inner, hown, hr⟩ := HO
  have hyl : ys.length = n := by
    rcases hown.2 with ⟨hv, _⟩ | ⟨g', cap', cur, hv, _⟩
    · cases hv
    · injection hv with _ hv _; exact hv.symm
  have hn : xs.length = n := HC.1
  have hfl : (flatK enc d.sz xs.toArray).toList.length = n * d.sz := by simp [hn]
  rcases hown.2 with ⟨hv, _⟩ | ⟨g', cap', cur, hv, hb, hh, h1, h2, h3, _⟩
  · cases hv
  · injection hv with hv _ hc
    injection hv with hv
    injection hv with hv
    subst hv
    subst hc
    have hfit : (flatK enc d.sz xs.toArray).toList.length ≤ cur.size := by rw [hfl, h3]; exact Nat.mul_le_mul_right _ (hyl ▸ h1)
    have hrun := run_copy_rows (P := P) w dT sT o.type e d.sz g n cap A n c2 cur e (flatK enc d.sz xs.toArray).toList hu hsz hh (by rw [hfl]; simp [Nat.min_def]) (cells_of_C PL HC).1 (cells_of_C PL HC).2 hfit (flat_one PL xs)
    have hmin : Nat.min n n = n := Nat.min_self n
    rw [hmin] at hrun
    refine wpList_plain hgd fun K hK => ?_
    unfold Oper.wp
    simp [execOp, ho, resolve, invoke, builtin, hd, hs, hrun, Result.andThen]
    refine hK _ _ (h _ ?_ ?_ ?_)
    · refine ⟨h0, (flatK enc d.sz xs.toArray).toList, ⟨by rw [hfl, hn], .inr ⟨g, cap, _, by rw [hn], hb, setRow_heap w g cur _ e (0, 0) hh, by rw [hn, ← hyl]; exact h1, h2, ?_, ?_⟩⟩, by rw [hfl, hn], fun j p hj => ?_⟩
      · rw [List.size_toArray, List.length_append, List.length_drop, hfl, Array.length_toList, ← h3]
        rw [hfl] at hfit
        rw [hn]
        omega
      · rw [hn, ← hfl]
        simp
      · obtain ⟨hj1, hj2⟩ := List.getElem?_eq_some_iff.1 hj
        rw [flat_list PL xs.toArray j (by simpa using hj1), arr_get xs j hj1, hj2]
        exact PL.M _ _ _ _
    · exact ⟨by simp [World.setRow], fun b _ hb => setRow_other w g b _ hb⟩
    · exact below_setRow (Below.refl g w) (Nat.le_refl g) _
end
end Go.Proofs.YtbdkgdbfnkogaaaW.PrintWords
