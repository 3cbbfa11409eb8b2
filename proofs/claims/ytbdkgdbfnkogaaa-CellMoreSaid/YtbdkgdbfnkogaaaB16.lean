import Derived.Test.YtbdkgdbfnkogaaaRk
import Derived.Maps.Own
import Derived.Maps.Views
import Derived.MapKept

section
/-
  A map from numbers to bools that the call makes: what was not stored reads false; storing. Conditions: numbers are int64s.
-/
namespace Go.Proofs.Ytbdkgdbfnkogaaa.R
open Go.RowKit Go.Lib Go.Proofs.YtbdkgdbfnkogaaaW.PrintWords Go.Proofs.YtbdkgdbfnkogaaaW.PrintLast Go.Proofs.YtbdkgdbfnkogaaaW.PrintMore
set_option linter.unusedVariables false
set_option linter.unusedSimpArgs false

/-- A map at block b, of at most n entries: what is none of ks is not in it. -/
def Seen (w : World) (b n : Nat) (ks : List Int) : Prop := ∃ D : DataW Unit, w.ownsMap Try.prog 3 (plainElem Try.prog 4) b n D ∧ Maps.IsMap D ∧ ∀ x : Int, x ∉ ks → Maps.has D (.int .i64 x) = false

theorem Seen.made (w : World) : Seen (w.alloc (.map #[] 0)) w.heap.size 0 [] := ⟨.map [], World.ownsMap_made _ _ _ _, Maps.isMap_empty, fun _ _ => rfl⟩
section
variable {w w1 : World} {b n : Nat} {ks : List Int}
theorem Seen.below (M : Seen w b n ks) (h : Below w.heap.size w w1) : Seen w1 b n ks := by
  obtain ⟨D, ⟨es, clock, hb, r⟩, h2, h3⟩ := M
  exact ⟨D, ⟨es, clock, (h.block b (Array.getElem?_eq_some_iff.1 hb).1).trans hb, r⟩, h2, h3⟩
set_option maxRecDepth 100000 in
theorem plain_false {v : Value} {ps : List MemPlace} (h : plainElem (H := Unit) Try.prog 4 v = some (.lit (.bool false), ps)) : v = .bool false := by
  unfold plainElem at h
  rw [Try.underlying4] at h
  split at h
  · injection h with h; injection h with h _; injection h with h; injection h with h; rw [h]
  · split at h
    · injection h with h; injection h with h _; injection h with h; cases h
    · cases h
  · split at h
    · injection h with h; injection h with h _; injection h with h; cases h
    · cases h
  · cases h
set_option maxRecDepth 100000 in
theorem Seen.look (M : Seen w b n ks) (x : Int) (hx : x ∉ ks) (hw : (Lit.int .i64 x).wf = true) : (Instr.lookup 62 (.map (some b)) (.int .i64 x) false).run Try.prog w = .ok (.bool false) w := by
  obtain ⟨D, h1, h2, h3⟩ := M
  obtain ⟨v, ps, hrun, hv⟩ := h1.lookup (Maps.int_keyed Try.underlying3) Try.underlying62 (Try.zeroValue4 w) (plainElem_bool Try.underlying4 false) (Maps.keyOf_int_mk Try.underlying3 hw)
  rw [Maps.atKey_of_not_has (h3 x hx)] at hv
  rw [hrun, plain_false hv]
set_option maxRecDepth 100000 in
theorem Seen.put (M : Seen w b n ks) (x : Int) (hn : n < maxLen) (hw : (Lit.int .i64 x).wf = true) : ∃ w2, (Instr.mapUpdate 62 (.map (some b)) (.int .i64 x) (.bool true)).run Try.prog w = .ok () w2 ∧ Seen w2 b (n + 1) (ks ++ [x]) ∧ w.grownBy w2 (some b) := by
  obtain ⟨D, h1, h2, h3⟩ := M
  obtain ⟨w2, hrun, ho, hg⟩ := h1.update (Maps.int_keyed Try.underlying3) Try.underlying62 hn (Maps.keyOf_int_mk Try.underlying3 hw) (plainElem_bool Try.underlying4 true)
  refine ⟨w2, hrun, ⟨_, ho, h2.put _ _, fun y hy => ?_⟩, hg⟩
  have hy1 : y ∉ ks := fun h => hy (by simp [h])
  have hy2 : y ≠ x := fun h => hy (by simp [h])
  rw [Maps.has_put_other (fun e => hy2 (by injection e))]
  exact h3 y hy1
/-- The store at the operation, for the walk. -/
theorem wpList_seen {ops : Array Oper} {rest : List Oper} {o : Oper} {a : Act} {Q : Exit → Act → World → Prop} (hg : o.guard = none) (m x v : Operand) (hop : o.op = Op.mapUpdate 62 m x v) (X : Int) (hm : a.eval m = .map (some b)) (hx : a.eval x = .int .i64 X) (hv : a.eval v = .bool true) (M : Seen w b n ks) (hn : n < maxLen) (hw : (Lit.int .i64 X).wf = true)
    (hK : ∀ w', Seen w' b (n + 1) (ks ++ [X]) → w.grownBy w' (some b) → wpList Try.prog ops Q rest (a.put o.dst undef) w') : wpList Try.prog ops Q (o :: rest) a w := by
  refine wpList_plain hg fun K' hK' => ?_
  obtain ⟨w', hrun, r1, r2⟩ := M.put X hn hw
  unfold Oper.wp
  simp [execOp, hop, hm, hx, hv, hrun, Result.andThen]
  exact hK' _ _ (hK w' r1 r2)
end
end Go.Proofs.Ytbdkgdbfnkogaaa.R
end

section
namespace Go.Proofs.Ytbdkgdbfnkogaaa.R
open Go.RowKit Go.Proofs.YtbdkgdbfnkogaaaW.PrintWords Go.Proofs.YtbdkgdbfnkogaaaW.PrintLast Go.Proofs.YtbdkgdbfnkogaaaW.PrintMore
attribute [local go_sem] max2_int min2_int max_two min_two max_three min_three max_four min_four   -- for this text's walks alone
set_option linter.unusedVariables false
set_option linter.unusedSimpArgs false

/-! ### wayfinderkit_Pick: function 11 -/
def wayfinderkit_Pick.f (a0 : Int) (a1 : Int) : Option (Int) := if a1 < 1 then (some 0) else (if a1 = 0 then (none) else (if (Int.tmod a0 a1) < 0 then (some (wrap64 ((Int.tmod a0 a1) + a1))) else (some (Int.tmod a0 a1))))
set_option maxHeartbeats 8000000 in
set_option maxRecDepth 100000 in
theorem wayfinderkit_Pick.calls (a0 : Int) (a1 : Int) (r : Int) (w : World) (h : wayfinderkit_Pick.f a0 a1 = some r) :
    Calls Try.prog 11 #[.int .i64 a0, .int .i64 a1] w fun e w' => e = .returned (.int .i64 r) ∧ Drawn0 w w' := by
  have H : (if a1 < 1 then (some 0) else (if a1 = 0 then (none) else (if (Int.tmod a0 a1) < 0 then (some (wrap64 ((Int.tmod a0 a1) + a1))) else (some (Int.tmod a0 a1))))) = some r := h
  clear h
  by_cases c3 : a1 < 1
  · rw [if_pos c3] at H
    have c3b0 : decide (a1 < 1) = true := decide_eq_true c3
    clear c3
    obtain rfl := Option.some.inj H
    go_enter Try.func11, Try.ntmps11
    go_wp2
    go_ret
    exact ⟨by first | rfl | (simp; done) | (simp [*]; done), by repeat (first | exact Drawn0.refl _ | apply Drawn0.step)⟩
  · rw [if_neg c3] at H
    have c3b0 : decide (a1 < 1) = false := decide_eq_false c3
    clear c3
    by_cases c4 : a1 = 0
    · rw [if_pos c4] at H
      exact absurd H (by simp)
    · rw [if_neg c4] at H
      have c4b0 : (a1 == 0) = false := beq_eq_false_iff_ne.mpr c4
      have c4b1 : (a1 != 0) = true := bne_iff_ne.mpr c4
      by_cases c5 : (Int.tmod a0 a1) < 0
      · rw [if_pos c5] at H
        have c5b0 : decide ((Int.tmod a0 a1) < 0) = true := decide_eq_true c5
        clear c5
        obtain rfl := Option.some.inj H
        go_enter Try.func11, Try.ntmps11
        go_wp2
        go_ret
        exact ⟨by first | rfl | (simp; done) | (simp [*]; done), by repeat (first | exact Drawn0.refl _ | apply Drawn0.step)⟩
      · rw [if_neg c5] at H
        have c5b0 : decide ((Int.tmod a0 a1) < 0) = false := decide_eq_false c5
        clear c5
        obtain rfl := Option.some.inj H
        go_enter Try.func11, Try.ntmps11
        go_wp2
        go_ret
        exact ⟨by first | rfl | (simp; done) | (simp [*]; done), by repeat (first | exact Drawn0.refl _ | apply Drawn0.step)⟩

end Go.Proofs.Ytbdkgdbfnkogaaa.R
end
