/-
  rank.order, rank.Less and what they call, by their contracts. No conditions.
-/
import Derived.Test.YtbdkgdbfnkogaaaRf52
import Derived.Test.YtbdkgdbfnkogaaaRf15
import Derived.Test.YtbdkgdbfnkogaaaHeap
import Derived.StillTailTactics
import Derived.Sort.Grow
namespace Go.Proofs.Ytbdkgdbfnkogaaa.R
open Go.RowKit Go.Sort Go.Proofs.YtbdkgdbfnkogaaaW.PrintWords Go.Proofs.YtbdkgdbfnkogaaaW.PrintLast Go.Proofs.YtbdkgdbfnkogaaaW.PrintMore Go.Proofs.Ytbdkgdbfnkogaaa.Plain
set_option linter.unusedVariables false
set_option linter.unusedSimpArgs false

/-- Nearer: by distance, then by id. -/
def nlt (a b : S30) : Bool := decide (a.f0 < b.f0 ∨ a.f0 = b.f0 ∧ a.f1 < b.f1)
def cmpi (a b : Int) : Int := if a < b then -1 else if b < a then 1 else 0
def ncmp (a b : S30) : Int := if cmpi a.f0 b.f0 = 0 then cmpi a.f1 b.f1 else cmpi a.f0 b.f0

theorem S30.ext' {a b : S30} (h0 : a.f0 = b.f0) (h1 : a.f1 = b.f1) : a = b := by
  cases a; cases b; simp_all

theorem nlt_sto : STO nlt where
  irrefl x := by simp [nlt]
  trans x y z h1 h2 := by simp only [nlt, decide_eq_true_eq] at *; omega
  total x y h1 h2 := by
    simp only [nlt, decide_eq_false_iff_not] at *
    exact S30.ext' (by omega) (by omega)

theorem ncmp_neg (a b : S30) : decide (ncmp a b < 0) = nlt a b := by
  unfold ncmp nlt cmpi
  rw [decide_eq_decide]
  by_cases h1 : a.f0 < b.f0
  · simp [h1]
  · by_cases h2 : b.f0 < a.f0
    · simp [h1, h2]; omega
    · by_cases h3 : a.f1 < b.f1
      · simp [h1, h2, h3]; omega
      · by_cases h4 : b.f1 < a.f1
        · simp [h1, h2, h3, h4]
        · simp [h1, h2, h3, h4]

theorem compare_f (a b : Int) : cmp_Compare_int64.f a b = some (cmpi a b) := by
  unfold cmp_Compare_int64.f cmp_isNaN_int64.f cmpi
  simp only [bne_self_eq_false, Option.bind_some]
  by_cases h1 : a < b
  · simp [h1]
  · by_cases h2 : b < a
    · simp [h1, h2]
    · simp [h1, h2]

theorem or_f (a b : Int) : cmp_Or_int.f 3 [a, b] = some (if a = 0 then b else a) := by
  unfold cmp_Or_int.f
  by_cases h1 : a = 0
  · by_cases h2 : b = 0
    · simp [cmp_Or_int.l0, rd, h1, h2, wrap64]
    · simp [cmp_Or_int.l0, rd, h1, h2, wrap64]
  · simp [cmp_Or_int.l0, rd, h1, wrap64]

theorem isNaN_any (a : Int) (w : World) : Calls Try.prog 94 #[.int .i64 a] w fun e w' => e = .returned (.bool false) ∧ w' = w := by
  go_enter Try.func94, Try.ntmps94
  go_wp2
  go_ret
  exact ⟨by simp, rfl⟩
set_option maxHeartbeats 1000000 in
theorem compare_any (a b : Int) (w : World) : Calls Try.prog 78 #[.int .i64 a, .int .i64 b] w fun e w' => e = .returned (.int .i64 (cmpi a b)) ∧ w' = w := by
  by_cases h1 : a < b
  · have r : cmpi a b = -1 := by simp [cmpi, h1]
    rw [r]; clear r
    have h1' : decide (a < b) = true := decide_eq_true h1
    clear h1
    go_enter Try.func78, Try.ntmps78
    go_wp2_with (go_at_call 94; refine (isNaN_any _ _).mono ?_; rintro e w' ⟨rfl, rfl⟩)
    go_ret
    exact ⟨rfl, rfl⟩
  · by_cases h2 : b < a
    · have r : cmpi a b = 1 := by simp [cmpi, h1, h2]
      rw [r]; clear r
      have h1' : decide (a < b) = false := decide_eq_false h1
      have h2' : decide (b < a) = true := decide_eq_true h2
      clear h1 h2
      go_enter Try.func78, Try.ntmps78
      go_wp2_with (go_at_call 94; refine (isNaN_any _ _).mono ?_; rintro e w' ⟨rfl, rfl⟩)
      go_ret
      exact ⟨rfl, rfl⟩
    · have r : cmpi a b = 0 := by simp [cmpi, h1, h2]
      rw [r]; clear r
      have h1' : decide (a < b) = false := decide_eq_false h1
      have h2' : decide (b < a) = false := decide_eq_false h2
      clear h1 h2
      go_enter Try.func78, Try.ntmps78
      go_wp2_with (go_at_call 94; refine (isNaN_any _ _).mono ?_; rintro e w' ⟨rfl, rfl⟩)
      go_ret
      exact ⟨rfl, rfl⟩

theorem reads_two (W : World) (r0 r1 : Int) (e : TypeId) {W1 : World} (h : W1 = W.alloc (.cells #[.int .i64 r0, .int .i64 r1] e)) : Kd.C (Kd.int .i64) W1 (some ⟨W.heap.size, 0, none⟩) 2 [r0, r1] := by
  subst h
  refine Kd.C_of_reads (d := (0 : Int)) (h1 := fun _ => rfl) ⟨rfl, by decide, fun _ => ⟨_, rfl, fun j hj => ?_⟩⟩
  have : j = 0 ∨ j = 1 := by omega
  rcases this with rfl | rfl
  · simp [add_plain]
  · simp [add_plain]

/-- A region of reads and quiet calls with a forced tail, in a world under a name. -/
theorem still_tail_at {P : Program} {id : Nat} {Q : Exit → Act → World → Prop} {a : Act} {w : World} {l : List Oper} (n : Nat) (hm : P.follows .mixedOrders = true) (hB : Region.lexTailB .any l.toArray n = true)
    (h : ∀ W, Aside0 (W = w.drew) → wpStill P l.toArray W (fun a' => wpList P l.toArray Q (l.drop n) a' W) (l.take n) a) : (Code.region id l.toArray true).wp P Q a w :=
  wp_region_still_tail n hm hB (h _ ⟨rfl⟩)

set_option maxHeartbeats 1000000 in
set_option maxRecDepth 100000 in
/-- rank.order: some draws, some blocks. -/
theorem order_any (a b : S30) (w : World) : Calls Try.prog 52 #[.agg #[.int .i64 a.f0, .int .i64 a.f1], .agg #[.int .i64 b.f0, .int .i64 b.f1]] w fun e w' => e = .returned (.int .i64 (ncmp a b)) ∧ ∃ q os, w' = grow (w.drewN q) os := by
  have hr : ncmp a b = if cmpi a.f0 b.f0 = 0 then cmpi a.f1 b.f1 else cmpi a.f0 b.f0 := rfl
  have c0 := compare_any a.f0 b.f0
  have c1 := compare_any a.f1 b.f1
  generalize cmpi a.f0 b.f0 = r0 at c0 hr
  generalize cmpi a.f1 b.f1 = r1 at c1 hr
  have C0 := Aside0.mk c0
  have C1 := Aside0.mk c1
  have OF := Aside0.mk (or_f r0 r1)
  rw [← hr] at OF
  clear hr c0 c1
  generalize ncmp a b = r at OF ⊢
  go_enter Try.func52, Try.ntmps52
  go_wp2
  refine still_tail_at 10 (by kernel_rfl) (by kernel_rfl) (fun W HW => ?_)
  simp only [List.take_succ_cons, List.take_zero, List.drop_succ_cons, List.drop_zero]
  have l0 : W.cell? ⟨w.heap.size, 0, none⟩ = some (.int .i64 a.f0) := by rw [HW.out]; simp
  have l1 : W.cell? ⟨w.heap.size, 1, none⟩ = some (.int .i64 a.f1) := by rw [HW.out]; simp
  have l2 : W.cell? ⟨w.heap.size + 1, 0, none⟩ = some (.int .i64 b.f0) := by rw [HW.out]; simp
  have l3 : W.cell? ⟨w.heap.size + 1, 1, none⟩ = some (.int .i64 b.f1) := by rw [HW.out]; simp
  repeat still_step
  still_call (C0.out _)
  repeat still_step
  still_call (C1.out _)
  refine wpStill_nil ?_
  clear l0 l1 l2 l3
  go_wp2_with fail
  refine (cmp_Or_int.calls 3 (some ⟨W.heap.size, 0, none⟩) 2 [r0, r1] _ _ (reads_two _ _ _ _ rfl) (Nat.le_refl _) OF.out).mono ?_
  rintro e w' ⟨rfl, hd⟩
  have HD := Aside0.mk hd
  clear hd
  go_wp2
  go_ret
  obtain ⟨n, hn⟩ := HD.out.out
  refine ⟨rfl, 1 + n, #[.cells #[.int .i64 a.f0, .int .i64 a.f1] 30, .cells #[.int .i64 b.f0, .int .i64 b.f1] 30, .cells #[.int .i64 r0, .int .i64 r1] 3], ?_⟩
  rw [hn, HW.out]
  rw [alloc_eq_grow, alloc_eq_grow, alloc_eq_grow, grow_grow]
  show grow ((grow _ _).drew.drewN n) _ = _
  show grow (grow (w.drew.drewN n) _) _ = _
  rw [grow_grow]
  have e : w.drew.drewN n = w.drewN (1 + n) := by show { w with drawn := w.drawn + 1 + n } = { w with drawn := w.drawn + (1 + n) }; rw [Nat.add_assoc]
  rw [e]
  rfl
end Go.Proofs.Ytbdkgdbfnkogaaa.R
