import Derived.Test.YtbdkgdbfnkogaaaRk
import Derived.Test.YtbdkgdbfnkogaaaB2
import Derived.Test.YtbdkgdbfnkogaaaB0
import Derived.Test.YtbdkgdbfnkogaaaB1

section
namespace Go.Proofs.Ytbdkgdbfnkogaaa.R
open Go.RowKit Go.Proofs.YtbdkgdbfnkogaaaW.PrintWords Go.Proofs.YtbdkgdbfnkogaaaW.PrintLast Go.Proofs.YtbdkgdbfnkogaaaW.PrintMore
attribute [local go_sem] max2_int min2_int max_two min_two max_three min_three max_four min_four   -- for this text's walks alone
set_option linter.unusedVariables false
set_option linter.unusedSimpArgs false

/-! ### wayfinderref03_Dist: function 30 -/
def wayfinderref03_Dist.l0 : Nat → List Int → List Int → Int → Int → Option (Int × Int)
  | 0, _, _, _, _ => none
  | k + 1, x0, x1, x7, x8 => if x8 < (x0.length : Int) then (if 0 ≤ x8 then (if x8 < (x1.length : Int) then (wayfinderref03_Dist.l0 k x0 x1 (wrap64 (x7 + (wrap64 ((wrap64 ((wrap64 (rd x0 x8)) - (wrap64 (rd x1 x8)))) * (wrap64 ((wrap64 (rd x0 x8)) - (wrap64 (rd x1 x8)))))))) (wrap64 (x8 + 1))) else (none)) else (none)) else (some (x7, 0))
def wayfinderref03_Dist.f (k : Nat) (l0 : List Int) (l1 : List Int) : Option (Int × Int) := (wayfinderref03_both.f k l0 l1).bind fun t261 => (if t261 = 0 then (wayfinderref03_Dist.l0 k l0 l1 0 0) else (some (0, t261)))
theorem wayfinderref03_Dist.mono_l : ∀ k, (∀ y0 y1 y2 y3, LeO (wayfinderref03_Dist.l0 k y0 y1 y2 y3) (wayfinderref03_Dist.l0 (k + 1) y0 y1 y2 y3))
  | 0 => fun _ _ _ _ r h => by simp [wayfinderref03_Dist.l0] at h
  | k + 1 => by
    have ih0 := wayfinderref03_Dist.mono_l k
    · intro y0 y1 y2 y3
      unfold wayfinderref03_Dist.l0
      repeat' first
      | (with_reducible exact ih0 _ _ _ _)
      | (with_reducible exact wayfinderref03_both.mono _ _ _)
      | (with_reducible exact LeO.refl _)
      | (with_reducible exact LeO.none _)
      | (with_reducible refine LeO.ite ?_ ?_)
      | (with_reducible refine LeO.bind ?_ (fun _ => ?_))
      | exact ih0 _ _ _ _
      | exact wayfinderref03_both.mono _ _ _
      | exact LeO.none _
      | refine LeO.ite ?_ ?_
      | refine LeO.bind ?_ (fun _ => ?_)
theorem wayfinderref03_Dist.mono : ∀ a0 a1 k, LeO (wayfinderref03_Dist.f k a0 a1) (wayfinderref03_Dist.f (k + 1) a0 a1) := by
  intro a0 a1 k
  have ih0 := wayfinderref03_Dist.mono_l k
  unfold wayfinderref03_Dist.f
  repeat' first
      | (with_reducible exact ih0 _ _ _ _)
      | (with_reducible exact wayfinderref03_both.mono _ _ _)
      | (with_reducible exact LeO.refl _)
      | (with_reducible exact LeO.none _)
      | (with_reducible refine LeO.ite ?_ ?_)
      | (with_reducible refine LeO.bind ?_ (fun _ => ?_))
      | exact ih0 _ _ _ _
      | exact wayfinderref03_both.mono _ _ _
      | exact LeO.none _
      | refine LeO.ite ?_ ?_
      | refine LeO.bind ?_ (fun _ => ?_)
set_option maxHeartbeats 8000000 in
set_option maxRecDepth 100000 in
theorem wayfinderref03_Dist.calls (k : Nat) (A0 : Option Addr) (c0 : Nat) (l0 : List Int) (A1 : Option Addr) (c1 : Nat) (l1 : List Int) (r1 : Int) (r2 : Int) (w : World) (hr0 : Kd.C (Kd.int .i32) w A0 l0.length l0) (hc0 : l0.length ≤ c0) (hr1 : Kd.C (Kd.int .i32) w A1 l1.length l1) (hc1 : l1.length ≤ c1) (h : wayfinderref03_Dist.f k l0 l1 = some (r1, r2)) :
    Calls Try.prog 30 #[.slice A0 l0.length c0, .slice A1 l1.length c1] w fun e w' => e = .returned (.tuple #[.int .i64 r1, .int .i64 r2]) ∧ Drawn0 w w' := by
  have HR0 := Aside0.mk hr0
  have HC0 := Aside0.mk hc0
  clear hr0 hc0
  have HR1 := Aside0.mk hr1
  have HC1 := Aside0.mk hc1
  clear hr1 hc1
  have H : ((wayfinderref03_both.f k l0 l1).bind fun t261 => (if t261 = 0 then (wayfinderref03_Dist.l0 k l0 l1 0 0) else (some (0, t261)))) = some (r1, r2) := h
  clear h
  replace H := Option.bind_eq_some_iff.mp H
  obtain ⟨t261, A30, H⟩ := H
  replace H : (if t261 = 0 then (wayfinderref03_Dist.l0 k l0 l1 0 0) else (some (0, t261))) = some (r1, r2) := H
  have A3 := Aside0.mk A30
  clear A30
  by_cases c4 : t261 = 0
  · rw [if_pos c4] at H
    have c4b0 : (t261 == 0) = true := beq_iff_eq.mpr c4
    have c4b1 : (t261 != 0) = false := bne_eq_false_iff_eq.mpr c4
    clear c4
    have H' := Aside0.mk H
    clear H
    go_enter Try.func30, Try.ntmps30
    go_wp2_with (first | (go_at_call 59; (with_reducible refine (wayfinderref03_both.calls k _ _ l0 _ _ l1 t261 _ ?side1 ?side2 ?side3 ?side4 A3.out).mono ?_); (case side1 => repeat (first | exact HR0.out | (with_reducible refine Kd.C_alloc ?_ _) | (with_reducible refine Kd.C_drewN ?_ _) | (with_reducible refine Kd.C_drew ?_))); (case side2 => exact HC0.out); (case side3 => repeat (first | exact HR1.out | (with_reducible refine Kd.C_alloc ?_ _) | (with_reducible refine Kd.C_drewN ?_ _) | (with_reducible refine Kd.C_drew ?_))); (case side4 => exact HC1.out); rintro e w' ⟨rfl, ⟨nd, rfl⟩⟩; (try first | exact ⟨rfl, _, World.drewN_drewN _ _ _⟩ | exact ⟨rfl, _, Eq.trans (World.drewN_drewN _ _ _) (congrArg (World.drewN _) (Nat.add_assoc _ _ _))⟩)))
    repeat (go_quiet (first | (go_at_call 59; (with_reducible refine (wayfinderref03_both.calls k _ _ l0 _ _ l1 t261 _ ?side1 ?side2 ?side3 ?side4 A3.out).mono ?_); (case side1 => repeat (first | exact HR0.out | (with_reducible refine Kd.C_alloc ?_ _) | (with_reducible refine Kd.C_drewN ?_ _) | (with_reducible refine Kd.C_drew ?_))); (case side2 => exact HC0.out); (case side3 => repeat (first | exact HR1.out | (with_reducible refine Kd.C_alloc ?_ _) | (with_reducible refine Kd.C_drewN ?_ _) | (with_reducible refine Kd.C_drew ?_))); (case side4 => exact HC1.out); rintro e w' ⟨rfl, ⟨nd, rfl⟩⟩; (try first | exact ⟨rfl, _, World.drewN_drewN _ _ _⟩ | exact ⟨rfl, _, Eq.trans (World.drewN_drewN _ _ _) (congrArg (World.drewN _) (Nat.add_assoc _ _ _))⟩))); try go_wp2_with (first | (go_at_call 59; (with_reducible refine (wayfinderref03_both.calls k _ _ l0 _ _ l1 t261 _ ?side1 ?side2 ?side3 ?side4 A3.out).mono ?_); (case side1 => repeat (first | exact HR0.out | (with_reducible refine Kd.C_alloc ?_ _) | (with_reducible refine Kd.C_drewN ?_ _) | (with_reducible refine Kd.C_drew ?_))); (case side2 => exact HC0.out); (case side3 => repeat (first | exact HR1.out | (with_reducible refine Kd.C_alloc ?_ _) | (with_reducible refine Kd.C_drewN ?_ _) | (with_reducible refine Kd.C_drew ?_))); (case side4 => exact HC1.out); rintro e w' ⟨rfl, ⟨nd, rfl⟩⟩; (try first | exact ⟨rfl, _, World.drewN_drewN _ _ _⟩ | exact ⟨rfl, _, Eq.trans (World.drewN_drewN _ _ _) (congrArg (World.drewN _) (Nat.add_assoc _ _ _))⟩))))
    go_loopg [7, 8] k (fun kq v7 v8 w' => ∃ (x7_1 : Int) (x8_1 : Int), v7 = .int .i64 x7_1 ∧ v8 = .int .i64 x8_1 ∧ Aside0 (wayfinderref03_Dist.l0 kq l0 l1 x7_1 x8_1 = some (r1, r2)) ∧ Aside0 (kq ≤ k) ∧ Drawn0 w w')
    case atStart => exact ⟨(0), (0), (by first | rfl | (simp; done) | (simp [*]; done)), (by first | rfl | (simp; done) | (simp [*]; done)), H', ⟨Nat.le_refl _⟩, by repeat (first | exact Drawn0.refl _ | apply Drawn0.step)⟩
    case round =>
      clear H'
      try clear c1
      try clear p2
      try clear c3
      try clear c4
      try clear c4b0
      try clear c4b1
      obtain ⟨x7_1, x8_1, rfl, rfl, HA, HK1, ⟨m1, rfl⟩⟩ := hrel
      cases gk with
      | zero => exact absurd HA.out (by simp [wayfinderref03_Dist.l0])
      | succ k1 =>
        have H := HA.out
        clear HA
        simp only [wayfinderref03_Dist.l0] at H
        by_cases c5 : x8_1 < (l0.length : Int)
        · rw [if_pos c5] at H
          have c5b0 : decide (x8_1 < (l0.length : Int)) = true := decide_eq_true c5
          clear c5
          by_cases c6 : 0 ≤ x8_1
          · rw [if_pos c6] at H
            have c6b0 : decide (0 ≤ x8_1) = true := decide_eq_true c6
            clear c6
            by_cases c7 : x8_1 < (l1.length : Int)
            · rw [if_pos c7] at H
              have c7b0 : decide (x8_1 < (l1.length : Int)) = true := decide_eq_true c7
              clear c7
              have H' := Aside0.mk H
              clear H
              have p262 : 0 ≤ (x8_1 : Int) := of_decide_eq_true (by first | (with_reducible assumption) | assumption)
              have q262 : x8_1 < (l0.length : Int) := of_decide_eq_true (by first | (with_reducible assumption) | assumption)
              obtain ⟨ad262, e262, hx262_0⟩ := Kd.at_int HR0.out x8_1 p262 q262
              cases e262
              replace p262 := eq_true p262
              replace q262 := eq_true q262
              have p263 : 0 ≤ (x8_1 : Int) := of_decide_eq_true (by first | (with_reducible assumption) | assumption)
              have q263 : x8_1 < (l1.length : Int) := of_decide_eq_true (by first | (with_reducible assumption) | assumption)
              obtain ⟨ad263, e263, hx263_0⟩ := Kd.at_int HR1.out x8_1 p263 q263
              cases e263
              replace p263 := eq_true p263
              replace q263 := eq_true q263
              go_wp2
              repeat (go_quiet (fail); try go_wp2)
              go_roundg k1
              case measure => have := HK1.out; omega
              case rel => exact ⟨(wrap64 (x7_1 + (wrap64 ((wrap64 ((wrap64 (rd l0 x8_1)) - (wrap64 (rd l1 x8_1)))) * (wrap64 ((wrap64 (rd l0 x8_1)) - (wrap64 (rd l1 x8_1)))))))), (wrap64 (x8_1 + 1)), (by first | rfl | (simp; done) | (simp [*]; done)), (by first | rfl | (simp; done) | (simp [*]; done)), H', ⟨by have := HK1.out; omega⟩, by repeat (first | exact Drawn0.refl _ | apply Drawn0.step)⟩
            · rw [if_neg c7] at H
              exact absurd H (by simp)
          · rw [if_neg c6] at H
            exact absurd H (by simp)
        · rw [if_neg c5] at H
          have c5b0 : decide (x8_1 < (l0.length : Int)) = false := decide_eq_false c5
          clear c5
          simp only [Option.some.injEq, Prod.mk.injEq] at H
          obtain ⟨rfl, rfl⟩ := H
          go_wp2
          repeat (go_quiet (fail); try go_wp2)
          go_ret2
          exact ⟨by first | rfl | (simp; done) | (simp [*]; done), by repeat (first | exact Drawn0.refl _ | apply Drawn0.step)⟩
  · rw [if_neg c4] at H
    have c4b0 : (t261 == 0) = false := beq_eq_false_iff_ne.mpr c4
    have c4b1 : (t261 != 0) = true := bne_iff_ne.mpr c4
    simp only [Option.some.injEq, Prod.mk.injEq] at H
    obtain ⟨rfl, rfl⟩ := H
    go_enter Try.func30, Try.ntmps30
    go_wp2_with (first | (go_at_call 59; (with_reducible refine (wayfinderref03_both.calls k _ _ l0 _ _ l1 t261 _ ?side1 ?side2 ?side3 ?side4 A3.out).mono ?_); (case side1 => repeat (first | exact HR0.out | (with_reducible refine Kd.C_alloc ?_ _) | (with_reducible refine Kd.C_drewN ?_ _) | (with_reducible refine Kd.C_drew ?_))); (case side2 => exact HC0.out); (case side3 => repeat (first | exact HR1.out | (with_reducible refine Kd.C_alloc ?_ _) | (with_reducible refine Kd.C_drewN ?_ _) | (with_reducible refine Kd.C_drew ?_))); (case side4 => exact HC1.out); rintro e w' ⟨rfl, ⟨nd, rfl⟩⟩; (try first | exact ⟨rfl, _, World.drewN_drewN _ _ _⟩ | exact ⟨rfl, _, Eq.trans (World.drewN_drewN _ _ _) (congrArg (World.drewN _) (Nat.add_assoc _ _ _))⟩)))
    repeat (go_quiet (first | (go_at_call 59; (with_reducible refine (wayfinderref03_both.calls k _ _ l0 _ _ l1 t261 _ ?side1 ?side2 ?side3 ?side4 A3.out).mono ?_); (case side1 => repeat (first | exact HR0.out | (with_reducible refine Kd.C_alloc ?_ _) | (with_reducible refine Kd.C_drewN ?_ _) | (with_reducible refine Kd.C_drew ?_))); (case side2 => exact HC0.out); (case side3 => repeat (first | exact HR1.out | (with_reducible refine Kd.C_alloc ?_ _) | (with_reducible refine Kd.C_drewN ?_ _) | (with_reducible refine Kd.C_drew ?_))); (case side4 => exact HC1.out); rintro e w' ⟨rfl, ⟨nd, rfl⟩⟩; (try first | exact ⟨rfl, _, World.drewN_drewN _ _ _⟩ | exact ⟨rfl, _, Eq.trans (World.drewN_drewN _ _ _) (congrArg (World.drewN _) (Nat.add_assoc _ _ _))⟩))); try go_wp2_with (first | (go_at_call 59; (with_reducible refine (wayfinderref03_both.calls k _ _ l0 _ _ l1 t261 _ ?side1 ?side2 ?side3 ?side4 A3.out).mono ?_); (case side1 => repeat (first | exact HR0.out | (with_reducible refine Kd.C_alloc ?_ _) | (with_reducible refine Kd.C_drewN ?_ _) | (with_reducible refine Kd.C_drew ?_))); (case side2 => exact HC0.out); (case side3 => repeat (first | exact HR1.out | (with_reducible refine Kd.C_alloc ?_ _) | (with_reducible refine Kd.C_drewN ?_ _) | (with_reducible refine Kd.C_drew ?_))); (case side4 => exact HC1.out); rintro e w' ⟨rfl, ⟨nd, rfl⟩⟩; (try first | exact ⟨rfl, _, World.drewN_drewN _ _ _⟩ | exact ⟨rfl, _, Eq.trans (World.drewN_drewN _ _ _) (congrArg (World.drewN _) (Nat.add_assoc _ _ _))⟩))))
    go_ret2
    exact ⟨by first | rfl | (simp; done) | (simp [*]; done), by repeat (first | exact Drawn0.refl _ | apply Drawn0.step)⟩

end Go.Proofs.Ytbdkgdbfnkogaaa.R
end

section
/-
  Wide vectors in plain words: their check, their distance, of the program and of the document. Conditions: lengths within the reach.
-/
namespace Go.Proofs.Ytbdkgdbfnkogaaa.R
open Go.RowKit Go.Proofs.YtbdkgdbfnkogaaaW.PrintWords Go.Proofs.YtbdkgdbfnkogaaaW.PrintLast Go.Proofs.YtbdkgdbfnkogaaaW.PrintMore
set_option linter.unusedVariables false
set_option linter.unusedSimpArgs false

theorem sq_bd (d M : Int) (h1 : -M ≤ d) (h2 : d ≤ M) : 0 ≤ d * d ∧ d * d ≤ M * M := by
  rcases Int.le_total 0 d with h | h
  · exact ⟨Int.mul_nonneg h h, Int.mul_le_mul h2 h2 h (by omega)⟩
  · have e : d * d = (-d) * (-d) := by rw [Int.neg_mul_neg]
    rw [e]
    exact ⟨Int.mul_nonneg (by omega) (by omega), Int.mul_le_mul (by omega) (by omega) (by omega) (by omega)⟩

theorem chkW_len {l : List Int} (h : chkW l = 0) : 1 ≤ l.length ∧ l.length ≤ 1024 := by
  unfold chkW at h
  by_cases hc : l.length < 1 ∨ 1024 < l.length
  · rw [if_pos hc] at h; cases h
  · omega
theorem chkW_any {l : List Int} (h : chkW l = 0) : l.any wideB = false := by
  have := chkW_len h
  unfold chkW at h
  rw [if_neg (by omega)] at h
  cases hb : l.any wideB with
  | false => rfl
  | true => rw [hb] at h; simp at h
theorem any_false {l : List Int} {p : Int → Bool} (h : l.any p = false) (i : Nat) (hi : i < l.length) : p (rd l (i : Int)) = false := by
  cases hp : p (rd l (i : Int)) with
  | false => rfl
  | true => rw [anyAt l i hi p hp] at h; cases h
theorem chkW_at {l : List Int} (h : chkW l = 0) (i : Nat) (hi : i < l.length) : -131072 ≤ rd l (i : Int) ∧ rd l (i : Int) ≤ 131072 := by
  have := any_false (chkW_any h) i hi
  unfold wideB at this
  simp at this
  omega

/-- The document's check. -/
theorem check3_loop (l : List Int) (hm : l.length ≤ 1024) : ∀ d i, i + d = l.length → (l.take i).any wideB = false → ∀ k, d < k → wayfinderref03_CheckWide.l0 k l (i : Int) = some (if l.any wideB = true then 11 else 0) := by
  intro d
  induction d with
  | zero =>
    intro i hi h0 k hk
    obtain ⟨k, rfl⟩ : ∃ m, k = m + 1 := ⟨k - 1, by omega⟩
    rw [List.take_of_length_le (by omega)] at h0
    simp only [wayfinderref03_CheckWide.l0]
    rw [if_neg (by omega), h0]; rfl
  | succ d ih =>
    intro i hi h0 k hk
    obtain ⟨k, rfl⟩ : ∃ m, k = m + 1 := ⟨k - 1, by omega⟩
    have hw : wrap64 ((i : Int) + 1) = ((i + 1 : Nat) : Int) := by unfold wrap64; omega
    have hs := any_snoc l i (by omega) wideB
    simp only [wayfinderref03_CheckWide.l0]
    rw [if_pos (by omega), if_pos (by omega)]
    by_cases h1 : rd l (i : Int) < -131072
    · rw [if_pos h1, anyAt l i (by omega) wideB (by unfold wideB; simp [h1])]; rfl
    · rw [if_neg h1]
      by_cases h2 : rd l (i : Int) > 131072
      · rw [if_pos h2, anyAt l i (by omega) wideB (by unfold wideB; simp; omega)]; rfl
      · rw [if_neg h2, hw]
        refine ih (i + 1) (by omega) ?_ k (by omega)
        rw [hs, h0]; unfold wideB; simp; omega

theorem check3_f (l : List Int) (k : Nat) (hk : l.length + 1 < k ∨ 1026 < k) : wayfinderref03_CheckWide.f k l = some (chkW l) := by
  unfold wayfinderref03_CheckWide.f chkW
  obtain ⟨k, rfl⟩ : ∃ m, k = m + 1 := ⟨k - 1, by omega⟩
  by_cases h1 : l.length < 1
  · rw [if_pos (by omega), if_pos (.inl h1)]
    simp [wayfinderref03_CheckWide.j0]
  · rw [if_neg (by omega)]
    by_cases h2 : 1024 < l.length
    · rw [decide_eq_true (by omega), if_pos (.inr h2)]
      simp [wayfinderref03_CheckWide.j0]
    · rw [decide_eq_false (by omega), if_neg (by omega)]
      have := check3_loop l (by omega) l.length 0 (by omega) (by simp) k (by omega)
      simpa [wayfinderref03_CheckWide.j0] using this

theorem both3_f (a b : List Int) (k : Nat) (hk : 1026 < k) : wayfinderref03_both.f k a b = some (pairE a b) := by
  unfold wayfinderref03_both.f pairE
  rw [check3_f a k (.inr hk), check3_f b k (.inr hk)]
  simp only [Option.bind_some]
  by_cases h1 : chkW a = 0
  · rw [if_pos h1, if_pos h1]
    by_cases h2 : chkW b = 0
    · rw [if_pos h2, if_pos h2]
      by_cases h3 : a.length = b.length
      · rw [if_pos (by omega), if_pos h3, h2]
      · rw [if_neg (by omega), if_neg h3]
    · rw [if_neg h2, if_neg h2]
  · rw [if_neg h1, if_neg h1]

/-- The sum of squares of the first differences. -/
def sqn (a b : List Int) : Nat → Int
  | 0 => 0
  | i + 1 => sqn a b i + (rd a (i : Int) - rd b (i : Int)) * (rd a (i : Int) - rd b (i : Int))
def dist2 (a b : List Int) : Int := sqn a b a.length
/-- The distance and the error. -/
def distE (a b : List Int) : Int × Int := if pairE a b = 0 then (dist2 a b, 0) else (0, pairE a b)

theorem pairE_zero {a b : List Int} (h : pairE a b = 0) : chkW a = 0 ∧ chkW b = 0 ∧ a.length = b.length := by
  unfold pairE at h
  by_cases h1 : chkW a = 0
  · rw [if_pos h1] at h
    by_cases h2 : chkW b = 0
    · rw [if_pos h2] at h
      by_cases h3 : a.length = b.length
      · exact ⟨h1, h2, h3⟩
      · rw [if_neg h3] at h; cases h
    · rw [if_neg h2] at h; exact absurd h h2
  · rw [if_neg h1] at h; exact absurd h h1
theorem pairE_of {a b : List Int} (h1 : chkW a = 0) (h2 : chkW b = 0) (h3 : a.length = b.length) : pairE a b = 0 := by unfold pairE; rw [if_pos h1, if_pos h2, if_pos h3]

theorem diff_bd {a b : List Int} (h : pairE a b = 0) (i : Nat) (hi : i < a.length) : -262144 ≤ rd a (i : Int) - rd b (i : Int) ∧ rd a (i : Int) - rd b (i : Int) ≤ 262144 := by
  obtain ⟨h1, h2, h3⟩ := pairE_zero h
  have := chkW_at h1 i hi
  have := chkW_at h2 i (by omega)
  omega
theorem sqn_bd {a b : List Int} (h : pairE a b = 0) : ∀ i, i ≤ a.length → 0 ≤ sqn a b i ∧ sqn a b i ≤ i * 68719476736 := by
  intro i
  induction i with
  | zero => intro _; simp [sqn]
  | succ i ih =>
    intro hi
    obtain ⟨g1, g2⟩ := ih (by omega)
    obtain ⟨d1, d2⟩ := diff_bd h i (by omega)
    obtain ⟨s1, s2⟩ := sq_bd _ 262144 d1 d2
    unfold sqn
    omega
theorem dist2_bd {a b : List Int} (h : pairE a b = 0) : 0 ≤ dist2 a b ∧ dist2 a b ≤ 70368744177664 := by
  have h1 := sqn_bd h a.length (Nat.le_refl _)
  have h2 := (chkW_len (pairE_zero h).1).2
  unfold dist2
  omega

theorem dist_step {a b : List Int} (h : pairE a b = 0) (i : Nat) (hi : i < a.length) : wrap64 (sqn a b i + wrap64 (wrap64 (wrap64 (rd a (i : Int)) - wrap64 (rd b (i : Int))) * wrap64 (wrap64 (rd a (i : Int)) - wrap64 (rd b (i : Int))))) = sqn a b (i + 1) := by
  obtain ⟨h1, h2, h3⟩ := pairE_zero h
  obtain ⟨a1, a2⟩ := chkW_at h1 i hi
  obtain ⟨b1, b2⟩ := chkW_at h2 i (by omega)
  obtain ⟨d1, d2⟩ := diff_bd h i hi
  obtain ⟨s1, s2⟩ := sq_bd _ 262144 d1 d2
  obtain ⟨q1, q2⟩ := sqn_bd h i (by omega)
  have hl := (chkW_len h1).2
  have w1 : wrap64 (rd a (i : Int)) = rd a (i : Int) := by unfold wrap64; omega
  have w2 : wrap64 (rd b (i : Int)) = rd b (i : Int) := by unfold wrap64; omega
  rw [w1, w2]
  have w3 : wrap64 (rd a (i : Int) - rd b (i : Int)) = rd a (i : Int) - rd b (i : Int) := by unfold wrap64; omega
  rw [w3]
  show _ = sqn a b i + (rd a (i : Int) - rd b (i : Int)) * (rd a (i : Int) - rd b (i : Int))
  generalize (rd a (i : Int) - rd b (i : Int)) * (rd a (i : Int) - rd b (i : Int)) = q at s1 s2 ⊢
  have w4 : wrap64 q = q := by unfold wrap64; omega
  rw [w4]
  unfold wrap64; omega

theorem vdist_loop {a b : List Int} (h : pairE a b = 0) : ∀ d i, i + d = a.length → ∀ k, d < k → vec_Dist.l0 k b (sqn a b i) a (a.length : Int) (i : Int) = some (dist2 a b, 0) := by
  have hl := (pairE_zero h).2.2
  have hm := (chkW_len (pairE_zero h).1).2
  intro d
  induction d with
  | zero =>
    intro i hi k hk
    obtain ⟨k, rfl⟩ : ∃ m, k = m + 1 := ⟨k - 1, by omega⟩
    obtain rfl : i = a.length := by omega
    simp only [vec_Dist.l0]
    rw [if_neg (by omega)]; rfl
  | succ d ih =>
    intro i hi k hk
    obtain ⟨k, rfl⟩ : ∃ m, k = m + 1 := ⟨k - 1, by omega⟩
    have hw : wrap64 ((i : Int) + 1) = ((i + 1 : Nat) : Int) := by unfold wrap64; omega
    simp only [vec_Dist.l0]
    rw [if_pos (by omega), if_pos (by omega), if_pos (by omega), if_pos (by omega), dist_step h i (by omega), hw]
    exact ih (i + 1) (by omega) k (by omega)

theorem vdist_f (a b : List Int) (k : Nat) (hk : 1026 < k) : vec_Dist.f k a b = some (distE a b) := by
  unfold vec_Dist.f vec_pair.f distE
  simp only [Option.bind_some]
  by_cases h : pairE a b = 0
  · rw [if_pos h, if_pos h]
    have hm := (chkW_len (pairE_zero h).1).2
    exact vdist_loop h a.length 0 (by omega) k (by omega)
  · rw [if_neg h, if_neg h]

theorem rdist_loop {a b : List Int} (h : pairE a b = 0) : ∀ d i, i + d = a.length → ∀ k, d < k → wayfinderref03_Dist.l0 k a b (sqn a b i) (i : Int) = some (dist2 a b, 0) := by
  have hl := (pairE_zero h).2.2
  have hm := (chkW_len (pairE_zero h).1).2
  intro d
  induction d with
  | zero =>
    intro i hi k hk
    obtain ⟨k, rfl⟩ : ∃ m, k = m + 1 := ⟨k - 1, by omega⟩
    obtain rfl : i = a.length := by omega
    simp only [wayfinderref03_Dist.l0]
    rw [if_neg (by omega)]; rfl
  | succ d ih =>
    intro i hi k hk
    obtain ⟨k, rfl⟩ : ∃ m, k = m + 1 := ⟨k - 1, by omega⟩
    have hw : wrap64 ((i : Int) + 1) = ((i + 1 : Nat) : Int) := by unfold wrap64; omega
    simp only [wayfinderref03_Dist.l0]
    rw [if_pos (by omega), if_pos (by omega), if_pos (by omega), dist_step h i (by omega), hw]
    exact ih (i + 1) (by omega) k (by omega)

theorem rdist_f (a b : List Int) (k : Nat) (hk : 1026 < k) : wayfinderref03_Dist.f k a b = some (distE a b) := by
  unfold wayfinderref03_Dist.f distE
  rw [both3_f a b k hk]
  simp only [Option.bind_some]
  by_cases h : pairE a b = 0
  · rw [if_pos h, if_pos h]
    have hm := (chkW_len (pairE_zero h).1).2
    exact rdist_loop h a.length 0 (by omega) k (by omega)
  · rw [if_neg h, if_neg h]
end Go.Proofs.Ytbdkgdbfnkogaaa.R
end
