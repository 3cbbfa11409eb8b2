import Derived.Test.YtbdkgdbfnkogaaaRk
import Derived.Test.YtbdkgdbfnkogaaaB12
import Derived.Test.YtbdkgdbfnkogaaaB14

section
namespace Go.Proofs.Ytbdkgdbfnkogaaa.R
open Go.RowKit Go.Proofs.YtbdkgdbfnkogaaaW.PrintWords Go.Proofs.YtbdkgdbfnkogaaaW.PrintLast Go.Proofs.YtbdkgdbfnkogaaaW.PrintMore
attribute [local go_sem] max2_int min2_int max_two min_two max_three min_three max_four min_four   -- for this text's walks alone
set_option linter.unusedVariables false
set_option linter.unusedSimpArgs false

/-! ### wayfinderkit_Same_int: function 32 -/
def wayfinderkit_Same_int.l0 : Nat → List Int → List Int → Int → Option (Bool)
  | 0, _, _, _ => none
  | k + 1, x0, x1, x5 => if x5 < (x0.length : Int) then (if 0 ≤ x5 then (if x5 < (x1.length : Int) then (if (rd x0 x5) = (rd x1 x5) then (wayfinderkit_Same_int.l0 k x0 x1 (wrap64 (x5 + 1))) else (some false)) else (none)) else (none)) else (some true)
def wayfinderkit_Same_int.f (k : Nat) (l0 : List Int) (l1 : List Int) : Option (Bool) := if (l0.length : Int) = (l1.length : Int) then (wayfinderkit_Same_int.l0 k l0 l1 0) else (some false)
theorem wayfinderkit_Same_int.mono_l : ∀ k, (∀ y0 y1 y2, LeO (wayfinderkit_Same_int.l0 k y0 y1 y2) (wayfinderkit_Same_int.l0 (k + 1) y0 y1 y2))
  | 0 => fun _ _ _ r h => by simp [wayfinderkit_Same_int.l0] at h
  | k + 1 => by
    have ih0 := wayfinderkit_Same_int.mono_l k
    · intro y0 y1 y2
      unfold wayfinderkit_Same_int.l0
      repeat' first
      | (with_reducible exact ih0 _ _ _)
      | (with_reducible exact LeO.refl _)
      | (with_reducible exact LeO.none _)
      | (with_reducible refine LeO.ite ?_ ?_)
      | (with_reducible refine LeO.bind ?_ (fun _ => ?_))
      | exact ih0 _ _ _
      | exact LeO.none _
      | refine LeO.ite ?_ ?_
      | refine LeO.bind ?_ (fun _ => ?_)
theorem wayfinderkit_Same_int.mono : ∀ a0 a1 k, LeO (wayfinderkit_Same_int.f k a0 a1) (wayfinderkit_Same_int.f (k + 1) a0 a1) := by
  intro a0 a1 k
  have ih0 := wayfinderkit_Same_int.mono_l k
  unfold wayfinderkit_Same_int.f
  repeat' first
      | (with_reducible exact ih0 _ _ _)
      | (with_reducible exact LeO.refl _)
      | (with_reducible exact LeO.none _)
      | (with_reducible refine LeO.ite ?_ ?_)
      | (with_reducible refine LeO.bind ?_ (fun _ => ?_))
      | exact ih0 _ _ _
      | exact LeO.none _
      | refine LeO.ite ?_ ?_
      | refine LeO.bind ?_ (fun _ => ?_)
set_option maxHeartbeats 8000000 in
set_option maxRecDepth 100000 in
theorem wayfinderkit_Same_int.calls (k : Nat) (A0 : Option Addr) (c0 : Nat) (l0 : List Int) (A1 : Option Addr) (c1 : Nat) (l1 : List Int) (r : Bool) (w : World) (hr0 : Kd.C (Kd.int .i64) w A0 l0.length l0) (hc0 : l0.length ≤ c0) (hr1 : Kd.C (Kd.int .i64) w A1 l1.length l1) (hc1 : l1.length ≤ c1) (h : wayfinderkit_Same_int.f k l0 l1 = some r) :
    Calls Try.prog 32 #[.slice A0 l0.length c0, .slice A1 l1.length c1] w fun e w' => e = .returned (.bool r) ∧ Drawn0 w w' := by
  have HR0 := Aside0.mk hr0
  have HC0 := Aside0.mk hc0
  clear hr0 hc0
  have HR1 := Aside0.mk hr1
  have HC1 := Aside0.mk hc1
  clear hr1 hc1
  have H : (if (l0.length : Int) = (l1.length : Int) then (wayfinderkit_Same_int.l0 k l0 l1 0) else (some false)) = some r := h
  clear h
  by_cases c3 : (l0.length : Int) = (l1.length : Int)
  · rw [if_pos c3] at H
    have c3b0 : ((l0.length : Int) == (l1.length : Int)) = true := beq_iff_eq.mpr c3
    have c3b1 : ((l0.length : Int) != (l1.length : Int)) = false := bne_eq_false_iff_eq.mpr c3
    have c3b2 : (l0.length == l1.length) = true := by first | simpa using c3 | (simp at c3 ⊢; omega)
    clear c3
    have H' := Aside0.mk H
    clear H
    go_enter Try.func32, Try.ntmps32
    go_wp2
    repeat (go_quiet (fail); try go_wp2)
    go_loopg [5] k (fun kq v5 w' => ∃ (x5_1 : Int), v5 = .int .i64 x5_1 ∧ Aside0 (wayfinderkit_Same_int.l0 kq l0 l1 x5_1 = some r) ∧ Aside0 (kq ≤ k) ∧ Drawn0 w w')
    case atStart => exact ⟨(0), (by first | rfl | (simp; done) | (simp [*]; done)), H', ⟨Nat.le_refl _⟩, by repeat (first | exact Drawn0.refl _ | apply Drawn0.step)⟩
    case round =>
      clear H'
      try clear c1
      try clear p2
      try clear c3
      try clear c3b0
      try clear c3b1
      try clear c3b2
      obtain ⟨x5_1, rfl, HA, HK1, ⟨m1, rfl⟩⟩ := hrel
      cases gk with
      | zero => exact absurd HA.out (by simp [wayfinderkit_Same_int.l0])
      | succ k1 =>
        have H := HA.out
        clear HA
        simp only [wayfinderkit_Same_int.l0] at H
        by_cases c4 : x5_1 < (l0.length : Int)
        · rw [if_pos c4] at H
          have c4b0 : decide (x5_1 < (l0.length : Int)) = true := decide_eq_true c4
          clear c4
          by_cases c5 : 0 ≤ x5_1
          · rw [if_pos c5] at H
            have c5b0 : decide (0 ≤ x5_1) = true := decide_eq_true c5
            clear c5
            by_cases c6 : x5_1 < (l1.length : Int)
            · rw [if_pos c6] at H
              have c6b0 : decide (x5_1 < (l1.length : Int)) = true := decide_eq_true c6
              clear c6
              by_cases c7 : (rd l0 x5_1) = (rd l1 x5_1)
              · rw [if_pos c7] at H
                have c7b0 : ((rd l0 x5_1) == (rd l1 x5_1)) = true := beq_iff_eq.mpr c7
                have c7b1 : ((rd l0 x5_1) != (rd l1 x5_1)) = false := bne_eq_false_iff_eq.mpr c7
                clear c7
                have H' := Aside0.mk H
                clear H
                have p225 : 0 ≤ (x5_1 : Int) := of_decide_eq_true (by first | (with_reducible assumption) | assumption)
                have q225 : x5_1 < (l0.length : Int) := of_decide_eq_true (by first | (with_reducible assumption) | assumption)
                obtain ⟨ad225, e225, hx225_0⟩ := Kd.at_int HR0.out x5_1 p225 q225
                cases e225
                replace p225 := eq_true p225
                replace q225 := eq_true q225
                have p226 : 0 ≤ (x5_1 : Int) := of_decide_eq_true (by first | (with_reducible assumption) | assumption)
                have q226 : x5_1 < (l1.length : Int) := of_decide_eq_true (by first | (with_reducible assumption) | assumption)
                obtain ⟨ad226, e226, hx226_0⟩ := Kd.at_int HR1.out x5_1 p226 q226
                cases e226
                replace p226 := eq_true p226
                replace q226 := eq_true q226
                go_wp2
                repeat (go_quiet (fail); try go_wp2)
                go_roundg k1
                case measure => have := HK1.out; omega
                case rel => exact ⟨(wrap64 (x5_1 + 1)), (by first | rfl | (simp; done) | (simp [*]; done)), H', ⟨by have := HK1.out; omega⟩, by repeat (first | exact Drawn0.refl _ | apply Drawn0.step)⟩
              · rw [if_neg c7] at H
                have c7b0 : ((rd l0 x5_1) == (rd l1 x5_1)) = false := beq_eq_false_iff_ne.mpr c7
                have c7b1 : ((rd l0 x5_1) != (rd l1 x5_1)) = true := bne_iff_ne.mpr c7
                obtain rfl := Option.some.inj H
                have p225 : 0 ≤ (x5_1 : Int) := of_decide_eq_true (by first | (with_reducible assumption) | assumption)
                have q225 : x5_1 < (l0.length : Int) := of_decide_eq_true (by first | (with_reducible assumption) | assumption)
                obtain ⟨ad225, e225, hx225_0⟩ := Kd.at_int HR0.out x5_1 p225 q225
                cases e225
                replace p225 := eq_true p225
                replace q225 := eq_true q225
                have p226 : 0 ≤ (x5_1 : Int) := of_decide_eq_true (by first | (with_reducible assumption) | assumption)
                have q226 : x5_1 < (l1.length : Int) := of_decide_eq_true (by first | (with_reducible assumption) | assumption)
                obtain ⟨ad226, e226, hx226_0⟩ := Kd.at_int HR1.out x5_1 p226 q226
                cases e226
                replace p226 := eq_true p226
                replace q226 := eq_true q226
                go_wp2
                repeat (go_quiet (fail); try go_wp2)
                go_ret
                exact ⟨by first | rfl | (simp; done) | (simp [*]; done), by repeat (first | exact Drawn0.refl _ | apply Drawn0.step)⟩
            · rw [if_neg c6] at H
              exact absurd H (by simp)
          · rw [if_neg c5] at H
            exact absurd H (by simp)
        · rw [if_neg c4] at H
          have c4b0 : decide (x5_1 < (l0.length : Int)) = false := decide_eq_false c4
          clear c4
          obtain rfl := Option.some.inj H
          go_wp2
          repeat (go_quiet (fail); try go_wp2)
          go_ret
          exact ⟨by first | rfl | (simp; done) | (simp [*]; done), by repeat (first | exact Drawn0.refl _ | apply Drawn0.step)⟩
  · rw [if_neg c3] at H
    have c3b0 : ((l0.length : Int) == (l1.length : Int)) = false := beq_eq_false_iff_ne.mpr c3
    have c3b1 : ((l0.length : Int) != (l1.length : Int)) = true := bne_iff_ne.mpr c3
    have c3b2 : (l0.length == l1.length) = false := by first | simpa using c3 | (simp at c3 ⊢; omega)
    obtain rfl := Option.some.inj H
    go_enter Try.func32, Try.ntmps32
    go_wp2
    repeat (go_quiet (fail); try go_wp2)
    go_ret
    exact ⟨by first | rfl | (simp; done) | (simp [*]; done), by repeat (first | exact Drawn0.refl _ | apply Drawn0.step)⟩

end Go.Proofs.Ytbdkgdbfnkogaaa.R
end

section
/-
  The nearest cent and the order of cents in plain words: the first of the least, the order by distance and number. Conditions: the cents and the vector are valid, where a statement names bothE.
-/
namespace Go.Proofs.Ytbdkgdbfnkogaaa.R
open Go.RowKit Go.Proofs.YtbdkgdbfnkogaaaW.PrintWords Go.Proofs.YtbdkgdbfnkogaaaW.PrintLast Go.Proofs.YtbdkgdbfnkogaaaW.PrintMore Go.Proofs.Ytbdkgdbfnkogaaa.Plain
set_option linter.unusedVariables false
set_option linter.unusedSimpArgs false

theorem firstE_zero {l : List (List Int)} (h : firstE l = 0) : ∀ x ∈ l, chkW x = 0 := by
  induction l with
  | nil => intro x hx; cases hx
  | cons y l ih =>
    by_cases hy : chkW y = 0
    · simp only [firstE, hy, if_true] at h
      intro x hx
      rcases List.mem_cons.1 hx with rfl | hx
      · exact hy
      · exact ih h x hx
    · simp only [firstE, hy, if_false] at h
theorem bothE_zero {c : List (List Int)} {v : List Int} (h : bothE c v = 0) : chkC c = 0 ∧ chkW v = 0 ∧ v.length = (rd_L3 c 0).length := by
  unfold bothE at h
  by_cases h1 : chkC c = 0
  · rw [if_pos h1] at h
    by_cases h2 : chkW v = 0
    · rw [if_pos h2] at h
      by_cases h3 : v.length = (rd_L3 c 0).length
      · exact ⟨h1, h2, h3⟩
      · rw [if_neg h3] at h; cases h
    · rw [if_neg h2] at h; exact absurd h h2
  · rw [if_neg h1] at h; exact absurd h h1
theorem chkC_zero {c : List (List Int)} (h : chkC c = 0) : firstE c = 0 ∧ c.any (oddB c) = false := by
  have hl := chkC_len h
  unfold chkC at h
  rw [if_neg (by omega)] at h
  by_cases h1 : firstE c = 0
  · rw [if_pos h1] at h
    refine ⟨h1, ?_⟩
    cases hb : c.any (oddB c) with
    | false => rfl
    | true => rw [hb] at h; simp at h
  · rw [if_neg h1] at h; exact absurd h h1
theorem pair_ok {c : List (List Int)} {v : List Int} (h : bothE c v = 0) (j : Nat) (hj : j < c.length) : pairE (rd_L3 c (j : Int)) v = 0 := by
  obtain ⟨h1, h2, h3⟩ := bothE_zero h
  obtain ⟨h4, h5⟩ := chkC_zero h1
  have hm : rd_L3 c (j : Int) ∈ c := by rw [rdL_at c j hj]; exact List.getElem_mem hj
  refine pairE_of (firstE_zero h4 _ hm) h2 ?_
  have := List.any_eq_false.1 h5 _ hm
  unfold oddB at this
  simp at this
  omega

/-- How far a cent is. -/
def dj (c : List (List Int)) (v : List Int) (j : Nat) : Int := dist2 (rd_L3 c (j : Int)) v
theorem distE_ok {c : List (List Int)} {v : List Int} (h : bothE c v = 0) (j : Nat) (hj : j < c.length) : distE (rd_L3 c (j : Int)) v = (dj c v j, 0) := by
  unfold distE; rw [if_pos (pair_ok h j hj)]; rfl
theorem dst_ok {c : List (List Int)} {v : List Int} (h : bothE c v = 0) (j : Nat) (hj : j < c.length) : dst c v j = ((j : Int), dj c v j) := by
  unfold dst; rw [distE_ok h j hj]
theorem dj_nonneg {c : List (List Int)} {v : List Int} (h : bothE c v = 0) (j : Nat) (hj : j < c.length) : 0 ≤ dj c v j := (dist2_bd (pair_ok h j hj)).1

/-- The nearest is the first of the least. -/
theorem near_upto (f : Nat → Int) (g : Nat → Int × Int) : ∀ n, (∀ j, j < n → g j = ((j : Int), f j) ∧ 0 ≤ f j) → 0 < n → ∃ j, j < n ∧ nearS (upto g n) = ((j : Int), f j) ∧ ∀ i, i < n → f j ≤ f i ∧ (i < j → f j < f i) := by
  intro n
  induction n with
  | zero => intro _ h; omega
  | succ n ih =>
    intro hg _
    rw [upto_succ, nearS_snoc]
    obtain ⟨g1, g2⟩ := hg n (by omega)
    by_cases hn : n = 0
    · subst hn
      refine ⟨0, by omega, ?_, fun i hi => ?_⟩
      · rw [if_pos (.inl (by simp [upto, nearS])), g1]
      · obtain rfl : i = 0 := by omega
        exact ⟨Int.le_refl _, by omega⟩
    · obtain ⟨j, hj, e, hall⟩ := ih (fun j hj => hg j (by omega)) (by omega)
      have h0 := (hg j (by omega)).2
      rw [e, g1]
      by_cases hlt : f n < f j
      · refine ⟨n, by omega, by rw [if_pos (.inr hlt)], fun i hi => ?_⟩
        by_cases hin : i = n
        · subst hin; exact ⟨Int.le_refl _, by omega⟩
        · have := (hall i (by omega)).1
          exact ⟨by omega, fun _ => by omega⟩
      · refine ⟨j, by omega, by rw [if_neg (by rintro (h | h) <;> simp at h <;> omega)], fun i hi => ?_⟩
        by_cases hin : i = n
        · subst hin; exact ⟨by omega, by omega⟩
        · exact hall i (by omega)

theorem near_spec {c : List (List Int)} {v : List Int} (h : bothE c v = 0) : ∃ j, j < c.length ∧ nearS (dists c v) = ((j : Int), dj c v j) ∧ ∀ i, i < c.length → dj c v j ≤ dj c v i ∧ (i < j → dj c v j < dj c v i) :=
  near_upto (dj c v) (dst c v) c.length (fun j hj => ⟨dst_ok h j hj, dj_nonneg h j hj⟩) (by have := bothE_len h; omega)

/-- An entry of the order. -/
def ent (c : List (List Int)) (v : List Int) (j : Nat) : S30 := ⟨dj c v j, (j : Int)⟩
theorem far_eq {c : List (List Int)} {v : List Int} (h : bothE c v = 0) : farS c v = isort nlt (upto (ent c v) c.length) := by
  unfold farS dists
  congr 1
  unfold upto
  rw [List.map_map]
  refine List.map_congr_left (fun j hj => ?_)
  have hj := List.mem_range.1 hj
  show toN (dst c v j) = _
  rw [dst_ok h j hj]; rfl
theorem far_mem {c : List (List Int)} {v : List Int} (h : bothE c v = 0) {x : S30} : x ∈ farS c v ↔ ∃ j, j < c.length ∧ x = ent c v j := by
  rw [far_eq h, (isort_perm _).mem_iff]
  unfold upto
  rw [List.mem_map]
  constructor
  · rintro ⟨j, hj, rfl⟩; exact ⟨j, List.mem_range.1 hj, rfl⟩
  · rintro ⟨j, hj, rfl⟩; exact ⟨j, List.mem_range.2 hj, rfl⟩
theorem far_srt (c : List (List Int)) (v : List Int) : Srt nlt (farS c v) := isort_srt nlt_sto _
theorem far_nodup {c : List (List Int)} {v : List Int} (h : bothE c v = 0) : (farS c v).Pairwise (fun x y => x.f1 ≠ y.f1) := by
  rw [far_eq h]
  refine (isort_perm (lt := nlt) (upto (ent c v) c.length)).symm.pairwise ?_ (fun {x y} h e => h e.symm)
  unfold upto
  rw [List.pairwise_map]
  exact List.nodup_range.imp (fun {a b} hne e => hne (by simp only [ent] at e; omega))
theorem far_at {c : List (List Int)} {v : List Int} (h : bothE c v = 0) (i : Nat) (hi : i < c.length) : ∃ j, j < c.length ∧ rd_T30 (farS c v) (i : Int) = ent c v j := by
  have hi' : i < (farS c v).length := by rw [farS_length]; exact hi
  have e : rd_T30 (farS c v) (i : Int) = (farS c v)[i] := by unfold rd_T30; simp [hi']
  rw [e]
  exact (far_mem h).1 (List.getElem_mem hi')
theorem far_first {c : List (List Int)} {v : List Int} (h : bothE c v = 0) {j : Nat} (hj : j < c.length) (hall : ∀ i, i < c.length → dj c v j ≤ dj c v i ∧ (i < j → dj c v j < dj c v i)) : rd_T30 (farS c v) 0 = ent c v j := by
  have hl := bothE_len h
  obtain ⟨i, hi, e⟩ := far_at h 0 (by omega)
  have e : rd_T30 (farS c v) 0 = ent c v i := e
  rw [e]
  by_cases hij : i = j
  · rw [hij]
  · exfalso
    obtain ⟨t, ht, et⟩ := List.mem_iff_getElem.1 ((far_mem h).2 ⟨j, hj, rfl⟩)
    have h0 : 0 < (farS c v).length := by rw [farS_length]; omega
    have e0 : (farS c v)[0] = ent c v i := by rw [← e]; unfold rd_T30; simp [h0]
    have hlt : nlt (ent c v j) (ent c v i) = true := by
      obtain ⟨d1, d2⟩ := hall i hi
      unfold nlt ent
      rw [decide_eq_true_eq]
      show dj c v j < dj c v i ∨ dj c v j = dj c v i ∧ (j : Int) < (i : Int)
      by_cases hlt : i < j
      · exact .inl (d2 hlt)
      · by_cases he : dj c v j = dj c v i
        · exact .inr ⟨he, by omega⟩
        · exact .inl (by omega)
    by_cases ht0 : t = 0
    · subst ht0
      rw [e0] at et
      rw [et, nlt_sto.irrefl] at hlt
      cases hlt
    · have := List.pairwise_iff_getElem.1 (far_srt c v) 0 t h0 ht (by omega)
      rw [et, e0, hlt] at this
      cases this
/-- Along the order: nearer ones first, of equally near ones the lesser number. -/
theorem far_next {c : List (List Int)} {v : List Int} (h : bothE c v = 0) (i : Nat) (hi : i + 1 < c.length) {a b : Nat} (ha : rd_T30 (farS c v) (i : Int) = ent c v a) (hb : rd_T30 (farS c v) ((i + 1 : Nat) : Int) = ent c v b) : dj c v a ≤ dj c v b ∧ (dj c v a = dj c v b → a ≤ b) := by
  have h0 : i < (farS c v).length := by rw [farS_length]; omega
  have h1 : i + 1 < (farS c v).length := by rw [farS_length]; omega
  have := List.pairwise_iff_getElem.1 (far_srt c v) i (i + 1) h0 h1 (by omega)
  have ea : (farS c v)[i] = ent c v a := by rw [← ha]; unfold rd_T30; simp [h0]
  have eb : (farS c v)[i + 1] = ent c v b := by
    rw [← hb]; unfold rd_T30
    rw [Int.toNat_natCast, List.getD_eq_getElem?_getD, List.getElem?_eq_getElem h1]; rfl
  rw [ea, eb] at this
  unfold nlt ent at this
  rw [decide_eq_false_iff_not] at this
  have h2 : ¬ (dj c v b < dj c v a ∨ dj c v b = dj c v a ∧ (b : Int) < (a : Int)) := this
  refine ⟨by omega, fun he => by omega⟩
/-- The numbers in order. -/
def ordL (c : List (List Int)) (v : List Int) (n : Nat) : List Int := ((farS c v).take n).map (·.f1)
theorem ordL_length {c : List (List Int)} {v : List Int} {n : Nat} (hn : n ≤ c.length) : (ordL c v n).length = n := by unfold ordL; rw [List.length_map, List.length_take, farS_length]; omega
theorem ordL_at {c : List (List Int)} {v : List Int} {n : Nat} (hn : n ≤ c.length) (i : Nat) (hi : i < n) : rd (ordL c v n) (i : Int) = (rd_T30 (farS c v) (i : Int)).f1 := by
  have h0 : i < (farS c v).length := by rw [farS_length]; omega
  unfold ordL rd rd_T30
  rw [Int.toNat_natCast, List.getD_eq_getElem?_getD, List.getElem?_map, List.getElem?_take_of_lt hi, List.getElem?_eq_getElem h0, List.getD_eq_getElem?_getD, List.getElem?_eq_getElem h0]; rfl
theorem ordL_take {c : List (List Int)} {v : List Int} {n m : Nat} (h : m ≤ n) : (ordL c v n).take m = ordL c v m := by
  unfold ordL; rw [← List.map_take, List.take_take, Nat.min_eq_left h]
theorem ordL_new {c : List (List Int)} {v : List Int} (h : bothE c v = 0) {n : Nat} (hn : n ≤ c.length) (i : Nat) (hi : i < n) : rd (ordL c v n) (i : Int) ∉ (ordL c v n).take i := by
  have hp : (ordL c v n).Pairwise (fun x y => x ≠ y) := by
    unfold ordL
    rw [List.pairwise_map]
    exact (far_nodup h).sublist (List.take_sublist n _)
  have hl := ordL_length (c := c) (v := v) hn
  have hil : i < (ordL c v n).length := by omega
  have e : rd (ordL c v n) (i : Int) = (ordL c v n)[i] := by unfold rd; simp [hil]
  rw [e]
  intro hm
  obtain ⟨t, ht, et⟩ := List.mem_iff_getElem.1 hm
  rw [List.length_take] at ht
  rw [List.getElem_take] at et
  exact List.pairwise_iff_getElem.1 hp t i (by omega) hil (by omega) et
theorem orderS_ok {c : List (List Int)} {v : List Int} (h : bothE c v = 0) (n : Nat) : orderS c v (n : Int) = (ordL c v (min n c.length), 0) := by
  unfold orderS ordL
  rw [if_pos h, if_neg (by omega)]
  congr 3
  omega

theorem same_int_loop (a b : List Int) (hl : a.length = b.length) (hm : a.length < 9223372036854775807) : ∀ d i, i + d = a.length → ∀ k, d < k → wayfinderkit_Same_int.l0 k a b (i : Int) = some (decide (a.drop i = b.drop i)) := by
  intro d
  induction d with
  | zero =>
    intro i hi k hk
    obtain ⟨k, rfl⟩ : ∃ k', k = k' + 1 := ⟨k - 1, by omega⟩
    simp only [wayfinderkit_Same_int.l0]
    rw [if_neg (by omega), List.drop_of_length_le (by omega), List.drop_of_length_le (by omega)]
    simp
  | succ d ih =>
    intro i hi k hk
    obtain ⟨k, rfl⟩ : ∃ k', k = k' + 1 := ⟨k - 1, by omega⟩
    have ha : i < a.length := by omega
    have hb : i < b.length := by omega
    have e1 : rd a (i : Int) = a[i] := by unfold rd; simp [ha]
    have e2 : rd b (i : Int) = b[i] := by unfold rd; simp [hb]
    have hd : decide (a.drop i = b.drop i) = decide (a[i] = b[i] ∧ a.drop (i + 1) = b.drop (i + 1)) := by
      rw [List.drop_eq_getElem_cons ha, List.drop_eq_getElem_cons hb, decide_eq_decide, List.cons.injEq]
    have hw : wrap64 ((i : Int) + 1) = ((i + 1 : Nat) : Int) := by unfold wrap64; omega
    simp only [wayfinderkit_Same_int.l0]
    rw [if_pos (by omega), if_pos (by omega), if_pos (by omega), e1, e2, hd, hw]
    by_cases h : a[i] = b[i]
    · rw [if_pos h, ih (i + 1) (by omega) k (by omega)]; simp [h]
    · rw [if_neg h]; simp [h]
theorem same_int_f (a b : List Int) (hm : a.length < 9223372036854775807) (k : Nat) (hk : a.length < k) : wayfinderkit_Same_int.f k a b = some (decide (a = b)) := by
  unfold wayfinderkit_Same_int.f
  by_cases hl : a.length = b.length
  · rw [if_pos (by omega)]
    simpa using same_int_loop a b hl hm a.length 0 (by omega) k hk
  · rw [if_neg (by omega)]
    have : a ≠ b := fun e => hl (by rw [e])
    simp [this]

/-- Few, and short? -/
def lightB (c : List (List Int)) (many long : Nat) : Bool := decide (c.length ≤ many) && c.all (fun x => decide (x.length ≤ long))
theorem light_loop (c : List (List Int)) (long : Nat) (hm : c.length < 9223372036854775807) : ∀ d i, i + d = c.length → ∀ k, d < k → wayfinderkit_Light_int32.l0 k c (long : Int) (i : Int) = some ((c.drop i).all (fun x => decide (x.length ≤ long))) := by
  intro d
  induction d with
  | zero =>
    intro i hi k hk
    obtain ⟨k, rfl⟩ : ∃ k', k = k' + 1 := ⟨k - 1, by omega⟩
    simp only [wayfinderkit_Light_int32.l0]
    rw [if_neg (by omega), List.drop_of_length_le (by omega)]; rfl
  | succ d ih =>
    intro i hi k hk
    obtain ⟨k, rfl⟩ : ∃ k', k = k' + 1 := ⟨k - 1, by omega⟩
    have ha : i < c.length := by omega
    have hw : wrap64 ((i : Int) + 1) = ((i + 1 : Nat) : Int) := by unfold wrap64; omega
    simp only [wayfinderkit_Light_int32.l0]
    rw [if_pos (by omega), if_pos (by omega), rdL_at c i ha, hw, List.drop_eq_getElem_cons ha, List.all_cons]
    by_cases h : c[i].length ≤ long
    · rw [if_neg (by omega), ih (i + 1) (by omega) k (by omega)]; simp [h]
    · rw [if_pos (by omega)]; simp [h]
theorem light_f (c : List (List Int)) (many long : Nat) (hm : c.length < 9223372036854775807) (k : Nat) (hk : c.length < k) : wayfinderkit_Light_int32.f k c (many : Int) (long : Int) = some (lightB c many long) := by
  unfold wayfinderkit_Light_int32.f lightB
  by_cases h : c.length ≤ many
  · rw [if_neg (by omega), decide_eq_true h]
    simpa using light_loop c long hm c.length 0 (by omega) k hk
  · rw [if_pos (by omega), decide_eq_false h]; rfl
end Go.Proofs.Ytbdkgdbfnkogaaa.R
end
