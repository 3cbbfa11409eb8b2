import Derived.Test.YtbdkgdbfnkogaaaB11
import Derived.Test.YtbdkgdbfnkogaaaRk
import Derived.Test.YtbdkgdbfnkogaaaRe30

section
/-
  cell.Order, by its contract. No conditions but that the rows read as told.
-/
namespace Go.Proofs.Ytbdkgdbfnkogaaa.R
open Go.Shelf Go.RowKit Go.Lib Go.Sort Go.Proofs Go.Proofs.YtbdkgdbfnkogaaaW.PrintWords Go.Proofs.YtbdkgdbfnkogaaaW.PrintLast Go.Proofs.YtbdkgdbfnkogaaaW.PrintMore Go.Proofs.Ytbdkgdbfnkogaaa.Plain
set_option linter.unusedVariables false
set_option linter.unusedSimpArgs false

def orderS (c : List (List Int)) (v : List Int) (n : Int) : List Int × Int := if bothE c v = 0 then (if n < 0 then ([], 2) else (((farS c v).take (min n (c.length : Int)).toNat).map (·.f1), 0)) else ([], bothE c v)
theorem farS_length (c : List (List Int)) (v : List Int) : (farS c v).length = c.length := by unfold farS; rw [isort_length, List.length_map, dists_length]
def cell_Order.f (l0 : List (List Int)) (l1 : List Int) (a2 : Int) : Option (List Int × Int) := some (orderS l0 l1 a2)

theorem far_taken (F : List S30) (i : Nat) (h : i < F.length) : (F.take (i + 1)).map (·.f1) = (F.take i).map (·.f1) ++ [(rd_T30 F (i : Int)).f1] := by
  have e : rd_T30 F (i : Int) = F[i] := by unfold rd_T30; simp [h]
  rw [List.take_add_one, List.getElem?_eq_getElem h, e, List.map_append]; rfl

set_option maxHeartbeats 1000000 in
set_option maxRecDepth 100000 in
theorem order_good (A0 : Option Addr) (c0 : Nat) (l0 : List (List Int)) (A1 : Option Addr) (c1 : Nat) (l1 : List Int) (a2 : Int) (w : World) (hr0 : Kd.C (Kd.slice 21 (Kd.int .i32)) w A0 l0.length l0) (hc0 : l0.length ≤ c0) (hr1 : Kd.C (Kd.int .i32) w A1 l1.length l1) (hc1 : l1.length ≤ c1) (h : bothE l0 l1 = 0) (hn : 0 ≤ a2) :
    Calls Try.prog 31 #[.slice A0 l0.length c0, .slice A1 l1.length c1, .int .i64 a2] w fun e w' => ∃ v0_ : Value, e = .returned (.tuple #[v0_, .int .i64 0]) ∧ Kd.R (Kd.int .i64) 3 w' w.heap.size (fun _ => True) v0_ (((farS l0 l1).take (min a2 (l0.length : Int)).toNat).map (·.f1)) ∧ Below w.heap.size w w' := by
  have K := Aside0.mk (far_good A0 c0 l0 A1 c1 l1 w hr0 hc0 hr1 hc1 h)
  have hl := bothE_len h
  obtain ⟨F, hF⟩ : ∃ F, F = farS l0 l1 := ⟨_, rfl⟩
  have hFl : F.length = l0.length := by rw [hF, farS_length]
  rw [← hF] at K
  rw [← hF]
  obtain ⟨m, hm⟩ : ∃ m : Nat, min a2 (F.length : Int) = (m : Int) := ⟨(min a2 (F.length : Int)).toNat, by omega⟩
  have hmn : (min a2 (l0.length : Int)).toNat = m := by omega
  have hml : m ≤ F.length := by omega
  have HM := Aside0.mk (And.intro hml (show F.length ≤ 4096 by omega))
  rw [hmn]
  have d0 : decide (a2 < 0) = false := decide_eq_false (by omega)
  clear hr0 hr1 hc0 hc1 h hl hF hFl hmn hml
  go_enter Try.func31, Try.ntmps31
  go_wp2_with fail
  refine K.out.mono ?_
  rintro e w1 ⟨v, rfl, hR, hB⟩
  obtain ⟨A, c, rfl⟩ := Kd.R_slice hR
  have CF := Aside0.mk (Kd.R_reads' hR).2.2
  have qc : (m : Int) ≤ (c : Int) := by have := (Kd.R_reads' hR).2.1; have := HM.out; omega
  have qc2 : m ≤ c := by omega
  have HB := Aside0.mk hB
  clear hR hB K
  go_wp2_with fail
  go_loopg [33, 10] m (fun gx s33 s10 wr => ∃ (j : Int) (i : Nat), s33 = .int .i64 j ∧ Aside0 (j = i ∧ i ≤ m ∧ m - i ≤ gx) ∧ Aside0 (Kd.R (Kd.int .i64) 3 wr w1.heap.size (fun _ => True) s10 ((F.take i).map (·.f1))) ∧ Aside0 (Below w1.heap.size w1 wr))
  case atStart => exact ⟨0, 0, rfl, ⟨by omega, by omega, by omega⟩, ⟨by simpa using Kd.R_nil _ _ _ _ _⟩, ⟨Below.refl _ _⟩⟩
  case round =>
    obtain ⟨j, i, rfl, HI, R, HB1⟩ := hrel
    clear d0 qc qc2
    by_cases hin : i < m
    · have hlt : decide (j < (m : Int)) = true := decide_eq_true (by have := HI.out; omega)
      have p1 : 0 ≤ j := by have := HI.out; omega
      have q1 : j < (m : Int) := by have := HI.out; omega
      have q2 : j < (F.length : Int) := by have := HI.out; have := HM.out; omega
      obtain ⟨ad, eA, g0, g1⟩ := at_T30 (Kd.C_below CF.out HB1.out) j p1 q2
      cases eA
      obtain ⟨x, hx⟩ : ∃ x, x = rd_T30 F j := ⟨_, rfl⟩
      rw [← hx] at g0 g1
      have HX : Aside0 (((F.take (i + 1)).map (·.f1)) = (F.take i).map (·.f1) ++ [x.f1]) := ⟨by rw [far_taken F i (by have := HM.out; omega), hx, HI.out.1]⟩
      have HN := Aside0.mk hin
      have R1 : Aside0 (Kd.R (Kd.int .i64) 3 (wr.alloc (.cells #[.int .i64 x.f0, .int .i64 x.f1] 30)) w1.heap.size (fun _ => True) u10 ((F.take i).map (·.f1))) := ⟨Kd.R_alloc R.out _⟩
      have HB2 := Aside0.mk (below_alloc HB1.out (.cells #[.int .i64 x.f0, .int .i64 x.f1] 30))
      have HL : Aside0 (((F.take i).map (·.f1)).length = i) := ⟨by rw [List.length_map, List.length_take]; have := HM.out; omega⟩
      replace p1 := eq_true p1
      replace q1 := eq_true q1
      clear hx hin q2 R HB1
      go_upto_region 10 with fail
      have e1 : (wr.alloc (.cells #[.int .i64 x.f0, .int .i64 x.f1] 30)).cell? ⟨wr.heap.size, 1, none⟩ = some (.int .i64 x.f1) := (Box2.cells (x := x) (heap_alloc_new wr _)).2
      generalize wr.alloc (.cells #[.int .i64 x.f0, .int .i64 x.f1] 30) = W at R1 HB2 e1 ⊢
      generalize wr.heap.size = b0 at e1 ⊢
      clear g0 g1
      go_wp2_with (at_builtin; refine Kd.R_append (Kd.int .i64) (w0 := w1) (W := W) w1.heap.size rfl (.tmp 37) (.tmp 40) 58 3 (.int .i64 0) 8 rfl Try.underlying58 info3 rfl (by decide) (by decide) u10 _ x.f1 [.int .i64 x.f1] (fun _ => True) (fun _ => False) rfl rfl rfl (fun _ h => h.elim) (fun _ _ => trivial) R1.out HB2.out HB2.out.size (by rw [HL.out]; have := HM.out; have := HN.out; omega) ?_; intro v1 w2 hR2 hB2 hg2 hat2; have R2 := Aside0.mk hR2; have HB3 := Aside0.mk hB2; clear hR2 hB2 hg2 hat2 R1 HB2)
      go_roundg (gk - 1)
      case measure => have := HI.out; have := HN.out; omega
      case rel => exact ⟨wrap64 (j + 1), i + 1, by first | rfl | (simp; done), ⟨by have := HI.out; have := HN.out; have := HM.out; unfold wrap64; omega, by have := HN.out; omega, by have := HI.out; have := HN.out; omega⟩, ⟨by rw [HX.out]; exact R2.out⟩, HB3⟩
    · have hlt : decide (j < (m : Int)) = false := decide_eq_false (by have := HI.out; omega)
      have hi : i = m := by have := HI.out; omega
      subst hi
      clear hin
      go_wp2_with fail
      go_ret2
      exact ⟨_, rfl, Kd.R_lower R.out HB.out.size, HB.out.trans (HB1.out.mono HB.out.size)⟩

set_option maxHeartbeats 1000000 in
theorem order_neg (A0 : Option Addr) (c0 : Nat) (l0 : List (List Int)) (A1 : Option Addr) (c1 : Nat) (l1 : List Int) (a2 : Int) (w : World) (hr0 : Kd.C (Kd.slice 21 (Kd.int .i32)) w A0 l0.length l0) (hc0 : l0.length ≤ c0) (hr1 : Kd.C (Kd.int .i32) w A1 l1.length l1) (hc1 : l1.length ≤ c1) (h : bothE l0 l1 = 0) (hn : a2 < 0) :
    Calls Try.prog 31 #[.slice A0 l0.length c0, .slice A1 l1.length c1, .int .i64 a2] w fun e w' => e = .returned (.tuple #[.slice none 0 0, .int .i64 2]) ∧ Below w.heap.size w w' := by
  have K := Aside0.mk (far_good A0 c0 l0 A1 c1 l1 w hr0 hc0 hr1 hc1 h)
  have d0 : decide (a2 < 0) = true := decide_eq_true hn
  clear hr0 hr1 hc0 hc1 h hn
  go_enter Try.func31, Try.ntmps31
  go_wp2_with fail
  refine K.out.mono ?_
  rintro e w1 ⟨v, rfl, hR, hB⟩
  clear hR
  go_wp2_with fail
  go_ret2
  exact ⟨rfl, hB⟩

set_option maxHeartbeats 1000000 in
theorem order_bad (A0 : Option Addr) (c0 : Nat) (l0 : List (List Int)) (A1 : Option Addr) (c1 : Nat) (l1 : List Int) (a2 : Int) (w : World) (hr0 : Kd.C (Kd.slice 21 (Kd.int .i32)) w A0 l0.length l0) (hc0 : l0.length ≤ c0) (hr1 : Kd.C (Kd.int .i32) w A1 l1.length l1) (hc1 : l1.length ≤ c1) (h : bothE l0 l1 ≠ 0) :
    Calls Try.prog 31 #[.slice A0 l0.length c0, .slice A1 l1.length c1, .int .i64 a2] w fun e w' => e = .returned (.tuple #[.slice none 0 0, .int .i64 (bothE l0 l1)]) ∧ Below w.heap.size w w' := by
  have K := Aside0.mk (far_bad A0 c0 l0 A1 c1 l1 w hr0 hc0 hr1 hc1 h)
  clear hr0 hr1 hc0 hc1
  obtain ⟨E, hE⟩ : ∃ E, E = bothE l0 l1 := ⟨_, rfl⟩
  rw [← hE] at K h ⊢
  clear hE
  have z1 : (E != 0) = true := by simpa using h
  have z2 : (E == 0) = false := by simpa using h
  clear h
  go_enter Try.func31, Try.ntmps31
  go_wp2_with fail
  refine K.out.mono ?_
  rintro e w1 ⟨rfl, hB⟩
  go_wp2_with fail
  go_ret2
  exact ⟨rfl, hB⟩

theorem cell_Order.calls (A0 : Option Addr) (c0 : Nat) (l0 : List (List Int)) (A1 : Option Addr) (c1 : Nat) (l1 : List Int) (a2 : Int) (r1 : List Int) (r2 : Int) (w : World) (hr0 : Kd.C (Kd.slice 21 (Kd.int .i32)) w A0 l0.length l0) (hc0 : l0.length ≤ c0) (hr1 : Kd.C (Kd.int .i32) w A1 l1.length l1) (hc1 : l1.length ≤ c1) (h : cell_Order.f l0 l1 a2 = some (r1, r2)) :
    Calls Try.prog 31 #[.slice A0 l0.length c0, .slice A1 l1.length c1, .int .i64 a2] w fun e w' => ∃ v0_ : Value, e = .returned (.tuple #[v0_, .int .i64 r2]) ∧ Kd.R (Kd.int .i64) 3 w' w.heap.size (fun _ => True) v0_ r1 ∧ Below w.heap.size w w' := by
  unfold cell_Order.f orderS at h
  by_cases hz : bothE l0 l1 = 0
  · rw [if_pos hz] at h
    by_cases hn : a2 < 0
    · rw [if_pos hn] at h
      injection h with h
      injection h with h1 h2
      subst h1 h2
      exact (order_neg A0 c0 l0 A1 c1 l1 a2 w hr0 hc0 hr1 hc1 hz hn).mono fun e w' ⟨he, hB⟩ => ⟨_, he, Kd.R_nil _ _ _ _ _, hB⟩
    · rw [if_neg hn] at h
      injection h with h
      injection h with h1 h2
      subst h1 h2
      exact order_good A0 c0 l0 A1 c1 l1 a2 w hr0 hc0 hr1 hc1 hz (by omega)
  · rw [if_neg hz] at h
    injection h with h
    injection h with h1 h2
    subst h1 h2
    exact (order_bad A0 c0 l0 A1 c1 l1 a2 w hr0 hc0 hr1 hc1 hz).mono fun e w' ⟨he, hB⟩ => ⟨_, he, Kd.R_nil _ _ _ _ _, hB⟩
end Go.Proofs.Ytbdkgdbfnkogaaa.R
end

section
namespace Go.Proofs.Ytbdkgdbfnkogaaa.R
open Go.RowKit Go.Proofs.YtbdkgdbfnkogaaaW.PrintWords Go.Proofs.YtbdkgdbfnkogaaaW.PrintLast Go.Proofs.YtbdkgdbfnkogaaaW.PrintMore
attribute [local go_sem] max2_int min2_int max_two min_two max_three min_three max_four min_four   -- for this text's walks alone
set_option linter.unusedVariables false
set_option linter.unusedSimpArgs false

attribute [local go_sem high] eqA30
/-! ### api_Near_17: function 17 -/
def api_Near_17.l0 : Nat → List (S30) → List (S30) → Int → Option (Bool)
  | 0, _, _, _ => none
  | k + 1, x0, x1, x5 => if x5 < (x0.length : Int) then (if 0 ≤ x5 then (if x5 < (x1.length : Int) then (if (!(((rd_T30 x0 x5).f0) == ((rd_T30 x1 x5).f0)) || (!(((rd_T30 x0 x5).f1) == ((rd_T30 x1 x5).f1)))) = true then (some false) else (api_Near_17.l0 k x0 x1 (wrap64 (x5 + 1)))) else (none)) else (none)) else (some true)
def api_Near_17.f (k : Nat) (l0 : List (S30)) (l1 : List (S30)) : Option (Bool) := if (l0.length : Int) = (l1.length : Int) then (api_Near_17.l0 k l0 l1 0) else (some false)
theorem api_Near_17.mono_l : ∀ k, (∀ y0 y1 y2, LeO (api_Near_17.l0 k y0 y1 y2) (api_Near_17.l0 (k + 1) y0 y1 y2))
  | 0 => fun _ _ _ r h => by simp [api_Near_17.l0] at h
  | k + 1 => by
    have ih0 := api_Near_17.mono_l k
    · intro y0 y1 y2
      unfold api_Near_17.l0
      repeat' first
      | (with_reducible exact ih0 _ _ _)
      | (with_reducible exact LeO.refl _)
      | (with_reducible exact LeO.none _)
      | (with_reducible refine LeO.ite ?_ ?_)
      | (with_reducible refine LeO.bind ?_ (fun _ => ?_))
      | exact ih0 _ _ _
      | exact LeO.none _
      | refine LeO.ite ?_ ?_
      | refine LeO.bind ?_ (fun _ => ?_)
theorem api_Near_17.mono : ∀ a0 a1 k, LeO (api_Near_17.f k a0 a1) (api_Near_17.f (k + 1) a0 a1) := by
  intro a0 a1 k
  have ih0 := api_Near_17.mono_l k
  unfold api_Near_17.f
  repeat' first
      | (with_reducible exact ih0 _ _ _)
      | (with_reducible exact LeO.refl _)
      | (with_reducible exact LeO.none _)
      | (with_reducible refine LeO.ite ?_ ?_)
      | (with_reducible refine LeO.bind ?_ (fun _ => ?_))
      | exact ih0 _ _ _
      | exact LeO.none _
      | refine LeO.ite ?_ ?_
      | refine LeO.bind ?_ (fun _ => ?_)
set_option maxHeartbeats 8000000 in
set_option maxRecDepth 100000 in
theorem api_Near_17.calls (k : Nat) (A0 : Option Addr) (c0 : Nat) (l0 : List (S30)) (A1 : Option Addr) (c1 : Nat) (l1 : List (S30)) (r : Bool) (w : World) (hr0 : Kd.C k30 w A0 l0.length l0) (hc0 : l0.length ≤ c0) (hr1 : Kd.C k30 w A1 l1.length l1) (hc1 : l1.length ≤ c1) (h : api_Near_17.f k l0 l1 = some r) :
    Calls Try.prog 17 #[.slice A0 l0.length c0, .slice A1 l1.length c1] w fun e w' => e = .returned (.bool r) ∧ Drawn0 w w' := by
  have hu30 := Try.underlying30
  have HR0 := Aside0.mk hr0
  have HC0 := Aside0.mk hc0
  clear hr0 hc0
  have HR1 := Aside0.mk hr1
  have HC1 := Aside0.mk hc1
  clear hr1 hc1
  have H : (if (l0.length : Int) = (l1.length : Int) then (api_Near_17.l0 k l0 l1 0) else (some false)) = some r := h
  clear h
  by_cases c3 : (l0.length : Int) = (l1.length : Int)
  · rw [if_pos c3] at H
    have c3b0 : ((l0.length : Int) == (l1.length : Int)) = true := beq_iff_eq.mpr c3
    have c3b1 : ((l0.length : Int) != (l1.length : Int)) = false := bne_eq_false_iff_eq.mpr c3
    have c3b2 : (l0.length == l1.length) = true := by first | simpa using c3 | (simp at c3 ⊢; omega)
    clear c3
    have H' := Aside0.mk H
    clear H
    go_enter Try.func17, Try.ntmps17
    go_wp2
    repeat (go_quiet (fail); try go_wp2)
    go_loopg [5] k (fun kq v5 w' => ∃ (x5_1 : Int), v5 = .int .i64 x5_1 ∧ Aside0 (api_Near_17.l0 kq l0 l1 x5_1 = some r) ∧ Aside0 (kq ≤ k) ∧ Drawn0 w w')
    case atStart => exact ⟨(0), (by first | rfl | (simp; done) | (simp [*]; done)), H', ⟨Nat.le_refl _⟩, by repeat (first | exact Drawn0.refl _ | apply Drawn0.step)⟩
    case round =>
      clear H'
      try clear c1
      try clear p2
      try clear c3
      try clear c3b0
      try clear c3b1
      try clear c3b2
      obtain ⟨x5_1, rfl, HA, HK1, ⟨m1, rfl⟩⟩ := hrel
      cases gk with
      | zero => exact absurd HA.out (by simp [api_Near_17.l0])
      | succ k1 =>
        have H := HA.out
        clear HA
        simp only [api_Near_17.l0] at H
        by_cases c4 : x5_1 < (l0.length : Int)
        · rw [if_pos c4] at H
          have c4b0 : decide (x5_1 < (l0.length : Int)) = true := decide_eq_true c4
          clear c4
          by_cases c5 : 0 ≤ x5_1
          · rw [if_pos c5] at H
            have c5b0 : decide (0 ≤ x5_1) = true := decide_eq_true c5
            clear c5
            by_cases c6 : x5_1 < (l1.length : Int)
            · rw [if_pos c6] at H
              have c6b0 : decide (x5_1 < (l1.length : Int)) = true := decide_eq_true c6
              clear c6
              by_cases c7 : (!(((rd_T30 l0 x5_1).f0) == ((rd_T30 l1 x5_1).f0)) || (!(((rd_T30 l0 x5_1).f1) == ((rd_T30 l1 x5_1).f1)))) = true
              · rw [if_pos c7] at H
                have c7b0 : (!(((rd_T30 l0 x5_1).f0) == ((rd_T30 l1 x5_1).f0)) || (!(((rd_T30 l0 x5_1).f1) == ((rd_T30 l1 x5_1).f1)))) = true := c7
                clear c7
                obtain rfl := Option.some.inj H
                have p142 : 0 ≤ (x5_1 : Int) := of_decide_eq_true (by first | (with_reducible assumption) | assumption)
                have q142 : x5_1 < (l0.length : Int) := of_decide_eq_true (by first | (with_reducible assumption) | assumption)
                obtain ⟨ad142, e142, hx142_0, hx142_1⟩ := at_T30 HR0.out x5_1 p142 q142
                cases e142
                replace p142 := eq_true p142
                replace q142 := eq_true q142
                have p143 : 0 ≤ (x5_1 : Int) := of_decide_eq_true (by first | (with_reducible assumption) | assumption)
                have q143 : x5_1 < (l1.length : Int) := of_decide_eq_true (by first | (with_reducible assumption) | assumption)
                obtain ⟨ad143, e143, hx143_0, hx143_1⟩ := at_T30 HR1.out x5_1 p143 q143
                cases e143
                replace p143 := eq_true p143
                replace q143 := eq_true q143
                go_wp2
                repeat (go_quiet (fail); try go_wp2)
                go_ret
                exact ⟨by first | rfl | (simp; done) | (simp [*]; done), by repeat (first | exact Drawn0.refl _ | apply Drawn0.step)⟩
              · rw [if_neg c7] at H
                have c7b0 : (!(((rd_T30 l0 x5_1).f0) == ((rd_T30 l1 x5_1).f0)) || (!(((rd_T30 l0 x5_1).f1) == ((rd_T30 l1 x5_1).f1)))) = false := by simpa using c7
                clear c7
                have H' := Aside0.mk H
                clear H
                have p142 : 0 ≤ (x5_1 : Int) := of_decide_eq_true (by first | (with_reducible assumption) | assumption)
                have q142 : x5_1 < (l0.length : Int) := of_decide_eq_true (by first | (with_reducible assumption) | assumption)
                obtain ⟨ad142, e142, hx142_0, hx142_1⟩ := at_T30 HR0.out x5_1 p142 q142
                cases e142
                replace p142 := eq_true p142
                replace q142 := eq_true q142
                have p143 : 0 ≤ (x5_1 : Int) := of_decide_eq_true (by first | (with_reducible assumption) | assumption)
                have q143 : x5_1 < (l1.length : Int) := of_decide_eq_true (by first | (with_reducible assumption) | assumption)
                obtain ⟨ad143, e143, hx143_0, hx143_1⟩ := at_T30 HR1.out x5_1 p143 q143
                cases e143
                replace p143 := eq_true p143
                replace q143 := eq_true q143
                go_wp2
                repeat (go_quiet (fail); try go_wp2)
                go_roundg k1
                case measure => have := HK1.out; omega
                case rel => exact ⟨(wrap64 (x5_1 + 1)), (by first | rfl | (simp; done) | (simp [*]; done)), H', ⟨by have := HK1.out; omega⟩, by repeat (first | exact Drawn0.refl _ | apply Drawn0.step)⟩
            · rw [if_neg c6] at H
              exact absurd H (by simp)
          · rw [if_neg c5] at H
            exact absurd H (by simp)
        · rw [if_neg c4] at H
          have c4b0 : decide (x5_1 < (l0.length : Int)) = false := decide_eq_false c4
          clear c4
          obtain rfl := Option.some.inj H
          go_wp2
          repeat (go_quiet (fail); try go_wp2)
          go_ret
          exact ⟨by first | rfl | (simp; done) | (simp [*]; done), by repeat (first | exact Drawn0.refl _ | apply Drawn0.step)⟩
  · rw [if_neg c3] at H
    have c3b0 : ((l0.length : Int) == (l1.length : Int)) = false := beq_eq_false_iff_ne.mpr c3
    have c3b1 : ((l0.length : Int) != (l1.length : Int)) = true := bne_iff_ne.mpr c3
    have c3b2 : (l0.length == l1.length) = false := by first | simpa using c3 | (simp at c3 ⊢; omega)
    obtain rfl := Option.some.inj H
    go_enter Try.func17, Try.ntmps17
    go_wp2
    repeat (go_quiet (fail); try go_wp2)
    go_ret
    exact ⟨by first | rfl | (simp; done) | (simp [*]; done), by repeat (first | exact Drawn0.refl _ | apply Drawn0.step)⟩

end Go.Proofs.Ytbdkgdbfnkogaaa.R
end
