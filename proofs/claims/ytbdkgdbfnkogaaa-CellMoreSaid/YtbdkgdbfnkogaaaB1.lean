import Derived.Test.YtbdkgdbfnkogaaaB0
import Derived.Test.YtbdkgdbfnkogaaaRk

section
/-
  cell.Check and what it calls, by their contracts. No conditions but that the rows read as told.
-/
namespace Go.Proofs.Ytbdkgdbfnkogaaa.R
open Go.RowKit Go.Proofs.YtbdkgdbfnkogaaaW.PrintWords Go.Proofs.YtbdkgdbfnkogaaaW.PrintLast Go.Proofs.YtbdkgdbfnkogaaaW.PrintMore
set_option linter.unusedVariables false
set_option linter.unusedSimpArgs false

/-- The first error of wide vectors. -/
def firstE : List (List Int) → Int
  | [] => 0
  | x :: l => if chkW x = 0 then firstE l else chkW x
/-- Has one another length than the first one? -/
def oddB (l : List (List Int)) (x : List Int) : Bool := decide (x.length ≠ (rd_L3 l 0).length)
/-- The error of cents. -/
def chkC (l : List (List Int)) : Int := if l.length < 1 ∨ 4096 < l.length then 2 else if firstE l = 0 then (if l.any (oddB l) = true then 2 else 0) else firstE l

theorem rdL_at (l : List (List Int)) (i : Nat) (h : i < l.length) : rd_L3 l (i : Int) = l[i] := by unfold rd_L3; simp [h]
theorem takeL (l : List (List Int)) (i : Nat) (h : i < l.length) : l.take (i + 1) = l.take i ++ [rd_L3 l (i : Int)] := by
  rw [rdL_at l i h, List.take_add_one, List.getElem?_eq_getElem h]; rfl
theorem firstE_append (a b : List (List Int)) (h : firstE a = 0) : firstE (a ++ b) = firstE b := by
  induction a with
  | nil => rfl
  | cons x a ih =>
    by_cases hx : chkW x = 0
    · simp only [firstE, hx, if_true] at h
      simp only [List.cons_append, firstE, hx, if_true]
      exact ih h
    · simp only [firstE, hx, if_false] at h
theorem firstE_at (l : List (List Int)) (i : Nat) (h : i < l.length) (h0 : firstE (l.take i) = 0) (hx : chkW (rd_L3 l (i : Int)) ≠ 0) : firstE l = chkW (rd_L3 l (i : Int)) := by
  have e : l = l.take i ++ (l[i] :: l.drop (i + 1)) := by rw [← List.drop_eq_getElem_cons h, List.take_append_drop]
  rw [rdL_at l i h] at hx ⊢
  conv => lhs; rw [e]
  rw [firstE_append _ _ h0]
  simp [firstE, hx]
theorem anyL_snoc (l : List (List Int)) (i : Nat) (h : i < l.length) (p : List Int → Bool) : (l.take (i + 1)).any p = ((l.take i).any p || p (rd_L3 l (i : Int))) := by
  rw [takeL l i h, List.any_append]; simp
theorem anyL_of (l : List (List Int)) (i : Nat) (h : i < l.length) (p : List Int → Bool) (hp : p (rd_L3 l (i : Int)) = true) : l.any p = true := by
  rw [rdL_at l i h] at hp
  exact List.any_eq_true.2 ⟨_, List.getElem_mem h, hp⟩

set_option maxHeartbeats 1000000 in
theorem close72_any (A A0 : Option Addr) (ad : Addr) (n c m cc n0 c0 B : Nat) (w : World) (hB : w.cell? ⟨B, 0, none⟩ = some (.slice (some ad) m cc)) (h0 : w.cell? ad = some (.slice A0 n0 c0)) (hm : 0 < m) :
    Calls Try.prog 72 #[.slice A n c, .pointer (some ⟨B, 0, none⟩)] w fun e w' => e = .returned (.bool (decide (n ≠ n0))) ∧ Drawn0 w w' := by
  have q0 : (0 : Int) < (m : Int) := by omega
  obtain ⟨b, hb⟩ : ∃ b, decide (n ≠ n0) = b := ⟨_, rfl⟩
  have z1 : ((n : Int) != (n0 : Int)) = b := by
    rw [← hb, Bool.eq_iff_iff]; simp; omega
  rw [hb]
  clear hb
  go_enter Try.func72, Try.ntmps72
  go_wp2_with fail
  go_ret
  exact ⟨rfl, Drawn0.refl _⟩

set_option maxHeartbeats 2000000 in
set_option maxRecDepth 100000 in
theorem index92_any (A : Option Addr) (c B : Nat) (l : List (List Int)) (w : World) (hC : Kd.C (Kd.slice 21 (Kd.int .i32)) w A l.length l) (hB : w.cell? ⟨B, 0, none⟩ = some (.slice A l.length c)) :
    Calls Try.prog 92 #[.slice A l.length c, .func (.func 72) #[] #[.pointer (some ⟨B, 0, none⟩)]] w fun e w' => ∃ r : Int, e = .returned (.int .i64 r) ∧ Aside0 (decide (0 ≤ r) = l.any (oddB l)) ∧ Drawn0 w w' := by
  have hm := Kd.C_max hC
  have HC := Aside0.mk hC
  have HM := Aside0.mk hm
  have HBx := Aside0.mk hB
  clear hC hm hB
  go_enter Try.func92, Try.ntmps92
  go_wp2_with fail
  go_loopg [8] l.length (fun gx s8 wr => ∃ (j : Int) (i : Nat), s8 = .int .i64 j ∧ Aside0 (j = i ∧ i ≤ l.length ∧ l.length - i ≤ gx ∧ (l.take i).any (oddB l) = false) ∧ Drawn0 w wr)
  case atStart => exact ⟨0, 0, rfl, ⟨by omega, by omega, by omega, by simp⟩, Drawn0.refl _⟩
  case round =>
    obtain ⟨j, i, rfl, HI, ⟨m, rfl⟩⟩ := hrel
    by_cases hin : i < l.length
    · have hlt : decide (j < (l.length : Int)) = true := decide_eq_true (by have := HI.out; omega)
      have p1 : 0 ≤ j := by have := HI.out; omega
      have q1 : j < (l.length : Int) := by have := HI.out; omega
      obtain ⟨ad, A1, c1, eA, g0, hc1, hC1⟩ := at_L3 HC.out j p1 q1
      obtain ⟨ad', A2, c2, eA', g2, _, _⟩ := at_L3 HC.out 0 (Int.le_refl _) (by omega)
      cases eA
      injection eA' with eA'
      subst eA'
      have ez : ad.add (0 : Int).toNat = ad := Addr.add_zero' ad
      rw [ez] at g2
      have B0 := Aside0.mk (close72_any A1 A2 ad (rd_L3 l j).length c1 l.length c (rd_L3 l 0).length c2 B (w.drewN m) HBx.out g2 (by omega))
      obtain ⟨b, hb⟩ : ∃ b, oddB l (rd_L3 l j) = b := ⟨_, rfl⟩
      have HBb := Aside0.mk hb
      have B1 : Aside0 (Calls Try.prog 72 #[.slice A1 (rd_L3 l j).length c1, .pointer (some ⟨B, 0, none⟩)] (w.drewN m) fun e w' => e = .returned (.bool b) ∧ Drawn0 (w.drewN m) w') := ⟨by rw [← hb]; exact B0.out⟩
      have HN := Aside0.mk hin
      have P1 := Aside0.mk p1
      replace p1 := eq_true p1
      replace q1 := eq_true q1
      clear hin hb B0 g2 hC1 hc1
      obtain ⟨n1, hn1⟩ : ∃ n, n = (rd_L3 l j).length := ⟨_, rfl⟩
      rw [← hn1] at g0 B1
      clear hn1
      cases b with
      | true =>
        go_wp2_with fail
        refine B1.out.mono ?_
        rintro e w' ⟨rfl, ⟨n, rfl⟩⟩
        go_wp2_with fail
        go_ret
        refine ⟨j, rfl, ⟨?_⟩, by repeat (first | exact Drawn0.refl _ | apply Drawn0.step)⟩
        rw [decide_eq_true P1.out, anyL_of l i HN.out (oddB l) (by rw [← HI.out.1]; exact HBb.out)]
      | false =>
        go_wp2_with fail
        refine B1.out.mono ?_
        rintro e w' ⟨rfl, ⟨n, rfl⟩⟩
        go_wp2_with fail
        go_roundg (gk - 1)
        case measure => have := HI.out; have := HN.out; omega
        case rel => exact ⟨wrap64 (j + 1), i + 1, by first | rfl | (simp; done), ⟨by have := HI.out; have := HN.out; have := HM.out; unfold wrap64; omega, by have := HN.out; omega, by have := HI.out; have := HN.out; omega, by rw [anyL_snoc l i HN.out, HI.out.2.2.2, ← HI.out.1, HBb.out]; rfl⟩, by repeat (first | exact Drawn0.refl _ | apply Drawn0.step)⟩
    · have hlt : decide (j < (l.length : Int)) = false := decide_eq_false (by have := HI.out; omega)
      have HN := Aside0.mk hin
      clear hin
      go_wp2_with fail
      go_ret
      refine ⟨-1, rfl, ⟨?_⟩, by repeat (first | exact Drawn0.refl _ | apply Drawn0.step)⟩
      have h := HI.out.2.2.2
      rw [List.take_of_length_le (by have := HN.out; omega)] at h
      rw [h]; rfl

set_option maxHeartbeats 1000000 in
theorem contains71_any (A : Option Addr) (c B : Nat) (l : List (List Int)) (w : World) (hC : Kd.C (Kd.slice 21 (Kd.int .i32)) w A l.length l) (hB : w.cell? ⟨B, 0, none⟩ = some (.slice A l.length c)) :
    Calls Try.prog 71 #[.slice A l.length c, .func (.func 72) #[] #[.pointer (some ⟨B, 0, none⟩)]] w fun e w' => e = .returned (.bool (l.any (oddB l))) ∧ Drawn0 w w' := by
  have I := Aside0.mk (index92_any A c B l w hC hB)
  clear hC hB
  go_enter Try.func71, Try.ntmps71
  go_wp2_with fail
  refine I.out.mono ?_
  rintro e w' ⟨r, rfl, H, ⟨n, rfl⟩⟩
  go_wp2_with fail
  go_ret
  exact ⟨by rw [← H.out]; rfl, by repeat (first | exact Drawn0.refl _ | apply Drawn0.step)⟩

def cell_Check.f (l0 : List (List Int)) : Option Int := some (chkC l0)
set_option maxHeartbeats 4000000 in
set_option maxRecDepth 100000 in
theorem cell_Check.calls (A0 : Option Addr) (c0 : Nat) (l0 : List (List Int)) (r : Int) (w : World) (hr0 : Kd.C (Kd.slice 21 (Kd.int .i32)) w A0 l0.length l0) (hc0 : l0.length ≤ c0) (h : cell_Check.f l0 = some r) :
    Calls Try.prog 43 #[.slice A0 l0.length c0] w fun e w' => e = .returned (.int .i64 r) ∧ Below w.heap.size w w' := by
  obtain rfl := Option.some.inj h
  have X : (w.alloc (.cells #[.slice A0 l0.length c0] 51)).cell? ⟨w.heap.size, 0, none⟩ = some (.slice A0 l0.length c0) := by simp
  have HB := Aside0.mk (below_alloc (Below.refl _ w) (.cells #[.slice A0 l0.length c0] 51))
  have HC := Aside0.mk (Kd.C_alloc hr0 (.cells #[.slice A0 l0.length c0] 51))
  obtain ⟨R, hR⟩ : ∃ R, R = chkC l0 := ⟨_, rfl⟩
  have HR := Aside0.mk hR
  have hm := Kd.C_max hr0
  have HM := Aside0.mk hm
  rw [← hR]
  clear hR h hr0 hc0 hm
  go_enter Try.func43, Try.ntmps43
  by_cases h1 : l0.length < 1
  · have d1 : decide ((l0.length : Int) < 1) = true := decide_eq_true (by omega)
    have d2 : decide (l0.length < 1) = true := decide_eq_true h1
    have HE : Aside0 (R = 2) := ⟨by rw [HR.out]; unfold chkC; rw [if_pos (.inl h1)]⟩
    clear h1
    go_wp2_with fail
    go_ret
    exact ⟨by rw [HE.out]; rfl, HB.out⟩
  · have d1 : decide ((l0.length : Int) < 1) = false := decide_eq_false (by omega)
    have d2 : decide (l0.length < 1) = false := decide_eq_false h1
    by_cases h2 : 4096 < l0.length
    · have d3 : decide ((4096 : Int) < (l0.length : Int)) = true := decide_eq_true (by omega)
      have d4 : decide (4096 < l0.length) = true := decide_eq_true h2
      have HE : Aside0 (R = 2) := ⟨by rw [HR.out]; unfold chkC; rw [if_pos (.inr h2)]⟩
      clear h1 h2
      go_wp2_with fail
      go_ret
      exact ⟨by rw [HE.out]; rfl, HB.out⟩
    · have d3 : decide ((4096 : Int) < (l0.length : Int)) = false := decide_eq_false (by omega)
      have d4 : decide (4096 < l0.length) = false := decide_eq_false h2
      have HE : Aside0 (R = if firstE l0 = 0 then (if l0.any (oddB l0) = true then 2 else 0) else firstE l0) := ⟨by rw [HR.out]; unfold chkC; rw [if_neg (by omega)]⟩
      have HL := Aside0.mk h2
      have HL1 := Aside0.mk h1
      clear h1 h2 HR
      go_wp2_with fail
      clear d1 d2 d3 d4
      generalize w.alloc (.cells #[.slice A0 l0.length c0] 51) = W at X HB HC ⊢
      have HX := Aside0.mk X
      clear X
      go_loopg [16] l0.length (fun gx s16 wr => ∃ (j : Int) (i : Nat), s16 = .int .i64 j ∧ Aside0 (j = i ∧ i ≤ l0.length ∧ l0.length - i ≤ gx ∧ firstE (l0.take i) = 0) ∧ Drawn0 W wr)
      case atStart => exact ⟨0, 0, rfl, ⟨by omega, by omega, by omega, by simp [firstE]⟩, Drawn0.refl _⟩
      case round =>
        obtain ⟨j, i, rfl, HI, ⟨m, rfl⟩⟩ := hrel
        by_cases hin : i < l0.length
        · have hlt : decide (j < (l0.length : Int)) = true := decide_eq_true (by have := HI.out; omega)
          have p1 : 0 ≤ j := by have := HI.out; omega
          have q1 : j < (l0.length : Int) := by have := HI.out; omega
          obtain ⟨ad, A1, c1, eA, g0, hc1, hC1⟩ := at_L3 HC.out j p1 q1
          cases eA
          have HN := Aside0.mk hin
          obtain ⟨x, hx⟩ : ∃ x, x = rd_L3 l0 j := ⟨_, rfl⟩
          rw [← hx] at g0 hc1 hC1
          have K := Aside0.mk (vec_CheckWide.calls A1 c1 x (chkW x) (W.drewN m) (Kd.C_drewN hC1 m) hc1 rfl)
          have HXe : Aside0 (x = rd_L3 l0 (i : Int)) := ⟨by rw [hx, HI.out.1]⟩
          obtain ⟨e0, h0⟩ : ∃ e, chkW x = e := ⟨_, rfl⟩
          rw [h0] at K
          have H0 := Aside0.mk h0
          replace p1 := eq_true p1
          replace q1 := eq_true q1
          clear hin hx h0 hc1 hC1
          by_cases hz : e0 = 0
          · subst hz
            go_wp2_with fail
            refine K.out.mono ?_
            rintro e w' ⟨rfl, ⟨n, rfl⟩⟩
            clear g0
            go_wp2_with fail
            go_roundg (gk - 1)
            case measure => have := HI.out; have := HN.out; omega
            case rel => exact ⟨wrap64 (j + 1), i + 1, by first | rfl | (simp; done), ⟨by have := HI.out; have := HN.out; have := HM.out; unfold wrap64; omega, by have := HN.out; omega, by have := HI.out; have := HN.out; omega, by rw [takeL l0 i HN.out, firstE_append _ _ HI.out.2.2.2, ← HXe.out]; simp [firstE, H0.out]⟩, by repeat (first | exact Drawn0.refl _ | apply Drawn0.step)⟩
          · have HF : Aside0 (R = e0) := ⟨by
              have h1 := firstE_at l0 i HN.out HI.out.2.2.2 (by rw [← HXe.out, H0.out]; exact hz)
              rw [← HXe.out, H0.out] at h1
              rw [HE.out, h1, if_neg hz]⟩
            have z1 : (e0 != 0) = true := by simpa using hz
            have z2 : (e0 == 0) = false := by simpa using hz
            clear hz
            go_wp2_with fail
            refine K.out.mono ?_
            rintro e w' ⟨rfl, ⟨n, rfl⟩⟩
            clear g0
            go_wp2_with fail
            go_ret
            exact ⟨by rw [HF.out]; rfl, by repeat (first | exact HB.out | apply pw_below_drewN)⟩
        · have hlt : decide (j < (l0.length : Int)) = false := decide_eq_false (by have := HI.out; omega)
          have h0 : firstE l0 = 0 := by
            have h := HI.out.2.2.2
            rwa [List.take_of_length_le (by omega)] at h
          have K := Aside0.mk (contains71_any A0 c0 w.heap.size l0 (W.drewN m) (Kd.C_drewN HC.out m) HX.out)
          have HF : Aside0 (R = if l0.any (oddB l0) = true then 2 else 0) := ⟨by rw [HE.out, if_pos h0]⟩
          have X : W.cell? ⟨w.heap.size, 0, none⟩ = some (.slice A0 l0.length c0) := HX.out
          clear hin h0 HE
          obtain ⟨b, hb⟩ : ∃ b, l0.any (oddB l0) = b := ⟨_, rfl⟩
          rw [hb] at K HF
          clear hb
          cases b with
          | true =>
            have HG : Aside0 (R = 2) := ⟨by simpa using HF.out⟩
            clear HF
            go_wp2_with fail
            refine K.out.mono ?_
            rintro e w' ⟨rfl, ⟨n, rfl⟩⟩
            go_wp2_with fail
            go_ret
            exact ⟨by rw [HG.out]; rfl, by repeat (first | exact HB.out | apply pw_below_drewN)⟩
          | false =>
            have HG : Aside0 (R = 0) := ⟨by simpa using HF.out⟩
            clear HF
            go_wp2_with fail
            refine K.out.mono ?_
            rintro e w' ⟨rfl, ⟨n, rfl⟩⟩
            go_wp2_with fail
            go_ret
            exact ⟨by rw [HG.out]; rfl, by repeat (first | exact HB.out | apply pw_below_drewN)⟩
end Go.Proofs.Ytbdkgdbfnkogaaa.R
end

section
namespace Go.Proofs.Ytbdkgdbfnkogaaa.R
open Go.RowKit Go.Proofs.YtbdkgdbfnkogaaaW.PrintWords Go.Proofs.YtbdkgdbfnkogaaaW.PrintLast Go.Proofs.YtbdkgdbfnkogaaaW.PrintMore
attribute [local go_sem] max2_int min2_int max_two min_two max_three min_three max_four min_four   -- for this text's walks alone
set_option linter.unusedVariables false
set_option linter.unusedSimpArgs false

/-! ### vec_Dist: function 84 -/
def vec_Dist.l0 : Nat → List Int → Int → List Int → Int → Int → Option (Int × Int)
  | 0, _, _, _, _, _ => none
  | k + 1, x1, x7, x17, x18, x19 => if x19 < x18 then (if 0 ≤ x19 then (if x19 < (x17.length : Int) then (if x19 < (x1.length : Int) then (vec_Dist.l0 k x1 (wrap64 (x7 + (wrap64 ((wrap64 ((wrap64 (rd x17 x19)) - (wrap64 (rd x1 x19)))) * (wrap64 ((wrap64 (rd x17 x19)) - (wrap64 (rd x1 x19)))))))) x17 x18 (wrap64 (x19 + 1))) else (none)) else (none)) else (none)) else (some (x7, 0))
def vec_Dist.f (k : Nat) (l0 : List Int) (l1 : List Int) : Option (Int × Int) := (vec_pair.f l0 l1).bind fun t506 => (if t506 = 0 then (vec_Dist.l0 k l1 0 l0 (l0.length : Int) 0) else (some (0, t506)))
theorem vec_Dist.mono_l : ∀ k, (∀ y0 y1 y2 y3 y4, LeO (vec_Dist.l0 k y0 y1 y2 y3 y4) (vec_Dist.l0 (k + 1) y0 y1 y2 y3 y4))
  | 0 => fun _ _ _ _ _ r h => by simp [vec_Dist.l0] at h
  | k + 1 => by
    have ih0 := vec_Dist.mono_l k
    · intro y0 y1 y2 y3 y4
      unfold vec_Dist.l0
      repeat' first
      | (with_reducible exact ih0 _ _ _ _ _)
      | (with_reducible exact LeO.refl _)
      | (with_reducible exact LeO.none _)
      | (with_reducible refine LeO.ite ?_ ?_)
      | (with_reducible refine LeO.bind ?_ (fun _ => ?_))
      | exact ih0 _ _ _ _ _
      | exact LeO.none _
      | refine LeO.ite ?_ ?_
      | refine LeO.bind ?_ (fun _ => ?_)
theorem vec_Dist.mono : ∀ a0 a1 k, LeO (vec_Dist.f k a0 a1) (vec_Dist.f (k + 1) a0 a1) := by
  intro a0 a1 k
  have ih0 := vec_Dist.mono_l k
  unfold vec_Dist.f
  repeat' first
      | (with_reducible exact ih0 _ _ _ _ _)
      | (with_reducible exact LeO.refl _)
      | (with_reducible exact LeO.none _)
      | (with_reducible refine LeO.ite ?_ ?_)
      | (with_reducible refine LeO.bind ?_ (fun _ => ?_))
      | exact ih0 _ _ _ _ _
      | exact LeO.none _
      | refine LeO.ite ?_ ?_
      | refine LeO.bind ?_ (fun _ => ?_)
set_option maxHeartbeats 8000000 in
set_option maxRecDepth 100000 in
theorem vec_Dist.calls (k : Nat) (A0 : Option Addr) (c0 : Nat) (l0 : List Int) (A1 : Option Addr) (c1 : Nat) (l1 : List Int) (r1 : Int) (r2 : Int) (w : World) (hr0 : Kd.C (Kd.int .i32) w A0 l0.length l0) (hc0 : l0.length ≤ c0) (hr1 : Kd.C (Kd.int .i32) w A1 l1.length l1) (hc1 : l1.length ≤ c1) (h : vec_Dist.f k l0 l1 = some (r1, r2)) :
    Calls Try.prog 84 #[.slice A0 l0.length c0, .slice A1 l1.length c1] w fun e w' => e = .returned (.tuple #[.int .i64 r1, .int .i64 r2]) ∧ Below w.heap.size w w' := by
  have HR0 := Aside0.mk hr0
  have HC0 := Aside0.mk hc0
  clear hr0 hc0
  have HR1 := Aside0.mk hr1
  have HC1 := Aside0.mk hc1
  clear hr1 hc1
  have HB := Aside0.mk (Below.refl w.heap.size w)
  have H : ((vec_pair.f l0 l1).bind fun t506 => (if t506 = 0 then (vec_Dist.l0 k l1 0 l0 (l0.length : Int) 0) else (some (0, t506)))) = some (r1, r2) := h
  clear h
  replace H := Option.bind_eq_some_iff.mp H
  obtain ⟨t506, A30, H⟩ := H
  replace H : (if t506 = 0 then (vec_Dist.l0 k l1 0 l0 (l0.length : Int) 0) else (some (0, t506))) = some (r1, r2) := H
  have A3 := Aside0.mk A30
  clear A30
  by_cases c4 : t506 = 0
  · rw [if_pos c4] at H
    have c4b0 : (t506 == 0) = true := beq_iff_eq.mpr c4
    have c4b1 : (t506 != 0) = false := bne_eq_false_iff_eq.mpr c4
    clear c4
    have H' := Aside0.mk H
    clear H
    go_enter Try.func84, Try.ntmps84
    go_wp2_with (first | ((with_reducible refine gate_callee (f := 106) rfl ?_); refine goesL_ (some 13) rfl rfl Try.func106 (by kernel_rfl) rfl #[.slice A0 l0.length c0, .slice A1 l1.length c1] rfl (by (try simp only [List.map_toArray, List.map_cons, List.map_nil]); first | done | rfl | (simp only [List.length_drop, List.length_take]; rfl)) ?_; (with_reducible refine (vec_pair.calls _ _ l0 _ _ l1 t506 _ ?side1 ?side2 ?side3 ?side4 A3.out).mono ?_); (case side1 => repeat (first | exact HR0.out | (with_reducible refine Kd.C_alloc ?_ _) | (with_reducible refine Kd.C_drewN ?_ _) | (with_reducible refine Kd.C_drew ?_))); (case side2 => exact HC0.out); (case side3 => repeat (first | exact HR1.out | (with_reducible refine Kd.C_alloc ?_ _) | (with_reducible refine Kd.C_drewN ?_ _) | (with_reducible refine Kd.C_drew ?_))); (case side4 => exact HC1.out); rintro e w5 ⟨rfl, hb⟩; refine ⟨_, rfl, ?_⟩; have n0_ := Aside0.mk (below_step (by repeat (first | (with_reducible first | exact HB.out | apply below_alloc | apply pw_below_drewN | apply below_drew1) | exact HB.out)) hb); clear HB; have HB := n0_; clear n0_; (try clear hb); (try clear hb2); (try clear hk); (try clear hi)))
    go_loopg [7, 19] k (fun kq v7 v19 w' => ∃ (x7_1 : Int) (x19_1 : Int), v7 = .int .i64 x7_1 ∧ v19 = .int .i64 x19_1 ∧ Aside0 (vec_Dist.l0 kq l1 x7_1 l0 (l0.length : Int) x19_1 = some (r1, r2)) ∧ Aside0 (kq ≤ k) ∧ Aside0 (Below w.heap.size w w'))
    case atStart => exact ⟨(0), (0), (by first | rfl | (simp; done) | (simp [*]; done)), (by first | rfl | (simp; done) | (simp [*]; done)), H', ⟨Nat.le_refl _⟩, ⟨by repeat (first | (with_reducible first | exact HB.out | apply below_alloc | apply pw_below_drewN | apply below_drew1) | exact HB.out)⟩⟩
    case round =>
      clear H'
      try clear c1
      try clear p2
      try clear c4
      try clear c4b0
      try clear c4b1
      obtain ⟨x7_1, x19_1, rfl, rfl, HA, HK1, HB⟩ := hrel
      cases gk with
      | zero => exact absurd HA.out (by simp [vec_Dist.l0])
      | succ k1 =>
        have H := HA.out
        clear HA
        simp only [vec_Dist.l0] at H
        by_cases c6 : x19_1 < (l0.length : Int)
        · rw [if_pos c6] at H
          have c6b0 : decide (x19_1 < (l0.length : Int)) = true := decide_eq_true c6
          clear c6
          by_cases c7 : 0 ≤ x19_1
          · rw [if_pos c7] at H
            have c7b0 : decide (0 ≤ x19_1) = true := decide_eq_true c7
            clear c7
            by_cases c8 : x19_1 < (l0.length : Int)
            · rw [if_pos c8] at H
              have c8b0 : decide (x19_1 < (l0.length : Int)) = true := decide_eq_true c8
              clear c8
              by_cases c9 : x19_1 < (l1.length : Int)
              · rw [if_pos c9] at H
                have c9b0 : decide (x19_1 < (l1.length : Int)) = true := decide_eq_true c9
                clear c9
                have H' := Aside0.mk H
                clear H
                have p507 : 0 ≤ (x19_1 : Int) := of_decide_eq_true (by first | (with_reducible assumption) | assumption)
                have q507 : x19_1 < (l0.length : Int) := of_decide_eq_true (by first | (with_reducible assumption) | assumption)
                obtain ⟨ad507, e507, hx507_0⟩ := Kd.at_int HR0.out x19_1 p507 q507
                cases e507
                replace hx507_0 := (HB.out.cell (World.block_lt_of_cell? w _ hx507_0)).trans hx507_0
                replace p507 := eq_true p507
                replace q507 := eq_true q507
                have p508 : 0 ≤ (x19_1 : Int) := of_decide_eq_true (by first | (with_reducible assumption) | assumption)
                have q508 : x19_1 < (l1.length : Int) := of_decide_eq_true (by first | (with_reducible assumption) | assumption)
                obtain ⟨ad508, e508, hx508_0⟩ := Kd.at_int HR1.out x19_1 p508 q508
                cases e508
                replace hx508_0 := (HB.out.cell (World.block_lt_of_cell? w _ hx508_0)).trans hx508_0
                replace p508 := eq_true p508
                replace q508 := eq_true q508
                go_wp2
                go_roundg k1
                case measure => have := HK1.out; omega
                case rel => exact ⟨(wrap64 (x7_1 + (wrap64 ((wrap64 ((wrap64 (rd l0 x19_1)) - (wrap64 (rd l1 x19_1)))) * (wrap64 ((wrap64 (rd l0 x19_1)) - (wrap64 (rd l1 x19_1)))))))), (wrap64 (x19_1 + 1)), (by first | rfl | (simp; done) | (simp [*]; done)), (by first | rfl | (simp; done) | (simp [*]; done)), H', ⟨by have := HK1.out; omega⟩, ⟨by repeat (first | (with_reducible first | exact HB.out | apply below_alloc | apply pw_below_drewN | apply below_drew1) | exact HB.out)⟩⟩
              · rw [if_neg c9] at H
                exact absurd H (by simp)
            · rw [if_neg c8] at H
              exact absurd H (by simp)
          · rw [if_neg c7] at H
            exact absurd H (by simp)
        · rw [if_neg c6] at H
          have c6b0 : decide (x19_1 < (l0.length : Int)) = false := decide_eq_false c6
          clear c6
          simp only [Option.some.injEq, Prod.mk.injEq] at H
          obtain ⟨rfl, rfl⟩ := H
          go_wp2
          go_ret2
          exact ⟨by first | rfl | (simp [errW_none, errW_some] <;> rfl) | (simp [*, errW_none, errW_some] <;> rfl), by repeat (first | (with_reducible first | exact HB.out | apply below_alloc | apply pw_below_drewN | apply below_drew1) | exact HB.out)⟩
  · rw [if_neg c4] at H
    have c4b0 : (t506 == 0) = false := beq_eq_false_iff_ne.mpr c4
    have c4b1 : (t506 != 0) = true := bne_iff_ne.mpr c4
    simp only [Option.some.injEq, Prod.mk.injEq] at H
    obtain ⟨rfl, rfl⟩ := H
    go_enter Try.func84, Try.ntmps84
    go_wp2_with (first | ((with_reducible refine gate_callee (f := 106) rfl ?_); refine goesL_ (some 13) rfl rfl Try.func106 (by kernel_rfl) rfl #[.slice A0 l0.length c0, .slice A1 l1.length c1] rfl (by (try simp only [List.map_toArray, List.map_cons, List.map_nil]); first | done | rfl | (simp only [List.length_drop, List.length_take]; rfl)) ?_; (with_reducible refine (vec_pair.calls _ _ l0 _ _ l1 t506 _ ?side1 ?side2 ?side3 ?side4 A3.out).mono ?_); (case side1 => repeat (first | exact HR0.out | (with_reducible refine Kd.C_alloc ?_ _) | (with_reducible refine Kd.C_drewN ?_ _) | (with_reducible refine Kd.C_drew ?_))); (case side2 => exact HC0.out); (case side3 => repeat (first | exact HR1.out | (with_reducible refine Kd.C_alloc ?_ _) | (with_reducible refine Kd.C_drewN ?_ _) | (with_reducible refine Kd.C_drew ?_))); (case side4 => exact HC1.out); rintro e w10 ⟨rfl, hb⟩; refine ⟨_, rfl, ?_⟩; have n0_ := Aside0.mk (below_step (by repeat (first | (with_reducible first | exact HB.out | apply below_alloc | apply pw_below_drewN | apply below_drew1) | exact HB.out)) hb); clear HB; have HB := n0_; clear n0_; (try clear hb); (try clear hb2); (try clear hk); (try clear hi)))
    go_ret2
    exact ⟨by first | rfl | (simp [errW_none, errW_some] <;> rfl) | (simp [*, errW_none, errW_some] <;> rfl), by repeat (first | (with_reducible first | exact HB.out | apply below_alloc | apply pw_below_drewN | apply below_drew1) | exact HB.out)⟩

end Go.Proofs.Ytbdkgdbfnkogaaa.R
end
