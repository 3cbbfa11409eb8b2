import Derived.Test.YtbdkgdbfnkogaaaRk
import Derived.Deep.LoopGhost

section
namespace Go.Proofs.Ytbdkgdbfnkogaaa.R
open Go.RowKit Go.Proofs.YtbdkgdbfnkogaaaW.PrintWords Go.Proofs.YtbdkgdbfnkogaaaW.PrintLast Go.Proofs.YtbdkgdbfnkogaaaW.PrintMore
attribute [local go_sem] max2_int min2_int max_two min_two max_three min_three max_four min_four   -- for this text's walks alone
set_option linter.unusedVariables false
set_option linter.unusedSimpArgs false

/-! ### vec_beyond: function 91 -/
def vec_beyond.f (a0 : Int) : Option (Bool) := if a0 < (-131072) then (some true) else (some (decide (a0 > 131072)))
set_option maxHeartbeats 8000000 in
set_option maxRecDepth 100000 in
theorem vec_beyond.calls (a0 : Int) (r : Bool) (w : World) (h : vec_beyond.f a0 = some r) :
    Calls Try.prog 91 #[.int .i32 a0] w fun e w' => e = .returned (.bool r) ∧ Drawn0 w w' := by
  have H : (if a0 < (-131072) then (some true) else (some (decide (a0 > 131072)))) = some r := h
  clear h
  by_cases c2 : a0 < (-131072)
  · rw [if_pos c2] at H
    have c2b0 : decide (a0 < (-131072)) = true := decide_eq_true c2
    clear c2
    obtain rfl := Option.some.inj H
    go_enter Try.func91, Try.ntmps91
    go_wp2
    go_ret
    exact ⟨by first | rfl | (simp; done) | (simp [*]; done), by repeat (first | exact Drawn0.refl _ | apply Drawn0.step)⟩
  · rw [if_neg c2] at H
    have c2b0 : decide (a0 < (-131072)) = false := decide_eq_false c2
    clear c2
    obtain rfl := Option.some.inj H
    go_enter Try.func91, Try.ntmps91
    go_wp2
    go_ret
    exact ⟨by first | rfl | (simp; done) | (simp [*]; done), by repeat (first | exact Drawn0.refl _ | apply Drawn0.step)⟩

end Go.Proofs.Ytbdkgdbfnkogaaa.R
end

section
/-
  vec.CheckWide and what it calls, and vec.pair, by their contracts. No conditions but that the rows read as told.
-/
namespace Go.Proofs.Ytbdkgdbfnkogaaa.R
open Go.RowKit Go.Proofs.YtbdkgdbfnkogaaaW.PrintWords Go.Proofs.YtbdkgdbfnkogaaaW.PrintLast Go.Proofs.YtbdkgdbfnkogaaaW.PrintMore
set_option linter.unusedVariables false
set_option linter.unusedSimpArgs false

/-- Is a number too great? -/
def wideB (x : Int) : Bool := decide (x < -131072) || decide (131072 < x)
/-- The error of a wide vector. -/
def chkW (l : List Int) : Int := if l.length < 1 ∨ 1024 < l.length then 2 else if l.any wideB = true then 11 else 0

theorem beyond_any (x : Int) (w : World) : Calls Try.prog 91 #[.int .i32 x] w fun e w' => e = .returned (.bool (wideB x)) ∧ Drawn0 w w' := by
  refine vec_beyond.calls x (wideB x) w ?_
  unfold vec_beyond.f wideB
  by_cases h : x < -131072
  · simp [h]
  · simp [h]

theorem any_snoc (l : List Int) (i : Nat) (h : i < l.length) (p : Int → Bool) : (l.take (i + 1)).any p = ((l.take i).any p || p (rd l (i : Int))) := by
  have e : l.take (i + 1) = l.take i ++ [l[i]] := by rw [List.take_add_one, List.getElem?_eq_getElem h]; rfl
  have e2 : rd l (i : Int) = l[i] := by unfold rd; simp [h]
  rw [e, List.any_append, e2]; simp
theorem anyAt (l : List Int) (i : Nat) (h : i < l.length) (p : Int → Bool) (hp : p (rd l (i : Int)) = true) : l.any p = true := by
  have e2 : rd l (i : Int) = l[i] := by unfold rd; simp [h]
  rw [List.any_eq_true]
  exact ⟨_, List.getElem_mem h, by rw [← e2]; exact hp⟩

set_option maxHeartbeats 2000000 in
set_option maxRecDepth 100000 in
theorem index107_any (A : Option Addr) (c : Nat) (l : List Int) (w : World) (hC : Kd.C (Kd.int .i32) w A l.length l) :
    Calls Try.prog 107 #[.slice A l.length c, .func (.func 91) #[] #[]] w fun e w' => ∃ r : Int, e = .returned (.int .i64 r) ∧ Aside0 (decide (0 ≤ r) = l.any wideB) ∧ Drawn0 w w' := by
  have hm := Kd.C_max hC
  have HC := Aside0.mk hC
  have HM := Aside0.mk hm
  clear hC hm
  go_enter Try.func107, Try.ntmps107
  go_wp2_with fail
  go_loopg [8] l.length (fun gx s8 wr => ∃ (j : Int) (i : Nat), s8 = .int .i64 j ∧ Aside0 (j = i ∧ i ≤ l.length ∧ l.length - i ≤ gx ∧ (l.take i).any wideB = false) ∧ Drawn0 w wr)
  case atStart => exact ⟨0, 0, rfl, ⟨by omega, by omega, by omega, by simp⟩, Drawn0.refl _⟩
  case round =>
    obtain ⟨j, i, rfl, HI, ⟨m, rfl⟩⟩ := hrel
    by_cases hin : i < l.length
    · have hlt : decide (j < (l.length : Int)) = true := decide_eq_true (by have := HI.out; omega)
      have p1 : 0 ≤ j := by have := HI.out; omega
      have q1 : j < (l.length : Int) := by have := HI.out; omega
      obtain ⟨ad, eA, g0⟩ := Kd.at_int HC.out j p1 q1
      cases eA
      obtain ⟨x, hx⟩ : ∃ x, x = rd l j := ⟨_, rfl⟩
      rw [← hx] at g0
      have HX := Aside0.mk hx
      have HN := Aside0.mk hin
      have P1 := Aside0.mk p1
      have B := fun w => beyond_any x w
      replace p1 := eq_true p1
      replace q1 := eq_true q1
      obtain ⟨b, hb⟩ : ∃ b, wideB x = b := ⟨_, rfl⟩
      have HBb := Aside0.mk hb
      simp only [hb] at B
      have B := Aside0.mk B
      clear hx hin hb
      rename_i B0
      clear B0
      cases b with
      | true =>
        go_wp2_with fail
        refine (B.out _).mono ?_
        rintro e w' ⟨rfl, ⟨n, rfl⟩⟩
        go_wp2_with fail
        go_ret
        refine ⟨j, rfl, ⟨?_⟩, by repeat (first | exact Drawn0.refl _ | apply Drawn0.step)⟩
        rw [decide_eq_true P1.out, anyAt l i HN.out wideB (by rw [← HI.out.1, ← HX.out]; exact HBb.out)]
      | false =>
        go_wp2_with fail
        refine (B.out _).mono ?_
        rintro e w' ⟨rfl, ⟨n, rfl⟩⟩
        go_wp2_with fail
        go_roundg (gk - 1)
        case measure => have := HI.out; have := HN.out; omega
        case rel => exact ⟨wrap64 (j + 1), i + 1, by first | rfl | (simp; done), ⟨by have := HI.out; have := HN.out; have := HM.out; unfold wrap64; omega, by have := HN.out; omega, by have := HI.out; have := HN.out; omega, by rw [any_snoc l i HN.out, HI.out.2.2.2, ← HI.out.1, ← HX.out, HBb.out]; rfl⟩, by repeat (first | exact Drawn0.refl _ | apply Drawn0.step)⟩
    · have hlt : decide (j < (l.length : Int)) = false := decide_eq_false (by have := HI.out; omega)
      have HN := Aside0.mk hin
      clear hin
      go_wp2_with fail
      go_ret
      refine ⟨-1, rfl, ⟨?_⟩, by repeat (first | exact Drawn0.refl _ | apply Drawn0.step)⟩
      have h := HI.out.2.2.2
      rw [List.take_of_length_le (by have := HN.out; omega)] at h
      rw [h]; rfl

set_option maxHeartbeats 1000000 in
theorem contains90_any (A : Option Addr) (c : Nat) (l : List Int) (w : World) (hC : Kd.C (Kd.int .i32) w A l.length l) :
    Calls Try.prog 90 #[.slice A l.length c, .func (.func 91) #[] #[]] w fun e w' => e = .returned (.bool (l.any wideB)) ∧ Drawn0 w w' := by
  have I := Aside0.mk (index107_any A c l w hC)
  clear hC
  go_enter Try.func90, Try.ntmps90
  go_wp2_with fail
  refine I.out.mono ?_
  rintro e w' ⟨r, rfl, H, ⟨n, rfl⟩⟩
  go_wp2_with fail
  go_ret
  exact ⟨by rw [← H.out]; rfl, by repeat (first | exact Drawn0.refl _ | apply Drawn0.step)⟩

def vec_CheckWide.f (l0 : List Int) : Option Int := some (chkW l0)
set_option maxHeartbeats 1000000 in
theorem vec_CheckWide.calls (A0 : Option Addr) (c0 : Nat) (l0 : List Int) (r : Int) (w : World) (hr0 : Kd.C (Kd.int .i32) w A0 l0.length l0) (hc0 : l0.length ≤ c0) (h : vec_CheckWide.f l0 = some r) :
    Calls Try.prog 70 #[.slice A0 l0.length c0] w fun e w' => e = .returned (.int .i64 r) ∧ Drawn0 w w' := by
  obtain rfl := Option.some.inj h
  have K := Aside0.mk (contains90_any A0 c0 l0 w hr0)
  clear hr0 hc0 h
  unfold chkW
  by_cases h1 : l0.length < 1
  · have d1 : decide ((l0.length : Int) < 1) = true := decide_eq_true (by omega)
    have d2 : decide (l0.length < 1) = true := decide_eq_true h1
    rw [if_pos (.inl h1)]
    clear h1 K
    go_enter Try.func70, Try.ntmps70
    go_wp2_with fail
    go_ret
    exact ⟨rfl, Drawn0.refl _⟩
  · have d1 : decide ((l0.length : Int) < 1) = false := decide_eq_false (by omega)
    have d2 : decide (l0.length < 1) = false := decide_eq_false h1
    by_cases h2 : 1024 < l0.length
    · have d3 : decide ((1024 : Int) < (l0.length : Int)) = true := decide_eq_true (by omega)
      have d4 : decide (1024 < l0.length) = true := decide_eq_true h2
      rw [if_pos (.inr h2)]
      clear h1 h2 K
      go_enter Try.func70, Try.ntmps70
      go_wp2_with fail
      go_ret
      exact ⟨rfl, Drawn0.refl _⟩
    · have d3 : decide ((1024 : Int) < (l0.length : Int)) = false := decide_eq_false (by omega)
      have d4 : decide (1024 < l0.length) = false := decide_eq_false h2
      rw [if_neg (by omega)]
      clear h1 h2
      obtain ⟨b, hb⟩ : ∃ b, l0.any wideB = b := ⟨_, rfl⟩
      rw [hb] at K ⊢
      clear hb
      cases b with
      | true =>
        go_enter Try.func70, Try.ntmps70
        go_wp2_with fail
        refine K.out.mono ?_
        rintro e w' ⟨rfl, ⟨n, rfl⟩⟩
        go_wp2_with fail
        go_ret
        exact ⟨rfl, by repeat (first | exact Drawn0.refl _ | apply Drawn0.step)⟩
      | false =>
        go_enter Try.func70, Try.ntmps70
        go_wp2_with fail
        refine K.out.mono ?_
        rintro e w' ⟨rfl, ⟨n, rfl⟩⟩
        go_wp2_with fail
        go_ret
        exact ⟨rfl, by repeat (first | exact Drawn0.refl _ | apply Drawn0.step)⟩

/-- The error of two wide vectors. -/
def pairE (a b : List Int) : Int := if chkW a = 0 then (if chkW b = 0 then (if a.length = b.length then 0 else 2) else chkW b) else chkW a
def vec_pair.f (l0 l1 : List Int) : Option Int := some (pairE l0 l1)

theorem checkw_later {W w' : World} {A : Option Addr} {c : Nat} {l : List Int} (hC : Kd.C (Kd.int .i32) W A l.length l) (hc : l.length ≤ c) (hB : Below W.heap.size W w') :
    Calls Try.prog 70 #[.slice A l.length c] w' fun e w'' => e = .returned (.int .i64 (chkW l)) ∧ Below w'.heap.size w' w'' ∧ Below W.heap.size W w'' :=
  (vec_CheckWide.calls A c l _ w' (Kd.C_below hC hB) hc rfl).mono fun e w'' ⟨he, hd⟩ => ⟨he, hd.below, hB.trans (hd.below.mono hB.size)⟩

set_option maxHeartbeats 2000000 in
set_option maxRecDepth 100000 in
theorem vec_pair.calls (A0 : Option Addr) (c0 : Nat) (l0 : List Int) (A1 : Option Addr) (c1 : Nat) (l1 : List Int) (r : Int) (w : World) (hr0 : Kd.C (Kd.int .i32) w A0 l0.length l0) (hc0 : l0.length ≤ c0) (hr1 : Kd.C (Kd.int .i32) w A1 l1.length l1) (hc1 : l1.length ≤ c1) (h : vec_pair.f l0 l1 = some r) :
    Calls Try.prog 106 #[.slice A0 l0.length c0, .slice A1 l1.length c1] w fun e w' => e = .returned (.int .i64 r) ∧ Below w.heap.size w w' := by
  obtain rfl := Option.some.inj h
  have X : Aside0 ((w.alloc (.cells #[.slice A0 l0.length c0, .slice A1 l1.length c1] 52)).heap[w.heap.size]? = some (.cells #[.slice A0 l0.length c0, .slice A1 l1.length c1] 52 (0, 0))) := ⟨heap_alloc_new w _⟩
  have HB := Aside0.mk (below_alloc (Below.refl _ w) (.cells #[.slice A0 l0.length c0, .slice A1 l1.length c1] 52))
  have K0 := Aside0.mk (fun w' => checkw_later (w' := w') hr0 hc0)
  have K1 := Aside0.mk (fun w' => checkw_later (w' := w') hr1 hc1)
  clear hr0 hr1 hc0 hc1 h
  obtain ⟨e0, h0⟩ : ∃ e, chkW l0 = e := ⟨_, rfl⟩
  obtain ⟨e1, h1⟩ : ∃ e, chkW l1 = e := ⟨_, rfl⟩
  obtain ⟨R, hR⟩ : ∃ R, R = pairE l0 l1 := ⟨_, rfl⟩
  rw [← hR]
  unfold pairE at hR
  rw [h0, h1] at hR
  have HR := Aside0.mk hR
  clear hR
  rw [h0] at K0
  rw [h1] at K1
  clear h0 h1
  go_enter Try.func106, Try.ntmps106
  go_wp2_with fail
  generalize w.alloc (.cells #[.slice A0 l0.length c0, .slice A1 l1.length c1] 52) = W at X HB ⊢
  go_loopg [12] 2 (fun gx s12 wr => ∃ (i : Nat), s12 = .int .i64 i ∧ Aside0 (i ≤ 2 ∧ 2 - i ≤ gx ∧ (1 ≤ i → e0 = 0) ∧ (2 ≤ i → e1 = 0)) ∧ Aside0 (wr.heap[w.heap.size]? = some (.cells #[.slice A0 l0.length c0, .slice A1 l1.length c1] 52 (0, 0))) ∧ Aside0 (Below w.heap.size w wr))
  case atStart => exact ⟨0, rfl, ⟨by omega, by omega, by omega, by omega⟩, X, HB⟩
  case round =>
    obtain ⟨i, rfl, HI, X1, HB1⟩ := hrel
    clear X HB
    have b0 : wr.cell? ⟨w.heap.size, 0, none⟩ = some (.slice A0 l0.length c0) := blk_cell X1.out 0
    have b1 : wr.cell? ⟨w.heap.size, 1, none⟩ = some (.slice A1 l1.length c1) := blk_cell X1.out 1
    by_cases i0 : i = 0
    · subst i0
      by_cases hz : e0 = 0
      · subst hz
        go_wp2_with fail
        refine (K0.out _ HB1.out).mono ?_
        rintro e w1 ⟨rfl, hb, hB⟩
        have X2 := Aside0.mk ((hb.block _ (Array.getElem?_eq_some_iff.1 X1.out).1).trans X1.out)
        have HB2 := Aside0.mk hB
        clear hb hB b0 b1
        go_wp2_with fail
        go_roundg (gk - 1)
        case measure => have := HI.out; omega
        case rel => exact ⟨1, by first | rfl | (simp; done), ⟨by omega, by have := HI.out; omega, fun _ => by first | rfl | trivial, by omega⟩, X2, HB2⟩
      · have HE : Aside0 (R = e0) := ⟨by have h1 := HR.out; simpa [hz] using h1⟩
        have z1 : (e0 != 0) = true := by simpa using hz
        have z2 : (e0 == 0) = false := by simpa using hz
        clear hz
        go_wp2_with fail
        refine (K0.out _ HB1.out).mono ?_
        rintro e w1 ⟨rfl, hb, hB⟩
        go_wp2_with fail
        go_ret
        exact ⟨by rw [HE.out]; rfl, hB⟩
    · by_cases i1 : i = 1
      · subst i1
        obtain rfl : e0 = 0 := HI.out.2.2.1 (by omega)
        by_cases hz : e1 = 0
        · subst hz
          clear i0
          go_wp2_with fail
          refine (K1.out _ HB1.out).mono ?_
          rintro e w1 ⟨rfl, hb, hB⟩
          have X2 := Aside0.mk ((hb.block _ (Array.getElem?_eq_some_iff.1 X1.out).1).trans X1.out)
          have HB2 := Aside0.mk hB
          clear hb hB b0 b1
          go_wp2_with fail
          go_roundg (gk - 1)
          case measure => have := HI.out; omega
          case rel => exact ⟨2, by first | rfl | (simp; done), ⟨by omega, by have := HI.out; omega, fun _ => by first | rfl | trivial, fun _ => by first | rfl | trivial⟩, X2, HB2⟩
        · have HE : Aside0 (R = e1) := ⟨by have h1 := HR.out; simpa [hz] using h1⟩
          have z1 : (e1 != 0) = true := by simpa using hz
          have z2 : (e1 == 0) = false := by simpa using hz
          clear hz i0
          go_wp2_with fail
          refine (K1.out _ HB1.out).mono ?_
          rintro e w1 ⟨rfl, hb, hB⟩
          go_wp2_with fail
          go_ret
          exact ⟨by rw [HE.out]; rfl, hB⟩
      · obtain rfl : i = 2 := by have := HI.out; omega
        obtain rfl : e0 = 0 := HI.out.2.2.1 (by omega)
        obtain rfl : e1 = 0 := HI.out.2.2.2 (by omega)
        clear i0 i1 b0 b1
        by_cases hl : l0.length = l1.length
        · have HE : Aside0 (R = 0) := ⟨by have h1 := HR.out; simpa [hl] using h1⟩
          have z1 : ((l0.length : Int) != (l1.length : Int)) = false := by simp; omega
          have z2 : ((l0.length : Int) == (l1.length : Int)) = true := by simp; omega
          clear hl
          go_wp2_with fail
          go_ret
          exact ⟨by rw [HE.out]; rfl, HB1.out⟩
        · have HE : Aside0 (R = 2) := ⟨by have h1 := HR.out; simpa [hl] using h1⟩
          have z1 : ((l0.length : Int) != (l1.length : Int)) = true := by simp; omega
          have z2 : ((l0.length : Int) == (l1.length : Int)) = false := by simp; omega
          clear hl
          go_wp2_with fail
          go_ret
          exact ⟨by rw [HE.out]; rfl, HB1.out⟩
end Go.Proofs.Ytbdkgdbfnkogaaa.R
end
