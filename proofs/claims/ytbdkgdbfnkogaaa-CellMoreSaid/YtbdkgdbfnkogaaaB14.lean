import Derived.Test.YtbdkgdbfnkogaaaB13
import Derived.Test.YtbdkgdbfnkogaaaB9
import Derived.Test.YtbdkgdbfnkogaaaRk

section
/-
  RankKeeps' plain law: what is kept never gets farther, is in order, is taken from what there is, and what is left out is no nearer. No program in sight.
-/
namespace Go.Proofs.Ytbdkgdbfnkogaaa.R
open Go.RowKit Go.Proofs.Ytbdkgdbfnkogaaa.Plain
set_option linter.unusedVariables false
set_option linter.unusedSimpArgs false

theorem at_eq (l : List S30) (i : Nat) (h : i < l.length) : at_ z30 l i = l[i] := by
  unfold at_; simp [h]
theorem rd_at (l : List S30) (i : Nat) : rd_T30 l (i : Int) = at_ z30 l i := by
  unfold rd_T30 at_; simp

theorem ins_le (x : S30) (l : List S30) (hs : Srt nlt l) : ∀ j, j < l.length → nlt (at_ z30 l j) (at_ z30 (ins nlt x l) j) = false := by
  induction l with
  | nil => intro j hj; simp at hj
  | cons y l ih =>
    intro j hj
    have hs' := List.pairwise_cons.1 hs
    unfold ins
    split
    · rename_i hxy
      cases j with
      | zero => simpa [at_] using nlt_sto.asymm hxy
      | succ j =>
        have h1 : at_ z30 (x :: y :: l) (j + 1) = at_ z30 (y :: l) j := by simp [at_]
        rw [h1, at_eq _ _ hj, at_eq _ _ (by simp at hj ⊢; omega)]
        exact List.pairwise_iff_getElem.1 hs j (j + 1) (by simp at hj ⊢; omega) hj (by omega)
    · cases j with
      | zero => simpa [at_] using nlt_sto.irrefl y
      | succ j =>
        have h1 : at_ z30 (y :: l) (j + 1) = at_ z30 l j := by simp [at_]
        have h2 : at_ z30 (y :: ins nlt x l) (j + 1) = at_ z30 (ins nlt x l) j := by simp [at_]
        rw [h1, h2]
        exact ih hs'.2 j (by simpa using hj)

theorem kept_length' (k : Nat) (l : List S30) : (kept nlt k l).length = min k l.length := kept_length k l

/-- The worst one never becomes farther. -/
theorem worst_le (k : Nat) (a : List S30) (x : S30) (hf : (kept nlt k a).length = k) (hk : k ≠ 0) :
    (kept nlt k (a ++ [x])).length = k ∧ nlt (at_ z30 (kept nlt k a) (k - 1)) (at_ z30 (kept nlt k (a ++ [x])) (k - 1)) = false := by
  rw [kept_snoc]
  have h1 := ins_le x _ (kept_srt nlt_sto k a) (k - 1) (by omega)
  have h2 : at_ z30 ((ins nlt x (kept nlt k a)).take k) (k - 1) = at_ z30 (ins nlt x (kept nlt k a)) (k - 1) := by
    unfold at_
    rw [List.getD_eq_getElem?_getD, List.getD_eq_getElem?_getD, List.getElem?_take_of_lt (by omega)]
  rw [h2]
  exact ⟨by rw [List.length_take, ins_length, hf]; omega, h1⟩

theorem worst_step (k : Nat) (a : List S30) (x : S30) : (worstOf k (kept nlt k a)).2 = true → (worstOf k (kept nlt k (a ++ [x]))).2 = true ∧ nlt (worstOf k (kept nlt k a)).1 (worstOf k (kept nlt k (a ++ [x]))).1 = false := by
  intro h
  unfold worstOf at h
  split at h
  · rename_i hc
    obtain ⟨h1, h2⟩ := worst_le k a x hc.1 hc.2
    unfold worstOf
    rw [if_pos hc, if_pos ⟨h1, hc.2⟩, h1, hc.1]
    exact ⟨rfl, h2⟩
  · simp at h

theorem kept_rev (k : Nat) (l : List S30) : kept nlt k (l.reverse.take l.length) = kept nlt k l := by
  rw [List.take_of_length_le (by simp)]
  exact kept_perm nlt_sto k (List.reverse_perm l)

theorem at_rev (l : List S30) (i : Nat) (h : i < l.length) : at_ z30 l (l.length - 1 - i) = at_ z30 l.reverse i := by
  rw [at_eq _ _ (by omega), at_eq _ _ (by simpa using h), List.getElem_reverse]
theorem kept_more (k : Nat) (l : List S30) (i : Nat) (h : i < l.length) (x : S30) (hx : x = at_ z30 l i) : addL k (kept nlt k (l.take i)) x = kept nlt k (l.take (i + 1)) := by
  rw [List.take_add_one, List.getElem?_eq_getElem h, hx, at_eq l i h]
  exact (kept_snoc k _ _).symm

def cnt (l : List S30) (e : S30) : Int := (l.countP (fun y => decide (y = e)) : Nat)
theorem cnt_nil (e : S30) : cnt [] e = 0 := rfl
theorem cnt_append (a b : List S30) (e : S30) : cnt (a ++ b) e = cnt a e + cnt b e := by unfold cnt; rw [List.countP_append]; omega
theorem cnt_one (x e : S30) : cnt [x] e = if e = x then 1 else 0 := by
  unfold cnt
  by_cases h : x = e
  · simp [h]
  · have : ¬ e = x := fun e1 => h e1.symm
    simp [h, this]
theorem cnt_nonneg (l : List S30) (e : S30) : 0 ≤ cnt l e := by unfold cnt; omega
theorem cnt_perm {a b : List S30} (h : a.Perm b) (e : S30) : cnt a e = cnt b e := by unfold cnt; rw [h.countP_eq]
theorem cnt_le (l : List S30) (e : S30) : cnt l e ≤ l.length := by unfold cnt; have := List.countP_le_length (p := fun y => decide (y = e)) (l := l); omega
theorem cnt_mem {l : List S30} {e : S30} (h : 0 < cnt l e) : e ∈ l := by
  unfold cnt at h
  have : 0 < l.countP (fun y => decide (y = e)) := by omega
  obtain ⟨y, hy, e1⟩ := List.countP_pos_iff.1 this
  have := of_decide_eq_true e1
  subst this
  exact hy
theorem take_snoc (l : List S30) (i : Nat) (h : i < l.length) : l.take (i + 1) = l.take i ++ [l[i]] := by rw [List.take_add_one, List.getElem?_eq_getElem h]; rfl
theorem cnt_take (l : List S30) (i : Nat) (h : i < l.length) (e : S30) : cnt (l.take (i + 1)) e = cnt (l.take i) e + if e = l[i] then 1 else 0 := by
  rw [take_snoc l i h, cnt_append, cnt_one]
theorem at_mem (l : List S30) (i : Nat) (h : i < l.length) : at_ z30 l i ∈ l := by rw [at_eq l i h]; exact List.getElem_mem h
/-- One more counted. -/
theorem cnt_up (l : List S30) (i : Nat) (h : i < l.length) (x : S30) (hx : x = at_ z30 l i) (c : Int) (hc : c = cnt (l.take i) x + 1) : upd (cnt (l.take i)) x c = cnt (l.take (i + 1)) := by
  funext e
  rw [cnt_take l i h, ← at_eq l i h, ← hx]
  unfold upd
  by_cases h1 : e = x
  · rw [if_pos h1, if_pos h1, h1, hc]
  · rw [if_neg h1, if_neg h1]; omega
/-- One less left. -/
theorem cnt_down (g : S30 → Int) (l : List S30) (i : Nat) (h : i < l.length) (x : S30) (hx : x = at_ z30 l i) (c : Int) (hc : c = g x - cnt (l.take i) x - 1) : upd (fun e => g e - cnt (l.take i) e) x c = fun e => g e - cnt (l.take (i + 1)) e := by
  funext e
  rw [cnt_take l i h, ← at_eq l i h, ← hx]
  unfold upd
  by_cases h1 : e = x
  · rw [if_pos h1, if_pos h1, h1, hc]; omega
  · rw [if_neg h1, if_neg h1]; show g e - cnt (l.take i) e = _; omega
theorem cnt_split (k : Nat) (l : List S30) (e : S30) : cnt l e = cnt (kept nlt k l) e + cnt ((isort nlt l).drop k) e := by
  rw [← cnt_perm (isort_perm (lt := nlt) l), ← cnt_append]
  unfold kept
  rw [List.take_append_drop]
theorem kept_cnt (k : Nat) (l : List S30) (i : Nat) (e : S30) : cnt ((kept nlt k l).take i) e ≤ cnt l e := by
  have h1 := cnt_split k l e
  have h2 : cnt (kept nlt k l) e = cnt ((kept nlt k l).take i) e + cnt ((kept nlt k l).drop i) e := by rw [← cnt_append, List.take_append_drop]
  have := cnt_nonneg ((kept nlt k l).drop i) e
  have := cnt_nonneg ((isort nlt l).drop k) e
  omega
theorem kept_order (k : Nat) (l : List S30) (i : Nat) (h : i + 1 < (kept nlt k l).length) : nlt (at_ z30 (kept nlt k l) (i + 1)) (at_ z30 (kept nlt k l) i) = false := by
  rw [at_eq _ _ h, at_eq _ _ (by omega)]
  exact List.pairwise_iff_getElem.1 (kept_srt nlt_sto k l) i (i + 1) (by omega) h (by omega)
/-- What is left out is no nearer than the last one kept. -/
theorem left_far (k : Nat) (l : List S30) (e : S30) (hn : 0 < (kept nlt k l).length) (h : 0 < cnt l e - cnt (kept nlt k l) e) : nlt e (at_ z30 (kept nlt k l) ((kept nlt k l).length - 1)) = false := by
  have h1 := cnt_split k l e
  have he : e ∈ (isort nlt l).drop k := cnt_mem (by omega)
  rw [at_eq _ _ (by omega)]
  have hs := isort_srt nlt_sto l
  rw [← List.take_append_drop k (isort nlt l)] at hs
  exact (List.pairwise_append.1 hs).2.2 _ (List.getElem_mem _) e he
end Go.Proofs.Ytbdkgdbfnkogaaa.R
end

section
namespace Go.Proofs.Ytbdkgdbfnkogaaa.R
open Go.RowKit Go.Proofs.YtbdkgdbfnkogaaaW.PrintWords Go.Proofs.YtbdkgdbfnkogaaaW.PrintLast Go.Proofs.YtbdkgdbfnkogaaaW.PrintMore
attribute [local go_sem] max2_int min2_int max_two min_two max_three min_three max_four min_four   -- for this text's walks alone
set_option linter.unusedVariables false
set_option linter.unusedSimpArgs false

/-! ### wayfinderkit_Light_int32: function 28 -/
def wayfinderkit_Light_int32.l0 : Nat → List (List Int) → Int → Int → Option (Bool)
  | 0, _, _, _ => none
  | k + 1, x0, x2, x7 => if x7 < (x0.length : Int) then (if 0 ≤ x7 then (if ((rd_L3 x0 x7).length : Int) > x2 then (some false) else (wayfinderkit_Light_int32.l0 k x0 x2 (wrap64 (x7 + 1)))) else (none)) else (some true)
def wayfinderkit_Light_int32.f (k : Nat) (l0 : List (List Int)) (a1 : Int) (a2 : Int) : Option (Bool) := if (l0.length : Int) > a1 then (some false) else (wayfinderkit_Light_int32.l0 k l0 a2 0)
theorem wayfinderkit_Light_int32.mono_l : ∀ k, (∀ y0 y1 y2, LeO (wayfinderkit_Light_int32.l0 k y0 y1 y2) (wayfinderkit_Light_int32.l0 (k + 1) y0 y1 y2))
  | 0 => fun _ _ _ r h => by simp [wayfinderkit_Light_int32.l0] at h
  | k + 1 => by
    have ih0 := wayfinderkit_Light_int32.mono_l k
    · intro y0 y1 y2
      unfold wayfinderkit_Light_int32.l0
      repeat' first
      | (with_reducible exact ih0 _ _ _)
      | (with_reducible exact LeO.refl _)
      | (with_reducible exact LeO.none _)
      | (with_reducible refine LeO.ite ?_ ?_)
      | (with_reducible refine LeO.bind ?_ (fun _ => ?_))
      | exact ih0 _ _ _
      | exact LeO.none _
      | refine LeO.ite ?_ ?_
      | refine LeO.bind ?_ (fun _ => ?_)
theorem wayfinderkit_Light_int32.mono : ∀ a0 a1 a2 k, LeO (wayfinderkit_Light_int32.f k a0 a1 a2) (wayfinderkit_Light_int32.f (k + 1) a0 a1 a2) := by
  intro a0 a1 a2 k
  have ih0 := wayfinderkit_Light_int32.mono_l k
  unfold wayfinderkit_Light_int32.f
  repeat' first
      | (with_reducible exact ih0 _ _ _)
      | (with_reducible exact LeO.refl _)
      | (with_reducible exact LeO.none _)
      | (with_reducible refine LeO.ite ?_ ?_)
      | (with_reducible refine LeO.bind ?_ (fun _ => ?_))
      | exact ih0 _ _ _
      | exact LeO.none _
      | refine LeO.ite ?_ ?_
      | refine LeO.bind ?_ (fun _ => ?_)
set_option maxHeartbeats 8000000 in
set_option maxRecDepth 100000 in
theorem wayfinderkit_Light_int32.calls (k : Nat) (A0 : Option Addr) (c0 : Nat) (l0 : List (List Int)) (a1 : Int) (a2 : Int) (r : Bool) (w : World) (hr0 : Kd.C (Kd.slice 21 (Kd.int .i32)) w A0 l0.length l0) (hc0 : l0.length ≤ c0) (h : wayfinderkit_Light_int32.f k l0 a1 a2 = some r) :
    Calls Try.prog 28 #[.slice A0 l0.length c0, .int .i64 a1, .int .i64 a2] w fun e w' => e = .returned (.bool r) ∧ Drawn0 w w' := by
  have HR0 := Aside0.mk hr0
  have HC0 := Aside0.mk hc0
  clear hr0 hc0
  have H : (if (l0.length : Int) > a1 then (some false) else (wayfinderkit_Light_int32.l0 k l0 a2 0)) = some r := h
  clear h
  by_cases c4 : (l0.length : Int) > a1
  · rw [if_pos c4] at H
    have c4b0 : decide (a1 < (l0.length : Int)) = true := decide_eq_true c4
    clear c4
    obtain rfl := Option.some.inj H
    go_enter Try.func28, Try.ntmps28
    go_wp2
    go_ret
    exact ⟨by first | rfl | (simp; done) | (simp [*]; done), by repeat (first | exact Drawn0.refl _ | apply Drawn0.step)⟩
  · rw [if_neg c4] at H
    have c4b0 : decide (a1 < (l0.length : Int)) = false := decide_eq_false c4
    clear c4
    have H' := Aside0.mk H
    clear H
    go_enter Try.func28, Try.ntmps28
    go_wp2
    go_loopg [7] k (fun kq v7 w' => ∃ (x7_1 : Int), v7 = .int .i64 x7_1 ∧ Aside0 (wayfinderkit_Light_int32.l0 kq l0 a2 x7_1 = some r) ∧ Aside0 (kq ≤ k) ∧ Drawn0 w w')
    case atStart => exact ⟨(0), (by first | rfl | (simp; done) | (simp [*]; done)), H', ⟨Nat.le_refl _⟩, by repeat (first | exact Drawn0.refl _ | apply Drawn0.step)⟩
    case round =>
      clear H'
      try clear c2
      try clear p2
      try clear c4
      try clear c4b0
      obtain ⟨x7_1, rfl, HA, HK1, ⟨m1, rfl⟩⟩ := hrel
      cases gk with
      | zero => exact absurd HA.out (by simp [wayfinderkit_Light_int32.l0])
      | succ k1 =>
        have H := HA.out
        clear HA
        simp only [wayfinderkit_Light_int32.l0] at H
        by_cases c5 : x7_1 < (l0.length : Int)
        · rw [if_pos c5] at H
          have c5b0 : decide (x7_1 < (l0.length : Int)) = true := decide_eq_true c5
          clear c5
          by_cases c6 : 0 ≤ x7_1
          · rw [if_pos c6] at H
            have c6b0 : decide (0 ≤ x7_1) = true := decide_eq_true c6
            clear c6
            by_cases c7 : ((rd_L3 l0 x7_1).length : Int) > a2
            · rw [if_pos c7] at H
              have c7b0 : decide (a2 < ((rd_L3 l0 x7_1).length : Int)) = true := decide_eq_true c7
              clear c7
              obtain rfl := Option.some.inj H
              have p256 : 0 ≤ (x7_1 : Int) := of_decide_eq_true (by first | (with_reducible assumption) | assumption)
              have q256 : x7_1 < (l0.length : Int) := of_decide_eq_true (by first | (with_reducible assumption) | assumption)
              obtain ⟨ad256, A256_0, c256_0, e256, hx256_0, hl256_0, hi256_0⟩ := at_L3 HR0.out x7_1 p256 q256
              cases e256
              have HR256_0 := Aside0.mk hi256_0
              have HC256_0 := Aside0.mk hl256_0
              clear hi256_0 hl256_0
              replace p256 := eq_true p256
              replace q256 := eq_true q256
              go_wp2
              go_ret
              exact ⟨by first | rfl | (simp; done) | (simp [*]; done), by repeat (first | exact Drawn0.refl _ | apply Drawn0.step)⟩
            · rw [if_neg c7] at H
              have c7b0 : decide (a2 < ((rd_L3 l0 x7_1).length : Int)) = false := decide_eq_false c7
              clear c7
              have H' := Aside0.mk H
              clear H
              have p256 : 0 ≤ (x7_1 : Int) := of_decide_eq_true (by first | (with_reducible assumption) | assumption)
              have q256 : x7_1 < (l0.length : Int) := of_decide_eq_true (by first | (with_reducible assumption) | assumption)
              obtain ⟨ad256, A256_0, c256_0, e256, hx256_0, hl256_0, hi256_0⟩ := at_L3 HR0.out x7_1 p256 q256
              cases e256
              have HR256_0 := Aside0.mk hi256_0
              have HC256_0 := Aside0.mk hl256_0
              clear hi256_0 hl256_0
              replace p256 := eq_true p256
              replace q256 := eq_true q256
              go_wp2
              go_roundg k1
              case measure => have := HK1.out; omega
              case rel => exact ⟨(wrap64 (x7_1 + 1)), (by first | rfl | (simp; done) | (simp [*]; done)), H', ⟨by have := HK1.out; omega⟩, by repeat (first | exact Drawn0.refl _ | apply Drawn0.step)⟩
          · rw [if_neg c6] at H
            exact absurd H (by simp)
        · rw [if_neg c5] at H
          have c5b0 : decide (x7_1 < (l0.length : Int)) = false := decide_eq_false c5
          clear c5
          obtain rfl := Option.some.inj H
          go_wp2
          go_ret
          exact ⟨by first | rfl | (simp; done) | (simp [*]; done), by repeat (first | exact Drawn0.refl _ | apply Drawn0.step)⟩

end Go.Proofs.Ytbdkgdbfnkogaaa.R
end
