/-
  wayfinderkit.Same at entries tells whether two lists are the same. No condition but their sizes.
-/
import Derived.Test.YtbdkgdbfnkogaaaRf17
import Derived.Test.YtbdkgdbfnkogaaaOrd
namespace Go.Proofs.Ytbdkgdbfnkogaaa.R
open Go.RowKit Go.Proofs.YtbdkgdbfnkogaaaW.PrintWords Go.Proofs.YtbdkgdbfnkogaaaW.PrintLast Go.Proofs.YtbdkgdbfnkogaaaW.PrintMore
set_option linter.unusedVariables false
set_option linter.unusedSimpArgs false

instance : DecidableEq S30 := fun a b => if h : a.f0 = b.f0 ∧ a.f1 = b.f1 then isTrue (S30.ext' h.1 h.2) else isFalse (fun e => h (by rw [e]; exact ⟨rfl, rfl⟩))

theorem same_loop (a b : List S30) (hl : a.length = b.length) (hm : a.length < 9223372036854775807) : ∀ d i, i + d = a.length → ∀ k, d < k → api_Near_17.l0 k a b (i : Int) = some (decide (a.drop i = b.drop i)) := by
  intro d
  induction d with
  | zero =>
    intro i hi k hk
    obtain ⟨k, rfl⟩ : ∃ k', k = k' + 1 := ⟨k - 1, by omega⟩
    unfold api_Near_17.l0
    rw [if_neg (by omega), List.drop_of_length_le (by omega), List.drop_of_length_le (by omega)]
    simp
  | succ d ih =>
    intro i hi k hk
    obtain ⟨k, rfl⟩ : ∃ k', k = k' + 1 := ⟨k - 1, by omega⟩
    unfold api_Near_17.l0
    have ha : i < a.length := by omega
    have hb : i < b.length := by omega
    have e1 : rd_T30 a (i : Int) = a[i] := by unfold rd_T30; rw [Int.toNat_natCast, List.getD_eq_getElem?_getD, List.getElem?_eq_getElem ha]; rfl
    have e2 : rd_T30 b (i : Int) = b[i] := by unfold rd_T30; rw [Int.toNat_natCast, List.getD_eq_getElem?_getD, List.getElem?_eq_getElem hb]; rfl
    have hd : decide (a.drop i = b.drop i) = decide (a[i] = b[i] ∧ a.drop (i + 1) = b.drop (i + 1)) := by
      rw [List.drop_eq_getElem_cons ha, List.drop_eq_getElem_cons hb, decide_eq_decide, List.cons.injEq]
    rw [if_pos (by omega), if_pos (by omega), if_pos (by omega), e1, e2, hd]
    have hw : wrap64 ((i : Int) + 1) = ((i + 1 : Nat) : Int) := by unfold wrap64; omega
    rw [hw, ih (i + 1) (by omega) k (by omega)]
    by_cases h : a[i] = b[i]
    · rw [h]; simp
    · rw [if_pos]
      · simp [h]
      · by_cases h0 : a[i].f0 = b[i].f0
        · have h1 : a[i].f1 ≠ b[i].f1 := fun h1 => h (S30.ext' h0 h1)
          simp [h0, h1]
        · simp [h0]

theorem same_f (a b : List S30) (hm : a.length < 9223372036854775807) : api_Near_17.f (a.length + 1) a b = some (decide (a = b)) := by
  unfold api_Near_17.f
  by_cases hl : a.length = b.length
  · rw [if_pos (by omega)]
    simpa using same_loop a b hl hm a.length 0 (by omega) (a.length + 1) (by omega)
  · rw [if_neg (by omega)]
    have : a ≠ b := fun e => hl (by rw [e])
    simp [this]

theorem same_any (A0 : Option Addr) (c0 : Nat) (l0 : List S30) (A1 : Option Addr) (c1 : Nat) (l1 : List S30) (w : World) (hr0 : Kd.C k30 w A0 l0.length l0) (hc0 : l0.length ≤ c0) (hr1 : Kd.C k30 w A1 l1.length l1) (hc1 : l1.length ≤ c1) (hm : l0.length < 9223372036854775807) :
    Calls Try.prog 17 #[.slice A0 l0.length c0, .slice A1 l1.length c1] w fun e w' => e = .returned (.bool (decide (l0 = l1))) ∧ ∃ n, w' = w.drewN n :=
  (api_Near_17.calls (l0.length + 1) A0 c0 l0 A1 c1 l1 _ w hr0 hc0 hr1 hc1 (same_f l0 l1 hm)).mono fun e w' ⟨he, n, hn⟩ => ⟨he, n, hn⟩
end Go.Proofs.Ytbdkgdbfnkogaaa.R
