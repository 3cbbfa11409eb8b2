/-
  Many Tops side by side, and lives, by their contracts. Conditions: the Tops lie as told.
-/
import Derived.Test.YtbdkgdbfnkogaaaLst
import Derived.Test.YtbdkgdbfnkogaaaSorted
import Derived.Test.YtbdkgdbfnkogaaaSame
import Derived.Test.YtbdkgdbfnkogaaaRf11
import Derived.Test.YtbdkgdbfnkogaaaRf20
namespace Go.Proofs.Ytbdkgdbfnkogaaa.R
open Go.Shelf Go.RowKit Go.Lib Go.Sort Go.Proofs Go.Proofs.YtbdkgdbfnkogaaaW.PrintWords Go.Proofs.YtbdkgdbfnkogaaaW.PrintLast Go.Proofs.YtbdkgdbfnkogaaaW.PrintMore Go.Proofs.Ytbdkgdbfnkogaaa.Plain
set_option linter.unusedVariables false
set_option linter.unusedSimpArgs false

/-- n Tops side by side, made from block base on; none of their blocks is of O. -/
def Tops (base : Nat) (O : Nat → Prop) (W : World) (n : Nat) (ps : Nat → Nat) (k : Nat) (ls : Nat → List S30) : Prop :=
  ∃ Ss : Nat → Nat → Prop, (∀ i, i < n → TopAt base (Ss i) W (ps i) k (ls i)) ∧ (∀ i j, i < n → j < n → i ≠ j → ∀ b, Ss i b → ¬ Ss j b) ∧ (∀ i, i < n → ∀ b, Ss i b → b < W.heap.size ∧ ¬ O b)

section
variable {base n k : Nat} {O : Nat → Prop} {W : World} {ps : Nat → Nat} {ls : Nat → List S30}
theorem Tops.start (base : Nat) (O : Nat → Prop) (W : World) (ps : Nat → Nat) (k : Nat) (ls : Nat → List S30) : Tops base O W 0 ps k ls :=
  ⟨fun _ _ => False, fun i h => absurd h (Nat.not_lt_zero i), fun i _ h => absurd h (Nat.not_lt_zero i), fun i h => absurd h (Nat.not_lt_zero i)⟩
theorem Tops.one (T : Tops base O W n ps k ls) {i : Nat} (hi : i < n) : ∃ S, TopAt base S W (ps i) k (ls i) := by
  obtain ⟨Ss, h, _⟩ := T
  exact ⟨Ss i, h i hi⟩
theorem Tops.below {W1 : World} (T : Tops base O W n ps k ls) (hb : Below W.heap.size W W1) : Tops base O W1 n ps k ls := by
  obtain ⟨Ss, h, hd, hO⟩ := T
  exact ⟨Ss, fun i hi => (h i hi).below hb, hd, fun i hi b hs => ⟨Nat.lt_of_lt_of_le (hO i hi b hs).1 hb.size, (hO i hi b hs).2⟩⟩
theorem Tops.other {O' : Nat → Prop} (T : Tops base O W n ps k ls) (hO' : ∀ b, b < W.heap.size → O' b → O b) : Tops base O' W n ps k ls := by
  obtain ⟨Ss, h, hd, hO⟩ := T
  exact ⟨Ss, h, hd, fun i hi b hs => ⟨(hO i hi b hs).1, fun hb => (hO i hi b hs).2 (hO' b (hO i hi b hs).1 hb)⟩⟩
theorem Tops.congr {ps' : Nat → Nat} {ls' : Nat → List S30} (T : Tops base O W n ps k ls) (hp : ∀ i, i < n → ps' i = ps i) (hl : ∀ i, i < n → ls' i = ls i) : Tops base O W n ps' k ls' := by
  obtain ⟨Ss, h, hd, hO⟩ := T
  exact ⟨Ss, fun i hi => by rw [hp i hi, hl i hi]; exact h i hi, hd, hO⟩

/-- One more, just made. -/
theorem Tops.more (T : Tops base O W n ps k ls) (hk : k ≤ 16777216) (hb : base ≤ W.heap.size) (hO : ∀ b, O b → b < W.heap.size) (hps : ps n = W.heap.size) (hls : ls n = []) :
    Tops base O (W.alloc (.cells #[.int .i64 k, .slice none 0 0] 83)) (n + 1) ps k ls := by
  obtain ⟨Ss, h, hd, hO0⟩ := T
  have hB := below_alloc (Below.refl _ W) (.cells #[.int .i64 k, .slice none 0 0] 83)
  refine ⟨fun i b => if i < n then Ss i b else b = W.heap.size, ?_, ?_, ?_⟩
  · intro i hi
    by_cases hin : i < n
    · simp only [hin, if_true]
      exact (h i hin).below hB
    · have : i = n := by omega
      subst this
      simp only [hin, if_false, hps, hls]
      exact TopAt.new W k hk base hb
  · intro i j hi hj hij b h1 h2
    by_cases hin : i < n <;> by_cases hjn : j < n <;> simp only [hin, hjn, if_true, if_false] at h1 h2
    · exact hd i j hin hjn hij b h1 h2
    · have := (hO0 i hin b h1).1; omega
    · have := (hO0 j hjn b h2).1; omega
    · omega
  · intro i hi b h1
    by_cases hin : i < n <;> simp only [hin, if_true, if_false] at h1
    · have := hO0 i hin b h1
      exact ⟨by simp; omega, this.2⟩
    · subst h1
      exact ⟨by simp, fun hb => Nat.lt_irrefl _ (hO _ hb)⟩

/-- A box laid beside them. -/
theorem Tops.boxed (T : Tops base O W n ps k ls) (o : Obj) : Tops base (fun b => O b ∨ b = W.heap.size) (W.alloc o) n ps k ls := by
  obtain ⟨Ss, h, hd, hO⟩ := T
  refine ⟨Ss, fun i hi => (h i hi).below (below_alloc (Below.refl _ W) o), hd, fun i hi b hs => ⟨by have := (hO i hi b hs).1; simp; omega, fun hb => ?_⟩⟩
  rcases hb with hb | hb
  · exact (hO i hi b hs).2 hb
  · have := (hO i hi b hs).1; omega
theorem tops_worst (T : Tops base O W n ps k ls) {i : Nat} (hi : i < n) : Calls Try.prog 13 #[.pointer (some ⟨ps i, 0, none⟩)] W fun e w' => e = .returned (.tuple #[.agg #[.int .i64 (worstOf k (ls i)).1.f0, .int .i64 (worstOf k (ls i)).1.f1], .bool (worstOf k (ls i)).2]) ∧ Below W.heap.size W w' ∧ Tops base O w' n ps k ls := by
  obtain ⟨S, h⟩ := T.one hi
  exact (worst_any h).mono fun e w' ⟨he, hB⟩ => ⟨he, hB, T.below hB⟩
theorem tops_list (T : Tops base O W n ps k ls) {i : Nat} (hi : i < n) : Calls Try.prog 16 #[.pointer (some ⟨ps i, 0, none⟩)] W fun e w' => ∃ v, e = .returned v ∧ Kd.R k30 30 w' W.heap.size (fun _ => True) v (ls i) ∧ Below W.heap.size W w' ∧ Tops base O w' n ps k ls := by
  obtain ⟨S, h⟩ := T.one hi
  exact (list_any h).mono fun e w' ⟨v, he, hR, hB⟩ => ⟨v, he, hR, hB, T.below hB⟩
theorem tops_add (T : Tops base O W n ps k ls) {i : Nat} (hi : i < n) (x : S30) (hb : base ≤ W.heap.size) (hO : ∀ b, O b → b < W.heap.size) :
    Calls Try.prog 14 #[.pointer (some ⟨ps i, 0, none⟩), .agg #[.int .i64 x.f0, .int .i64 x.f1]] W fun e w' => e = .returned (.tuple #[.bool (addB k (ls i) x), .int .i64 0]) ∧ Tops base O w' n ps k (fun j => if j = i then addL k (ls i) x else ls j) ∧ Below base W w' ∧ (∀ b, O b → w'.heap[b]? = W.heap[b]?) := by
  obtain ⟨Ss, h, hd, hO0⟩ := T
  refine (add_any x (h i hi) hb).mono ?_
  rintro e w' ⟨he, hT, hB, hK⟩
  refine ⟨he, ⟨fun j b => if j = i then (Ss i b ∨ W.heap.size ≤ b) ∧ base ≤ b ∧ b < w'.heap.size else Ss j b, ?_, ?_, ?_⟩, hB, fun b hbO => hK.2 b (hO b hbO) (fun hs => (hO0 i hi b hs).2 hbO)⟩
  · intro j hj
    by_cases hji : j = i
    · subst hji
      simp only [if_true]
      exact hT.bound
    · simp only [hji, if_false]
      exact (h j hj).kept hK fun b hs hs' => hd j i hj hi hji b hs hs'
  · intro a b ha hb hab c h1 h2
    by_cases ha' : a = i <;> by_cases hb' : b = i <;> simp only [ha', hb', if_true, if_false] at h1 h2
    · omega
    · rcases h1.1 with h1 | h1
      · exact hd b i hb hi hb' c h2 h1
      · have := (hO0 b hb c h2).1; omega
    · rcases h2.1 with h2 | h2
      · exact hd a i ha hi ha' c h1 h2
      · have := (hO0 a ha c h1).1; omega
    · exact hd a b ha hb hab c h1 h2
  · intro j hj c h1
    by_cases hji : j = i <;> simp only [hji, if_true, if_false] at h1
    · refine ⟨h1.2.2, fun hc => ?_⟩
      rcases h1.1 with h1 | h1
      · exact (hO0 i hi c h1).2 hc
      · have := hO c hc; omega
    · exact ⟨Nat.lt_of_lt_of_le (hO0 j hj c h1).1 hB.size, (hO0 j hj c h1).2⟩
end

theorem add_at {base k p : Nat} {S : Nat → Prop} {w : World} {l l' : List S30} {b : Bool} (n : S30) (T : TopAt base S w p k l) (hb : base ≤ w.heap.size) (h1 : addB k l n = b) (h2 : addL k l n = l') :
    Calls Try.prog 14 #[.pointer (some ⟨p, 0, none⟩), .agg #[.int .i64 n.f0, .int .i64 n.f1]] w fun e w' => e = .returned (.tuple #[.bool b, .int .i64 0]) ∧ TopAt base (fun b => S b ∨ w.heap.size ≤ b) w' p k l' ∧ Below base w w' := by
  subst h1 h2
  exact (add_any n T hb).mono fun e w' ⟨he, hT, hB, _⟩ => ⟨he, hT, hB⟩

/-- A literal of entries. -/
theorem lit_C (W : World) (zs : List S30) (hm : zs.length ≤ 9223372036854775807) : Kd.C k30 (W.alloc (.cells (fl zs).toArray 30)) (some ⟨W.heap.size, 0, none⟩) zs.length zs := by
  have hr : Kd.R k30 30 (W.alloc (.cells (fl zs).toArray 30)) W.heap.size (fun _ => True) (.slice (some ⟨W.heap.size, 0, none⟩) zs.length zs.length) zs := by
    have hR := fl_reps zs (R := k30.M (W.alloc (.cells (fl zs).toArray 30)) W.heap.size (fun k => True ∧ some k ≠ (Value.slice (some ⟨W.heap.size, 0, none⟩) zs.length zs.length).ownBlock)) (fun x => k30_mkM _ _ _ x)
    have h := World.ownsRow_lit (base := W.heap.size) (e := 30) (size := 2) W (fl zs).toArray zs.length (Nat.le_refl _) (by simpa [maxLen] using hm) (by simpa using hR.1)
    exact ⟨fun _ _ => trivial, fl zs, h, hR⟩
  exact (Kd.R_reads' hr).2.2

set_option maxHeartbeats 2000000 in
set_option maxRecDepth 100000 in
theorem lives_any (w : World) : Calls Try.prog 10 #[] w fun e w' => e = .returned (.bool true) ∧ Below w.heap.size w w' := by
  have N := Aside0.mk (new_good 2 w (by decide))
  have T0 := Aside0.mk (TopAt.new w 2 (by decide) w.heap.size (Nat.le_refl _))
  have HB0 := Aside0.mk (below_alloc (Below.refl _ w) (.cells #[.int .i64 (2 : Nat), .slice none 0 0] 83))
  go_enter Try.func10, Try.ntmps10
  go_wp2_with fail
  refine N.out.mono ?_
  rintro e w1 ⟨rfl, rfl⟩
  generalize (w.alloc (.cells #[.int .i64 (2 : Nat), .slice none 0 0] 83)) = w1 at T0 HB0 ⊢
  go_wp2_with fail
  refine (add_at (⟨5, 1⟩ : S30) T0.out HB0.out.size (b := true) (l' := [⟨5, 1⟩]) rfl rfl).mono ?_
  rintro e w2 ⟨rfl, T1, HB1⟩
  have T1 := Aside0.mk T1
  have HB1 := Aside0.mk (HB0.out.trans HB1)
  clear T0 HB0 N
  go_wp2_with fail
  refine (add_at (⟨3, 9⟩ : S30) T1.out HB1.out.size (b := true) (l' := [⟨3, 9⟩, ⟨5, 1⟩]) rfl rfl).mono ?_
  rintro e w3 ⟨rfl, T2, HB2⟩
  have T2 := Aside0.mk T2
  have HB2 := Aside0.mk (HB1.out.trans HB2)
  go_wp2_with fail
  refine (add_at (⟨5, 0⟩ : S30) T2.out HB2.out.size (b := true) (l' := [⟨3, 9⟩, ⟨5, 0⟩]) rfl rfl).mono ?_
  rintro e w4 ⟨rfl, T3, HB3⟩
  have T3 := Aside0.mk T3
  have HB3 := Aside0.mk (HB2.out.trans HB3)
  clear T1 T2 HB1 HB2
  go_wp2_with fail
  refine (list_any T3.out).mono ?_
  rintro e w5 ⟨v, rfl, hR, HB4⟩
  have HR := Aside0.mk hR
  have HB4 := Aside0.mk (HB3.out.trans (HB4.mono HB3.out.size))
  clear hR T3 HB3
  go_wp2_with fail
  have hC : Kd.C k30 (w5.alloc (.cells #[.int .i64 3, .int .i64 9, .int .i64 5, .int .i64 0] 30)) (some ⟨w5.heap.size, 0, none⟩) 2 [⟨3, 9⟩, ⟨5, 0⟩] := lit_C w5 [⟨3, 9⟩, ⟨5, 0⟩] (by decide)
  obtain ⟨A, c, rfl⟩ := Kd.R_slice HR.out
  have hr := Kd.R_reads' HR.out
  refine (same_any A c [⟨3, 9⟩, ⟨5, 0⟩] _ 2 [⟨3, 9⟩, ⟨5, 0⟩] _ (Kd.C_alloc hr.2.2 _) hr.2.1 hC (by decide) (by decide)).mono ?_
  rintro e w6 ⟨rfl, n, rfl⟩
  clear hC hr
  go_wp2_with fail
  go_ret
  refine ⟨rfl, ?_⟩
  exact pw_below_drewN (HB4.out.alloc HB4.out.size _) n
end Go.Proofs.Ytbdkgdbfnkogaaa.R
