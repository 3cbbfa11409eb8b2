/-
  The document's rank (Less, into, Sorted) in plain words: an element put into its place, a list in order. Conditions: the list is in order (into); lengths within the reach. The document's Top (New, Add, Worst), by their contracts. Conditions: it lies as told (RefAt).
-/
import Derived.Test.YtbdkgdbfnkogaaaRf22
import Derived.Test.YtbdkgdbfnkogaaaOrd
import Derived.Test.YtbdkgdbfnkogaaaTops
import Derived.Test.YtbdkgdbfnkogaaaKeepsP
namespace Go.Proofs.Ytbdkgdbfnkogaaa.R
open Go.RowKit Go.Proofs.YtbdkgdbfnkogaaaW.PrintWords Go.Proofs.YtbdkgdbfnkogaaaW.PrintLast Go.Proofs.YtbdkgdbfnkogaaaW.PrintMore Go.Proofs.Ytbdkgdbfnkogaaa.Plain
set_option linter.unusedVariables false
set_option linter.unusedSimpArgs false

theorem less4_f (a b : S30) : wayfinderref04_Less.f a.f0 a.f1 b.f0 b.f1 = some (nlt a b) := by
  unfold wayfinderref04_Less.f nlt
  by_cases h1 : a.f0 < b.f0
  · simp [h1]
  · by_cases h2 : a.f0 = b.f0
    · simp [h2]
    · simp [h1, h2]

theorem ins_at {n : S30} : ∀ (l : List S30) (d : Nat), (∀ x ∈ l.take d, nlt n x = false) → (∀ x ∈ l.drop d, nlt n x = true) → ins nlt n l = l.take d ++ n :: l.drop d := by
  intro l
  induction l with
  | nil => intro d _ _; simp [ins]
  | cons y l ih =>
    intro d h1 h2
    cases d with
    | zero =>
      have : nlt n y = true := h2 y (by simp)
      simp [ins, this]
    | succ d =>
      have : nlt n y = false := h1 y (by simp)
      simp only [ins, this, List.take_succ_cons, List.drop_succ_cons, List.cons_append]
      rw [← ih d (fun x hx => h1 x (by simp [hx])) (fun x hx => h2 x (by simpa using hx))]
      simp

theorem into_loop (l : List S30) (n : S30) (hs : Srt nlt l) (hm : l.length < 4398046511104) : ∀ d, d ≤ l.length → (∀ x ∈ l.drop d, nlt n x = true) → ∀ k, d < k → wayfinderref04_into.l0 k l (d : Int) n.f0 n.f1 = some (ins nlt n l) := by
  have fin : ∀ d, d ≤ l.length → (∀ x ∈ l.drop d, nlt n x = true) → (∀ x ∈ l.take d, nlt n x = false) → ((some (([] : List S30)) : Option (List S30)).bind fun y179 => (if 0 ≤ (d : Int) then (if (d : Int) ≤ (l.length : Int) then ((some (l.take ((d : Int) : Int).toNat : List (S30))).bind fun y182 => (if y179.length + y182.length < 8796093022208 then ((some (y179 ++ y182 : List (S30))).bind fun y186 => ((some (([(⟨n.f0, n.f1⟩ : S30)] : List (S30)) : List (S30))).bind fun y189 => (if y186.length + y189.length < 8796093022208 then ((some (y186 ++ y189 : List (S30))).bind fun y192 => ((some (l.drop ((d : Int) : Int).toNat : List (S30))).bind fun y195 => (if y192.length + y195.length < 8796093022208 then (some (y192 ++ y195)) else (none)))) else (none)))) else (none))) else (none)) else (none))) = some (ins nlt n l) := by
    intro d hd h1 h2
    rw [ins_at l d h2 h1]
    simp only [Option.bind_some]
    rw [if_pos (by omega), if_pos (by omega), if_pos (by simp; omega), if_pos (by simp; omega), if_pos (by simp; omega)]
    simp
  intro d
  induction d with
  | zero =>
    intro hd h1 k hk
    obtain ⟨k, rfl⟩ : ∃ m, k = m + 1 := ⟨k - 1, by omega⟩
    unfold wayfinderref04_into.l0
    rw [if_neg (by omega)]
    exact fin 0 hd h1 (by simp)
  | succ d ih =>
    intro hd h1 k hk
    obtain ⟨k, rfl⟩ : ∃ m, k = m + 1 := ⟨k - 1, by omega⟩
    have hw : wrap64 (((d + 1 : Nat) : Int) - 1) = (d : Int) := by unfold wrap64; omega
    have hdl : d < l.length := by omega
    have hr : rd_T30 l (d : Int) = l[d] := by unfold rd_T30; simp [hdl]
    unfold wayfinderref04_into.l0
    rw [if_pos (by omega), hw, if_pos (by omega), if_pos (by omega), hr, less4_f]
    simp only [Option.bind_some]
    cases hn : nlt n l[d] with
    | true =>
      rw [if_pos rfl]
      refine ih (by omega) (fun x hx => ?_) k (by omega)
      rw [List.drop_eq_getElem_cons hdl] at hx
      rcases List.mem_cons.1 hx with rfl | hx
      · exact hn
      · exact h1 x hx
    | false =>
      rw [if_neg (by simp)]
      refine fin (d + 1) hd h1 (fun x hx => ?_)
      obtain ⟨i, hi, rfl⟩ := List.mem_iff_getElem.1 hx
      have hi2 : i < d + 1 := by simp at hi; omega
      rw [List.getElem_take]
      by_cases e : i = d
      · subst e; exact hn
      · exact nlt_sto.ntrans (List.pairwise_iff_getElem.1 hs i d (by omega) hdl (by omega)) hn

theorem into_f (l : List S30) (n : S30) (hs : Srt nlt l) (hm : l.length < 4398046511104) (k : Nat) (hk : l.length < k) : wayfinderref04_into.f k l n.f0 n.f1 = some (ins nlt n l) := by
  unfold wayfinderref04_into.f
  exact into_loop l n hs hm l.length (Nat.le_refl _) (by simp) k hk

theorem sorted4_loop (l : List S30) (hm : l.length < 4398046511104) : ∀ d i, i + d = l.length → ∀ k, l.length + d < k → wayfinderref04_Sorted.l0 k l (isort nlt (l.take i)) (i : Int) = some (isort nlt l) := by
  intro d
  induction d with
  | zero =>
    intro i hi k hk
    obtain ⟨k, rfl⟩ : ∃ m, k = m + 1 := ⟨k - 1, by omega⟩
    unfold wayfinderref04_Sorted.l0
    rw [if_neg (by omega), List.take_of_length_le (by omega)]
  | succ d ih =>
    intro i hi k hk
    obtain ⟨k, rfl⟩ : ∃ m, k = m + 1 := ⟨k - 1, by omega⟩
    have hil : i < l.length := by omega
    have hw : wrap64 ((i : Int) + 1) = ((i + 1 : Nat) : Int) := by unfold wrap64; omega
    have hr : rd_T30 l (i : Int) = l[i] := by unfold rd_T30; simp [hil]
    have ht : l.take (i + 1) = l.take i ++ [l[i]] := by rw [List.take_add_one, List.getElem?_eq_getElem hil]; rfl
    unfold wayfinderref04_Sorted.l0
    rw [if_pos (by omega), if_pos (by omega), hr, into_f _ _ (isort_srt nlt_sto _) (by rw [isort_length]; simp; omega) k (by rw [isort_length]; simp; omega)]
    simp only [Option.bind_some]
    rw [hw, ← isort_snoc, ← ht]
    exact ih (i + 1) (by omega) k (by omega)

theorem sorted4_f (l : List S30) (hm : l.length < 4398046511104) (k : Nat) (hk : 2 * l.length < k) : wayfinderref04_Sorted.f k l = some (isort nlt l) := by
  unfold wayfinderref04_Sorted.f
  exact sorted4_loop l hm l.length 0 (by omega) k (by omega)
end Go.Proofs.Ytbdkgdbfnkogaaa.R

namespace Go.Proofs.Ytbdkgdbfnkogaaa.R
open Go.Shelf Go.RowKit Go.Lib Go.Sort Go.Proofs Go.Proofs.YtbdkgdbfnkogaaaW.PrintWords Go.Proofs.YtbdkgdbfnkogaaaW.PrintLast Go.Proofs.YtbdkgdbfnkogaaaW.PrintMore Go.Proofs.Ytbdkgdbfnkogaaa.Plain
set_option linter.unusedVariables false
set_option linter.unusedSimpArgs false

/-- The document's Top in memory: at block p, of the blocks S: it keeps k, and has kept l. -/
structure RefIn (base : Nat) (S : Nat → Prop) (w : World) (p k : Nat) (l : List S30) (v : Value) : Prop where
  blk : w.heap[p]? = some (.cells #[.int .i64 k, v] 48 (0, 0))
  low : base ≤ p
  mine : S p
  row : Kd.R k30 30 w base (fun b => S b ∧ b ≠ p) v l
  srt : Srt nlt l
  len : l.length ≤ k
  most : k ≤ 16777216
def RefAt (base : Nat) (S : Nat → Prop) (w : World) (p k : Nat) (l : List S30) : Prop := ∃ v, RefIn base S w p k l v

theorem new4_bad (k : Int) (w : World) (h : k < 0 ∨ 16777216 < k) : Calls Try.prog 19 #[.int .i64 k] w fun e w' => e = .returned (.tuple #[.pointer none, .int .i64 2]) ∧ ∃ n, w' = w.drewN n := by
  by_cases h0 : k < 0
  · have g0 : decide (k < 0) = true := decide_eq_true h0
    clear h h0
    go_enter Try.func19, Try.ntmps19
    go_wp2
    go_ret2
    exact ⟨rfl, 0, rfl⟩
  · have g0 : decide (k < 0) = false := decide_eq_false h0
    have g1 : decide (16777216 < k) = true := decide_eq_true (by omega)
    clear h h0
    go_enter Try.func19, Try.ntmps19
    go_wp2
    go_ret2
    exact ⟨rfl, 0, rfl⟩

theorem new4_good (k : Nat) (w : World) (h : k ≤ 16777216) : Calls Try.prog 19 #[.int .i64 k] w fun e w' => e = .returned (.tuple #[.pointer (some ⟨w.heap.size, 0, none⟩), .int .i64 0]) ∧ w' = w.alloc (.cells #[.int .i64 k, .slice none 0 0] 48) := by
  have g0 : decide ((k : Int) < 0) = false := decide_eq_false (by omega)
  have g1 : decide ((16777216 : Int) < (k : Int)) = false := decide_eq_false (by omega)
  clear h
  go_enter Try.func19, Try.ntmps19
  go_wp2
  go_ret2
  exact ⟨rfl, rfl⟩

theorem RefAt.new (w : World) (k : Nat) (h : k ≤ 16777216) (base : Nat) (hb : base ≤ w.heap.size) : RefAt base (fun b => b = w.heap.size) (w.alloc (.cells #[.int .i64 k, .slice none 0 0] 48)) w.heap.size k [] :=
  ⟨.slice none 0 0, heap_alloc_new w _, hb, rfl, Kd.R_nil _ _ _ _ _, List.Pairwise.nil, Nat.zero_le _, h⟩

section
variable {base : Nat} {S : Nat → Prop} {w : World} {p k : Nat} {l : List S30}
theorem RefIn.cells {v : Value} (T : RefIn base S w p k l v) : w.cell? ⟨p, 0, none⟩ = some (.int .i64 k) ∧ w.cell? ⟨p, 1, none⟩ = some v ∧ w.frozen? ⟨p, 0, none⟩ = false ∧ w.frozen? ⟨p, 1, none⟩ = false :=
  ⟨(blk_cells T.blk 0).1, (blk_cells T.blk 1).1, (blk_cells T.blk 0).2, (blk_cells T.blk 1).2⟩
theorem RefIn.step {w1 : World} {v : Value} (T : RefIn base S w p k l v) (hm : ∀ b, S b → b < w.heap.size → w1.heap[b]? = w.heap[b]?) : RefIn base S w1 p k l v :=
  ⟨(hm p T.mine (Array.getElem?_eq_some_iff.1 T.blk).1).trans T.blk, T.low, T.mine, Kd.R_step T.row (fun b hb hlt => hm b hb.1 hlt), T.srt, T.len, T.most⟩
theorem RefAt.below {w1 : World} (T : RefAt base S w p k l) (hb : Below w.heap.size w w1) : RefAt base S w1 p k l := by
  obtain ⟨v, T⟩ := T
  exact ⟨v, T.step fun b _ hlt => hb.block b hlt⟩
theorem RefAt.kept {w1 : World} {S' : Nat → Prop} (T : RefAt base S w p k l) (hk : Kept w w1 S') (hd : ∀ b, S b → ¬ S' b) : RefAt base S w1 p k l := by
  obtain ⟨v, T⟩ := T
  exact ⟨v, T.step fun b hb hlt => hk.2 b hlt (hd b hb)⟩
theorem RefAt.mono {S' : Nat → Prop} (T : RefAt base S w p k l) (h : ∀ b, S b → S' b) : RefAt base S' w p k l := by
  obtain ⟨v, T⟩ := T
  exact ⟨v, T.blk, T.low, h _ T.mine, Kd.R_mono T.row (fun b hb => ⟨h b hb.1, hb.2⟩), T.srt, T.len, T.most⟩
theorem RefAt.bound (T : RefAt base S w p k l) : RefAt base (fun b => S b ∧ base ≤ b ∧ b < w.heap.size) w p k l := by
  obtain ⟨v, T⟩ := T
  exact ⟨v, T.blk, T.low, ⟨T.mine, T.low, (Array.getElem?_eq_some_iff.1 T.blk).1⟩, Kd.R_mono (Kd.R_bound T.row) (fun b hb => ⟨⟨hb.1.1, hb.2.1, hb.2.2.1⟩, hb.1.2⟩), T.srt, T.len, T.most⟩

set_option maxHeartbeats 2000000 in
theorem worst4_any (T : RefAt base S w p k l) : Calls Try.prog 24 #[.pointer (some ⟨p, 0, none⟩)] w fun e w' => e = .returned (.tuple #[.agg #[.int .i64 (worstOf k l).1.f0, .int .i64 (worstOf k l).1.f1], .bool (worstOf k l).2]) ∧ Below w.heap.size w w' := by
  have HB := below_alloc (Below.refl _ w) (.cells #[.int .i64 0, .int .i64 0] 30)
  obtain ⟨v, T⟩ := T
  obtain ⟨A, c, rfl⟩ := Kd.R_slice T.row
  have hlen := T.len
  obtain ⟨c0, c1, f0, f1⟩ := (T.step (fun b _ hlt => HB.block b hlt)).cells
  by_cases hk : k = 0
  · have e : worstOf k l = (z30, false) := by unfold worstOf; rw [if_neg (by simp [hk])]
    rw [e]
    have hk' : ((k : Int) == 0) = true := by rw [beq_iff_eq]; omega
    clear T e hk HB hlen
    show Calls Try.prog 24 _ _ fun e w' => e = .returned (.tuple #[.agg #[.int .i64 0, .int .i64 0], .bool false]) ∧ _
    go_enter Try.func24, Try.ntmps24
    go_wp2_with fail
    go_quiet (fail)
    go_wp2
    refine bodyPost_ret (v := .tuple #[.agg #[.int .i64 0, .int .i64 0], .bool false]) (by simp [results, Try.results24, go_sem]) rfl ⟨rfl, ?_⟩
    (repeat (first | exact Below.refl _ _ | apply below_alloc | apply pw_below_drewN | apply below_drew | (refine Below.setCell ?_ (by simp) _)))
  · have hk' : ((k : Int) == 0) = false := by rw [beq_eq_false_iff_ne]; omega
    by_cases hf : l.length = k
    · have e : worstOf k l = (at_ z30 l (l.length - 1), true) := by unfold worstOf; rw [if_pos ⟨hf, hk⟩]
      have hd : decide (l.length < k) = false := decide_eq_false (by omega)
      have hl : 0 < l.length := by omega
      have hd' : decide ((l.length : Int) < (k : Int)) = false := decide_eq_false (by omega)
      have p0 : 0 ≤ (k : Int) - 1 := by omega
      have q0 : (k : Int) - 1 < (l.length : Int) := by omega
      obtain ⟨ad, eA, g0, g1⟩ := at_T30 (Kd.R_reads' T.row).2.2 ((k : Int) - 1) p0 q0
      have x0 : rd_T30 l ((k : Int) - 1) = at_ z30 l (l.length - 1) := by
        have : (k : Int) - 1 = ((l.length - 1 : Nat) : Int) := by omega
        rw [this, rd_at]
      rw [e]
      rw [x0] at g0 g1
      generalize at_ z30 l (l.length - 1) = x at g0 g1 ⊢
      cases eA
      have g0 := pw_cell_below HB g0
      have g1 := pw_cell_below HB g1
      have hw : IntKind.i64.wrap ((k : Int) - 1) = (k : Int) - 1 := by have := T.most; rw [IntKind.wrap_i64]; omega
      have hw2 : wrap64 ((k : Int) - 1) = (k : Int) - 1 := by have := T.most; unfold wrap64; omega
      replace p0 := eq_true p0
      replace q0 := eq_true q0
      clear T e hf hk hl x0 HB hlen
      go_enter Try.func24, Try.ntmps24
      go_wp2_with fail
      go_quiet (fail)
      go_wp2_with fail
      have X0 : Aside0 (((w.alloc (.cells #[.int .i64 0, .int .i64 0] 30)).drewN nq).heap[w.heap.size]? = some (.cells #[.int .i64 0, .int .i64 0] 30 (0, 0))) := ⟨heap_alloc_new w _⟩
      have HB1 := Aside0.mk (pw_below_drewN (below_alloc (Below.refl _ w) (.cells #[.int .i64 0, .int .i64 0] 30)) nq)
      replace c0 : ((w.alloc (.cells #[.int .i64 0, .int .i64 0] 30)).drewN nq).cell? ⟨p, 0, none⟩ = _ := c0
      replace c1 : ((w.alloc (.cells #[.int .i64 0, .int .i64 0] 30)).drewN nq).cell? ⟨p, 1, none⟩ = _ := c1
      replace g0 : ((w.alloc (.cells #[.int .i64 0, .int .i64 0] 30)).drewN nq).cell? _ = _ := g0
      replace g1 : ((w.alloc (.cells #[.int .i64 0, .int .i64 0] 30)).drewN nq).cell? _ = _ := g1
      clear f0 f1 hk' hd hd'
      generalize (w.alloc (.cells #[.int .i64 0, .int .i64 0] 30)).drewN nq = W1 at c0 c1 g0 g1 X0 HB1 ⊢
      have b0 : W1.cell? ⟨w.heap.size, 0, none⟩ = some (.int .i64 0) := (blk_cells X0.out 0).1
      have b1 : W1.cell? ⟨w.heap.size, 1, none⟩ = some (.int .i64 0) := (blk_cells X0.out 1).1
      have f0 := (blk_cells X0.out 0).2
      have f1 := (blk_cells X0.out 1).2
      have z := Aside0.mk (show (1 : Int) ≤ (k : Int) ∧ 1 ≤ k ∧ (k : Int) < (l.length : Int) + 1 ∧ k < l.length + 1 ∧ k ≤ l.length ∧ (k : Int) ≤ (l.length : Int) by have := of_eq_true p0; have := of_eq_true q0; omega)
      obtain ⟨z0, z1, z2, z3, z4, z5⟩ := z.out
      have hk1 : ((k : Int) - 1).toNat = k - 1 := by omega
      rw [hk1] at g0 g1
      clear hk1
      go_big_region
      go_wp2_with fail
      have X1 : ((W1.setCell ⟨w.heap.size, 0, none⟩ (.int .i64 x.f0)).setCell ⟨w.heap.size, 1, none⟩ (.int .i64 x.f1)).heap[w.heap.size]? = some (.cells #[.int .i64 x.f0, .int .i64 x.f1] 30 (0, 0)) := blk_set (blk_set X0.out 0 _) 1 _
      have HB2 := Aside0.mk ((HB1.out.setCell (p := ⟨w.heap.size, 0, none⟩) (Nat.le_refl _) (.int .i64 x.f0)).setCell (p := ⟨w.heap.size, 1, none⟩) (Nat.le_refl _) (.int .i64 x.f1))
      generalize (W1.setCell ⟨w.heap.size, 0, none⟩ (.int .i64 x.f0)).setCell ⟨w.heap.size, 1, none⟩ (.int .i64 x.f1) = W2 at X1 HB2 ⊢
      have e0 := (blk_cells X1 0).1
      have e1 := (blk_cells X1 1).1
      exact bodyPost_ret (v := .tuple #[.agg #[.int .i64 x.f0, .int .i64 x.f1], .bool true]) (by simp [results, Try.results24, go_sem, e0, e1]) rfl ⟨rfl, below_drew HB2.out⟩
    · have e : worstOf k l = (z30, false) := by unfold worstOf; rw [if_neg (by simp [hf])]
      rw [e]
      have hd : decide (l.length < k) = true := decide_eq_true (by omega)
      have hd' : decide ((l.length : Int) < (k : Int)) = true := decide_eq_true (by omega)
      clear T e hf hk HB hlen
      show Calls Try.prog 24 _ _ fun e w' => e = .returned (.tuple #[.agg #[.int .i64 0, .int .i64 0], .bool false]) ∧ _
      go_enter Try.func24, Try.ntmps24
      go_wp2_with fail
      go_quiet (fail)
      go_wp2
      refine bodyPost_ret (v := .tuple #[.agg #[.int .i64 0, .int .i64 0], .bool false]) (by simp [results, Try.results24, go_sem]) rfl ⟨rfl, ?_⟩
      (repeat (first | exact Below.refl _ _ | apply below_alloc | apply pw_below_drewN | apply below_drew | (refine Below.setCell ?_ (by simp) _)))
end
theorem less4_any (a b : S30) (W w : World) (hB : Below W.heap.size W w) : Calls Try.prog 20 #[.agg #[.int .i64 a.f0, .int .i64 a.f1], .agg #[.int .i64 b.f0, .int .i64 b.f1]] w fun e w' => e = .returned (.bool (nlt a b)) ∧ Below w.heap.size w w' ∧ Below W.heap.size W w' :=
  (wayfinderref04_Less.calls a.f0 a.f1 b.f0 b.f1 _ w (less4_f a b)).mono fun e w' ⟨he, hb⟩ => ⟨he, hb, hB.trans (hb.mono hB.size)⟩

theorem set_field4 {w : World} {p : Nat} {k : Int} {v : Value} (hb : w.heap[p]? = some (.cells #[.int .i64 k, v] 48 (0, 0))) (u : Value) : (w.setCell ⟨p, 1, none⟩ u).heap[p]? = some (.cells #[.int .i64 k, u] 48 (0, 0)) := by
  simp [World.setCell, Array.getElem?_modify, hb]

section
variable {base : Nat} {S : Nat → Prop} {w : World} {p k : Nat} {l : List S30}
set_option maxHeartbeats 4000000 in
set_option maxRecDepth 100000 in
theorem add4_few (n : S30) (T : RefAt base S w p k l) (hl : l.length < k) :
    Calls Try.prog 23 #[.pointer (some ⟨p, 0, none⟩), .agg #[.int .i64 n.f0, .int .i64 n.f1]] w fun e w' => e = .returned (.bool true) ∧ RefAt base (fun b => S b ∨ w.heap.size ≤ b) w' p k (ins nlt n l) ∧ Below base w w' ∧ Kept w w' S := by
  have HW := below_alloc (Below.refl _ w) (.cells #[.int .i64 n.f0, .int .i64 n.f1] 30)
  have hsz : (w.alloc (.cells #[.int .i64 n.f0, .int .i64 n.f1] 30)).heap.size = w.heap.size + 1 := by simp
  have b0 : (w.alloc (.cells #[.int .i64 n.f0, .int .i64 n.f1] 30)).cell? ⟨w.heap.size, 0, none⟩ = some (.int .i64 n.f0) := by simp
  have b1 : (w.alloc (.cells #[.int .i64 n.f0, .int .i64 n.f1] 30)).cell? ⟨w.heap.size, 1, none⟩ = some (.int .i64 n.f1) := by simp
  have hp : p < w.heap.size := by obtain ⟨_, T⟩ := T; exact (Array.getElem?_eq_some_iff.1 T.blk).1
  obtain ⟨v, T⟩ := T.below HW
  go_enter Try.func23, Try.ntmps23
  go_wp2_with fail
  generalize w.alloc (.cells #[.int .i64 n.f0, .int .i64 n.f1] 30) = W at T HW b0 b1 hsz ⊢
  obtain ⟨A, c, rfl⟩ := Kd.R_slice T.row
  obtain ⟨c0, c1, f0, f1⟩ := T.cells
  have hd : ((l.length : Int) == (k : Int)) = false := by rw [beq_eq_false_iff_ne]; omega
  have T0 := Aside0.mk T
  have HS := Aside0.mk hsz
  have HW0 := Aside0.mk HW
  have HL := Aside0.mk hl
  have HP := Aside0.mk hp
  clear T hl HW hsz hp
  go_wp2_with fail
  go_quiet (fail)
  go_wp2_with fail
  have T1 : Aside0 (RefIn base S (W.drewN nq) p k l (.slice A l.length c)) := ⟨T0.out.step fun b _ hlt => rfl⟩
  have HW1 := Aside0.mk (pw_below_drewN HW0.out nq)
  have HS1 : Aside0 ((W.drewN nq).heap.size = w.heap.size + 1) := ⟨HS.out⟩
  replace c1 : (W.drewN nq).cell? ⟨p, 1, none⟩ = some (.slice A l.length c) := c1
  replace b0 : (W.drewN nq).cell? ⟨w.heap.size, 0, none⟩ = some (.int .i64 n.f0) := b0
  replace b1 : (W.drewN nq).cell? ⟨w.heap.size, 1, none⟩ = some (.int .i64 n.f1) := b1
  clear HW0 HS c0 f0 f1 hd
  generalize W.drewN nq = W1 at T1 HW1 HS1 c1 b0 b1 ⊢
  clear nq
  have PB : Aside0 (W1.drew.heap[p]? = some (.cells #[.int .i64 k, .slice A l.length c] 48 (0, 0))) := ⟨T1.out.blk⟩
  have IC : Aside0 (Calls Try.prog 56 #[.slice A l.length c, .agg #[.int .i64 n.f0, .int .i64 n.f1]] W1.drew _) := ⟨wayfinderref04_into.calls (l.length + 1) A c l n.f0 n.f1 (ins nlt n l) W1.drew (Kd.C_drew (Kd.R_reads' T1.out.row).2.2) (Kd.R_reads' T1.out.row).2.1 (into_f l n T1.out.srt (by have := T1.out.len; have := T1.out.most; omega) _ (by omega))⟩
  go_region_law (first | (go_simp; go_at_call 56; with_reducible refine IC.out.mono ?_; rintro e w3 ⟨v1, rfl, hR1, hB1⟩; obtain ⟨A1, cp1, rfl⟩ := Kd.R_slice hR1; have pb1 : w3.heap[p]? = some (.cells #[.int .i64 k, .slice A l.length c] 48 (0, 0)) := (hB1.block p (Array.getElem?_eq_some_iff.1 PB.out).1).trans PB.out; have d1 := (blk_cells pb1 1).1; have d2 := (blk_cells pb1 1).2; simp at d1))
  all_goals
    go_wp2_with fail
    have q1 : Aside0 ((w3.setCell ⟨p, 1, none⟩ (.slice A1 (ins nlt n l).length cp1)).heap[p]? = some (.cells #[.int .i64 k, .slice A1 (ins nlt n l).length cp1] 48 (0, 0))) := ⟨set_field4 pb1 _⟩
    have q2 : Aside0 (Kd.R k30 30 (w3.setCell ⟨p, 1, none⟩ (.slice A1 (ins nlt n l).length cp1)) base (fun b => (S b ∨ w.heap.size ≤ b) ∧ b ≠ p) (.slice A1 (ins nlt n l).length cp1) (ins nlt n l)) := ⟨Kd.R_far (Kd.R_mono (Kd.R_lower (Kd.R_bound hR1) (by have := HS1.out; have := T1.out.low; have := HP.out; simp; omega)) (fun b hb => ⟨.inr (by have h1 : W1.heap.size ≤ b := hb.2.1; have := HS1.out; omega), by have h1 : W1.heap.size ≤ b := hb.2.1; have := HS1.out; have := HP.out; omega⟩)) (p := ⟨p, 1, none⟩) (fun b hb => hb.2) _⟩
    have q3 : Aside0 (Below base w (w3.setCell ⟨p, 1, none⟩ (.slice A1 (ins nlt n l).length cp1))) := ⟨((HW1.out.mono (by have := T1.out.low; have := HP.out; omega)).trans ((hB1.mono (by have := HS1.out; have := T1.out.low; have := HP.out; simp; omega) : Below base W1.drew w3) |> fun h => (⟨h.os, h.tape, h.output, h.size, h.block⟩ : Below base W1 w3))).setCell T1.out.low _⟩
    have q4 : Aside0 (Kept w (w3.setCell ⟨p, 1, none⟩ (.slice A1 (ins nlt n l).length cp1)) S) := ⟨Kept.setCell ((Kept.of_below HW1.out S).then_ (Kept.of_below (⟨hB1.os, hB1.tape, hB1.output, hB1.size, hB1.block⟩ : Below W1.heap.size W1 w3) S) (fun b hb => .inl hb)) (.inl T1.out.mine) _⟩
    clear hR1 hB1 pb1 d1 d2 PB IC b0 b1 c1 T1 HW1 HS1
    generalize w3.setCell ⟨p, 1, none⟩ (.slice A1 (ins nlt n l).length cp1) = w4 at q1 q2 q3 q4 ⊢
    have e0 : w4.cell? ⟨p, 0, none⟩ = some (.int .i64 k) := (blk_cells q1.out 0).1
    have e1 : w4.cell? ⟨p, 1, none⟩ = some (.slice A1 (ins nlt n l).length cp1) := (blk_cells q1.out 1).1
    have hd : decide (k < (ins nlt n l).length) = false := decide_eq_false (by rw [ins_length]; have := HL.out; omega)
    have hd' : decide ((k : Int) < ((ins nlt n l).length : Int)) = false := decide_eq_false (by rw [ins_length]; have := HL.out; omega)
    go_quiet (fail)
    go_wp2_with fail
    go_ret
    exact ⟨rfl, ⟨_, q1.out, T0.out.low, .inl T0.out.mine, q2.out, ins_srt nlt_sto n T0.out.srt, by rw [ins_length]; have := HL.out; omega, T0.out.most⟩, pw_below_drewN q3.out _, q4.out⟩

set_option maxHeartbeats 4000000 in
set_option maxRecDepth 100000 in
theorem add4_turns (n : S30) (T : RefAt base S w p k l) (hl : l.length = k) (hk : k ≠ 0) (hn : nlt n (at_ z30 l (l.length - 1)) = true) :
    Calls Try.prog 23 #[.pointer (some ⟨p, 0, none⟩), .agg #[.int .i64 n.f0, .int .i64 n.f1]] w fun e w' => e = .returned (.bool true) ∧ RefAt base (fun b => S b ∨ w.heap.size ≤ b) w' p k ((ins nlt n l).take k) ∧ Below base w w' ∧ Kept w w' S := by
  have HW := below_alloc (Below.refl _ w) (.cells #[.int .i64 n.f0, .int .i64 n.f1] 30)
  have hsz : (w.alloc (.cells #[.int .i64 n.f0, .int .i64 n.f1] 30)).heap.size = w.heap.size + 1 := by simp
  have b0 : (w.alloc (.cells #[.int .i64 n.f0, .int .i64 n.f1] 30)).cell? ⟨w.heap.size, 0, none⟩ = some (.int .i64 n.f0) := by simp
  have b1 : (w.alloc (.cells #[.int .i64 n.f0, .int .i64 n.f1] 30)).cell? ⟨w.heap.size, 1, none⟩ = some (.int .i64 n.f1) := by simp
  have hp : p < w.heap.size := by obtain ⟨_, T⟩ := T; exact (Array.getElem?_eq_some_iff.1 T.blk).1
  obtain ⟨v, T⟩ := T.below HW
  go_enter Try.func23, Try.ntmps23
  go_wp2_with fail
  generalize w.alloc (.cells #[.int .i64 n.f0, .int .i64 n.f1] 30) = W at T HW b0 b1 hsz ⊢
  obtain ⟨A, c, rfl⟩ := Kd.R_slice T.row
  obtain ⟨c0, c1, f0, f1⟩ := T.cells
  have hd : ((l.length : Int) == (k : Int)) = true := by rw [beq_iff_eq]; omega
  have hk' : ((k : Int) == 0) = false := by rw [beq_eq_false_iff_ne]; omega
  have p0 : 0 ≤ (k : Int) - 1 := by omega
  have q0 : (k : Int) - 1 < (l.length : Int) := by omega
  obtain ⟨ad, eA, g0, g1⟩ := at_T30 (Kd.R_reads' T.row).2.2 ((k : Int) - 1) p0 q0
  have x0 : rd_T30 l ((k : Int) - 1) = at_ z30 l (l.length - 1) := by
    have : (k : Int) - 1 = ((l.length - 1 : Nat) : Int) := by omega
    rw [this, rd_at]
  rw [x0] at g0 g1
  have hx := fun w' (hB : Below W.heap.size W w') => less4_any n (at_ z30 l (l.length - 1)) W w' hB
  rw [hn] at hx
  obtain ⟨x, hxe⟩ : ∃ x, x = at_ z30 l (l.length - 1) := ⟨_, rfl⟩
  rw [← hxe] at g0 g1 hx
  cases eA
  have hw : IntKind.i64.wrap ((k : Int) - 1) = (k : Int) - 1 := by have := T.most; rw [IntKind.wrap_i64]; omega
  have hw2 : wrap64 ((k : Int) - 1) = (k : Int) - 1 := by have := T.most; unfold wrap64; omega
  have z := Aside0.mk (show (1 : Int) ≤ (k : Int) ∧ 1 ≤ k ∧ (k : Int) < (l.length : Int) + 1 ∧ k < l.length + 1 ∧ k ≤ l.length ∧ (k : Int) ≤ (l.length : Int) by omega)
  obtain ⟨z0, z1, z2, z3, z4, z5⟩ := z.out
  have hk1 : ((k : Int) - 1).toNat = k - 1 := by omega
  rw [hk1] at g0 g1
  have Y : Aside0 (∀ w', Below W.heap.size W w' → w'.cell? ⟨p, 0, none⟩ = some (.int .i64 k) ∧ w'.cell? ⟨p, 1, none⟩ = some (.slice (some ad) l.length c) ∧ w'.cell? ⟨w.heap.size, 0, none⟩ = some (.int .i64 n.f0) ∧ w'.cell? ⟨w.heap.size, 1, none⟩ = some (.int .i64 n.f1) ∧ w'.cell? (ad.add ((k - 1) * 2)) = some (.int .i64 x.f0) ∧ w'.cell? ⟨(ad.add ((k - 1) * 2)).block, (ad.add ((k - 1) * 2)).off + 1, none⟩ = some (.int .i64 x.f1)) := ⟨fun w' hB => ⟨pw_cell_below hB c0, pw_cell_below hB c1, pw_cell_below hB b0, pw_cell_below hB b1, pw_cell_below hB g0, pw_cell_below hB g1⟩⟩
  have HN := Aside0.mk hn
  have HX := Aside0.mk hx
  have HK0 := Aside0.mk hk
  clear hk1 hn hx hxe x0 hk
  have T0 := Aside0.mk T
  have HS := Aside0.mk hsz
  have HW0 := Aside0.mk HW
  have HL := Aside0.mk hl
  have HP := Aside0.mk hp
  clear T hl HW hsz hp
  replace p0 := eq_true p0
  replace q0 := eq_true q0
  have hb0 : Below W.heap.size W W.drew := below_drew (Below.refl _ _)
  obtain ⟨y0, y1, y2, y3, y4, y5⟩ := Y.out _ hb0
  go_wp2_with fail
  go_region_held3 (fun w' => w'.cell? ⟨p, 0, none⟩ = some (.int .i64 k) ∧ w'.cell? ⟨p, 1, none⟩ = some (.slice (some ad) l.length c) ∧ w'.cell? ⟨w.heap.size, 0, none⟩ = some (.int .i64 n.f0) ∧ w'.cell? ⟨w.heap.size, 1, none⟩ = some (.int .i64 n.f1) ∧ w'.cell? (ad.add ((k - 1) * 2)) = some (.int .i64 x.f0) ∧ w'.cell? ⟨(ad.add ((k - 1) * 2)).block, (ad.add ((k - 1) * 2)).off + 1, none⟩ = some (.int .i64 x.f1)) (refine ⟨?_, ?_, ?_, ?_, ?_, ?_⟩ <;> assumption) (first
    | (go_at_call 20; with_reducible refine (HX.out _ hb0).mono ?_; rintro e w1 ⟨rfl, hb1, hB1⟩; obtain ⟨u0, u1, u2, u3, u4, u5⟩ := Y.out _ hB1))
  go_wp2_with fail
  have T1 : Aside0 (RefIn base S w1 p k l (.slice (some ad) l.length c)) := ⟨T0.out.step fun b _ hlt => hB1.block b hlt⟩
  have HW1 := Aside0.mk (HW0.out.trans (hB1.mono HW0.out.size))
  have HS1 : Aside0 (w.heap.size < w1.heap.size) := ⟨by have := hB1.size; have := HS.out; omega⟩
  clear hb1 hB1 HX Y y0 y1 y2 y3 y4 y5 u0 u4 u5 c0 c1 f0 f1 b0 b1 g0 g1 hb0 hd hk' hw hw2 p0 q0 z0 z1 z2 z3 z4 z5
  have PB : Aside0 (w1.drew.heap[p]? = some (.cells #[.int .i64 k, .slice (some ad) l.length c] 48 (0, 0))) := ⟨T1.out.blk⟩
  have IC : Aside0 (Calls Try.prog 56 #[.slice (some ad) l.length c, .agg #[.int .i64 n.f0, .int .i64 n.f1]] w1.drew _) := ⟨wayfinderref04_into.calls (l.length + 1) (some ad) c l n.f0 n.f1 (ins nlt n l) w1.drew (Kd.C_drew (Kd.R_reads' T1.out.row).2.2) (Kd.R_reads' T1.out.row).2.1 (into_f l n T1.out.srt (by have := T1.out.len; have := T1.out.most; omega) _ (by omega))⟩
  go_region_law (first | (go_simp; go_at_call 56; with_reducible refine IC.out.mono ?_; rintro e w3 ⟨v1, rfl, hR1, hB1⟩; obtain ⟨A1, cp1, rfl⟩ := Kd.R_slice hR1; have pb1 : w3.heap[p]? = some (.cells #[.int .i64 k, .slice (some ad) l.length c] 48 (0, 0)) := (hB1.block p (Array.getElem?_eq_some_iff.1 PB.out).1).trans PB.out; have d1 := (blk_cells pb1 1).1; have d2 := (blk_cells pb1 1).2; simp at d1))
  all_goals
    go_wp2_with fail
    have q1 : Aside0 ((w3.setCell ⟨p, 1, none⟩ (.slice A1 (ins nlt n l).length cp1)).heap[p]? = some (.cells #[.int .i64 k, .slice A1 (ins nlt n l).length cp1] 48 (0, 0))) := ⟨set_field4 pb1 _⟩
    have q2 : Aside0 (Kd.R k30 30 (w3.setCell ⟨p, 1, none⟩ (.slice A1 (ins nlt n l).length cp1)) base (fun b => (S b ∨ w.heap.size ≤ b) ∧ b ≠ p) (.slice A1 (ins nlt n l).length cp1) (ins nlt n l)) := ⟨Kd.R_far (Kd.R_mono (Kd.R_lower (Kd.R_bound hR1) (by have h1 : w1.drew.heap.size = w1.heap.size := rfl; have := HS1.out; have := T1.out.low; have := HP.out; omega)) (fun b hb => ⟨.inr (by have h1 : w1.heap.size ≤ b := hb.2.1; have := HS1.out; omega), by have h1 : w1.heap.size ≤ b := hb.2.1; have := HS1.out; have := HP.out; omega⟩)) (p := ⟨p, 1, none⟩) (fun b hb => hb.2) _⟩
    have q3 : Aside0 (Below base w (w3.setCell ⟨p, 1, none⟩ (.slice A1 (ins nlt n l).length cp1))) := ⟨((HW1.out.mono (by have := T1.out.low; have := HP.out; omega)).trans ((hB1.mono (by have h1 : w1.drew.heap.size = w1.heap.size := rfl; have := HS1.out; have := T1.out.low; have := HP.out; omega) : Below base w1.drew w3) |> fun h => (⟨h.os, h.tape, h.output, h.size, h.block⟩ : Below base w1 w3))).setCell T1.out.low _⟩
    have q4 : Aside0 (Kept w (w3.setCell ⟨p, 1, none⟩ (.slice A1 (ins nlt n l).length cp1)) S) := ⟨Kept.setCell ((Kept.of_below HW1.out S).then_ (Kept.of_below (⟨hB1.os, hB1.tape, hB1.output, hB1.size, hB1.block⟩ : Below w1.heap.size w1 w3) S) (fun b hb => .inl hb)) (.inl T1.out.mine) _⟩
    have q5 : ((k : Nat) : Int) ≤ (cp1 : Int) := by have := (Kd.R_reads' hR1).2.1; rw [ins_length] at this; have := HL.out; omega
    clear hR1 hB1 pb1 d1 d2 PB IC u1 u2 u3 T1 HW1 HS1
    generalize w3.setCell ⟨p, 1, none⟩ (.slice A1 (ins nlt n l).length cp1) = w4 at q1 q2 q3 q4 ⊢
    have e0 : w4.cell? ⟨p, 0, none⟩ = some (.int .i64 k) := (blk_cells q1.out 0).1
    have e1 : w4.cell? ⟨p, 1, none⟩ = some (.slice A1 (ins nlt n l).length cp1) := (blk_cells q1.out 1).1
    have hd : decide (k < (ins nlt n l).length) = true := decide_eq_true (by rw [ins_length]; have := HL.out; omega)
    have hd' : decide ((k : Int) < ((ins nlt n l).length : Int)) = true := decide_eq_true (by rw [ins_length]; have := HL.out; omega)
    go_quiet (fail)
    go_wp2_with fail
    have T5 : Aside0 (RefIn base (fun b => S b ∨ w.heap.size ≤ b) ((w4.drewN nq).setCell ⟨p, 1, none⟩ (.slice A1 k cp1)) p k ((ins nlt n l).take k) (.slice A1 k cp1)) := ⟨set_field4 q1.out _, T0.out.low, .inl T0.out.mine, Kd.R_far (Kd.R_take (Kd.R_drewN q2.out nq) (by rw [ins_length]; have := HL.out; omega)) (p := ⟨p, 1, none⟩) (fun b hb => hb.2) _, List.Pairwise.sublist (List.take_sublist k _) (ins_srt nlt_sto n T0.out.srt), by rw [List.length_take, ins_length]; have := HL.out; omega, T0.out.most⟩
    have B5 : Aside0 (Below base w ((w4.drewN nq).setCell ⟨p, 1, none⟩ (.slice A1 k cp1))) := ⟨(pw_below_drewN q3.out nq).setCell T0.out.low _⟩
    have K5 : Aside0 (Kept w ((w4.drewN nq).setCell ⟨p, 1, none⟩ (.slice A1 k cp1)) S) := ⟨Kept.setCell (Kept.drewN q4.out nq) (.inl T0.out.mine) _⟩
    replace e0 : (w4.drewN nq).cell? ⟨p, 0, none⟩ = some (.int .i64 k) := e0
    replace e1 : (w4.drewN nq).cell? ⟨p, 1, none⟩ = some (.slice A1 (ins nlt n l).length cp1) := e1
    have e2 : (w4.drewN nq).frozen? ⟨p, 1, none⟩ = false := (blk_cells q1.out 1).2
    generalize w4.drewN nq = w5 at T5 B5 K5 e0 e1 e2 ⊢
    have q6 : k ≤ cp1 := by omega
    clear hd hd'
    go_big_region
    go_wp2_with fail
    go_ret
    exact ⟨rfl, ⟨_, T5.out.step fun b _ _ => rfl⟩, below_drew B5.out, Kept.drew K5.out⟩

set_option maxHeartbeats 4000000 in
set_option maxRecDepth 100000 in
theorem add4_none (n : S30) (T : RefAt base S w p 0 l) (hl : l.length = 0) :
    Calls Try.prog 23 #[.pointer (some ⟨p, 0, none⟩), .agg #[.int .i64 n.f0, .int .i64 n.f1]] w fun e w' => e = .returned (.bool false) ∧ Below w.heap.size w w' := by
  have HW := below_alloc (Below.refl _ w) (.cells #[.int .i64 n.f0, .int .i64 n.f1] 30)
  obtain ⟨v, T⟩ := T.below HW
  go_enter Try.func23, Try.ntmps23
  go_wp2_with fail
  generalize w.alloc (.cells #[.int .i64 n.f0, .int .i64 n.f1] 30) = W at T HW ⊢
  obtain ⟨A, c, rfl⟩ := Kd.R_slice T.row
  obtain ⟨c0, c1, f0, f1⟩ := T.cells
  have hd : ((l.length : Int) == ((0 : Nat) : Int)) = true := by rw [beq_iff_eq]; omega
  have hd2 : ((l.length : Int) == 0) = true := by rw [beq_iff_eq]; omega
  have HW0 := Aside0.mk HW
  clear T HW hl
  go_quiet (fail)
  go_wp2_with fail
  go_ret
  exact ⟨rfl, pw_below_drewN HW0.out _⟩

set_option maxHeartbeats 4000000 in
set_option maxRecDepth 100000 in
theorem add4_kept (n : S30) (T : RefAt base S w p k l) (hl : l.length = k) (hk : k ≠ 0) (hn : nlt n (at_ z30 l (l.length - 1)) = false) :
    Calls Try.prog 23 #[.pointer (some ⟨p, 0, none⟩), .agg #[.int .i64 n.f0, .int .i64 n.f1]] w fun e w' => e = .returned (.bool false) ∧ Below w.heap.size w w' := by
  have HW := below_alloc (Below.refl _ w) (.cells #[.int .i64 n.f0, .int .i64 n.f1] 30)
  have hsz : (w.alloc (.cells #[.int .i64 n.f0, .int .i64 n.f1] 30)).heap.size = w.heap.size + 1 := by simp
  have b0 : (w.alloc (.cells #[.int .i64 n.f0, .int .i64 n.f1] 30)).cell? ⟨w.heap.size, 0, none⟩ = some (.int .i64 n.f0) := by simp
  have b1 : (w.alloc (.cells #[.int .i64 n.f0, .int .i64 n.f1] 30)).cell? ⟨w.heap.size, 1, none⟩ = some (.int .i64 n.f1) := by simp
  have hp : p < w.heap.size := by obtain ⟨_, T⟩ := T; exact (Array.getElem?_eq_some_iff.1 T.blk).1
  obtain ⟨v, T⟩ := T.below HW
  go_enter Try.func23, Try.ntmps23
  go_wp2_with fail
  generalize w.alloc (.cells #[.int .i64 n.f0, .int .i64 n.f1] 30) = W at T HW b0 b1 hsz ⊢
  obtain ⟨A, c, rfl⟩ := Kd.R_slice T.row
  obtain ⟨c0, c1, f0, f1⟩ := T.cells
  have hd : ((l.length : Int) == (k : Int)) = true := by rw [beq_iff_eq]; omega
  have hk' : ((k : Int) == 0) = false := by rw [beq_eq_false_iff_ne]; omega
  have p0 : 0 ≤ (k : Int) - 1 := by omega
  have q0 : (k : Int) - 1 < (l.length : Int) := by omega
  obtain ⟨ad, eA, g0, g1⟩ := at_T30 (Kd.R_reads' T.row).2.2 ((k : Int) - 1) p0 q0
  have x0 : rd_T30 l ((k : Int) - 1) = at_ z30 l (l.length - 1) := by
    have : (k : Int) - 1 = ((l.length - 1 : Nat) : Int) := by omega
    rw [this, rd_at]
  rw [x0] at g0 g1
  have hx := fun w' (hB : Below W.heap.size W w') => less4_any n (at_ z30 l (l.length - 1)) W w' hB
  rw [hn] at hx
  obtain ⟨x, hxe⟩ : ∃ x, x = at_ z30 l (l.length - 1) := ⟨_, rfl⟩
  rw [← hxe] at g0 g1 hx
  cases eA
  have hw : IntKind.i64.wrap ((k : Int) - 1) = (k : Int) - 1 := by have := T.most; rw [IntKind.wrap_i64]; omega
  have hw2 : wrap64 ((k : Int) - 1) = (k : Int) - 1 := by have := T.most; unfold wrap64; omega
  have z := Aside0.mk (show (1 : Int) ≤ (k : Int) ∧ 1 ≤ k ∧ (k : Int) < (l.length : Int) + 1 ∧ k < l.length + 1 ∧ k ≤ l.length ∧ (k : Int) ≤ (l.length : Int) by omega)
  obtain ⟨z0, z1, z2, z3, z4, z5⟩ := z.out
  have hk1 : ((k : Int) - 1).toNat = k - 1 := by omega
  rw [hk1] at g0 g1
  have Y : Aside0 (∀ w', Below W.heap.size W w' → w'.cell? ⟨p, 0, none⟩ = some (.int .i64 k) ∧ w'.cell? ⟨p, 1, none⟩ = some (.slice (some ad) l.length c) ∧ w'.cell? ⟨w.heap.size, 0, none⟩ = some (.int .i64 n.f0) ∧ w'.cell? ⟨w.heap.size, 1, none⟩ = some (.int .i64 n.f1) ∧ w'.cell? (ad.add ((k - 1) * 2)) = some (.int .i64 x.f0) ∧ w'.cell? ⟨(ad.add ((k - 1) * 2)).block, (ad.add ((k - 1) * 2)).off + 1, none⟩ = some (.int .i64 x.f1)) := ⟨fun w' hB => ⟨pw_cell_below hB c0, pw_cell_below hB c1, pw_cell_below hB b0, pw_cell_below hB b1, pw_cell_below hB g0, pw_cell_below hB g1⟩⟩
  have HN := Aside0.mk hn
  have HX := Aside0.mk hx
  have HK0 := Aside0.mk hk
  clear hk1 hn hx hxe x0 hk
  have T0 := Aside0.mk T
  have HS := Aside0.mk hsz
  have HW0 := Aside0.mk HW
  have HL := Aside0.mk hl
  have HP := Aside0.mk hp
  clear T hl HW hsz hp
  replace p0 := eq_true p0
  replace q0 := eq_true q0
  have hb0 : Below W.heap.size W W.drew := below_drew (Below.refl _ _)
  obtain ⟨y0, y1, y2, y3, y4, y5⟩ := Y.out _ hb0
  go_wp2_with fail
  go_region_held3 (fun w' => w'.cell? ⟨p, 0, none⟩ = some (.int .i64 k) ∧ w'.cell? ⟨p, 1, none⟩ = some (.slice (some ad) l.length c) ∧ w'.cell? ⟨w.heap.size, 0, none⟩ = some (.int .i64 n.f0) ∧ w'.cell? ⟨w.heap.size, 1, none⟩ = some (.int .i64 n.f1) ∧ w'.cell? (ad.add ((k - 1) * 2)) = some (.int .i64 x.f0) ∧ w'.cell? ⟨(ad.add ((k - 1) * 2)).block, (ad.add ((k - 1) * 2)).off + 1, none⟩ = some (.int .i64 x.f1)) (refine ⟨?_, ?_, ?_, ?_, ?_, ?_⟩ <;> assumption) (first
    | (go_at_call 20; with_reducible refine (HX.out _ hb0).mono ?_; rintro e w1 ⟨rfl, hb1, hB1⟩; obtain ⟨u0, u1, u2, u3, u4, u5⟩ := Y.out _ hB1))
  go_wp2_with fail
  go_ret
  exact ⟨rfl, HW0.out.trans (hB1.mono HW0.out.size)⟩

theorem add4_any (n : S30) (T : RefAt base S w p k l) (hb : base ≤ w.heap.size) :
    Calls Try.prog 23 #[.pointer (some ⟨p, 0, none⟩), .agg #[.int .i64 n.f0, .int .i64 n.f1]] w fun e w' => e = .returned (.bool (addB k l n)) ∧ RefAt base (fun b => S b ∨ w.heap.size ≤ b) w' p k (addL k l n) ∧ Below base w w' ∧ Kept w w' S := by
  have hlen : l.length ≤ k := by obtain ⟨_, T⟩ := T; exact T.len
  by_cases h1 : l.length < k
  · have e1 : addB k l n = true := by unfold addB; rw [decide_eq_true h1]; rfl
    have e2 : addL k l n = ins nlt n l := by unfold addL; rw [List.take_of_length_le (by rw [ins_length]; omega)]
    rw [e1, e2]
    exact add4_few n T h1
  · have hl : l.length = k := by omega
    have stay : ∀ w', Below w.heap.size w w' → RefAt base (fun b => S b ∨ w.heap.size ≤ b) w' p k l ∧ Below base w w' ∧ Kept w w' S := fun w' hB => ⟨(T.below hB).mono (fun b hb => .inl hb), hB.mono hb, Kept.of_below hB S⟩
    by_cases hk : k = 0
    · subst hk
      have hl0 : l = [] := List.eq_nil_of_length_eq_zero hl
      subst hl0
      exact (add4_none n T rfl).mono fun e w' ⟨he, hB⟩ => ⟨he, stay w' hB⟩
    · cases hn : nlt n (at_ z30 l (l.length - 1)) with
      | false =>
        have e1 : addB k l n = false := by unfold addB; rw [decide_eq_false h1, hn]; simp
        have e2 : addL k l n = l := by
          have hs : Srt nlt l := by obtain ⟨_, T⟩ := T; exact T.srt
          unfold addL
          rw [ins_at l l.length (fun x hx => ?_) (by simp), ← hl]
          · simp
          · rw [List.take_length] at hx
            obtain ⟨i, hi, rfl⟩ := mem_at (z := z30) hx
            by_cases e : i = l.length - 1
            · subst e; exact hn
            · have := List.pairwise_iff_getElem.1 hs i (l.length - 1) hi (by omega) (by omega)
              rw [← at_eq l i hi, ← at_eq l (l.length - 1) (by omega)] at this
              exact nlt_sto.ntrans this hn
        rw [e1, e2]
        exact (add4_kept n T hl hk hn).mono fun e w' ⟨he, hB⟩ => ⟨he, stay w' hB⟩
      | true =>
        have e1 : addB k l n = true := by unfold addB; rw [decide_eq_true hk, hn]; simp
        rw [e1]
        exact add4_turns n T hl hk hn
end
end Go.Proofs.Ytbdkgdbfnkogaaa.R
