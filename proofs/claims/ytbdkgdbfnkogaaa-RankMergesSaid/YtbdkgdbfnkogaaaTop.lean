/-
  rank.New and a Top's Full, Len, Worst, by their contracts. Conditions: the Top lies as told (TopAt).
-/
import Derived.Test.YtbdkgdbfnkogaaaHeaps
namespace Go.Proofs.Ytbdkgdbfnkogaaa.R
open Go.Shelf Go.RowKit Go.Lib Go.Sort Go.Proofs.YtbdkgdbfnkogaaaW.PrintWords Go.Proofs.YtbdkgdbfnkogaaaW.PrintLast Go.Proofs.YtbdkgdbfnkogaaaW.PrintMore Go.Proofs.Ytbdkgdbfnkogaaa.Plain
set_option linter.unusedVariables false
set_option linter.unusedSimpArgs false

/-- A Top in memory: at block p, made from block base on, of the blocks S: it keeps k, and has kept l (in order). -/
structure TopIn (base : Nat) (S : Nat → Prop) (w : World) (p k : Nat) (l : List S30) (hv : Value) (h : List S30) : Prop where
  blk : w.heap[p]? = some (.cells #[.int .i64 k, hv] 83 (0, 0))
  low : base ≤ p
  mine : S p
  row : Kd.R k30 30 w base (fun b => S b ∧ b ≠ p) hv h
  heap : IsHeap nlt z30 h
  perm : h.Perm l
  srt : Srt nlt l
  len : l.length ≤ k
  most : k ≤ 16777216
def TopAt (base : Nat) (S : Nat → Prop) (w : World) (p k : Nat) (l : List S30) : Prop := ∃ hv h, TopIn base S w p k l hv h

theorem blk_cells {w : World} {p : Nat} {c : Array Value} {t : TypeId} (h : w.heap[p]? = some (.cells c t (0, 0))) (i : Nat) : w.cell? ⟨p, i, none⟩ = c[i]? ∧ w.frozen? ⟨p, i, none⟩ = false := by
  constructor
  · simp [World.cell?, h]
  · simp [World.frozen?, h]

section
variable {base : Nat} {S : Nat → Prop} {w : World} {p k : Nat} {l : List S30} {hv : Value} {h : List S30}
theorem TopIn.cells (T : TopIn base S w p k l hv h) : w.cell? ⟨p, 0, none⟩ = some (.int .i64 k) ∧ w.cell? ⟨p, 1, none⟩ = some hv ∧ w.frozen? ⟨p, 0, none⟩ = false ∧ w.frozen? ⟨p, 1, none⟩ = false :=
  ⟨(blk_cells T.blk 0).1, (blk_cells T.blk 1).1, (blk_cells T.blk 0).2, (blk_cells T.blk 1).2⟩
theorem TopIn.hlen (T : TopIn base S w p k l hv h) : h.length = l.length := T.perm.length_eq
end

theorem new_bad (k : Int) (w : World) (h : k < 0 ∨ 16777216 < k) : Calls Try.prog 12 #[.int .i64 k] w fun e w' => e = .returned (.tuple #[.pointer none, .int .i64 2]) ∧ ∃ n, w' = w.drewN n := by
  by_cases h0 : k < 0
  · have g0 : decide (k < 0) = true := decide_eq_true h0
    clear h h0
    go_enter Try.func12, Try.ntmps12
    go_wp2
    go_ret2
    exact ⟨rfl, 0, rfl⟩
  · have g0 : decide (k < 0) = false := decide_eq_false h0
    have g1 : decide (16777216 < k) = true := decide_eq_true (by omega)
    clear h h0
    go_enter Try.func12, Try.ntmps12
    go_wp2
    go_ret2
    exact ⟨rfl, 0, rfl⟩

theorem new_good (k : Nat) (w : World) (h : k ≤ 16777216) : Calls Try.prog 12 #[.int .i64 k] w fun e w' => e = .returned (.tuple #[.pointer (some ⟨w.heap.size, 0, none⟩), .int .i64 0]) ∧ w' = w.alloc (.cells #[.int .i64 k, .slice none 0 0] 83) := by
  have g0 : decide ((k : Int) < 0) = false := decide_eq_false (by omega)
  have g1 : decide ((16777216 : Int) < (k : Int)) = false := decide_eq_false (by omega)
  clear h
  go_enter Try.func12, Try.ntmps12
  go_wp2
  go_ret2
  exact ⟨rfl, rfl⟩

theorem TopAt.new (w : World) (k : Nat) (h : k ≤ 16777216) (base : Nat) (hb : base ≤ w.heap.size) : TopAt base (fun b => b = w.heap.size) (w.alloc (.cells #[.int .i64 k, .slice none 0 0] 83)) w.heap.size k [] :=
  ⟨.slice none 0 0, [], heap_alloc_new w _, hb, rfl, Kd.R_nil _ _ _ _ _, IsHeap.nil, List.Perm.refl _, List.Pairwise.nil, Nat.zero_le _, h⟩

section
variable {base : Nat} {S : Nat → Prop} {w : World} {p k : Nat} {l : List S30}
theorem full_any (T : TopAt base S w p k l) : Calls Try.prog 25 #[.pointer (some ⟨p, 0, none⟩)] w fun e w' => e = .returned (.bool (decide (l.length = k))) ∧ ∃ n, w' = w.drewN n := by
  obtain ⟨hv, h, T⟩ := T
  obtain ⟨A, c, rfl⟩ := Kd.R_slice T.row
  obtain ⟨c0, c1, f0, f1⟩ := T.cells
  have e : decide (l.length = k) = ((h.length : Int) == (k : Int)) := by
    rw [T.hlen]; rw [Bool.eq_iff_iff]; simp; omega
  rw [e]
  clear T e
  go_enter Try.func25, Try.ntmps25
  go_wp2
  go_quiet (fail)
  go_wp2
  go_ret
  exact ⟨by first | rfl | simp, _, rfl⟩
theorem len_any (T : TopAt base S w p k l) : Calls Try.prog 26 #[.pointer (some ⟨p, 0, none⟩)] w fun e w' => e = .returned (.int .i64 l.length) ∧ w' = w := by
  obtain ⟨hv, h, T⟩ := T
  obtain ⟨A, c, rfl⟩ := Kd.R_slice T.row
  obtain ⟨c0, c1, f0, f1⟩ := T.cells
  rw [← T.hlen]
  clear T
  go_enter Try.func26, Try.ntmps26
  go_wp2
  go_ret
  exact ⟨rfl, rfl⟩

/-- The last one kept, if k are. -/
def worstOf (k : Nat) (l : List S30) : S30 × Bool := if l.length = k ∧ k ≠ 0 then (at_ z30 l (l.length - 1), true) else (z30, false)

theorem TopIn.step {w1 : World} {hv : Value} {h : List S30} (T : TopIn base S w p k l hv h) (hm : ∀ b, S b → b < w.heap.size → w1.heap[b]? = w.heap[b]?) : TopIn base S w1 p k l hv h :=
  ⟨(hm p T.mine (Array.getElem?_eq_some_iff.1 T.blk).1).trans T.blk, T.low, T.mine, Kd.R_step T.row (fun b hb hlt => hm b hb.1 hlt), T.heap, T.perm, T.srt, T.len, T.most⟩
theorem TopAt.below {w1 : World} (T : TopAt base S w p k l) (hb : Below w.heap.size w w1) : TopAt base S w1 p k l := by
  obtain ⟨hv, h, T⟩ := T
  exact ⟨hv, h, T.step fun b _ hlt => hb.block b hlt⟩
theorem TopAt.kept {w1 : World} {S' : Nat → Prop} (T : TopAt base S w p k l) (hk : Kept w w1 S') (hd : ∀ b, S b → ¬ S' b) : TopAt base S w1 p k l := by
  obtain ⟨hv, h, T⟩ := T
  exact ⟨hv, h, T.step fun b hb hlt => hk.2 b hlt (hd b hb)⟩
theorem TopAt.mono {S' : Nat → Prop} (T : TopAt base S w p k l) (h : ∀ b, S b → S' b) : TopAt base S' w p k l := by
  obtain ⟨hv, hh, T⟩ := T
  exact ⟨hv, hh, T.blk, T.low, h _ T.mine, Kd.R_mono T.row (fun b hb => ⟨h b hb.1, hb.2⟩), T.heap, T.perm, T.srt, T.len, T.most⟩
/-- Its blocks are there, and were made since. -/
theorem TopAt.bound (T : TopAt base S w p k l) : TopAt base (fun b => S b ∧ base ≤ b ∧ b < w.heap.size) w p k l := by
  obtain ⟨hv, hh, T⟩ := T
  exact ⟨hv, hh, T.blk, T.low, ⟨T.mine, T.low, (Array.getElem?_eq_some_iff.1 T.blk).1⟩, Kd.R_mono (Kd.R_bound T.row) (fun b hb => ⟨⟨hb.1.1, hb.2.1, hb.2.2.1⟩, hb.1.2⟩), T.heap, T.perm, T.srt, T.len, T.most⟩

set_option maxHeartbeats 1000000 in
theorem worst_any (T : TopAt base S w p k l) : Calls Try.prog 13 #[.pointer (some ⟨p, 0, none⟩)] w fun e w' => e = .returned (.tuple #[.agg #[.int .i64 (worstOf k l).1.f0, .int .i64 (worstOf k l).1.f1], .bool (worstOf k l).2]) ∧ Below w.heap.size w w' := by
  have TS := T.below (below_alloc (Below.refl _ w) (.cells #[.int .i64 0, .int .i64 0] 30))
  have F0 := full_any TS
  obtain ⟨hv, h, T⟩ := T
  obtain ⟨A, c, rfl⟩ := Kd.R_slice T.row
  have HB := below_alloc (Below.refl _ w) (.cells #[.int .i64 0, .int .i64 0] 30)
  obtain ⟨c0, c1, f0, f1⟩ := (T.step (fun b _ hlt => HB.block b hlt)).cells
  by_cases hf : l.length = k
  · rw [decide_eq_true hf] at F0
    have F := Aside0.mk F0
    clear F0
    by_cases hk : k = 0
    · have e : worstOf k l = (z30, false) := by unfold worstOf; rw [if_neg (by simp [hk])]
      rw [e]
      have hk' : ((k : Int) == 0) = true := by rw [beq_iff_eq]; omega
      clear T TS e hf hk HB
      show Calls Try.prog 13 _ _ fun e w' => e = .returned (.tuple #[.agg #[.int .i64 0, .int .i64 0], .bool false]) ∧ _
      go_enter Try.func13, Try.ntmps13
      go_wp2_with fail
      refine F.out.mono ?_
      rintro e w' ⟨rfl, n, rfl⟩
      go_wp2
      refine bodyPost_ret (v := .tuple #[.agg #[.int .i64 0, .int .i64 0], .bool false]) (by simp [results, Try.results13, go_sem]) rfl ⟨rfl, ?_⟩
      (repeat (first | exact Below.refl _ _ | apply below_alloc | apply pw_below_drewN | apply below_drew | (refine Below.setCell ?_ (by simp) _)))
    · have e : worstOf k l = (at_ z30 l (l.length - 1), true) := by unfold worstOf; rw [if_pos ⟨hf, hk⟩]
      have hl : 0 < h.length := by rw [T.hlen]; omega
      have er : at_ z30 l (l.length - 1) = at_ z30 h 0 := (root_last nlt_sto T.heap T.srt T.perm (by omega)).symm
      obtain ⟨ad, rfl, g0, g1⟩ := at_T30 (Kd.R_reads' T.row).2.2 0 (by omega) (by omega)
      have x0 : rd_T30 h 0 = at_ z30 h 0 := rfl
      rw [e, er]
      rw [x0] at g0 g1
      generalize at_ z30 h 0 = x at g0 g1 ⊢
      have hk' : ((k : Int) == 0) = false := by rw [beq_eq_false_iff_ne]; omega
      obtain ⟨g, c2, eo, gb, _⟩ := Kd.R_form T.row hl
      injection eo with ea _ ec
      injection ea with ea
      subst ea
      have g0 := pw_cell_below HB g0
      have g1 := pw_cell_below HB g1
      rw [add_plain] at g0 g1
      have hlz : (0 : Int) < (h.length : Int) := by omega
      clear T TS e hf hk er x0 gb HB
      simp at g0 g1
      go_enter Try.func13, Try.ntmps13
      go_wp2_with fail
      refine F.out.mono ?_
      rintro e w' ⟨rfl, n, rfl⟩
      go_wp2
      refine bodyPost_ret (v := .tuple #[.agg #[.int .i64 x.f0, .int .i64 x.f1], .bool true]) (by simp [results, Try.results13, go_sem]) rfl ⟨rfl, ?_⟩
      (repeat (first | exact Below.refl _ _ | apply below_alloc | apply pw_below_drewN | apply below_drew | (refine Below.setCell ?_ (by simp) _)))
  · have e : worstOf k l = (z30, false) := by unfold worstOf; rw [if_neg (by simp [hf])]
    rw [e]
    rw [decide_eq_false hf] at F0
    have F := Aside0.mk F0
    clear F0 T TS e hf HB
    show Calls Try.prog 13 _ _ fun e w' => e = .returned (.tuple #[.agg #[.int .i64 0, .int .i64 0], .bool false]) ∧ _
    go_enter Try.func13, Try.ntmps13
    go_wp2_with fail
    refine F.out.mono ?_
    rintro e w' ⟨rfl, n, rfl⟩
    go_wp2
    refine bodyPost_ret (v := .tuple #[.agg #[.int .i64 0, .int .i64 0], .bool false]) (by simp [results, Try.results13, go_sem]) rfl ⟨rfl, ?_⟩
    (repeat (first | exact Below.refl _ _ | apply below_alloc | apply pw_below_drewN | apply below_drew | (refine Below.setCell ?_ (by simp) _)))
end
end Go.Proofs.Ytbdkgdbfnkogaaa.R
