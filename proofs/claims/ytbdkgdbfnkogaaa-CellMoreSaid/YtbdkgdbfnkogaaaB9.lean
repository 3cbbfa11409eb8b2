import Derived.Test.YtbdkgdbfnkogaaaB8
import Derived.Deep.RegionLaw
import Derived.Shelf.SlSortCmp.NoneTotal
import Derived.Ground.SlsfProg
import Derived.Test.YtbdkgdbfnkogaaaProg

section
/-
  rank.New and a Top's Full, Len, Worst, by their contracts. Conditions: the Top lies as told (TopAt). A Top's Add and List, by their contracts. Conditions: the Top lies as told (TopAt).
-/
namespace Go.Proofs.Ytbdkgdbfnkogaaa.R
open Go.Shelf Go.RowKit Go.Lib Go.Sort Go.Proofs.YtbdkgdbfnkogaaaW.PrintWords Go.Proofs.YtbdkgdbfnkogaaaW.PrintLast Go.Proofs.YtbdkgdbfnkogaaaW.PrintMore Go.Proofs.Ytbdkgdbfnkogaaa.Plain
set_option linter.unusedVariables false
set_option linter.unusedSimpArgs false

/-- A Top in memory: at block p, made from block base on, of the blocks S: it keeps k, and has kept l (in order). -/
structure TopIn (base : Nat) (S : Nat → Prop) (w : World) (p k : Nat) (l : List S30) (hv : Value) (h : List S30) : Prop where
  blk : w.heap[p]? = some (.cells #[.int .i64 k, hv] 83 (0, 0))
  low : base ≤ p
  mine : S p
  row : Kd.R k30 30 w base (fun b => S b ∧ b ≠ p) hv h
  heap : IsHeap nlt z30 h
  perm : h.Perm l
  srt : Srt nlt l
  len : l.length ≤ k
  most : k ≤ 16777216
def TopAt (base : Nat) (S : Nat → Prop) (w : World) (p k : Nat) (l : List S30) : Prop := ∃ hv h, TopIn base S w p k l hv h

theorem blk_cells {w : World} {p : Nat} {c : Array Value} {t : TypeId} (h : w.heap[p]? = some (.cells c t (0, 0))) (i : Nat) : w.cell? ⟨p, i, none⟩ = c[i]? ∧ w.frozen? ⟨p, i, none⟩ = false := by
  constructor
  · simp [World.cell?, h]
  · simp [World.frozen?, h]

section
variable {base : Nat} {S : Nat → Prop} {w : World} {p k : Nat} {l : List S30} {hv : Value} {h : List S30}
theorem TopIn.cells (T : TopIn base S w p k l hv h) : w.cell? ⟨p, 0, none⟩ = some (.int .i64 k) ∧ w.cell? ⟨p, 1, none⟩ = some hv ∧ w.frozen? ⟨p, 0, none⟩ = false ∧ w.frozen? ⟨p, 1, none⟩ = false :=
  ⟨(blk_cells T.blk 0).1, (blk_cells T.blk 1).1, (blk_cells T.blk 0).2, (blk_cells T.blk 1).2⟩
theorem TopIn.hlen (T : TopIn base S w p k l hv h) : h.length = l.length := T.perm.length_eq
end

theorem new_bad (k : Int) (w : World) (h : k < 0 ∨ 16777216 < k) : Calls Try.prog 12 #[.int .i64 k] w fun e w' => e = .returned (.tuple #[.pointer none, .int .i64 2]) ∧ ∃ n, w' = w.drewN n := by
  by_cases h0 : k < 0
  · have g0 : decide (k < 0) = true := decide_eq_true h0
    clear h h0
    go_enter Try.func12, Try.ntmps12
    go_wp2
    go_ret2
    exact ⟨rfl, 0, rfl⟩
  · have g0 : decide (k < 0) = false := decide_eq_false h0
    have g1 : decide (16777216 < k) = true := decide_eq_true (by omega)
    clear h h0
    go_enter Try.func12, Try.ntmps12
    go_wp2
    go_ret2
    exact ⟨rfl, 0, rfl⟩

theorem new_good (k : Nat) (w : World) (h : k ≤ 16777216) : Calls Try.prog 12 #[.int .i64 k] w fun e w' => e = .returned (.tuple #[.pointer (some ⟨w.heap.size, 0, none⟩), .int .i64 0]) ∧ w' = w.alloc (.cells #[.int .i64 k, .slice none 0 0] 83) := by
  have g0 : decide ((k : Int) < 0) = false := decide_eq_false (by omega)
  have g1 : decide ((16777216 : Int) < (k : Int)) = false := decide_eq_false (by omega)
  clear h
  go_enter Try.func12, Try.ntmps12
  go_wp2
  go_ret2
  exact ⟨rfl, rfl⟩

theorem TopAt.new (w : World) (k : Nat) (h : k ≤ 16777216) (base : Nat) (hb : base ≤ w.heap.size) : TopAt base (fun b => b = w.heap.size) (w.alloc (.cells #[.int .i64 k, .slice none 0 0] 83)) w.heap.size k [] :=
  ⟨.slice none 0 0, [], heap_alloc_new w _, hb, rfl, Kd.R_nil _ _ _ _ _, IsHeap.nil, List.Perm.refl _, List.Pairwise.nil, Nat.zero_le _, h⟩

section
variable {base : Nat} {S : Nat → Prop} {w : World} {p k : Nat} {l : List S30}
theorem full_any (T : TopAt base S w p k l) : Calls Try.prog 25 #[.pointer (some ⟨p, 0, none⟩)] w fun e w' => e = .returned (.bool (decide (l.length = k))) ∧ ∃ n, w' = w.drewN n := by
  obtain ⟨hv, h, T⟩ := T
  obtain ⟨A, c, rfl⟩ := Kd.R_slice T.row
  obtain ⟨c0, c1, f0, f1⟩ := T.cells
  have e : decide (l.length = k) = ((h.length : Int) == (k : Int)) := by
    rw [T.hlen]; rw [Bool.eq_iff_iff]; simp; omega
  rw [e]
  clear T e
  go_enter Try.func25, Try.ntmps25
  go_wp2
  go_quiet (fail)
  go_wp2
  go_ret
  exact ⟨by first | rfl | simp, _, rfl⟩
theorem len_any (T : TopAt base S w p k l) : Calls Try.prog 26 #[.pointer (some ⟨p, 0, none⟩)] w fun e w' => e = .returned (.int .i64 l.length) ∧ w' = w := by
  obtain ⟨hv, h, T⟩ := T
  obtain ⟨A, c, rfl⟩ := Kd.R_slice T.row
  obtain ⟨c0, c1, f0, f1⟩ := T.cells
  rw [← T.hlen]
  clear T
  go_enter Try.func26, Try.ntmps26
  go_wp2
  go_ret
  exact ⟨rfl, rfl⟩

/-- The last one kept, if k are. -/
def worstOf (k : Nat) (l : List S30) : S30 × Bool := if l.length = k ∧ k ≠ 0 then (at_ z30 l (l.length - 1), true) else (z30, false)

theorem TopIn.step {w1 : World} {hv : Value} {h : List S30} (T : TopIn base S w p k l hv h) (hm : ∀ b, S b → b < w.heap.size → w1.heap[b]? = w.heap[b]?) : TopIn base S w1 p k l hv h :=
  ⟨(hm p T.mine (Array.getElem?_eq_some_iff.1 T.blk).1).trans T.blk, T.low, T.mine, Kd.R_step T.row (fun b hb hlt => hm b hb.1 hlt), T.heap, T.perm, T.srt, T.len, T.most⟩
theorem TopAt.below {w1 : World} (T : TopAt base S w p k l) (hb : Below w.heap.size w w1) : TopAt base S w1 p k l := by
  obtain ⟨hv, h, T⟩ := T
  exact ⟨hv, h, T.step fun b _ hlt => hb.block b hlt⟩
theorem TopAt.kept {w1 : World} {S' : Nat → Prop} (T : TopAt base S w p k l) (hk : Kept w w1 S') (hd : ∀ b, S b → ¬ S' b) : TopAt base S w1 p k l := by
  obtain ⟨hv, h, T⟩ := T
  exact ⟨hv, h, T.step fun b hb hlt => hk.2 b hlt (hd b hb)⟩
theorem TopAt.mono {S' : Nat → Prop} (T : TopAt base S w p k l) (h : ∀ b, S b → S' b) : TopAt base S' w p k l := by
  obtain ⟨hv, hh, T⟩ := T
  exact ⟨hv, hh, T.blk, T.low, h _ T.mine, Kd.R_mono T.row (fun b hb => ⟨h b hb.1, hb.2⟩), T.heap, T.perm, T.srt, T.len, T.most⟩
/-- Its blocks are there, and were made since. -/
theorem TopAt.bound (T : TopAt base S w p k l) : TopAt base (fun b => S b ∧ base ≤ b ∧ b < w.heap.size) w p k l := by
  obtain ⟨hv, hh, T⟩ := T
  exact ⟨hv, hh, T.blk, T.low, ⟨T.mine, T.low, (Array.getElem?_eq_some_iff.1 T.blk).1⟩, Kd.R_mono (Kd.R_bound T.row) (fun b hb => ⟨⟨hb.1.1, hb.2.1, hb.2.2.1⟩, hb.1.2⟩), T.heap, T.perm, T.srt, T.len, T.most⟩

set_option maxHeartbeats 1000000 in
theorem worst_any (T : TopAt base S w p k l) : Calls Try.prog 13 #[.pointer (some ⟨p, 0, none⟩)] w fun e w' => e = .returned (.tuple #[.agg #[.int .i64 (worstOf k l).1.f0, .int .i64 (worstOf k l).1.f1], .bool (worstOf k l).2]) ∧ Below w.heap.size w w' := by
  have TS := T.below (below_alloc (Below.refl _ w) (.cells #[.int .i64 0, .int .i64 0] 30))
  have F0 := full_any TS
  obtain ⟨hv, h, T⟩ := T
  obtain ⟨A, c, rfl⟩ := Kd.R_slice T.row
  have HB := below_alloc (Below.refl _ w) (.cells #[.int .i64 0, .int .i64 0] 30)
  obtain ⟨c0, c1, f0, f1⟩ := (T.step (fun b _ hlt => HB.block b hlt)).cells
  by_cases hf : l.length = k
  · rw [decide_eq_true hf] at F0
    have F := Aside0.mk F0
    clear F0
    by_cases hk : k = 0
    · have e : worstOf k l = (z30, false) := by unfold worstOf; rw [if_neg (by simp [hk])]
      rw [e]
      have hk' : ((k : Int) == 0) = true := by rw [beq_iff_eq]; omega
      clear T TS e hf hk HB
      show Calls Try.prog 13 _ _ fun e w' => e = .returned (.tuple #[.agg #[.int .i64 0, .int .i64 0], .bool false]) ∧ _
      go_enter Try.func13, Try.ntmps13
      go_wp2_with fail
      refine F.out.mono ?_
      rintro e w' ⟨rfl, n, rfl⟩
      go_wp2
      refine bodyPost_ret (v := .tuple #[.agg #[.int .i64 0, .int .i64 0], .bool false]) (by simp [results, Try.results13, go_sem]) rfl ⟨rfl, ?_⟩
      (repeat (first | exact Below.refl _ _ | apply below_alloc | apply pw_below_drewN | apply below_drew | (refine Below.setCell ?_ (by simp) _)))
    · have e : worstOf k l = (at_ z30 l (l.length - 1), true) := by unfold worstOf; rw [if_pos ⟨hf, hk⟩]
      have hl : 0 < h.length := by rw [T.hlen]; omega
      have er : at_ z30 l (l.length - 1) = at_ z30 h 0 := (root_last nlt_sto T.heap T.srt T.perm (by omega)).symm
      obtain ⟨ad, rfl, g0, g1⟩ := at_T30 (Kd.R_reads' T.row).2.2 0 (by omega) (by omega)
      have x0 : rd_T30 h 0 = at_ z30 h 0 := rfl
      rw [e, er]
      rw [x0] at g0 g1
      generalize at_ z30 h 0 = x at g0 g1 ⊢
      have hk' : ((k : Int) == 0) = false := by rw [beq_eq_false_iff_ne]; omega
      obtain ⟨g, c2, eo, gb, _⟩ := Kd.R_form T.row hl
      injection eo with ea _ ec
      injection ea with ea
      subst ea
      have g0 := pw_cell_below HB g0
      have g1 := pw_cell_below HB g1
      rw [add_plain] at g0 g1
      have hlz : (0 : Int) < (h.length : Int) := by omega
      clear T TS e hf hk er x0 gb HB
      simp at g0 g1
      go_enter Try.func13, Try.ntmps13
      go_wp2_with fail
      refine F.out.mono ?_
      rintro e w' ⟨rfl, n, rfl⟩
      go_wp2
      refine bodyPost_ret (v := .tuple #[.agg #[.int .i64 x.f0, .int .i64 x.f1], .bool true]) (by simp [results, Try.results13, go_sem]) rfl ⟨rfl, ?_⟩
      (repeat (first | exact Below.refl _ _ | apply below_alloc | apply pw_below_drewN | apply below_drew | (refine Below.setCell ?_ (by simp) _)))
  · have e : worstOf k l = (z30, false) := by unfold worstOf; rw [if_neg (by simp [hf])]
    rw [e]
    rw [decide_eq_false hf] at F0
    have F := Aside0.mk F0
    clear F0 T TS e hf HB
    show Calls Try.prog 13 _ _ fun e w' => e = .returned (.tuple #[.agg #[.int .i64 0, .int .i64 0], .bool false]) ∧ _
    go_enter Try.func13, Try.ntmps13
    go_wp2_with fail
    refine F.out.mono ?_
    rintro e w' ⟨rfl, n, rfl⟩
    go_wp2
    refine bodyPost_ret (v := .tuple #[.agg #[.int .i64 0, .int .i64 0], .bool false]) (by simp [results, Try.results13, go_sem]) rfl ⟨rfl, ?_⟩
    (repeat (first | exact Below.refl _ _ | apply below_alloc | apply pw_below_drewN | apply below_drew | (refine Below.setCell ?_ (by simp) _)))
end
end Go.Proofs.Ytbdkgdbfnkogaaa.R

namespace Go.Proofs.Ytbdkgdbfnkogaaa.R
open Go.Shelf Go.RowKit Go.Lib Go.Sort Go.Proofs.YtbdkgdbfnkogaaaW.PrintWords Go.Proofs.YtbdkgdbfnkogaaaW.PrintLast Go.Proofs.YtbdkgdbfnkogaaaW.PrintMore Go.Proofs.Ytbdkgdbfnkogaaa.Plain
set_option linter.unusedVariables false
set_option linter.unusedSimpArgs false

/-- append of one element, as a step of a region that draws, at a world that reads as told. -/
theorem R_append_at {P : Program} {ops : Array Oper} {o : Oper} {a : Act} {Q : Exit → Act → World → Prop} {Kc : Act → World → Prop} {α : Type} {E : Prop} (d : Kd α) {w0 W W2 : World} (base : Nat) (hgd : o.guard = none) (s x : Operand) (t e : TypeId) (z : Value) (bytes : Nat)
    (ho : o.op = .call { callee := .builtin .append, args := #[s, x], argTypes := #[t, t] })
    (ht : P.underlying t = some (.slice e)) (hinfo : (P.info? e).map (fun i => (i.zero, i.size, i.bytes)) = some (some z, d.sz, bytes)) (hz : z.cells.size = d.sz) (hs0 : 0 < d.sz) (hb0 : 0 < bytes)
    (v : Value) (xs : List α) (p : α) (cs : List Value) (ok okp : Nat → Prop) (hs : a.eval s = v) (hW2 : W2 = W.alloc (.cells cs.toArray e)) (hx : a.eval x = .slice (some ⟨W.heap.size, 0, none⟩) 1 1) (hp : d.M W base okp p cs) (hokp : ∀ k, okp k → ok k ∧ some k ≠ v.ownBlock) (hfresh : ∀ k, W.heap.size ≤ k → ok k)
    (HO : d.R e W base ok v xs) (HB : Below base w0 W) (hbase : base ≤ W.heap.size) (hl : (xs.length + 1) * bytes ≤ 140737488355328)
    (h : ∀ v1 w1, d.R e w1 base ok v1 (xs ++ [p]) → Below base w0 w1 → W.grownBy w1 v.ownBlock → (v1.ownBlock = v.ownBlock ∨ ∃ b, v1.ownBlock = some b ∧ W.heap.size ≤ b) → Kc (a.put o.dst v1) w1) :
    if Region.wanted o (yielded ops a.tmps) = true then Oper.wp P o a W2 Kc Q else E := by
  subst hW2
  have hw : Region.wanted o (yielded ops a.tmps) = true := by simp [Region.wanted, hgd]
  have := Kd.R_append_step (P := P) (ops := ops) (o := o) (a := a) (Q := Q) (Kc := Kc) d base hw s x t e z bytes ho ht hinfo hz hs0 hb0 v xs p cs ok okp hs hx hp hokp hfresh HO HB hbase hl h
  rw [if_pos hw] at this ⊢
  exact this

theorem plain30 : Plainly k30 enc30 where
  sz _ := rfl
  one x v hv := by simp [enc30] at hv; rcases hv with rfl | rfl <;> rfl
  pos := by decide
  K h := k30_open h
  M w base ok x := k30_mkM w base ok x

/-- The field h of a Top is stored. -/
theorem set_field {w : World} {p : Nat} {k : Int} {v : Value} (hb : w.heap[p]? = some (.cells #[.int .i64 k, v] 83 (0, 0))) (u : Value) : (w.setCell ⟨p, 1, none⟩ u).heap[p]? = some (.cells #[.int .i64 k, u] 83 (0, 0)) := by
  simp [World.setCell, Array.getElem?_modify, hb]

section
variable {base : Nat} {S : Nat → Prop} {w : World} {p k : Nat} {l : List S30}
set_option maxHeartbeats 4000000 in
set_option maxRecDepth 100000 in
theorem add_few (n : S30) (T : TopAt base S w p k l) (hl : l.length < k) :
    Calls Try.prog 14 #[.pointer (some ⟨p, 0, none⟩), .agg #[.int .i64 n.f0, .int .i64 n.f1]] w fun e w' => e = .returned (.tuple #[.bool true, .int .i64 0]) ∧ TopAt base (fun b => S b ∨ w.heap.size ≤ b) w' p k (ins nlt n l) ∧ Below base w w' ∧ Kept w w' S := by
  have HW := below_alloc (Below.refl _ w) (.cells #[.int .i64 n.f0, .int .i64 n.f1] 30)
  have hsz : (w.alloc (.cells #[.int .i64 n.f0, .int .i64 n.f1] 30)).heap.size = w.heap.size + 1 := by simp
  have b0 : (w.alloc (.cells #[.int .i64 n.f0, .int .i64 n.f1] 30)).cell? ⟨w.heap.size, 0, none⟩ = some (.int .i64 n.f0) := by simp
  have b1 : (w.alloc (.cells #[.int .i64 n.f0, .int .i64 n.f1] 30)).cell? ⟨w.heap.size, 1, none⟩ = some (.int .i64 n.f1) := by simp
  have hp : p < w.heap.size := by obtain ⟨_, _, T⟩ := T; exact (Array.getElem?_eq_some_iff.1 T.blk).1
  obtain ⟨hv, h, T⟩ := T.below HW
  go_enter Try.func14, Try.ntmps14
  go_wp2
  generalize w.alloc (.cells #[.int .i64 n.f0, .int .i64 n.f1] 30) = W at T HW b0 b1 hsz ⊢
  obtain ⟨A, c, rfl⟩ := Kd.R_slice T.row
  obtain ⟨c0, c1, f0, f1⟩ := T.cells
  have hd' : decide ((h.length : Int) < (k : Int)) = true := decide_eq_true (by rw [T.hlen]; omega)
  have hd : decide (h.length < k) = true := decide_eq_true (by rw [T.hlen]; exact hl)
  have T0 := Aside0.mk T
  have HS := Aside0.mk hsz
  have HW0 := Aside0.mk HW
  have HL := Aside0.mk hl
  clear T hl HW hsz
  go_quiet (fail)
  go_wp2_with fail
  have T1 : Aside0 (TopIn base S (W.drewN nq) p k l (.slice A h.length c) h) := ⟨T0.out.step fun b _ hlt => rfl⟩
  have HW1 := Aside0.mk (pw_below_drewN HW0.out nq)
  have HS1 : Aside0 ((W.drewN nq).heap.size = w.heap.size + 1) := ⟨HS.out⟩
  replace c1 : (W.drewN nq).cell? ⟨p, 1, none⟩ = some (.slice A h.length c) := c1
  replace b0 : (W.drewN nq).cell? ⟨w.heap.size, 0, none⟩ = some (.int .i64 n.f0) := b0
  replace b1 : (W.drewN nq).cell? ⟨w.heap.size, 1, none⟩ = some (.int .i64 n.f1) := b1
  clear T0 HW0 HS c0 f0 f1 hd hd'
  generalize W.drewN nq = W1 at T1 HW1 HS1 c1 b0 b1 ⊢
  clear W nq
  have HP := Aside0.mk hp
  have NE : Aside0 (some p ≠ (Value.slice A h.length c).ownBlock) := ⟨fun e => (T1.out.row.1 p e.symm).2 rfl⟩
  have PB : Aside0 (W1.drew.heap[p]? = some (.cells #[.int .i64 k, .slice A h.length c] 83 (0, 0))) := ⟨T1.out.blk⟩
  have c1a := pw_cell_below (below_alloc (Below.refl _ W1) (.cells #[.int .i64 n.f0, .int .i64 n.f1] 30)) c1
  go_region_law (first | (refine R_append_at k30 (w0 := W1.drew) (W := W1.drew) base (by rfl) (.tmp 35) (.tmp 37) 81 30 (.agg #[.int .i64 0, .int .i64 0]) 16 (by rfl) Try.underlying81 info30 rfl (by decide) (by decide) (.slice A h.length c) h n [.int .i64 n.f0, .int .i64 n.f1] (fun b => (S b ∨ w.heap.size ≤ b) ∧ b ≠ p) (fun _ => False) (by rfl) (by rfl) (by rfl) (k30_mkM _ _ _ n) (fun _ hk => hk.elim) (fun b hb => ⟨.inr (by have := HS1.out; simp at hb; omega), by have := HS1.out; have := HP.out; simp at hb; omega⟩) (Kd.R_mono (Kd.R_drew T1.out.row) (fun b hb => ⟨.inl hb.1, hb.2⟩)) (Below.refl _ _) (by have := HS1.out; have := T1.out.low; have := HP.out; simp; omega) (by have := T1.out.hlen; have := T1.out.len; have := T1.out.most; omega) ?_; intro v1 w1 hR1 hB1 hg1 hat1; obtain ⟨A1, cp1, rfl⟩ := Kd.R_slice hR1; have pb1 : w1.heap[p]? = some (.cells #[.int .i64 k, .slice A h.length c] 83 (0, 0)) := (hg1.block p (Array.getElem?_eq_some_iff.1 PB.out).1 NE.out).trans PB.out; have d1 := (blk_cells pb1 1).1; have d2 := (blk_cells pb1 1).2; simp at d1))
  all_goals
    have q1 : Aside0 ((w1.setCell ⟨p, 1, none⟩ (.slice A1 (h.length + 1) cp1)).heap[p]? = some (.cells #[.int .i64 k, .slice A1 (h.length + 1) cp1] 83 (0, 0))) := ⟨set_field pb1 _⟩
    have hRl : (h ++ [n]).length = h.length + 1 := by simp
    rw [hRl] at hR1 hat1
    have q2 : Aside0 (Kd.R k30 30 (w1.setCell ⟨p, 1, none⟩ (.slice A1 (h.length + 1) cp1)) base (fun b => (S b ∨ w.heap.size ≤ b) ∧ b ≠ p) (.slice A1 (h.length + 1) cp1) (h ++ [n])) := ⟨Kd.R_far hR1 (p := ⟨p, 1, none⟩) (fun b hb => hb.2) _⟩
    have q3 : Aside0 (Below base w (w1.setCell ⟨p, 1, none⟩ (.slice A1 (h.length + 1) cp1))) := ⟨((HW1.out.mono (by have := T1.out.low; have := HP.out; omega)).trans (⟨hB1.os, hB1.tape, hB1.output, hB1.size, hB1.block⟩ : Below base W1 w1)).setCell T1.out.low _⟩
    have q4 : Aside0 (Kept w (w1.setCell ⟨p, 1, none⟩ (.slice A1 (h.length + 1) cp1)) S) := ⟨Kept.setCell (Kept.of_grown (W := W1) (W2 := w1) ⟨hg1.os, hg1.tape, hg1.output, hg1.size, hg1.block⟩ (Kept.of_below HW1.out S) (fun b hb => .inl (T1.out.row.1 b hb).1)) (.inl T1.out.mine) _⟩
    clear hR1 hB1 hg1 hat1 pb1 d1 d2 c1a c1 b0 b1 PB NE
    generalize w1.setCell ⟨p, 1, none⟩ (.slice A1 (h.length + 1) cp1) = w2 at q1 q2 q3 q4 ⊢
    obtain ⟨g, cap, eo, gb, gl, _⟩ := Kd.R_form q2.out (by rw [hRl]; omega)
    rw [hRl] at eo
    injection eo with eo1 _ eo3
    subst eo1
    subst eo3
    have e1 := (blk_cells q1.out 1).1
    have hUp := up_any g 0 cp1 (h ++ [n]).toArray (h ++ [n]).toArray w2 w2 (rowK_of_R plain30 (by rw [hRl]; exact q2.out)) rfl (SWK.start (holds_of_R plain30 (by rw [hRl]; exact q2.out))) (by have := T1.out.hlen; have := T1.out.len; have := T1.out.most; simp; omega) (by simp) (by
      have := UpInv.start (x := n) T1.out.heap
      simpa using this)
    have hsz : (h ++ [n]).toArray.size = h.length + 1 := by simp
    rw [hsz] at hUp
    have HU := Aside0.mk hUp
    clear hUp hRl
    simp at e1
    go_wp2_with fail
    refine HU.out.mono ?_
    rintro e w3 ⟨rfl, d', hs', hp', hh', S3⟩
    have S3 := Aside0.mk S3
    have HH := Aside0.mk hh'
    have HP' := Aside0.mk hp'
    have HS' := Aside0.mk hs'
    clear hh' hp' hs' hsz HU e1
    go_wp2
    go_ret2
    refine ⟨rfl, ⟨.slice (some ⟨g, 0, none⟩) (h.length + 1) cp1, d'.toList, ?_⟩, ?_, ?_⟩
    · have hne : p ≠ g := fun e => (q2.out.1 g rfl).2 e.symm
      have hpl : p < w2.heap.size := (Array.getElem?_eq_some_iff.1 q1.out).1
      have hl2 : (ins nlt n l).length = l.length + 1 := ins_length n l
      exact ⟨((swk_heap S3.out gl).2.2.2.2.1 p hpl hne).trans q1.out, T1.out.low, .inl T1.out.mine, R_of_swk plain30 (by simp) q2.out (by simpa using HS'.out) S3.out, HH.out, HP'.out.trans ((List.perm_append_comm (l₁ := h) (l₂ := [n])).trans ((T1.out.perm.cons n).trans (ins_perm n l).symm)), ins_srt nlt_sto n T1.out.srt, by have := HL.out; omega, T1.out.most⟩
    · exact q3.out.trans (below_of_swk S3.out gl gb)
    · exact q4.out.then_ (kept_of_swk S3.out gl) (fun b hb => by subst hb; rcases (q2.out.1 b rfl).1 with h | h; exact .inl h; exact .inr h)

theorem add_skip (W : World) (hv : Value) (h : List S30) (n : S30) (T : TopIn base S W p k l hv h) (hl : l.length = k) (hn : nlt n (at_ z30 l (l.length - 1)) = false) : (ins nlt n l).take k = l := by
  have : ∀ l : List S30, (∀ x ∈ l, nlt n x = false) → ins nlt n l = l ++ [n] := by
    intro l
    induction l with
    | nil => intro _; rfl
    | cons y l ih =>
      intro hx
      unfold ins
      rw [if_neg (by rw [hx y List.mem_cons_self]; decide), ih (fun x h => hx x (List.mem_cons_of_mem _ h))]
      rfl
  rw [this l (fun x hx => ?_), ← hl]
  · simp
  · obtain ⟨i, hi, rfl⟩ := mem_at (z := z30) hx
    by_cases e : i = l.length - 1
    · subst e; exact hn
    · have := List.pairwise_iff_getElem.1 T.srt i (l.length - 1) hi (by omega) (by omega)
      have e1 : at_ z30 l (l.length - 1) = l[l.length - 1] := by unfold at_; rw [List.getD_eq_getElem?_getD, List.getElem?_eq_getElem (by omega)]; rfl
      have e2 : at_ z30 l i = l[i] := by unfold at_; rw [List.getD_eq_getElem?_getD, List.getElem?_eq_getElem hi]; rfl
      rw [← e1, ← e2] at this
      exact nlt_sto.ntrans this hn

set_option maxHeartbeats 4000000 in
set_option maxRecDepth 100000 in
theorem add_none (n : S30) (T : TopAt base S w p 0 l) :
    Calls Try.prog 14 #[.pointer (some ⟨p, 0, none⟩), .agg #[.int .i64 n.f0, .int .i64 n.f1]] w fun e w' => e = .returned (.tuple #[.bool false, .int .i64 0]) ∧ Below w.heap.size w w' := by
  have HW := below_alloc (Below.refl _ w) (.cells #[.int .i64 n.f0, .int .i64 n.f1] 30)
  obtain ⟨hv, h, T⟩ := T.below HW
  go_enter Try.func14, Try.ntmps14
  go_wp2
  generalize w.alloc (.cells #[.int .i64 n.f0, .int .i64 n.f1] 30) = W at T HW ⊢
  obtain ⟨A, c, rfl⟩ := Kd.R_slice T.row
  obtain ⟨c0, c1, f0, f1⟩ := T.cells
  have hd' : decide ((h.length : Int) < (0 : Int)) = false := decide_eq_false (by omega)
  have HW0 := Aside0.mk HW
  clear T HW
  go_quiet (fail)
  go_wp2_with fail
  go_big_region
  go_wp2
  go_ret2
  exact ⟨rfl, pw_below_drewN HW0.out _⟩

set_option maxHeartbeats 4000000 in
set_option maxRecDepth 100000 in
theorem add_kept (n : S30) (T : TopAt base S w p k l) (hl : l.length = k) (hk : k ≠ 0) (hn : nlt n (at_ z30 l (l.length - 1)) = false) :
    Calls Try.prog 14 #[.pointer (some ⟨p, 0, none⟩), .agg #[.int .i64 n.f0, .int .i64 n.f1]] w fun e w' => e = .returned (.tuple #[.bool false, .int .i64 0]) ∧ Below w.heap.size w w' := by
  have HW := below_alloc (Below.refl _ w) (.cells #[.int .i64 n.f0, .int .i64 n.f1] 30)
  have hsz : (w.alloc (.cells #[.int .i64 n.f0, .int .i64 n.f1] 30)).heap.size = w.heap.size + 1 := by simp
  have b0 : (w.alloc (.cells #[.int .i64 n.f0, .int .i64 n.f1] 30)).cell? ⟨w.heap.size, 0, none⟩ = some (.int .i64 n.f0) := by simp
  have b1 : (w.alloc (.cells #[.int .i64 n.f0, .int .i64 n.f1] 30)).cell? ⟨w.heap.size, 1, none⟩ = some (.int .i64 n.f1) := by simp
  have hp : p < w.heap.size := by obtain ⟨_, _, T⟩ := T; exact (Array.getElem?_eq_some_iff.1 T.blk).1
  obtain ⟨hv, h, T⟩ := T.below HW
  go_enter Try.func14, Try.ntmps14
  go_wp2
  generalize w.alloc (.cells #[.int .i64 n.f0, .int .i64 n.f1] 30) = W at T HW b0 b1 hsz ⊢
  have hlen : 0 < h.length := by rw [T.hlen]; omega
  obtain ⟨g, c, rfl, gb, gl, hcell⟩ := Kd.R_form T.row hlen
  clear hcell
  obtain ⟨c0, c1, f0, f1⟩ := T.cells
  have er : at_ z30 l (l.length - 1) = at_ z30 h 0 := (root_last nlt_sto T.heap T.srt T.perm (by omega)).symm
  rw [er] at hn
  obtain ⟨ad, ea, g0, g1⟩ := at_T30 (Kd.R_reads' T.row).2.2 0 (by omega) (by omega)
  injection ea with ea
  subst ea
  have x0 : rd_T30 h 0 = at_ z30 h 0 := rfl
  rw [x0] at g0 g1
  rw [add_plain] at g0 g1
  have hd' : decide ((h.length : Int) < (k : Int)) = false := decide_eq_false (by rw [T.hlen]; omega)
  have hd : decide (h.length < k) = false := decide_eq_false (by rw [T.hlen]; omega)
  have hk' : ((k : Int) == 0) = false := by rw [beq_eq_false_iff_ne]; omega
  have hlz : (0 : Int) < (h.length : Int) := by omega
  have hx := less_any n (at_ z30 h 0)
  rw [hn] at hx
  have X0 : Aside0 (∃ x, x = at_ z30 h 0) := ⟨_, rfl⟩
  obtain ⟨x, hxe⟩ := X0.out
  rw [← hxe] at g0 g1 hx
  have HXE := Aside0.mk hxe
  simp at g0 g1
  have T0 := Aside0.mk T
  have HS := Aside0.mk hsz
  have HW0 := Aside0.mk HW
  have HN := Aside0.mk hn
  have HLK := Aside0.mk hl
  have HK0 := Aside0.mk hk
  have HX := Aside0.mk hx
  clear T hl HW hsz hn er x0 hk hx hxe X0
  go_quiet (fail)
  go_wp2_with fail
  have T1 : Aside0 (TopIn base S (W.drewN nq) p k l (.slice (some ⟨g, 0, none⟩) h.length c) h) := ⟨T0.out.step fun b _ hlt => rfl⟩
  have HW1 := Aside0.mk (pw_below_drewN HW0.out nq)
  have HS1 : Aside0 ((W.drewN nq).heap.size = w.heap.size + 1) := ⟨HS.out⟩
  have GL : Aside0 (g < (W.drewN nq).heap.size) := ⟨gl⟩
  replace c0 : (W.drewN nq).cell? ⟨p, 0, none⟩ = some (.int .i64 k) := c0
  replace c1 : (W.drewN nq).cell? ⟨p, 1, none⟩ = some (.slice (some ⟨g, 0, none⟩) h.length c) := c1
  replace b0 : (W.drewN nq).cell? ⟨w.heap.size, 0, none⟩ = some (.int .i64 n.f0) := b0
  replace b1 : (W.drewN nq).cell? ⟨w.heap.size, 1, none⟩ = some (.int .i64 n.f1) := b1
  replace g0 : (W.drewN nq).cell? ⟨g, 0, none⟩ = some (.int .i64 x.f0) := g0
  replace g1 : (W.drewN nq).cell? ⟨g, 1, none⟩ = some (.int .i64 x.f1) := g1
  clear T0 HW0 HS f0 f1 gl
  generalize W.drewN nq = W1 at T1 HW1 HS1 c0 c1 b0 b1 g0 g1 GL ⊢
  clear W nq
  have hpW : p < W1.heap.size := by have := HS1.out; omega
  have hbW : w.heap.size < W1.heap.size := by have := HS1.out; omega
  have hgW : g < W1.heap.size := GL.out
  have k0 := fun (nn : Nat) (os : Array Obj) => cell_grown (a := ⟨p, 0, none⟩) hpW c0 nn os
  have k1 := fun (nn : Nat) (os : Array Obj) => cell_grown (a := ⟨p, 1, none⟩) hpW c1 nn os
  have k2 := fun (nn : Nat) (os : Array Obj) => cell_grown (a := ⟨w.heap.size, 0, none⟩) hbW b0 nn os
  have k3 := fun (nn : Nat) (os : Array Obj) => cell_grown (a := ⟨w.heap.size, 1, none⟩) hbW b1 nn os
  have k4 := fun (nn : Nat) (os : Array Obj) => cell_grown (a := ⟨g, 0, none⟩) hgW g0 nn os
  have k5 := fun (nn : Nat) (os : Array Obj) => cell_grown (a := ⟨g, 1, none⟩) hgW g1 nn os
  have hc := fun (nn : Nat) (os : Array Obj) => HX.out (grow (W1.drewN nn) os)
  have mixed : Try.prog.follows .mixedOrders = true := by kernel_rfl
  go_quiet_grown (first | (go_at_call 15; refine Calls.grown_of (hc _ _)))
  clear k0 k1 k2 k3 k4 k5 hc
  go_wp2
  go_ret2
  refine ⟨rfl, ?_⟩
  exact ⟨HW1.out.os, HW1.out.tape, HW1.out.output, by rw [size_grow]; exact Nat.le_trans HW1.out.size (Nat.le_add_right _ _), fun b hb => by
    rw [← HW1.out.block b hb]
    show (W1.heap ++ osq)[b]? = _
    rw [Array.getElem?_append_left (by have := HW1.out.size; omega)]⟩

/-- The root goes, n comes: what is kept then. -/
theorem turned_perm {h l : List S30} {n : S30} {k : Nat} (hp : h.Perm l) (h0 : 0 < h.length) (hl : l.length = k) (hn : nlt n (at_ z30 l (l.length - 1)) = true) (hr : at_ z30 h 0 = at_ z30 l (l.length - 1)) : ((h.set 0 n).toArray.toList).Perm ((ins nlt n l).take k) := by
  have hlen := hp.length_eq
  have e1 : (at_ z30 h 0 :: h.set 0 n).Perm (n :: h) := perm_cons_set h0 n
  have e2 : ∀ l : List S30, l ≠ [] → nlt n (at_ z30 l (l.length - 1)) = true → ins nlt n l = (ins nlt n l).take l.length ++ [at_ z30 l (l.length - 1)] := by
    intro l
    induction l with
    | nil => intro h; exact absurd rfl h
    | cons y l ih =>
      intro _ hx
      cases l with
      | nil =>
        have : nlt n y = true := by simpa [at_] using hx
        simp [ins, this, at_]
      | cons y2 l2 =>
        have ha : at_ z30 (y :: y2 :: l2) ((y :: y2 :: l2).length - 1) = at_ z30 (y2 :: l2) ((y2 :: l2).length - 1) := by simp [at_]
        rw [ha] at hx ⊢
        have hi := ih (by simp) hx
        by_cases c : nlt n y = true
        · have hlast : (y2 :: l2) = (y2 :: l2).take ((y2 :: l2).length - 1) ++ [at_ z30 (y2 :: l2) ((y2 :: l2).length - 1)] := by
            have h1 : (y2 :: l2).length - 1 < (y2 :: l2).length := by simp
            conv => lhs; rw [← List.take_append_drop ((y2 :: l2).length - 1) (y2 :: l2)]
            congr 1
            rw [List.drop_eq_getElem_cons h1, List.drop_eq_nil_of_le (by simp)]
            unfold at_
            rw [List.getD_eq_getElem?_getD, List.getElem?_eq_getElem h1]; rfl
          have hu : ins nlt n (y :: y2 :: l2) = n :: y :: y2 :: l2 := by unfold ins; rw [if_pos c]
          rw [hu]
          conv => lhs; rw [hlast]
          simp
        · have hu : ins nlt n (y :: y2 :: l2) = y :: ins nlt n (y2 :: l2) := by rw [ins.eq_2, if_neg c]
          rw [hu]
          conv => lhs; rw [hi]
          simp
  have hne : l ≠ [] := fun e => by rw [e, List.length_nil] at hlen; omega
  have e3 := e2 l hne hn
  rw [hl] at e3
  have e4 : (at_ z30 l (l.length - 1) :: (ins nlt n l).take k).Perm (n :: l) := by
    refine List.Perm.trans ?_ (ins_perm (lt := nlt) n l)
    rw [hl]
    conv => rhs; rw [e3]
    exact (List.perm_append_comm (l₁ := [at_ z30 l (k - 1)]) (l₂ := (ins nlt n l).take k))
  have e5 : (at_ z30 h 0 :: h.set 0 n).Perm (at_ z30 h 0 :: (ins nlt n l).take k) := by
    conv => rhs; rw [hr]
    exact e1.trans ((hp.cons n).trans e4.symm)
  simpa using e5.cons_inv

set_option maxHeartbeats 4000000 in
set_option maxRecDepth 100000 in
theorem add_turns (n : S30) (T : TopAt base S w p k l) (hl : l.length = k) (hk : k ≠ 0) (hn : nlt n (at_ z30 l (l.length - 1)) = true) :
    Calls Try.prog 14 #[.pointer (some ⟨p, 0, none⟩), .agg #[.int .i64 n.f0, .int .i64 n.f1]] w fun e w' => e = .returned (.tuple #[.bool true, .int .i64 0]) ∧ TopAt base (fun b => S b ∨ w.heap.size ≤ b) w' p k ((ins nlt n l).take k) ∧ Below base w w' ∧ Kept w w' S := by
  have HW := below_alloc (Below.refl _ w) (.cells #[.int .i64 n.f0, .int .i64 n.f1] 30)
  have hsz : (w.alloc (.cells #[.int .i64 n.f0, .int .i64 n.f1] 30)).heap.size = w.heap.size + 1 := by simp
  have b0 : (w.alloc (.cells #[.int .i64 n.f0, .int .i64 n.f1] 30)).cell? ⟨w.heap.size, 0, none⟩ = some (.int .i64 n.f0) := by simp
  have b1 : (w.alloc (.cells #[.int .i64 n.f0, .int .i64 n.f1] 30)).cell? ⟨w.heap.size, 1, none⟩ = some (.int .i64 n.f1) := by simp
  have hp : p < w.heap.size := by obtain ⟨_, _, T⟩ := T; exact (Array.getElem?_eq_some_iff.1 T.blk).1
  obtain ⟨hv, h, T⟩ := T.below HW
  go_enter Try.func14, Try.ntmps14
  go_wp2
  generalize w.alloc (.cells #[.int .i64 n.f0, .int .i64 n.f1] 30) = W at T HW b0 b1 hsz ⊢
  have hlen : 0 < h.length := by rw [T.hlen]; omega
  obtain ⟨g, c, rfl, gb, gl, hcell⟩ := Kd.R_form T.row hlen
  clear hcell
  obtain ⟨c0, c1, f0, f1⟩ := T.cells
  have er : at_ z30 l (l.length - 1) = at_ z30 h 0 := (root_last nlt_sto T.heap T.srt T.perm (by omega)).symm
  rw [er] at hn
  obtain ⟨ad, ea, g0, g1⟩ := at_T30 (Kd.R_reads' T.row).2.2 0 (by omega) (by omega)
  injection ea with ea
  subst ea
  have x0 : rd_T30 h 0 = at_ z30 h 0 := rfl
  rw [x0] at g0 g1
  rw [add_plain] at g0 g1
  have hd' : decide ((h.length : Int) < (k : Int)) = false := decide_eq_false (by rw [T.hlen]; omega)
  have hd : decide (h.length < k) = false := decide_eq_false (by rw [T.hlen]; omega)
  have hk' : ((k : Int) == 0) = false := by rw [beq_eq_false_iff_ne]; omega
  have hlz : (0 : Int) < (h.length : Int) := by omega
  have hx := less_any n (at_ z30 h 0)
  rw [hn] at hx
  have X0 : Aside0 (∃ x, x = at_ z30 h 0) := ⟨_, rfl⟩
  obtain ⟨x, hxe⟩ := X0.out
  rw [← hxe] at g0 g1 hx
  have HXE := Aside0.mk hxe
  simp at g0 g1
  have T0 := Aside0.mk T
  have HS := Aside0.mk hsz
  have HW0 := Aside0.mk HW
  have HN := Aside0.mk hn
  have HLK := Aside0.mk hl
  have HK0 := Aside0.mk hk
  have HX := Aside0.mk hx
  clear T hl HW hsz hn er x0 hk hx hxe X0
  go_quiet (fail)
  go_wp2_with fail
  have T1 : Aside0 (TopIn base S (W.drewN nq) p k l (.slice (some ⟨g, 0, none⟩) h.length c) h) := ⟨T0.out.step fun b _ hlt => rfl⟩
  have HW1 := Aside0.mk (pw_below_drewN HW0.out nq)
  have HS1 : Aside0 ((W.drewN nq).heap.size = w.heap.size + 1) := ⟨HS.out⟩
  have GL : Aside0 (g < (W.drewN nq).heap.size) := ⟨gl⟩
  replace c0 : (W.drewN nq).cell? ⟨p, 0, none⟩ = some (.int .i64 k) := c0
  replace c1 : (W.drewN nq).cell? ⟨p, 1, none⟩ = some (.slice (some ⟨g, 0, none⟩) h.length c) := c1
  replace b0 : (W.drewN nq).cell? ⟨w.heap.size, 0, none⟩ = some (.int .i64 n.f0) := b0
  replace b1 : (W.drewN nq).cell? ⟨w.heap.size, 1, none⟩ = some (.int .i64 n.f1) := b1
  replace g0 : (W.drewN nq).cell? ⟨g, 0, none⟩ = some (.int .i64 x.f0) := g0
  replace g1 : (W.drewN nq).cell? ⟨g, 1, none⟩ = some (.int .i64 x.f1) := g1
  clear T0 HW0 HS f0 f1 gl
  generalize W.drewN nq = W1 at T1 HW1 HS1 c0 c1 b0 b1 g0 g1 GL ⊢
  clear W nq
  have hpW : p < W1.heap.size := by have := HS1.out; omega
  have hbW : w.heap.size < W1.heap.size := by have := HS1.out; omega
  have hgW : g < W1.heap.size := GL.out
  have k0 := fun (nn : Nat) (os : Array Obj) => cell_grown (a := ⟨p, 0, none⟩) hpW c0 nn os
  have k1 := fun (nn : Nat) (os : Array Obj) => cell_grown (a := ⟨p, 1, none⟩) hpW c1 nn os
  have k2 := fun (nn : Nat) (os : Array Obj) => cell_grown (a := ⟨w.heap.size, 0, none⟩) hbW b0 nn os
  have k3 := fun (nn : Nat) (os : Array Obj) => cell_grown (a := ⟨w.heap.size, 1, none⟩) hbW b1 nn os
  have k4 := fun (nn : Nat) (os : Array Obj) => cell_grown (a := ⟨g, 0, none⟩) hgW g0 nn os
  have k5 := fun (nn : Nat) (os : Array Obj) => cell_grown (a := ⟨g, 1, none⟩) hgW g1 nn os
  have hc := fun (nn : Nat) (os : Array Obj) => HX.out (grow (W1.drewN nn) os)
  have mixed : Try.prog.follows .mixedOrders = true := by kernel_rfl
  go_quiet_grown (first | (go_at_call 15; refine Calls.grown_of (hc _ _)))
  clear k0 k1 k2 k3 k4 k5 hc
  have T2 : Aside0 (TopIn base S (grow (W1.drewN nq) osq) p k l (.slice (some ⟨g, 0, none⟩) h.length c) h) := ⟨T1.out.step fun b _ hlt => by
    show (W1.heap ++ osq)[b]? = _
    rw [Array.getElem?_append_left hlt]⟩
  have HW2 : Aside0 (Below w.heap.size w (grow (W1.drewN nq) osq)) := ⟨⟨HW1.out.os, HW1.out.tape, HW1.out.output, by rw [size_grow]; exact Nat.le_trans HW1.out.size (Nat.le_add_right _ _), fun b hb => by
    rw [← HW1.out.block b hb]
    show (W1.heap ++ osq)[b]? = _
    rw [Array.getElem?_append_left (by have := HW1.out.size; omega)]⟩⟩
  have HS2 : Aside0 (w.heap.size + 1 ≤ (grow (W1.drewN nq) osq).heap.size) := ⟨by rw [size_grow]; show _ ≤ W1.heap.size + _; have := HS1.out; omega⟩
  replace b0 := cell_grown (a := ⟨w.heap.size, 0, none⟩) hbW b0 nq osq
  replace b1 := cell_grown (a := ⟨w.heap.size, 1, none⟩) hbW b1 nq osq
  clear c0 c1 g0 g1 T1 HW1 HS1 GL hpW hbW hgW HX hd hd' hk'
  generalize grow (W1.drewN nq) osq = W2 at T2 HW2 HS2 b0 b1 ⊢
  clear nq osq W1
  obtain ⟨ce, hcl, hM, hcc, hfr⟩ := Kd.R_elem T2.out.row z30 0 (Int.le_refl _) hlz
  have hseg := (Kd.R_seg T2.out.row 0 (Int.le_refl _) hlz (seg := [.int .i64 n.f0, .int .i64 n.f1]) (j := 0) hcl hcc (show 2 ≤ 2 from Nat.le_refl _) (x' := n) (okp := fun k => (S k ∧ k ≠ p) ∧ k ≠ g) (by
    rw [List.drop_eq_nil_of_le (by rw [hcl]; exact Nat.le_refl _)]
    exact k30_mkM _ _ _ n) (fun _ hk => hk))
  obtain rfl := k30_openM hM
  have c1 := T2.out.cells.2.1
  have g0 := hcc 0 _ rfl
  have g1 := hcc 1 _ rfl
  have f0 := hfr 0
  have f1 := hfr 1
  simp at g0 g1 f0 f1
  obtain ⟨u1, s1⟩ := cell_set_some ⟨g, 0, none⟩ (.int .i64 n.f0) g1
  have e0 : ((0 : Int).toNat * k30.sz + 0) = 0 := rfl
  rw [e0] at hseg
  have W3R : Aside0 (Kd.R k30 30 ((W2.drew.setCell ⟨g, 0, none⟩ (.int .i64 n.f0)).setCell ⟨g, 1, none⟩ (.int .i64 n.f1)) base (fun b => S b ∧ b ≠ p) (.slice (some ⟨g, 0, none⟩) h.length c) (h.set 0 n)) := ⟨Kd.R_drew hseg.1⟩
  have W3P : Aside0 (((W2.drew.setCell ⟨g, 0, none⟩ (.int .i64 n.f0)).setCell ⟨g, 1, none⟩ (.int .i64 n.f1)).heap[p]? = some (.cells #[.int .i64 k, .slice (some ⟨g, 0, none⟩) h.length c] 83 (0, 0))) := ⟨(hseg.2.block p (Array.getElem?_eq_some_iff.1 T2.out.blk).1 (fun e => (T2.out.row.1 p e.symm).2 rfl)).trans T2.out.blk⟩
  have W3B : Aside0 (Below base w ((W2.drew.setCell ⟨g, 0, none⟩ (.int .i64 n.f0)).setCell ⟨g, 1, none⟩ (.int .i64 n.f1))) := ⟨(((HW2.out.mono (by have := T2.out.low; omega)).drew).setCell gb _).setCell gb _⟩
  have W3K : Aside0 (Kept w ((W2.drew.setCell ⟨g, 0, none⟩ (.int .i64 n.f0)).setCell ⟨g, 1, none⟩ (.int .i64 n.f1)) S) := ⟨Kept.setCell (Kept.setCell (Kept.drew (Kept.of_below HW2.out S)) (.inl (T2.out.row.1 g rfl).1) _) (.inl (T2.out.row.1 g rfl).1) _⟩
  clear hcl hM hcc hfr hseg e0
  go_wp2_with fail
  go_big_region
  clear b0 b1 g0 g1 f0 f1 s1
  have hW : (W2.drew.setCell ⟨g, 0, none⟩ (.int .i64 n.f0)).setCell ⟨g, 1, none⟩ (.int .i64 n.f1) = ((W2.setCell ⟨g, 0, none⟩ (.int .i64 n.f0)).setCell ⟨g, 1, none⟩ (.int .i64 n.f1)).drew := rfl
  rw [hW] at W3R W3P W3B W3K
  clear hW c1
  generalize ((W2.setCell ⟨g, 0, none⟩ (.int .i64 n.f0)).setCell ⟨g, 1, none⟩ (.int .i64 n.f1)).drew = W3 at W3R W3P W3B W3K ⊢
  have gl3 : g < W3.heap.size := own_lt W3R.out.2.choose_spec.1 g rfl
  have hsl : (h.set 0 n).length = h.length := by simp
  have hR3 : Kd.R k30 30 W3 base (fun b => S b ∧ b ≠ p) (.slice (some ⟨g, 0, none⟩) (h.set 0 n).length c) (h.set 0 n) := by rw [hsl]; exact W3R.out
  have hDown := down_any g 0 c (h.set 0 n).toArray (h.set 0 n).toArray W3 W3 (rowK_of_R plain30 hR3) rfl (SWK.start (holds_of_R plain30 hR3)) (by have := T2.out.hlen; have := T2.out.len; have := T2.out.most; simp; omega) (by
    have := DownInv.start (x := n) T2.out.heap
    simpa using this)
  have hsz : (h.set 0 n).toArray.size = h.length := by simp
  rw [hsz] at hDown
  have HU := Aside0.mk hDown
  have e1 := (blk_cells W3P.out 1).1
  simp at e1
  clear hDown hR3 hsl
  go_wp2_with fail
  refine HU.out.mono ?_
  rintro e w3 ⟨rfl, d', hs', hp', hh', S3⟩
  have S3 := Aside0.mk S3
  have HH := Aside0.mk hh'
  have HP' := Aside0.mk hp'
  have HS' := Aside0.mk hs'
  clear hh' hp' hs' hsz HU e1
  go_wp2
  go_ret2
  refine ⟨rfl, ⟨.slice (some ⟨g, 0, none⟩) h.length c, d'.toList, ?_⟩, ?_, ?_⟩
  · have hne : p ≠ g := fun e => (W3R.out.1 g rfl).2 e.symm
    have hpl : p < W3.heap.size := (Array.getElem?_eq_some_iff.1 W3P.out).1
    have hx0 : h ≠ [] := fun e => by rw [e] at hlen; exact absurd hlen (Nat.lt_irrefl _)
    refine ⟨((swk_heap S3.out gl3).2.2.2.2.1 p hpl hne).trans W3P.out, T2.out.low, .inl T2.out.mine, Kd.R_mono (R_of_swk plain30 (by simp) W3R.out (by simpa using HS'.out) S3.out) (fun b hb => ⟨.inl hb.1, hb.2⟩), HH.out, ?_, List.Pairwise.sublist (List.take_sublist k _) (ins_srt nlt_sto n T2.out.srt), by rw [List.length_take, ins_length]; omega, T2.out.most⟩
    refine HP'.out.trans ?_
    have hr := root_last nlt_sto T2.out.heap T2.out.srt T2.out.perm (by have := T2.out.hlen; omega)
    exact turned_perm T2.out.perm hlen HLK.out (by have := HN.out; rw [hr] at this; exact this) hr
  · exact W3B.out.trans (below_of_swk S3.out gl3 gb)
  · exact W3K.out.then_ (kept_of_swk S3.out gl3) (fun b hb => by subst hb; exact .inl (W3R.out.1 b rfl).1)

/-- Is one kept; what is kept then. -/
def addB (k : Nat) (l : List S30) (n : S30) : Bool := decide (l.length < k) || (decide (k ≠ 0) && nlt n (at_ z30 l (l.length - 1)))
def addL (k : Nat) (l : List S30) (n : S30) : List S30 := (ins nlt n l).take k

theorem add_any (n : S30) (T : TopAt base S w p k l) (hb : base ≤ w.heap.size) :
    Calls Try.prog 14 #[.pointer (some ⟨p, 0, none⟩), .agg #[.int .i64 n.f0, .int .i64 n.f1]] w fun e w' => e = .returned (.tuple #[.bool (addB k l n), .int .i64 0]) ∧ TopAt base (fun b => S b ∨ w.heap.size ≤ b) w' p k (addL k l n) ∧ Below base w w' ∧ Kept w w' S := by
  have hlen : l.length ≤ k := by obtain ⟨_, _, T⟩ := T; exact T.len
  by_cases h1 : l.length < k
  · have e1 : addB k l n = true := by unfold addB; rw [decide_eq_true h1]; rfl
    have e2 : addL k l n = ins nlt n l := by unfold addL; rw [List.take_of_length_le (by rw [ins_length]; omega)]
    rw [e1, e2]
    exact add_few n T h1
  · have hl : l.length = k := by omega
    have stay : ∀ w', Below w.heap.size w w' → TopAt base (fun b => S b ∨ w.heap.size ≤ b) w' p k l ∧ Below base w w' ∧ Kept w w' S := fun w' hB => ⟨(T.below hB).mono (fun b hb => .inl hb), hB.mono hb, Kept.of_below hB S⟩
    by_cases hk : k = 0
    · subst hk
      have hl0 : l = [] := List.eq_nil_of_length_eq_zero hl
      subst hl0
      exact (add_none n T).mono fun e w' ⟨he, hB⟩ => ⟨he, stay w' hB⟩
    · cases hn : nlt n (at_ z30 l (l.length - 1)) with
      | false =>
        have e1 : addB k l n = false := by unfold addB; rw [decide_eq_false h1, hn]; simp
        have e2 : addL k l n = l := by obtain ⟨hv, h, T⟩ := T; exact add_skip w hv h n T hl hn
        rw [e1, e2]
        exact (add_kept n T hl hk hn).mono fun e w' ⟨he, hB⟩ => ⟨he, stay w' hB⟩
      | true =>
        have e1 : addB k l n = true := by unfold addB; rw [decide_eq_true hk, hn]; simp
        rw [e1]
        exact add_turns n T hl hk hn
end
end Go.Proofs.Ytbdkgdbfnkogaaa.R
end

section
/-
  DERIVED: THE SHELF's CONTRACTS AT THIS DUMP, IN PLAIN WORDS (tools/lay-plain.mjs out of 'YtbdkgdbfnkogaaaShs.lean', which tools/lay-shelf.mjs wrote): THE SAME DECLARATIONS UNDER THE SAME YtbdkgdbfnkogaaaS: 'import', 'namespace', 'open', 'def', 'theorem' AND NOTHING ELSE: no command of the shelf's: FOR A HAND-IN. Each laying: the table of numbers ('.._ren') and one theorem, a field a fact of the dump's own or the kernel's comparison; each contract: ONE APPLICATION.
-/
namespace Go.Proofs
open Go.Shelf
def Try.sortNear_ren : Go.Shelf.Ren := ⟨fun | 6 => 53 | 15 => 80 | 14 => 79 | 28 => 103 | 29 => 104 | 20 => 95 | 21 => 96 | 22 => 97 | 23 => 98 | 24 => 99 | 25 => 100 | 26 => 101 | 27 => 102 | 46 => 108 | 47 => 109 | 48 => 110 | 49 => 111 | 50 => 112 | 57 => 113 | n => n, fun | 22 => 22 | 24 => 30 | 25 => 84 | 3 => 3 | 39 => 116 | 0 => 0 | 53 => 137 | 55 => 102 | 4 => 4 | 46 => 130 | 45 => 129 | 50 => 134 | 5 => 5 | 9 => 9 | 66 => 141 | 70 => 145 | 76 => 147 | 77 => 148 | n => n, fun | n => n⟩
theorem Try.sortNear : Go.Proofs.SlLaysF0.n6 Try.prog Try.sortNear_ren := {
  mixed := by kernel_rfl
  f6 := ⟨Try.f53.name, by decide, Try.func53.trans (congrArg some (by kernel_rfl))⟩
  f14 := ⟨Try.f79.name, by decide, Try.func79.trans (congrArg some (by kernel_rfl))⟩
  f15 := Try.func80.trans (congrArg some (by kernel_rfl))
  f20 := ⟨Try.f95.name, by decide, Try.func95.trans (congrArg some (by kernel_rfl))⟩
  f21 := ⟨Try.f96.name, by decide, Try.func96.trans (congrArg some (by kernel_rfl))⟩
  f22 := ⟨Try.f97.name, by decide, Try.func97.trans (congrArg some (by kernel_rfl))⟩
  f23 := ⟨Try.f98.name, by decide, Try.func98.trans (congrArg some (by kernel_rfl))⟩
  f24 := ⟨Try.f99.name, by decide, Try.func99.trans (congrArg some (by kernel_rfl))⟩
  f25 := ⟨Try.f100.name, by decide, Try.func100.trans (congrArg some (by kernel_rfl))⟩
  f26 := ⟨Try.f101.name, by decide, Try.func101.trans (congrArg some (by kernel_rfl))⟩
  f27 := ⟨Try.f102.name, by decide, Try.func102.trans (congrArg some (by kernel_rfl))⟩
  f28 := Try.func103.trans (congrArg some (by kernel_rfl))
  f29 := Try.func104.trans (congrArg some (by kernel_rfl))
  f46 := ⟨Try.f108.name, by decide, Try.func108.trans (congrArg some (by kernel_rfl))⟩
  f47 := Try.func109.trans (congrArg some (by kernel_rfl))
  f48 := Try.func110.trans (congrArg some (by kernel_rfl))
  f49 := ⟨Try.f111.name, by decide, Try.func111.trans (congrArg some (by kernel_rfl))⟩
  f50 := ⟨Try.f112.name, by decide, Try.func112.trans (congrArg some (by kernel_rfl))⟩
  f57 := ⟨Try.f113.name, by decide, Try.func113.trans (congrArg some (by kernel_rfl))⟩
  t0 := Try.underlying0
  a0 := Try.isAgg0
  z0 := Try.sizeOf0
  v0 := Try.zeroValue0
  t3 := Try.underlying3
  a3 := Try.isAgg3
  z3 := Try.sizeOf3
  v3 := Try.zeroValue3
  t4 := Try.underlying4
  a4 := Try.isAgg4
  z4 := Try.sizeOf4
  v4 := Try.zeroValue4
  t5 := Try.underlying5
  a5 := Try.isAgg5
  z5 := Try.sizeOf5
  v5 := Try.zeroValue5
  t9 := Try.underlying9
  a9 := Try.isAgg9
  z9 := Try.sizeOf9
  v9 := Try.zeroValue9
  t22 := Try.underlying22
  a22 := Try.isAgg22
  z22 := Try.sizeOf22
  v22 := Try.zeroValue22
  t25 := Try.underlying84
  a25 := Try.isAgg84
  z25 := Try.sizeOf84
  v25 := Try.zeroValue84
  t39 := Try.underlying116
  a39 := Try.isAgg116
  z39 := Try.sizeOf116
  v39 := Try.zeroValue116
  t45 := Try.underlying129
  a45 := Try.isAgg129
  z45 := Try.sizeOf129
  v45 := Try.zeroValue129
  t46 := Try.underlying130
  a46 := Try.isAgg130
  z46 := Try.sizeOf130
  v46 := Try.zeroValue130
  t50 := Try.underlying134
  a50 := Try.isAgg134
  z50 := Try.sizeOf134
  v50 := Try.zeroValue134
  t53 := Try.underlying137
  a53 := Try.isAgg137
  z53 := Try.sizeOf137
  v53 := Try.zeroValue137
  t55 := Try.underlying102
  a55 := Try.isAgg102
  z55 := Try.sizeOf102
  v55 := Try.zeroValue102
  t66 := Try.underlying141
  a66 := Try.isAgg141
  z66 := Try.sizeOf141
  v66 := Try.zeroValue141
  t70 := Try.underlying145
  a70 := Try.isAgg145
  z70 := Try.sizeOf145
  v70 := Try.zeroValue145
  t76 := Try.underlying147
  a76 := Try.isAgg147
  z76 := Try.sizeOf147
  v76 := Try.zeroValue147
  t77 := Try.underlying148
  a77 := Try.isAgg148
  z77 := Try.sizeOf148
  v77 := Try.zeroValue148 }
end Go.Proofs
end
