import Derived.Test.YtbdkgdbfnkogaaaB9
import Derived.Test.YtbdkgdbfnkogaaaB8
import Derived.Shelf.SlSortCmp.NoneTotal
import Derived.RangeFuncNested
import Derived.RangeFuncBound
import Derived.RangeFuncCalls
import Derived.RangeFuncLeaves
import Derived.RangeFuncBox
import Derived.Shelf.Abstract
import Derived.Shelf.RegionOpen
import Derived.OwnWalkIn
import Derived.TacticsInMore
import Derived.LoopNIn
import Derived.LoopIn
import Derived.Maps.AppendAt

section
/-
  slices.SortFunc at entries by rank's order, and a Top's List, by their contracts. Conditions: the row, or the Top, lies as told.
-/
namespace Go.Proofs.Ytbdkgdbfnkogaaa.R
open Go.Shelf Go.RowKit Go.Lib Go.Sort Go.Proofs Go.Proofs.YtbdkgdbfnkogaaaW.PrintWords Go.Proofs.YtbdkgdbfnkogaaaW.PrintLast Go.Proofs.YtbdkgdbfnkogaaaW.PrintMore Go.Proofs.Ytbdkgdbfnkogaaa.Plain
set_option linter.unusedVariables false
set_option linter.unusedSimpArgs false

theorem ltOf_ncmp : ltOf ncmp = nlt := by
  funext x y
  exact ncmp_neg x y

theorem nlt_swo : SWO (ltOf ncmp) := by
  rw [ltOf_ncmp]
  exact ⟨nlt_sto.irrefl, nlt_sto.trans, fun x y z h1 h2 => nlt_sto.ntrans h2 h1⟩

theorem merge_isort (xs : List S30) : xs.mergeSort (fun x y => !(nlt y x)) = isort nlt xs := by
  refine isort_eq nlt_sto ?_ (List.mergeSort_perm _ _)
  have h := List.pairwise_mergeSort (le := fun x y => !(nlt y x)) (fun a b c h1 h2 => by
    simp only [Bool.not_eq_true'] at h1 h2 ⊢
    exact nlt_sto.ntrans h1 h2) (fun a b => by
    cases h1 : nlt b a with
    | false => simp
    | true => simp [nlt_sto.asymm h1]) xs
  exact h.imp (fun h => by simpa using h)

theorem order_enters : ∀ args w, (callFunc 52 args).run Try.prog w = .ok (.enter 52 args) w := enters_of Try.func52 (by kernel_rfl) rfl
theorem order_lays (blk off size : Nat) (w : World) : CmpLays Try.prog 52 #[] enc30 2 ncmp blk off size w := fun _ _ _ _ x y => order_any x y _

section
variable {base g cap n : Nat} {ok : Nat → Prop} {w : World} {xs : List S30}
/-- slices.SortFunc at a row of one's own. -/
theorem sort_any (h : Kd.R k30 30 w base ok (.slice (some ⟨g, 0, none⟩) n cap) xs) (hb : xs.length < 4611686018427387904) :
    Calls Try.prog 53 #[.slice (some ⟨g, 0, none⟩) n cap, .func (.func 52) #[] #[]] w fun e w' => e = .returned (.tuple #[]) ∧ Kd.R k30 30 w' base ok (.slice (some ⟨g, 0, none⟩) n cap) (isort nlt xs) ∧ Kept w w' (fun b => b = g) ∧ Below g w w' := by
  have hr := Kd.R_reads' h
  have hn : n = xs.length := hr.1
  have hlt := own_lt h.2.choose_spec.1 g rfl
  have h' := h
  rw [hn] at h'
  have hcon := AnyQ.slices_SortFunc_total Try.sortNear 2 agg30 size30 enc30 plain30.sz plain30.one ncmp nlt_swo 52 #[] g 0 cap xs.toArray w order_enters (order_lays g 0 _ w) (holds_of_R plain30 h') hlt (by simpa using hb) (fun x y h1 h2 => by
    rw [ltOf_ncmp] at h1 h2
    exact nlt_sto.total x y h1 h2)
  have hs : xs.toArray.size = n := by simp [hn]
  change Calls Try.prog 53 #[.slice (some ⟨g, 0, none⟩) xs.toArray.size cap, .func (.func 52) #[] #[]] _ _ at hcon
  rw [hs] at hcon
  refine hcon.mono ?_
  rintro e w' ⟨he, m, os, hw⟩
  rw [ltOf_ncmp, merge_isort] at hw
  have S : SWK enc30 2 w g 0 (isort nlt xs).toArray w' := ⟨m, os, hw⟩
  refine ⟨he, ?_, kept_of_swk S hlt, below_of_swk S hlt (Nat.le_refl g)⟩
  have := R_of_swk plain30 hn h (d' := (isort nlt xs).toArray) (by simp [isort_length]) S
  simpa using this
end

theorem R_at_block {α : Type} {d : Kd α} {e base b : Nat} {ok : Nat → Prop} {w : World} {v : Value} {xs : List α} (h : d.R e w base ok v xs) (hb : v.ownBlock = some b) : ∃ cap, v = .slice (some ⟨b, 0, none⟩) xs.length cap := by
  obtain ⟨_, inner, ho, _⟩ := h
  rcases ho.2 with ⟨hv, _⟩ | ⟨g', cap', cur, hv, _⟩
  · rw [hv] at hb; simp [Value.ownBlock] at hb
  · rw [hv] at hb
    have : g' = b := by simpa [Value.ownBlock] using hb
    subst this
    exact ⟨cap', hv⟩

section
variable {base : Nat} {S : Nat → Prop} {w : World} {p k : Nat} {l : List S30}
set_option maxHeartbeats 1000000 in
set_option maxRecDepth 100000 in
theorem list_any (T : TopAt base S w p k l) : Calls Try.prog 16 #[.pointer (some ⟨p, 0, none⟩)] w fun e w' => ∃ v, e = .returned v ∧ Kd.R k30 30 w' w.heap.size (fun _ => True) v l ∧ Below w.heap.size w w' := by
  obtain ⟨hv, h, T⟩ := T
  obtain ⟨A, c, rfl⟩ := Kd.R_slice T.row
  obtain ⟨c0, c1, f0, f1⟩ := T.cells
  have T0 := Aside0.mk T
  clear T
  go_enter Try.func16, Try.ntmps16
  have HL := Aside0.mk (show (h.length : Int).toNat * 16 ≤ 281474976710656 by have := T0.out.hlen; have := T0.out.len; have := T0.out.most; omega)
  have HZ : Aside0 ((List.replicate (h.length : Int).toNat z30).length = h.length) := ⟨by simp⟩
  go_wp2_with (first
    | ((with_reducible refine gate_dst (N := 11) rfl ?_); refine Kd.R_make k30 (w0 := w) w.heap.size 30 rfl (N := 11) rfl 22 _ _ rfl (h.length : Int) rfl rfl Try.underlying22 (.agg #[.int .i64 0, .int .i64 0]) 16 info30 rfl (by decide) (by decide) z30 (okp := fun _ => False) (ok := fun _ => True) (k30_mkM _ _ _ z30) (fun _ _ => trivial) trivial (Int.natCast_nonneg _) HL.out (Below.refl _ _) (Nat.le_refl _) ?_; intro v1 w1 hR1 hB1 hg1 hat1; obtain ⟨b, hb, hle⟩ := hat1; obtain ⟨c2, rfl⟩ := R_at_block hR1 hb; rw [HZ.out] at hR1 hb ⊢; have HB1 := Aside0.mk hB1; have R1 := Aside0.mk hR1; have HLE := Aside0.mk hle; have T1 := Aside0.mk (T0.out.step fun b _ hlt => hB1.block b hlt); clear hR1 hB1 hg1 hb hle T0 c0 c1 f0 f1; obtain ⟨c0, c1, f0, f1⟩ := T1.out.cells; clear HL HZ)
    | ((with_reducible refine gate_builtin (b := .copy) (xs := #[.tmp 12, .tmp 16]) rfl ?_); refine wpList_copy_all plain30 rfl (.tmp 12) (.tmp 16) 22 81 rfl Try.underlying22 (by kernel_rfl) rfl rfl R1.out (Kd.R_reads' T1.out.row).2.2 ?_; intro w2 hR2 hK2 hB2; have R2 := Aside0.mk hR2; have HB2 := Aside0.mk hB2; clear hR2 hB2 hK2 c0 c1 f0 f1)
    | (go_at_call 53; refine (sort_any R2.out (by have := T1.out.hlen; have := T1.out.len; have := T1.out.most; omega)).mono ?_; rintro e w3 ⟨rfl, hR3, hK3, hB3⟩; have R3 := Aside0.mk hR3; have HB3 := Aside0.mk hB3; clear hR3 hB3 hK3))
  go_ret
  have hs : isort nlt h = l := (isort_eq nlt_sto T1.out.srt T1.out.perm.symm).symm
  refine ⟨_, rfl, ?_, ?_⟩
  · rw [← hs]; exact R3.out
  · exact (HB1.out.trans (HB2.out.mono HLE.out)).trans (HB3.out.mono HLE.out)
end
end Go.Proofs.Ytbdkgdbfnkogaaa.R
end

section
/-
  slices.Values at entries, and what collects an iterator's entries in a slice of its own (AppendSeq, Collect, SortedFunc), by their contracts. Conditions: the iterator keeps its word (SeqStopsK); lengths within the reach.
-/
namespace Go.Proofs.Ytbdkgdbfnkogaaa.R
open Go.Shelf Go.RowKit Go.Lib Go.Sort Go.Proofs Go.Proofs.YtbdkgdbfnkogaaaW.PrintWords Go.Proofs.YtbdkgdbfnkogaaaW.PrintLast Go.Proofs.YtbdkgdbfnkogaaaW.PrintMore Go.Proofs.Ytbdkgdbfnkogaaa.Plain
set_option linter.unusedVariables false
set_option linter.unusedSimpArgs false
attribute [local go_sem] Oper.semAt_some

def agg_of (x : S30) : Value := .agg #[.int .i64 x.f0, .int .i64 x.f1]
def upto {α : Type} (f : Nat → α) (k : Nat) : List α := (List.range k).map f
theorem upto_succ {α : Type} (f : Nat → α) (k : Nat) : upto f (k + 1) = upto f k ++ [f k] := by simp [upto, List.range_succ]
theorem upto_length {α : Type} (f : Nat → α) (k : Nat) : (upto f k).length = k := by simp [upto]
theorem upto_take {α : Type} (zs : List α) (z : α) {k : Nat} (hk : k ≤ zs.length) : upto (fun j => zs[j]?.getD z) k = zs.take k := by
  apply List.ext_getElem
  · simp [upto, hk]
  · intro i h1 h2
    have : i < zs.length := by simp [upto] at h1; omega
    simp [upto, this]

set_option maxRecDepth 100000 in
set_option maxHeartbeats 2000000 in
theorem values1_in (F : Fence) (n : Nat) (h7 : F.fn 82) (hro : F.round = none) (hn : 1 ≤ n) (l Bs n₀ b off len cap : Nat) (zs : List S30) (hreach : len * 16 ≤ 140737488351232) (hb : b < n₀) (J Jx : List S30 → World → Prop)
    (hY : ∀ pre x W, J pre W → pre.length < len → YieldAt F (n - 1) Try.prog l #[.agg #[.int .i64 x.f0, .int .i64 x.f1]] W fun e W' =>
      (e = .returned (.bool true) ∧ J (pre ++ [x]) W' ∧ Below n₀ W W') ∨ (e = .returned (.bool false) ∧ Jx (pre ++ [x]) W'))
    (W : World) (hJ : AbidesFrom W.heap.size J) (hn₀ : n₀ ≤ W.heap.size) (hBs : W.cell? ⟨Bs, 0, none⟩ = some (.slice (some ⟨b, off, none⟩) len cap)) (hc : ∀ j, j < len → W.cell? ⟨b, off + j * 2, none⟩ = some (.int .i64 (zs[j]?.getD z30).f0) ∧ W.cell? ⟨b, off + j * 2 + 1, none⟩ = some (.int .i64 (zs[j]?.getD z30).f1)) (h0 : J [] W) :
    CallsIn F n Try.prog 82 #[.func (.yield l) #[] #[], .pointer (some ⟨Bs, 0, none⟩)] W fun e W' => (∃ v, e = .returned v) ∧
      ((∃ ys, ys = upto (fun j => zs[j]?.getD z30) len ∧ J ys W') ∨ (∃ pre, (∃ k, k ≤ len ∧ pre = upto (fun j => zs[j]?.getD z30) k) ∧ Jx pre W')) := by
  refine callsIn_of_wp Try.func82 rfl h7 ?_ hro
  simp only [Try.ntmps82, List.size_toArray, List.length_cons, List.length_nil, Nat.reduceAdd, Nat.reduceSub, Array.replicate_succ, Array.replicate_zero, List.push_toArray, List.append_toArray, List.nil_append, List.cons_append]
  gi_wp2
  gi_loopw [7] (fun i wr => ∃ k : Nat, k ≤ len ∧ i = .int .i64 k ∧ J (upto (fun j => zs[j]?.getD z30) k) wr ∧ Below n₀ W wr)
    (fun i _ => len - (intOf i).toNat)
  case atStart => exact ⟨0, Nat.zero_le _, rfl, h0, Below.refl _ _⟩
  case round =>
    obtain ⟨k, hk, rfl, hJs, hnx⟩ := hrel
    by_cases hlt : k < len
    · have hcx0 := (hnx.cell (p := ⟨b, off + k * 2, none⟩) hb).trans (hc k hlt).1
      have hcx1 := (hnx.cell (p := ⟨b, off + k * 2 + 1, none⟩) hb).trans (hc k hlt).2
      have hJa : J (upto (fun j => zs[j]?.getD z30) k) (wr.alloc (.cells #[.int .i64 (zs[k]?.getD z30).f0, .int .i64 (zs[k]?.getD z30).f1] 30)) := hJ _ _ _ none hJs (World.grownBy_alloc _ _ _) (fun r e => by cases e)
      obtain ⟨fn, tmps, assign, body, hy, hR⟩ := hY _ (zs[k]?.getD z30) _ hJa (by rw [upto_length]; exact hlt)
      gi_wp2
      refine hR.mono ?_
      have hal : Below n₀ wr (wr.alloc (.cells #[.int .i64 (zs[k]?.getD z30).f0, .int .i64 (zs[k]?.getD z30).f1] 30)) := (Below.refl n₀ wr).alloc (Nat.le_trans hn₀ hnx.size) _
      rintro e W3 (⟨rfl, hJ3, hk3⟩ | ⟨rfl, hJx3⟩)
      · gi_wp2
        go_roundw
        case rel => exact ⟨k + 1, by omega, by simp, by rw [upto_succ]; exact hJ3, hnx.trans (hal.trans hk3)⟩
        case measure => simp [intOf]; omega
      · gi_wp2
        refine bodyPost_ret (results_none rfl _ _ _) rfl ?_
        exact ⟨⟨_, rfl⟩, .inr ⟨_, ⟨k + 1, by omega, (upto_succ _ _).symm⟩, hJx3⟩⟩
    · obtain rfl : k = len := by omega
      gi_wp2
      go_end0
      exact ⟨⟨_, rfl⟩, .inl ⟨_, rfl, hJs⟩⟩

set_option maxRecDepth 100000 in
set_option maxHeartbeats 1000000 in
/-- .. where there is no element (nil or not): no round. -/
theorem values1_none_in (F : Fence) (n : Nat) (h7 : F.fn 82) (hro : F.round = none) (l Bs cap : Nat) (A : Option Addr) (J : List S30 → World → Prop) (W : World) (hBs : W.cell? ⟨Bs, 0, none⟩ = some (.slice A 0 cap)) (h0 : J [] W) :
    CallsIn F n Try.prog 82 #[.func (.yield l) #[] #[], .pointer (some ⟨Bs, 0, none⟩)] W fun e W' => (∃ v, e = .returned v) ∧ J [] W' := by
  refine callsIn_of_wp Try.func82 rfl h7 ?_ hro
  simp only [Try.ntmps82, List.size_toArray, List.length_cons, List.length_nil, Nat.reduceAdd, Nat.reduceSub, Array.replicate_succ, Array.replicate_zero, List.push_toArray, List.append_toArray, List.nil_append, List.cons_append]
  gi_wp2
  gi_loopw [7] (fun i wr => i = .int .i64 0 ∧ J [] wr) (fun _ _ => 0)
  case atStart => exact ⟨rfl, h0⟩
  case round =>
    obtain ⟨rfl, hJs⟩ := hrel
    gi_wp2
    go_end0
    exact ⟨⟨_, rfl⟩, hJs⟩

set_option maxHeartbeats 1000000 in
/-- slices.Values(s): the slice value is boxed; the function value captures the box. -/
theorem values_in (F : Fence) (n : Nat) (h5 : F.fn 55) (hro : F.round = none) (A : Option Addr) (len cap : Nat) (w : World) :
    CallsIn F n Try.prog 55 #[.slice A len cap] w fun e w' => e = .returned (.func (.func 82) #[] #[.pointer (some ⟨w.heap.size, 0, none⟩)]) ∧ w' = w.alloc (.cells #[.slice A len cap] 22) := by
  refine callsIn_of_wp Try.func55 rfl h5 ?_ hro
  simp only [Try.ntmps55, List.size_toArray, List.length_cons, List.length_nil, Nat.reduceAdd, Nat.reduceSub, Array.replicate_succ, Array.replicate_zero, List.push_toArray, List.append_toArray, List.nil_append, List.cons_append]
  gi_wp2
  go_ret
  exact ⟨rfl, rfl⟩

/-- It hands back an iterator that keeps its word: all of zs, in order. -/
theorem values_stops (F : Fence) (n : Nat) (h7 : F.fn 82) (hro : F.round = none) (hn : 1 ≤ n) (Bs cap : Nat) (A : Option Addr) (zs : List S30) (hreach : zs.length * 16 ≤ 140737488351232) (w : World) (hBs : Bs < w.heap.size) (n₀ : Nat) (hn₀ : n₀ ≤ w.heap.size)
    (hc : w.cell? ⟨Bs, 0, none⟩ = some (.slice A zs.length cap)) (hC : Kd.C k30 w A zs.length zs) (hA : ∀ ad, A = some ad → 0 < zs.length → ad.block < n₀ ∧ ad.spot = none) :
    SeqStopsK F n Try.prog 82 #[.pointer (some ⟨Bs, 0, none⟩)] (fun x : S30 => #[.agg #[.int .i64 x.f0, .int .i64 x.f1]]) (Below n₀) (fun ys => ys = zs) (fun pre => pre <+: zs) zs.length w := fun l J Jx W hW hJ _ hY h0 => by
  have hc' := (hW.cell (p := ⟨Bs, 0, none⟩) hBs).trans hc
  rcases Nat.eq_zero_or_pos zs.length with hz | hz
  · have : zs = [] := List.eq_nil_of_length_eq_zero hz
    subst this
    exact (values1_none_in F n h7 hro l Bs cap A J W hc' h0).mono fun e W' ⟨he, hj⟩ => ⟨he, .inl ⟨_, rfl, hj⟩⟩
  · obtain ⟨ad, rfl, _⟩ := hC.2.2 hz
    obtain ⟨hb, hs⟩ := hA ad rfl hz
    obtain ⟨b, off, sp⟩ := ad
    simp only at hs hb
    subst hs
    have hcs : ∀ j, j < zs.length → W.cell? ⟨b, off + j * 2, none⟩ = some (.int .i64 (zs[j]?.getD z30).f0) ∧ W.cell? ⟨b, off + j * 2 + 1, none⟩ = some (.int .i64 (zs[j]?.getD z30).f1) := fun j hj => by
      have hC' := Kd.C_below hC hW
      obtain ⟨ad, e, g0, g1⟩ := at_T30 hC' (j : Int) (by omega) (by omega)
      injection e with e
      subst e
      have hx : rd_T30 zs (j : Int) = zs[j]?.getD z30 := by unfold rd_T30; rw [Int.toNat_natCast, List.getD_eq_getElem?_getD]
      rw [Int.toNat_natCast, hx, Addr.add_lit] at g0 g1
      exact ⟨g0, g1⟩
    refine (values1_in F n h7 hro hn l Bs n₀ b off zs.length cap zs hreach hb J Jx hY W hJ (Nat.le_trans hn₀ hW.size) hc' hcs h0).mono ?_
    rintro e W' ⟨he, ⟨ys, rfl, hj⟩ | ⟨pre, ⟨k, hk, rfl⟩, hj⟩⟩
    · exact ⟨he, .inl ⟨_, by rw [upto_take zs z30 (Nat.le_refl _)]; simp, hj⟩⟩
    · exact ⟨he, .inr ⟨_, by rw [upto_take zs z30 hk]; exact List.take_prefix _ _, hj⟩⟩

/-! ### What collects -/
def fl (xs : List S30) : List Value := xs.flatMap enc30
theorem fl_snoc (xs : List S30) (x : S30) : fl (xs ++ [x]) = fl xs ++ enc30 x := by simp [fl, List.flatMap_append]
theorem fl_reps (xs : List S30) {R : S30 → List Value → Prop} (hR : ∀ x, R x (enc30 x)) : Reps R 2 xs (fl xs) := by
  have : ∀ n, ∀ xs : List S30, xs.length = n → Reps R 2 xs (fl xs) := by
    intro n
    induction n with
    | zero => intro xs h; obtain rfl := List.eq_nil_of_length_eq_zero h; exact Reps.none _ _
    | succ n ih =>
      intro xs h
      have hne : xs ≠ [] := fun e => by rw [e] at h; cases h
      rw [← List.dropLast_concat_getLast hne, fl_snoc]
      exact (ih _ (by simp [h])).snoc (hR _) rfl
  exact this _ xs rfl

/-- A box of an entry. -/
def Box2 (W : World) (B : Nat) (x : S30) : Prop := W.heap[B]? = some (.cells #[.int .i64 x.f0, .int .i64 x.f1] 30 (0, 0))
theorem Box2.cells {W : World} {B : Nat} {x : S30} (h : Box2 W B x) : W.cell? ⟨B, 0, none⟩ = some (.int .i64 x.f0) ∧ W.cell? ⟨B, 1, none⟩ = some (.int .i64 x.f1) := ⟨(blk_cells h 0).1, (blk_cells h 1).1⟩
theorem box2_own {β : Type} (B : Nat) (f : β → S30) : Own (fun s W => Box2 W B (f s)) := fun s X Y row hs hg hrow => by
  have hlt : B < X.heap.size := (Array.getElem?_eq_some_iff.1 hs).1
  refine (hg.block B hlt (fun e' => ?_)).trans hs
  obtain ⟨o, ho, hc⟩ := hrow B e'.symm
  rw [show X.heap[B]? = _ from hs] at ho; cases ho; cases hc

set_option maxRecDepth 100000 in
set_option maxHeartbeats 4000000 in
theorem appendSeq_in (F : Fence) (n : Nat) (h1 : 1 ≤ n) (h105 : F.fn 105) (gf : Nat) (hgf : F.fn gf) (hro : F.round = none) (egf : ∀ args w, (callFunc gf args).run Try.prog w = .ok (.enter gf args) w) (lb : Array Value) (zs : List S30) (Sp : List S30 → Prop) (w w0 : World) (hw0 : w0.heap.size ≤ w.heap.size)
    (hseq : SeqStopsK F (n - 1) Try.prog gf lb (fun x : S30 => #[.agg #[.int .i64 x.f0, .int .i64 x.f1]]) (Below w0.heap.size) (fun ys => ys = zs) Sp zs.length w) (hreach : zs.length * 16 ≤ 140737488351232) :
    CallsIn F n Try.prog 105 #[.slice none 0 0, .func (.func gf) #[] lb] w fun e W' => ∃ v, e = .returned v ∧ Kd.R k30 30 W' w.heap.size (fun _ => True) v zs ∧ Below w0.heap.size w W' := by
  obtain ⟨i0, hi, hz0, hz1, hz2⟩ := info_parts info30
  refine callsIn_of_wp_marks Try.func105 rfl h105 ?_ hro
  simp only [Try.ntmps105, List.size_toArray, List.length_cons, List.length_nil, Nat.reduceAdd, Nat.reduceSub, Array.replicate_succ, Array.replicate_zero, List.push_toArray, List.append_toArray, List.nil_append, List.cons_append]
  gi_wp2
  have bS := Boxed.new w 22 (.slice none 0 0)
  have hB0 : Below w.heap.size w (w.alloc (.cells #[.slice none 0 0] 22)) := (Below.refl _ w).alloc (Nat.le_refl _) _
  have hsz : (w.alloc (.cells #[.slice none 0 0] 22)).heap.size = w.heap.size + 1 := by simp
  generalize w.alloc (.cells #[.slice none 0 0] 22) = W0 at bS hB0 hsz ⊢
  refine wpIn_rangeFunc_ownH hro h1 (gf := gf) (lb := lb) rfl hgf egf hseq belowK_t (belowK_b (by omega)) hB0 (fun _ => rfl)
    (fun pre W => (∃ v, Boxed W w.heap.size 22 v ∧ W.ownsRow w.heap.size 30 2 v pre.length (fl pre) ∧ True) ∧ Below w.heap.size w W)
    (fun _ _ _ => False)
    (OwnFrom.and (Own.from (holdsRow_own w.heap.size w.heap.size 22 30 2 (fun pre : List S30 => pre.length) (fun pre => fl pre) (fun _ _ => True)) _) (ownFrom_below (Nat.le_refl _) (by omega)))
    (fun _ _ _ _ _ hs _ _ => hs)
    ⟨⟨_, bS, World.ownsRow_nil _ _ _ _, trivial⟩, hB0⟩
    (fun x a' W => ∃ Bx, w.heap.size < Bx ∧ Box2 W Bx x ∧ a' = { tmps := #[.slice none 0 0, .func (.func gf) #[] lb, .pointer (some ⟨w.heap.size, 0, none⟩), undef, .slice none 0 0, .pointer (some ⟨Bx, 0, none⟩), .func (.func gf) #[] lb, .agg #[.int .i64 x.f0, .int .i64 x.f1], undef, undef, undef, undef, undef], defers := [] })
    (fun x a' _ X Y row hs hg hr => by obtain ⟨Bx, h1, h2, h3⟩ := hs; exact ⟨Bx, h1, box2_own Bx (fun (_ : Unit) => x) () X Y row h2 hg (fun r e => (hr r e).2), h3⟩)
    ?assign ?body ?done ?stop
  case assign =>
    rintro l pre x W K ⟨⟨v, hv, hrow, _⟩, hB⟩ hK
    gi_wp2
    exact hK _ _ ((KeepsOthers.alloc _ _).from _) ((Below.refl _ W).alloc (Nat.le_trans hw0 hB.size) _) ⟨⟨v, hv.alloc _, hrow.alloc _, trivial⟩, hB.alloc hB.size _⟩ ⟨W.heap.size, hv.lt, World.alloc_heap_new W _, rfl⟩
  case body =>
    rintro l pre x a' W hl _ ⟨⟨v, hv, hrow, _⟩, hB⟩ ⟨Bx, hBx, bX, rfl⟩ hlt
    have hc := hv.cell
    obtain ⟨x0, x1⟩ := bX.cells
    gi_wp2_with (gi_at_builtin; refine wpListIn_append_own _ rfl _ _ 22 rfl w.heap.size 30 i0 (.agg #[.int .i64 0, .int .i64 0]) 2 16 Try.underlying22 hi hz0 hz1 hz2 rfl (by decide) _ _ _ rfl (hrow.alloc _) ⟨W.heap.size, 0, none⟩ 1 1 [.int .i64 x.f0, .int .i64 x.f1] rfl rfl (World.news_of_block (cs := #[.int .i64 x.f0, .int .i64 x.f1]) (t := 30) (fr := (0, 0)) (heap_alloc_new W _)) (by simp [Value.oneCell']) (by have := hlt; simp only [maxLen]; omega) (by omega) (by have := hB.size; simp; omega) ?_; intro v' w1 hown' hgrow _; obtain ⟨g', cap', rfl⟩ := ownsRow_succ hown'; obtain ⟨hv1, hv2, hr2, hk2, hb2⟩ := hv.appended (by decide) hrow hB.size (Nat.le_refl _) hown' hgrow; have hc1 := hv1.cell; have hf1 := hv1.frozen)
    exact ⟨hk2.from _, hb2.mono hw0, ⟨_, hv2, by rw [fl_snoc]; simpa [enc30] using hr2, trivial⟩, hB.trans hb2⟩
  case done =>
    rintro D ys W hD rfl ⟨⟨v, hv, hrow, _⟩, hB⟩ hK
    have hc := hv.cell
    gi_wp2
    refine ⟨by simp, .inl ⟨_, _, rfl, run_takeDeferred hK, ?_⟩⟩
    refine ⟨_, results_tmp rfl _ _ _, v, rfl, ?_, (hB.mono hw0).trans (belowK_b (w := w0) (Nat.le_refl _) W D _ _ (by omega) hK rfl rfl)⟩
    exact ⟨fun _ _ => trivial, fl ys, ownsRow_putObj hrow _ hK rfl, fl_reps ys (fun x => k30_mkM _ _ _ x)⟩
  case stop =>
    rintro D c pre W _ _ h _
    exact h.elim
end Go.Proofs.Ytbdkgdbfnkogaaa.R
end
