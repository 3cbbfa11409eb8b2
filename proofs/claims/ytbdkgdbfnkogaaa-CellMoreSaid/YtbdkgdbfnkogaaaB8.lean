import Derived.Test.YtbdkgdbfnkogaaaB7
import Derived.Shelf.SlSortCmp.KitK
import Derived.Deep.LoopGhost
import Derived.Test.YtbdkgdbfnkogaaaRk
import Derived.Laws.CopyOwn
import Derived.Laws.CopyRow

section
/-
  rank's heap: 'up' lets the last one rise, 'down' lets the first one sink: a heap again, of the same elements. Conditions: the row lies as told.
-/
namespace Go.Proofs.Ytbdkgdbfnkogaaa.R
open Go.Shelf Go.RowKit Go.Lib Go.Sort Go.Proofs.YtbdkgdbfnkogaaaW.PrintWords Go.Proofs.YtbdkgdbfnkogaaaW.PrintLast Go.Proofs.YtbdkgdbfnkogaaaW.PrintMore Go.Proofs.Ytbdkgdbfnkogaaa.Plain
set_option linter.unusedVariables false
set_option linter.unusedSimpArgs false

instance : Inhabited S30 := ⟨z30⟩
def enc30 (x : S30) : List Value := [.int .i64 x.f0, .int .i64 x.f1]

set_option maxHeartbeats 1000000 in
set_option maxRecDepth 100000 in
theorem less_any (a b : S30) (w : World) : Calls Try.prog 15 #[.agg #[.int .i64 a.f0, .int .i64 a.f1], .agg #[.int .i64 b.f0, .int .i64 b.f1]] w fun e w' => e = .returned (.bool (nlt a b)) ∧ ∃ q os, w' = grow (w.drewN q) os := by
  have hd := ncmp_neg a b
  have C0 := Aside0.mk (order_any a b)
  generalize nlt a b = r at hd ⊢
  generalize ncmp a b = m at hd C0
  go_enter Try.func15, Try.ntmps15
  go_wp2_with fail
  refine (C0.out _).mono ?_
  rintro e w' ⟨rfl, hq⟩
  have HQ := Aside0.mk hq
  clear hq
  go_wp2
  go_ret
  obtain ⟨q, os, hw⟩ := HQ.out
  refine ⟨?_, q, #[.cells #[.int .i64 a.f0, .int .i64 a.f1] 30, .cells #[.int .i64 b.f0, .int .i64 b.f1] 30] ++ os, ?_⟩
  · first | rfl | simp
  · rw [hw, alloc_eq_grow, alloc_eq_grow, grow_grow]
    show grow (grow (w.drewN q) _) os = _
    rw [grow_grow]
    rfl
theorem arr_at (d : Array S30) (i : Nat) : d[i]! = at_ z30 d.toList i := by
  unfold at_
  rw [List.getD_eq_getElem?_getD, getElem!_def]
  simp only [Array.getElem?_toList]
  cases d[i]? <;> rfl
theorem arr_swp (d : Array S30) (i j : Nat) : (swp d i j).toList = swpl z30 d.toList i j := by
  unfold swp swpl
  rw [Array.toList_setIfInBounds, Array.toList_setIfInBounds, arr_at, arr_at]

theorem agg30 : ∀ w, (isAgg 30).run Try.prog w = .ok true w := Try.isAgg30
theorem size30 : ∀ w, (Go.sizeOf 30).run Try.prog w = .ok 2 w := Try.sizeOf30

section
variable {w0 W : World} {blk off : Nat} {dk d0 : Array S30}
theorem swk_cell (h : SWK enc30 2 w0 blk off dk W) (R : RowK enc30 2 w0 blk off d0) (hs : dk.size = d0.size) (i : Nat) (hi : i < dk.size) :
    W.cell? ⟨blk, off + i * 2, none⟩ = some (.int .i64 dk[i]!.f0) ∧ W.cell? ⟨blk, off + i * 2 + 1, none⟩ = some (.int .i64 dk[i]!.f1) := by
  have hc := HoldsK.cells (h.holds R.hblk R.hH hs) R.hk hi
  have h0 := hc 0 _ rfl
  have h1 := hc 1 _ rfl
  rw [Addr.add_lit] at h0 h1
  exact ⟨h0, h1⟩
theorem swk_frozen (h : SWK enc30 2 w0 blk off dk W) (R : RowK enc30 2 w0 blk off d0) (hs : dk.size = d0.size) (i : Nat) (hi : i < dk.size) :
    W.frozen? ⟨blk, off + i * 2, none⟩ = false ∧ W.frozen? ⟨blk, off + i * 2 + 1, none⟩ = false := by
  have h0 := HoldsK.cell (h.holds R.hblk R.hH hs) (i := i) (c := 0) hi (by decide)
  have h1 := HoldsK.cell (h.holds R.hblk R.hH hs) (i := i) (c := 1) hi (by decide)
  exact ⟨h0.2, h1.2⟩
end

theorem cell_set_some {W : World} {b : Addr} {u : Value} (a : Addr) (v : Value) (h : W.cell? b = some u) : ∃ u', (W.setCell a v).cell? b = some u' :=
  cell?_setCell_some (w := W) (p := a) (x := v) (q := b) (v := u) h |>.imp fun _ h => h

set_option maxHeartbeats 8000000 in
set_option maxRecDepth 1000000 in
theorem up_any (blk off cap : Nat) (d0 d : Array S30) (w0 w : World) (R : RowK enc30 2 w0 blk off d0) (hs : d0.size = d.size) (S : SWK enc30 2 w0 blk off d w) (hsz : d.size < 4611686018427387904)
    (h1 : 0 < d.size) (hu : UpInv nlt z30 d.toList (d.size - 1)) :
    Calls Try.prog 50 #[.slice (some ⟨blk, off, none⟩) d.size cap] w fun e w' => e = .returned (.tuple #[]) ∧ ∃ d' : Array S30, d'.size = d.size ∧ d'.toList.Perm d.toList ∧ IsHeap nlt z30 d'.toList ∧ SWK enc30 2 w0 blk off d' w' := by
  have mixed : Try.prog.follows .mixedOrders = true := by kernel_rfl
  have aE := agg30
  have zE := size30
  have S0 : Aside _ := S
  have U0 : Aside _ := hu
  clear S hu
  go_enter Try.func50, Try.ntmps50
  go_wp2
  go_loopg [2] d.size (fun gx s2 wr => ∃ (i : Nat) (dk : Array S30), s2 = .int .i64 i ∧ i < d.size ∧ i ≤ gx ∧ dk.size = d.size ∧ Aside (SWK enc30 2 w0 blk off dk wr) ∧ Aside (UpInv nlt z30 dk.toList i ∧ dk.toList.Perm d.toList))
  case atStart => exact ⟨d.size - 1, d, by congr 1; omega, by omega, by omega, rfl, S0, U0.out, List.Perm.refl _⟩
  case round =>
    obtain ⟨i, dk, rfl, hi, hgx, hds, S1, U1⟩ := hrel
    clear S0 U0
    by_cases h0 : i = 0
    · subst h0
      go_wp2
      go_end0
      exact ⟨rfl, dk, hds, U1.out.2, U1.out.1.zero, S1.out⟩
    · have h0z : (0 : Int) < (i : Int) := by omega
      obtain ⟨p, hp⟩ : ∃ p, p = (i - 1) / 2 := ⟨_, rfl⟩
      have hpi : p < i := by omega
      have rp : ((i : Int) - 1) / 2 = (p : Int) := by omega
      have HP : Aside (p = (i - 1) / 2) := hp
      clear hp h0
      have hpd : p < d.size := by omega
      have bi : (i : Int) < (d.size : Int) := by omega
      have bp : (p : Int) < (d.size : Int) := by omega
      obtain ⟨x, hx⟩ : ∃ x, x = dk[p]! := ⟨_, rfl⟩
      obtain ⟨y, hy⟩ : ∃ y, y = dk[i]! := ⟨_, rfl⟩
      have la0 := fun n os => (swk_cell (S1.out.grown n os) R (by omega) p (by omega)).1
      have la1 := fun n os => (swk_cell (S1.out.grown n os) R (by omega) p (by omega)).2
      have lb0 := fun n os => (swk_cell (S1.out.grown n os) R (by omega) i (by omega)).1
      have lb1 := fun n os => (swk_cell (S1.out.grown n os) R (by omega) i (by omega)).2
      rw [← hx] at la0 la1
      rw [← hy] at lb0 lb1
      have hc := fun (n : Nat) (os : Array Obj) => less_any x y (grow (wr.drewN n) os)
      cases hL : nlt x y with
      | false =>
        rw [hL] at hc
        have HL : Aside (nlt x y = false) := hL
        have HX : Aside (x = dk[p]! ∧ y = dk[i]!) := ⟨hx, hy⟩
        clear hL hx hy
        go_wp2_with fail
        rw [rp]
        go_quiet_grown (first | (go_at_call 15; refine Calls.grown_of (hc _ _)))
        have S2 : Aside (SWK enc30 2 w0 blk off dk (grow (wr.drewN nq) osq)) := S1.out.grown nq osq
        clear la0 la1 lb0 lb1 hc S1
        generalize grow (wr.drewN nq) osq = w2 at S2 ⊢
        clear nq osq
        go_wp2
        refine bodyPost_ret (results_none rfl _ _ _) rfl ?_
        refine ⟨rfl, dk, hds, U1.out.2, U1.out.1.done ?_, S2.out⟩
        have := HL.out
        rw [HX.out.1, HX.out.2, HP.out] at this
        rw [← arr_at, ← arr_at]; exact this
      | true =>
        rw [hL] at hc
        have HL : Aside (nlt x y = true) := hL
        have HX : Aside (x = dk[p]! ∧ y = dk[i]!) := ⟨hx, hy⟩
        clear hL hx hy
        go_wp2_with fail
        rw [rp]
        go_quiet_grown (first | (go_at_call 15; refine Calls.grown_of (hc _ _)))
        have S2 : Aside (SWK enc30 2 w0 blk off dk (grow (wr.drewN nq) osq)) := S1.out.grown nq osq
        clear la0 la1 lb0 lb1 hc S1
        generalize grow (wr.drewN nq) osq = w2 at S2 ⊢
        clear nq osq
        have S3 : Aside (SWK enc30 2 w0 blk off (swp dk p i) ((w2.drew.setCells blk (off + p * 2) (enc30 dk[i]!)).setCells blk (off + i * 2) (enc30 dk[p]!))) := S2.out.swapped R p i (by omega) (by omega)
        have U2 : Aside (UpInv nlt z30 (swp dk p i).toList p ∧ (swp dk p i).toList.Perm d.toList) := by
          have hl := HL.out
          rw [HX.out.1, HX.out.2, HP.out, arr_at, arr_at] at hl
          have hU := UpInv.step nlt_sto (i := i) (l := dk.toList) (by simp; omega) (by omega) U1.out.1 hl
          rw [arr_swp, HP.out]
          exact ⟨hU, (swpl_perm (by simp; omega) (by simp; omega)).trans U1.out.2⟩
        obtain ⟨cp0, cp1⟩ := swk_cell S2.out R (by omega) p (by omega)
        obtain ⟨ci0, ci1⟩ := swk_cell S2.out R (by omega) i (by omega)
        obtain ⟨fp0, fp1⟩ := swk_frozen S2.out R (by omega) p (by omega)
        obtain ⟨fi0, fi1⟩ := swk_frozen S2.out R (by omega) i (by omega)
        rw [← HX.out.1] at cp0 cp1 S3
        rw [← HX.out.2] at ci0 ci1 S3
        obtain ⟨u1, k1⟩ := cell_set_some ⟨blk, off + p * 2, none⟩ (.int .i64 y.f0) cp1
        obtain ⟨_, k2'⟩ := cell_set_some ⟨blk, off + p * 2, none⟩ (.int .i64 y.f0) ci0
        obtain ⟨u2, k2⟩ := cell_set_some ⟨blk, off + p * 2 + 1, none⟩ (.int .i64 y.f1) k2'
        obtain ⟨_, k3'⟩ := cell_set_some ⟨blk, off + p * 2, none⟩ (.int .i64 y.f0) ci1
        obtain ⟨_, k3''⟩ := cell_set_some ⟨blk, off + p * 2 + 1, none⟩ (.int .i64 y.f1) k3'
        obtain ⟨u3, k3⟩ := cell_set_some ⟨blk, off + i * 2, none⟩ (.int .i64 x.f0) k3''
        clear k2' k3' k3'' S2 U1
        go_wp2_with fail
        go_big_region_o
        clear cp0 cp1 ci0 ci1 fp0 fp1 fi0 fi1 k1 k2 k3
        go_wp2
        go_roundg p
        case measure => omega
        case rel => exact ⟨p, swp dk p i, by go_num, by omega, Nat.le_refl _, by rw [size_swp]; exact hds, S3, U2⟩

theorem stop_down {l : List S30} {i k : Nat} (hd : DownInv nlt z30 l i) (hl : nlt (at_ z30 l i) (at_ z30 l k) = false) (hk : k < l.length) (hki : k = 2 * i + 1 ∨ k = 2 * i + 2)
    (hbest : ∀ c, c < l.length → c = 2 * i + 1 ∨ c = 2 * i + 2 → Over nlt z30 l k c) : IsHeap nlt z30 l :=
  hd.done (fun h => nlt_sto.ntrans (hbest _ h (.inl rfl)) hl) (fun h => nlt_sto.ntrans (hbest _ h (.inr rfl)) hl)

set_option maxHeartbeats 8000000 in
set_option maxRecDepth 1000000 in
theorem down_any (blk off cap : Nat) (d0 d : Array S30) (w0 w : World) (R : RowK enc30 2 w0 blk off d0) (hs : d0.size = d.size) (S : SWK enc30 2 w0 blk off d w) (hsz : d.size < 2305843009213693952)
    (hu : DownInv nlt z30 d.toList 0) :
    Calls Try.prog 51 #[.slice (some ⟨blk, off, none⟩) d.size cap] w fun e w' => e = .returned (.tuple #[]) ∧ ∃ d' : Array S30, d'.size = d.size ∧ d'.toList.Perm d.toList ∧ IsHeap nlt z30 d'.toList ∧ SWK enc30 2 w0 blk off d' w' := by
  have mixed : Try.prog.follows .mixedOrders = true := by kernel_rfl
  have S0 : Aside _ := S
  have U0 : Aside _ := hu
  clear S hu
  go_enter Try.func51, Try.ntmps51
  go_wp2
  go_loopg [2] d.size (fun gx s2 wr => ∃ (i : Nat) (dk : Array S30), s2 = .int .i64 i ∧ i ≤ d.size ∧ d.size - i ≤ gx ∧ dk.size = d.size ∧ Aside (SWK enc30 2 w0 blk off dk wr) ∧ Aside (DownInv nlt z30 dk.toList i ∧ dk.toList.Perm d.toList))
  case atStart => exact ⟨0, d, by go_num, by omega, by omega, rfl, S0, U0.out, List.Perm.refl _⟩
  case round =>
    obtain ⟨i, dk, rfl, hi, hgx, hds, S1, U1⟩ := hrel
    clear S0 U0
    have w1 : IntKind.i64.wrap (2 * (i : Int)) = 2 * (i : Int) := by rw [IntKind.wrap_i64]; omega
    have w2k : IntKind.i64.wrap (2 * (i : Int) + 1) = 2 * (i : Int) + 1 := by rw [IntKind.wrap_i64]; omega
    have w3k : IntKind.i64.wrap (2 * (i : Int) + 1 + 1) = 2 * (i : Int) + 1 + 1 := by rw [IntKind.wrap_i64]; omega
    by_cases hA : d.size ≤ 2 * i + 1
    · have g1 : decide (2 * (i : Int) + 1 + 1 < (d.size : Int)) = false := decide_eq_false (by omega)
      have g2 : decide ((d.size : Int) ≤ 2 * (i : Int) + 1) = true := decide_eq_true (by omega)
      go_wp2_with fail
      go_big_region_o
      go_wp2_with fail
      go_big_region_o
      go_wp2
      refine bodyPost_ret (results_none rfl _ _ _) rfl ?_
      exact ⟨rfl, dk, hds, U1.out.2, U1.out.1.done (fun h => by simp at h; omega) (fun h => by simp at h; omega), S1.out.drew.drew⟩
    · by_cases hB : d.size ≤ 2 * i + 2
      · have g1 : decide (2 * (i : Int) + 1 + 1 < (d.size : Int)) = false := decide_eq_false (by omega)
        have BEST : Aside (∀ c, c < dk.toList.length → c = 2 * i + 1 ∨ c = 2 * i + 2 → Over nlt z30 dk.toList (2 * i + 1) c) := by
          intro c hc h
          obtain rfl : c = 2 * i + 1 := by simp at hc; omega
          exact nlt_sto.irrefl _
        go_wp2_with fail
        go_big_region_o
        have S2 : Aside (SWK enc30 2 w0 blk off dk wr.drew) := S1.out.drew
        clear S1
        generalize wr.drew = wb at S2 ⊢
        clear g1
        have HKI : (2 * (i : Int) + 1) = ((2 * i + 1 : Nat) : Int) := by omega
        have tk : (2 * (i : Int) + 1).toNat = 2 * i + 1 := by omega
        have b0 : (0 : Int) ≤ 2 * (i : Int) + 1 := by omega
        have bk : 2 * (i : Int) + 1 < (d.size : Int) := by omega
        have bi : (i : Int) < (d.size : Int) := by omega
        have g2 : decide ((d.size : Int) ≤ 2 * (i : Int) + 1) = false := decide_eq_false (by omega)
        have la0 := fun n os => (swk_cell (S2.out.grown n os) R (by omega) i (by omega)).1
        have la1 := fun n os => (swk_cell (S2.out.grown n os) R (by omega) i (by omega)).2
        have lb0 := fun n os => (swk_cell (S2.out.grown n os) R (by omega) (2 * i + 1) (by omega)).1
        have lb1 := fun n os => (swk_cell (S2.out.grown n os) R (by omega) (2 * i + 1) (by omega)).2
        obtain ⟨x, hx⟩ : ∃ x, x = dk[i]! := ⟨_, rfl⟩
        obtain ⟨y, hy⟩ : ∃ y, y = dk[2 * i + 1]! := ⟨_, rfl⟩
        rw [← hx] at la0 la1
        rw [← hy] at lb0 lb1
        have hc := fun (n : Nat) (os : Array Obj) => less_any x y (grow (wb.drewN n) os)
        cases hL : nlt x y with
        | false =>
          rw [hL] at hc
          have HL : Aside (nlt x y = false) := hL
          have HX : Aside (x = dk[i]! ∧ y = dk[2 * i + 1]!) := ⟨hx, hy⟩
          clear hL hx hy HKI
          go_wp2_with fail
          go_quiet_grown (first | (go_at_call 15; refine Calls.grown_of (hc _ _)))
          have S3 : Aside (SWK enc30 2 w0 blk off dk (grow (wb.drewN nq) osq)) := S2.out.grown nq osq
          clear la0 la1 lb0 lb1 hc S2
          generalize grow (wb.drewN nq) osq = w3 at S3 ⊢
          clear nq osq
          go_wp2
          refine bodyPost_ret (results_none rfl _ _ _) rfl ?_
          refine ⟨rfl, dk, hds, U1.out.2, ?_, S3.out⟩
          have hl := HL.out
          rw [HX.out.1, HX.out.2, arr_at, arr_at] at hl
          exact stop_down U1.out.1 hl (by simp; omega) (by omega) BEST.out
        | true =>
          rw [hL] at hc
          have HL : Aside (nlt x y = true) := hL
          have HX : Aside (x = dk[i]! ∧ y = dk[2 * i + 1]!) := ⟨hx, hy⟩
          clear hL hx hy HKI
          go_wp2_with fail
          go_quiet_grown (first | (go_at_call 15; refine Calls.grown_of (hc _ _)))
          have S3 : Aside (SWK enc30 2 w0 blk off dk (grow (wb.drewN nq) osq)) := S2.out.grown nq osq
          clear la0 la1 lb0 lb1 hc S2
          generalize grow (wb.drewN nq) osq = w3 at S3 ⊢
          clear nq osq
          have S4 : Aside (SWK enc30 2 w0 blk off (swp dk i (2 * i + 1)) ((w3.drew.setCells blk (off + i * 2) (enc30 dk[2 * i + 1]!)).setCells blk (off + (2 * i + 1) * 2) (enc30 dk[i]!))) := S3.out.swapped R i (2 * i + 1) (by omega) (by omega)
          have U2 : Aside (DownInv nlt z30 (swp dk i (2 * i + 1)).toList (2 * i + 1) ∧ (swp dk i (2 * i + 1)).toList.Perm d.toList) := by
            have hl := HL.out
            rw [HX.out.1, HX.out.2, arr_at, arr_at] at hl
            have hU := DownInv.step nlt_sto (i := i) (k := 2 * i + 1) (l := dk.toList) (by simp; omega) (by omega) U1.out.1 hl BEST.out
            rw [arr_swp]
            exact ⟨hU, (swpl_perm (by simp; omega) (by simp; omega)).trans U1.out.2⟩
          obtain ⟨cp0, cp1⟩ := swk_cell S3.out R (by omega) i (by omega)
          obtain ⟨ci0, ci1⟩ := swk_cell S3.out R (by omega) (2 * i + 1) (by omega)
          obtain ⟨fp0, fp1⟩ := swk_frozen S3.out R (by omega) i (by omega)
          obtain ⟨fi0, fi1⟩ := swk_frozen S3.out R (by omega) (2 * i + 1) (by omega)
          rw [← HX.out.1] at cp0 cp1 S4
          rw [← HX.out.2] at ci0 ci1 S4
          obtain ⟨u1, k1⟩ := cell_set_some ⟨blk, off + i * 2, none⟩ (.int .i64 y.f0) cp1
          obtain ⟨_, k2'⟩ := cell_set_some ⟨blk, off + i * 2, none⟩ (.int .i64 y.f0) ci0
          obtain ⟨u2, k2⟩ := cell_set_some ⟨blk, off + i * 2 + 1, none⟩ (.int .i64 y.f1) k2'
          obtain ⟨_, k3'⟩ := cell_set_some ⟨blk, off + i * 2, none⟩ (.int .i64 y.f0) ci1
          obtain ⟨_, k3''⟩ := cell_set_some ⟨blk, off + i * 2 + 1, none⟩ (.int .i64 y.f1) k3'
          obtain ⟨u3, k3⟩ := cell_set_some ⟨blk, off + (2 * i + 1) * 2, none⟩ (.int .i64 x.f0) k3''
          clear k2' k3' k3'' S3 U1
          go_wp2_with fail
          go_big_region_o
          clear cp0 cp1 ci0 ci1 fp0 fp1 fi0 fi1 k1 k2 k3
          go_wp2
          go_roundg (d.size - (2 * i + 1))
          case measure => omega
          case rel => exact ⟨2 * i + 1, swp dk i (2 * i + 1), by go_num, by omega, Nat.le_refl _, by rw [size_swp]; exact hds, S4, U2⟩

      · have g1 : decide (2 * (i : Int) + 1 + 1 < (d.size : Int)) = true := decide_eq_true (by omega)
        cases hL : nlt dk[2 * i + 1]! dk[2 * i + 2]! with
        | true =>
          have la0 := fun n os => (swk_cell (S1.out.grown n os) R (by omega) (2 * i + 1) (by omega)).1
          have la1 := fun n os => (swk_cell (S1.out.grown n os) R (by omega) (2 * i + 1) (by omega)).2
          have lb0 := fun n os => (swk_cell (S1.out.grown n os) R (by omega) (2 * i + 2) (by omega)).1
          have lb1 := fun n os => (swk_cell (S1.out.grown n os) R (by omega) (2 * i + 2) (by omega)).2
          have ta : (2 * (i : Int) + 1).toNat = 2 * i + 1 := by omega
          have tb : (2 * (i : Int) + 1 + 1).toNat = 2 * i + 2 := by omega
          have ba : 2 * (i : Int) + 1 < (d.size : Int) := by omega
          have bb : 2 * (i : Int) + 1 + 1 < (d.size : Int) := by omega
          have pa : (0 : Int) ≤ 2 * (i : Int) + 1 := by omega
          have pb : (0 : Int) ≤ 2 * (i : Int) + 1 + 1 := by omega
          obtain ⟨x, hx⟩ : ∃ x, x = dk[2 * i + 1]! := ⟨_, rfl⟩
          obtain ⟨y, hy⟩ : ∃ y, y = dk[2 * i + 2]! := ⟨_, rfl⟩
          have hl : nlt (at_ z30 dk.toList (2 * i + 1)) (at_ z30 dk.toList (2 * i + 2)) = true := by rw [← arr_at, ← arr_at]; exact hL
          rw [← hx, ← hy] at hL
          rw [← hx] at la0 la1
          rw [← hy] at lb0 lb1
          have hc := fun (n : Nat) (os : Array Obj) => less_any x y (grow (wr.drewN n) os)
          rw [hL] at hc
          have BEST : Aside (∀ c, c < dk.toList.length → c = 2 * i + 1 ∨ c = 2 * i + 2 → Over nlt z30 dk.toList (2 * i + 2) c) := by
            intro c hc h
            rcases h with rfl | rfl
            · exact nlt_sto.asymm hl
            · exact nlt_sto.irrefl _
          clear hL hx hy hl
          go_wp2_with fail
          go_quiet_grown (first | (go_at_call 15; refine Calls.grown_of (hc _ _)))
          have S2 : Aside (SWK enc30 2 w0 blk off dk (grow (wr.drewN nq) osq)) := S1.out.grown nq osq
          clear la0 la1 lb0 lb1 hc S1 ta tb ba bb pa pb
          generalize grow (wr.drewN nq) osq = wb at S2 ⊢
          clear nq osq
          go_wp2_with fail
          have HKI : (2 * (i : Int) + 1 + 1) = ((2 * i + 2 : Nat) : Int) := by omega
          have tk : (2 * (i : Int) + 1 + 1).toNat = 2 * i + 2 := by omega
          have b0 : (0 : Int) ≤ 2 * (i : Int) + 1 + 1 := by omega
          have bk : 2 * (i : Int) + 1 + 1 < (d.size : Int) := by omega
          have bi : (i : Int) < (d.size : Int) := by omega
          have g2 : decide ((d.size : Int) ≤ 2 * (i : Int) + 1 + 1) = false := decide_eq_false (by omega)
          have la0 := fun n os => (swk_cell (S2.out.grown n os) R (by omega) i (by omega)).1
          have la1 := fun n os => (swk_cell (S2.out.grown n os) R (by omega) i (by omega)).2
          have lb0 := fun n os => (swk_cell (S2.out.grown n os) R (by omega) (2 * i + 2) (by omega)).1
          have lb1 := fun n os => (swk_cell (S2.out.grown n os) R (by omega) (2 * i + 2) (by omega)).2
          obtain ⟨x, hx⟩ : ∃ x, x = dk[i]! := ⟨_, rfl⟩
          obtain ⟨y, hy⟩ : ∃ y, y = dk[2 * i + 2]! := ⟨_, rfl⟩
          rw [← hx] at la0 la1
          rw [← hy] at lb0 lb1
          have hc := fun (n : Nat) (os : Array Obj) => less_any x y (grow (wb.drewN n) os)
          cases hL : nlt x y with
          | false =>
            rw [hL] at hc
            have HL : Aside (nlt x y = false) := hL
            have HX : Aside (x = dk[i]! ∧ y = dk[2 * i + 2]!) := ⟨hx, hy⟩
            clear hL hx hy HKI
            go_wp2_with fail
            go_quiet_grown (first | (go_at_call 15; refine Calls.grown_of (hc _ _)))
            have S3 : Aside (SWK enc30 2 w0 blk off dk (grow (wb.drewN nq) osq)) := S2.out.grown nq osq
            clear la0 la1 lb0 lb1 hc S2
            generalize grow (wb.drewN nq) osq = w3 at S3 ⊢
            clear nq osq
            go_wp2
            refine bodyPost_ret (results_none rfl _ _ _) rfl ?_
            refine ⟨rfl, dk, hds, U1.out.2, ?_, S3.out⟩
            have hl := HL.out
            rw [HX.out.1, HX.out.2, arr_at, arr_at] at hl
            exact stop_down U1.out.1 hl (by simp; omega) (by omega) BEST.out
          | true =>
            rw [hL] at hc
            have HL : Aside (nlt x y = true) := hL
            have HX : Aside (x = dk[i]! ∧ y = dk[2 * i + 2]!) := ⟨hx, hy⟩
            clear hL hx hy HKI
            go_wp2_with fail
            go_quiet_grown (first | (go_at_call 15; refine Calls.grown_of (hc _ _)))
            have S3 : Aside (SWK enc30 2 w0 blk off dk (grow (wb.drewN nq) osq)) := S2.out.grown nq osq
            clear la0 la1 lb0 lb1 hc S2
            generalize grow (wb.drewN nq) osq = w3 at S3 ⊢
            clear nq osq
            have S4 : Aside (SWK enc30 2 w0 blk off (swp dk i (2 * i + 2)) ((w3.drew.setCells blk (off + i * 2) (enc30 dk[2 * i + 2]!)).setCells blk (off + (2 * i + 2) * 2) (enc30 dk[i]!))) := S3.out.swapped R i (2 * i + 2) (by omega) (by omega)
            have U2 : Aside (DownInv nlt z30 (swp dk i (2 * i + 2)).toList (2 * i + 2) ∧ (swp dk i (2 * i + 2)).toList.Perm d.toList) := by
              have hl := HL.out
              rw [HX.out.1, HX.out.2, arr_at, arr_at] at hl
              have hU := DownInv.step nlt_sto (i := i) (k := 2 * i + 2) (l := dk.toList) (by simp; omega) (by omega) U1.out.1 hl BEST.out
              rw [arr_swp]
              exact ⟨hU, (swpl_perm (by simp; omega) (by simp; omega)).trans U1.out.2⟩
            obtain ⟨cp0, cp1⟩ := swk_cell S3.out R (by omega) i (by omega)
            obtain ⟨ci0, ci1⟩ := swk_cell S3.out R (by omega) (2 * i + 2) (by omega)
            obtain ⟨fp0, fp1⟩ := swk_frozen S3.out R (by omega) i (by omega)
            obtain ⟨fi0, fi1⟩ := swk_frozen S3.out R (by omega) (2 * i + 2) (by omega)
            rw [← HX.out.1] at cp0 cp1 S4
            rw [← HX.out.2] at ci0 ci1 S4
            obtain ⟨u1, k1⟩ := cell_set_some ⟨blk, off + i * 2, none⟩ (.int .i64 y.f0) cp1
            obtain ⟨_, k2'⟩ := cell_set_some ⟨blk, off + i * 2, none⟩ (.int .i64 y.f0) ci0
            obtain ⟨u2, k2⟩ := cell_set_some ⟨blk, off + i * 2 + 1, none⟩ (.int .i64 y.f1) k2'
            obtain ⟨_, k3'⟩ := cell_set_some ⟨blk, off + i * 2, none⟩ (.int .i64 y.f0) ci1
            obtain ⟨_, k3''⟩ := cell_set_some ⟨blk, off + i * 2 + 1, none⟩ (.int .i64 y.f1) k3'
            obtain ⟨u3, k3⟩ := cell_set_some ⟨blk, off + (2 * i + 2) * 2, none⟩ (.int .i64 x.f0) k3''
            clear k2' k3' k3'' S3 U1
            go_wp2_with fail
            go_big_region_o
            clear cp0 cp1 ci0 ci1 fp0 fp1 fi0 fi1 k1 k2 k3
            go_wp2
            go_roundg (d.size - (2 * i + 2))
            case measure => omega
            case rel => exact ⟨2 * i + 2, swp dk i (2 * i + 2), by go_num, by omega, Nat.le_refl _, by rw [size_swp]; exact hds, S4, U2⟩

        | false =>
          have la0 := fun n os => (swk_cell (S1.out.grown n os) R (by omega) (2 * i + 1) (by omega)).1
          have la1 := fun n os => (swk_cell (S1.out.grown n os) R (by omega) (2 * i + 1) (by omega)).2
          have lb0 := fun n os => (swk_cell (S1.out.grown n os) R (by omega) (2 * i + 2) (by omega)).1
          have lb1 := fun n os => (swk_cell (S1.out.grown n os) R (by omega) (2 * i + 2) (by omega)).2
          have ta : (2 * (i : Int) + 1).toNat = 2 * i + 1 := by omega
          have tb : (2 * (i : Int) + 1 + 1).toNat = 2 * i + 2 := by omega
          have ba : 2 * (i : Int) + 1 < (d.size : Int) := by omega
          have bb : 2 * (i : Int) + 1 + 1 < (d.size : Int) := by omega
          have pa : (0 : Int) ≤ 2 * (i : Int) + 1 := by omega
          have pb : (0 : Int) ≤ 2 * (i : Int) + 1 + 1 := by omega
          obtain ⟨x, hx⟩ : ∃ x, x = dk[2 * i + 1]! := ⟨_, rfl⟩
          obtain ⟨y, hy⟩ : ∃ y, y = dk[2 * i + 2]! := ⟨_, rfl⟩
          have hl : nlt (at_ z30 dk.toList (2 * i + 1)) (at_ z30 dk.toList (2 * i + 2)) = false := by rw [← arr_at, ← arr_at]; exact hL
          rw [← hx, ← hy] at hL
          rw [← hx] at la0 la1
          rw [← hy] at lb0 lb1
          have hc := fun (n : Nat) (os : Array Obj) => less_any x y (grow (wr.drewN n) os)
          rw [hL] at hc
          have BEST : Aside (∀ c, c < dk.toList.length → c = 2 * i + 1 ∨ c = 2 * i + 2 → Over nlt z30 dk.toList (2 * i + 1) c) := by
            intro c hc h
            rcases h with rfl | rfl
            · exact nlt_sto.irrefl _
            · exact hl
          clear hL hx hy hl
          go_wp2_with fail
          go_quiet_grown (first | (go_at_call 15; refine Calls.grown_of (hc _ _)))
          have S2 : Aside (SWK enc30 2 w0 blk off dk (grow (wr.drewN nq) osq)) := S1.out.grown nq osq
          clear la0 la1 lb0 lb1 hc S1 ta tb ba bb pa pb
          generalize grow (wr.drewN nq) osq = wb at S2 ⊢
          clear nq osq
          go_wp2_with fail
          have HKI : (2 * (i : Int) + 1) = ((2 * i + 1 : Nat) : Int) := by omega
          have tk : (2 * (i : Int) + 1).toNat = 2 * i + 1 := by omega
          have b0 : (0 : Int) ≤ 2 * (i : Int) + 1 := by omega
          have bk : 2 * (i : Int) + 1 < (d.size : Int) := by omega
          have bi : (i : Int) < (d.size : Int) := by omega
          have g2 : decide ((d.size : Int) ≤ 2 * (i : Int) + 1) = false := decide_eq_false (by omega)
          have la0 := fun n os => (swk_cell (S2.out.grown n os) R (by omega) i (by omega)).1
          have la1 := fun n os => (swk_cell (S2.out.grown n os) R (by omega) i (by omega)).2
          have lb0 := fun n os => (swk_cell (S2.out.grown n os) R (by omega) (2 * i + 1) (by omega)).1
          have lb1 := fun n os => (swk_cell (S2.out.grown n os) R (by omega) (2 * i + 1) (by omega)).2
          obtain ⟨x, hx⟩ : ∃ x, x = dk[i]! := ⟨_, rfl⟩
          obtain ⟨y, hy⟩ : ∃ y, y = dk[2 * i + 1]! := ⟨_, rfl⟩
          rw [← hx] at la0 la1
          rw [← hy] at lb0 lb1
          have hc := fun (n : Nat) (os : Array Obj) => less_any x y (grow (wb.drewN n) os)
          cases hL : nlt x y with
          | false =>
            rw [hL] at hc
            have HL : Aside (nlt x y = false) := hL
            have HX : Aside (x = dk[i]! ∧ y = dk[2 * i + 1]!) := ⟨hx, hy⟩
            clear hL hx hy HKI
            go_wp2_with fail
            go_quiet_grown (first | (go_at_call 15; refine Calls.grown_of (hc _ _)))
            have S3 : Aside (SWK enc30 2 w0 blk off dk (grow (wb.drewN nq) osq)) := S2.out.grown nq osq
            clear la0 la1 lb0 lb1 hc S2
            generalize grow (wb.drewN nq) osq = w3 at S3 ⊢
            clear nq osq
            go_wp2
            refine bodyPost_ret (results_none rfl _ _ _) rfl ?_
            refine ⟨rfl, dk, hds, U1.out.2, ?_, S3.out⟩
            have hl := HL.out
            rw [HX.out.1, HX.out.2, arr_at, arr_at] at hl
            exact stop_down U1.out.1 hl (by simp; omega) (by omega) BEST.out
          | true =>
            rw [hL] at hc
            have HL : Aside (nlt x y = true) := hL
            have HX : Aside (x = dk[i]! ∧ y = dk[2 * i + 1]!) := ⟨hx, hy⟩
            clear hL hx hy HKI
            go_wp2_with fail
            go_quiet_grown (first | (go_at_call 15; refine Calls.grown_of (hc _ _)))
            have S3 : Aside (SWK enc30 2 w0 blk off dk (grow (wb.drewN nq) osq)) := S2.out.grown nq osq
            clear la0 la1 lb0 lb1 hc S2
            generalize grow (wb.drewN nq) osq = w3 at S3 ⊢
            clear nq osq
            have S4 : Aside (SWK enc30 2 w0 blk off (swp dk i (2 * i + 1)) ((w3.drew.setCells blk (off + i * 2) (enc30 dk[2 * i + 1]!)).setCells blk (off + (2 * i + 1) * 2) (enc30 dk[i]!))) := S3.out.swapped R i (2 * i + 1) (by omega) (by omega)
            have U2 : Aside (DownInv nlt z30 (swp dk i (2 * i + 1)).toList (2 * i + 1) ∧ (swp dk i (2 * i + 1)).toList.Perm d.toList) := by
              have hl := HL.out
              rw [HX.out.1, HX.out.2, arr_at, arr_at] at hl
              have hU := DownInv.step nlt_sto (i := i) (k := 2 * i + 1) (l := dk.toList) (by simp; omega) (by omega) U1.out.1 hl BEST.out
              rw [arr_swp]
              exact ⟨hU, (swpl_perm (by simp; omega) (by simp; omega)).trans U1.out.2⟩
            obtain ⟨cp0, cp1⟩ := swk_cell S3.out R (by omega) i (by omega)
            obtain ⟨ci0, ci1⟩ := swk_cell S3.out R (by omega) (2 * i + 1) (by omega)
            obtain ⟨fp0, fp1⟩ := swk_frozen S3.out R (by omega) i (by omega)
            obtain ⟨fi0, fi1⟩ := swk_frozen S3.out R (by omega) (2 * i + 1) (by omega)
            rw [← HX.out.1] at cp0 cp1 S4
            rw [← HX.out.2] at ci0 ci1 S4
            obtain ⟨u1, k1⟩ := cell_set_some ⟨blk, off + i * 2, none⟩ (.int .i64 y.f0) cp1
            obtain ⟨_, k2'⟩ := cell_set_some ⟨blk, off + i * 2, none⟩ (.int .i64 y.f0) ci0
            obtain ⟨u2, k2⟩ := cell_set_some ⟨blk, off + i * 2 + 1, none⟩ (.int .i64 y.f1) k2'
            obtain ⟨_, k3'⟩ := cell_set_some ⟨blk, off + i * 2, none⟩ (.int .i64 y.f0) ci1
            obtain ⟨_, k3''⟩ := cell_set_some ⟨blk, off + i * 2 + 1, none⟩ (.int .i64 y.f1) k3'
            obtain ⟨u3, k3⟩ := cell_set_some ⟨blk, off + (2 * i + 1) * 2, none⟩ (.int .i64 x.f0) k3''
            clear k2' k3' k3'' S3 U1
            go_wp2_with fail
            go_big_region_o
            clear cp0 cp1 ci0 ci1 fp0 fp1 fi0 fi1 k1 k2 k3
            go_wp2
            go_roundg (d.size - (2 * i + 1))
            case measure => omega
            case rel => exact ⟨2 * i + 1, swp dk i (2 * i + 1), by go_num, by omega, Nat.le_refl _, by rw [size_swp]; exact hds, S4, U2⟩

end Go.Proofs.Ytbdkgdbfnkogaaa.R
end

section
/-
  A row of the call's own (Kd.R) as the sort's words have it (HoldsK, SWK), and back. Conditions: the kind's cells are a plain function of the element. The builtin copy of a whole row of elements of several cells onto a row of the call's own of the same length. Conditions: as told.
-/
namespace Go.Proofs.YtbdkgdbfnkogaaaW.PrintWords
open Go.Shelf Go.RowKit Go.Lib Go.Sort Go.Proofs
set_option linter.unusedVariables false
set_option linter.unusedSimpArgs false

/-- A kind whose cells are a plain function of the element. -/
structure Plainly {α : Type} (d : Kd α) (enc : α → List Value) : Prop where
  sz : ∀ x, (enc x).length = d.sz
  one : ∀ x, ∀ v ∈ enc x, v.oneCell' = true
  pos : 0 < d.sz
  K : ∀ {w x cs}, d.K w x cs → cs = enc x
  M : ∀ w base ok x, d.M w base ok x (enc x)

section
variable {α : Type} [Inhabited α] {d : Kd α} {enc : α → List Value} {e base g cap : Nat} {ok : Nat → Prop} {w w' : World} {xs : List α}

theorem arr_get (xs : List α) (i : Nat) (h : i < xs.length) : xs.toArray[i]! = xs[i] := by simp [h]

theorem holds_of_C (P : Plainly d enc) {n : Nat} (hC : d.C w (some ⟨g, 0, none⟩) n xs) (hf : ∀ j, w.frozen? ⟨g, j, none⟩ = false) : HoldsK enc d.sz w g 0 xs.toArray := by
  intro t ht
  have hn : xs.length = n := hC.1
  rw [size_flatK] at ht
  have ht' : t < xs.length * d.sz := by simpa using ht
  have hi : t / d.sz < xs.length := Nat.div_lt_of_lt_mul (by rw [Nat.mul_comm]; exact ht')
  refine ⟨?_, hf _⟩
  obtain ⟨ad, c, ea, _, hK, hc⟩ := Kd.C_get hC default ((t / d.sz : Nat) : Int) (Int.natCast_nonneg _) (Int.ofNat_lt.2 (hn ▸ hi))
  injection ea with ea
  subst ea
  rw [P.K hK] at hc
  rw [get_flatK _ _ _ _ ht]
  have hj : t % d.sz < (enc (xs.toArray[t / d.sz]!)).length := by rw [P.sz]; exact Nat.mod_lt _ P.pos
  have he : xs.getD (t / d.sz) default = xs.toArray[t / d.sz]! := by
    rw [arr_get _ _ hi, List.getD_eq_getElem?_getD, List.getElem?_eq_getElem hi]; rfl
  have h2 : (enc (xs.getD ((t / d.sz : Nat) : Int).toNat default))[t % d.sz]? = some ((enc (xs.toArray[t / d.sz]!))[t % d.sz]!) := by
    rw [Int.toNat_natCast, he, List.getElem?_eq_getElem hj, getElem!_pos (enc (xs.toArray[t / d.sz]!)) (t % d.sz) hj]
  have h3 := hc (t % d.sz) _ h2
  rw [add_plain, Int.toNat_natCast, Nat.div_add_mod'] at h3
  rw [Nat.zero_add]
  exact h3

theorem holds_of_R (P : Plainly d enc) (h : d.R e w base ok (.slice (some ⟨g, 0, none⟩) xs.length cap) xs) : HoldsK enc d.sz w g 0 xs.toArray := by
  have hr := Kd.R_reads' h
  obtain ⟨_, inner, ho, _⟩ := h
  refine holds_of_C P hr.2.2 (fun j => ?_)
  rcases ho.2 with ⟨hv, _⟩ | ⟨g', cap', cur, hv, _, hb, _⟩
  · cases hv
  · injection hv with hv _ _
    injection hv with hv
    injection hv with hv
    subst hv
    simp [World.frozen?, hb]

theorem rowK_of_R (P : Plainly d enc) (h : d.R e w base ok (.slice (some ⟨g, 0, none⟩) xs.length cap) xs) : RowK enc d.sz w g 0 xs.toArray :=
  ⟨P.sz, P.one, holds_of_R P h, own_lt h.2.choose_spec.1 g rfl⟩

theorem swk_heap {d' : Array α} {k : Nat} (h : SWK enc k w g 0 d' w') (hg : g < w.heap.size) :
    w'.os = w.os ∧ w'.tape = w.tape ∧ w'.output = w.output ∧ w.heap.size ≤ w'.heap.size ∧ (∀ b, b < w.heap.size → b ≠ g → w'.heap[b]? = w.heap[b]?) ∧
    ∀ cur t fr, w.heap[g]? = some (.cells cur t fr) → w'.heap[g]? = some (.cells (putCells id 0 (flatK enc k d') cur) t fr) := by
  obtain ⟨m, os, rfl⟩ := h
  unfold sortWorldK grow putRowK putRow mapBlock Sort.ahead
  refine ⟨rfl, rfl, rfl, by simp, fun b hb hne => ?_, fun cur t fr hc => ?_⟩
  · show ((w.heap.modify g _) ++ os)[b]? = _
    rw [Array.getElem?_append_left (by simpa using hb), Array.getElem?_modify, if_neg (Ne.symm hne)]
  · show ((w.heap.modify g _) ++ os)[g]? = _
    rw [Array.getElem?_append_left (by simpa using hg), Array.getElem?_modify, if_pos rfl, hc]
    rfl

theorem kept_of_swk {d' : Array α} {k : Nat} (h : SWK enc k w g 0 d' w') (hg : g < w.heap.size) : Kept w w' (fun b => b = g) :=
  ⟨(swk_heap h hg).2.2.2.1, fun b hb hne => (swk_heap h hg).2.2.2.2.1 b hb hne⟩
theorem below_of_swk {d' : Array α} {k : Nat} (h : SWK enc k w g 0 d' w') (hg : g < w.heap.size) {B : Nat} (hB : B ≤ g) : Below B w w' :=
  ⟨(swk_heap h hg).1, (swk_heap h hg).2.1, (swk_heap h hg).2.2.1, (swk_heap h hg).2.2.2.1, fun b hb => (swk_heap h hg).2.2.2.2.1 b (by omega) (by omega)⟩

theorem flat_list (P : Plainly d enc) (d' : Array α) (j : Nat) (hj : j < d'.size) : ((flatK enc d.sz d').toList.drop (j * d.sz)).take d.sz = enc d'[j]! := by
  have hlt : j * d.sz + d.sz ≤ d'.size * d.sz := by
    have := Nat.mul_le_mul_right d.sz (show j + 1 ≤ d'.size from hj)
    rwa [Nat.add_mul, Nat.one_mul] at this
  apply List.ext_getElem?
  intro c
  rw [List.getElem?_take]
  split
  · rename_i hc
    rw [List.getElem?_drop]
    have h1 : j * d.sz + c < (flatK enc d.sz d').size := by rw [size_flatK]; omega
    have h2 := get_flatK enc d.sz d' (j * d.sz + c) (by rw [size_flatK] at h1; exact h1)
    rw [getElem!_pos (flatK enc d.sz d') (j * d.sz + c) h1] at h2
    have hdiv : (j * d.sz + c) / d.sz = j := by rw [Nat.mul_comm, Nat.mul_add_div P.pos, Nat.div_eq_of_lt hc, Nat.add_zero]
    have hmod : (j * d.sz + c) % d.sz = c := by rw [Nat.mul_comm, Nat.mul_add_mod, Nat.mod_eq_of_lt hc]
    rw [hdiv, hmod] at h2
    have h3 : c < (enc d'[j]!).length := by rw [P.sz]; exact hc
    rw [Array.getElem?_toList, Array.getElem?_eq_getElem h1, h2, getElem!_pos (enc d'[j]!) c h3, List.getElem?_eq_getElem h3]
  · rename_i hc
    rw [List.getElem?_eq_none (by rw [P.sz]; omega)]

theorem R_of_swk (P : Plainly d enc) {n : Nat} (hn : n = xs.length) (h : d.R e w base ok (.slice (some ⟨g, 0, none⟩) n cap) xs) {d' : Array α} (hs : d'.size = xs.length) (S : SWK enc d.sz w g 0 d' w') : d.R e w' base ok (.slice (some ⟨g, 0, none⟩) n cap) d'.toList := by
  subst hn
  have hlt := own_lt h.2.choose_spec.1 g rfl
  obtain ⟨h0, inner, ho, _⟩ := h
  refine ⟨h0, (flatK enc d.sz d').toList, ⟨by simp [hs], .inr ?_⟩, by simp [hs], fun j p hj => ?_⟩
  · rcases ho.2 with ⟨hv, _⟩ | ⟨g', cap', cur, hv, hb, hh, h1, h2, h3, _⟩
    · cases hv
    · injection hv with hv _ hc
      injection hv with hv
      injection hv with hv
      subst hv
      subst hc
      refine ⟨g, cap, putCells id 0 (flatK enc d.sz d') cur, by simp [hs], hb, (swk_heap S hlt).2.2.2.2.2 _ _ _ hh, by simpa [hs] using h1, h2, by simp [putCells, h3], ?_⟩
      apply List.ext_getElem?
      intro t
      have hle : xs.length * d.sz ≤ cap * d.sz := Nat.mul_le_mul_right _ h1
      rw [List.getElem?_take]
      split
      · rename_i ht
        have ht : t < xs.length * d.sz := by simpa [hs] using ht
        have hlt' : t < (flatK enc d.sz d').size := by rw [size_flatK, hs]; exact ht
        have hcur : t < cur.size := by omega
        rw [Array.getElem?_toList, Array.getElem?_toList]
        unfold putCells
        rw [Array.getElem?_mapIdx, Array.getElem?_eq_getElem hcur, Array.getElem?_eq_getElem hlt']
        simp only [Option.map_some]
        rw [if_pos ⟨Nat.zero_le _, by omega⟩, Nat.sub_zero, getElem!_pos (flatK enc d.sz d') t hlt']
        rfl
      · rename_i ht
        rw [List.getElem?_eq_none (by simp [hs] at ht ⊢; omega)]
  · obtain ⟨hj1, hj2⟩ := List.getElem?_eq_some_iff.1 hj
    have hj1 : j < d'.size := by simpa using hj1
    rw [flat_list P d' j hj1]
    have : d'[j]! = p := by rw [getElem!_pos d' j hj1]; simpa using hj2
    rw [this]
    exact P.M _ _ _ _
end
end Go.Proofs.YtbdkgdbfnkogaaaW.PrintWords

namespace Go.Proofs.YtbdkgdbfnkogaaaW.PrintWords
open Go.Shelf Go.RowKit Go.Lib Go.Sort Go.Proofs
set_option linter.unusedVariables false
set_option linter.unusedSimpArgs false

section
variable {P : Program}
theorem run_copy_rows (w : World) (dT sT ty elem : TypeId) (sz g dLen dCap : Nat) (a : Option Addr) (sLen sCap : Nat) (cur : Array Value) (t : TypeId) (cs : List Value)
    (hu : P.underlying dT = some (.slice elem)) (hs : (P.info? elem).map (·.size) = some sz)
    (hg : w.heap[g]? = some (.cells cur t (0, 0))) (hn : cs.length = Nat.min sLen dLen * sz) (ha : a = none → cs = [])
    (hsrc : ∀ ad, a = some ad → ∀ j v, cs[j]? = some v → w.cell? (ad.add j) = some v) (hfit : cs.length ≤ cur.size) (h1 : ∀ v ∈ cs, v.oneCell' = true) :
    (Builtin.copy_ #[dT, sT] ty #[.slice (some ⟨g, 0, none⟩) dLen dCap, .slice a sLen sCap]).run P w =
      .ok (goInt (Nat.min sLen dLen)) (w.setRow g (cs ++ cur.toList.drop cs.length).toArray) := by
  have hst := run_storeCells_at P g 0 t cs 0 cur w hg (by simpa using hfit) h1
  simp only [Nat.add_zero, Nat.zero_add, List.take_zero, List.nil_append] at hst
  cases hq : P.info? elem with
  | none => simp [hq] at hs
  | some i =>
    have hi : i.size = sz := by simpa [hq] using hs
    cases a with
    | none =>
      obtain rfl := ha rfl
      simp only [List.length_nil] at hn hst
      simp [Builtin.copy_, run_underlying hu, Builtin.lenOf, Builtin.firstCells, sizeOf, typeInfo, hq, hi, storeCells]
      rw [setRow_self w g cur t (0, 0) hg]
    | some ad =>
      have hl := run_loadCells_list (P := P) w ad cs (hsrc ad rfl)
      simp [Builtin.copy_, run_underlying hu, Builtin.lenOf, Builtin.firstCells, sizeOf, typeInfo, hq, hi, ← hn, hl, hst]
end

section
variable {P : Program} {ops : Array Oper} {rest : List Oper} {o : Oper} {a : Act} {Q : Exit → Act → World → Prop} {α : Type} [Inhabited α] {d : Kd α} {enc : α → List Value} {e base g cap c2 n : Nat} {ok : Nat → Prop} {w : World} {xs ys : List α} {A : Option Addr}

theorem cells_of_C (PL : Plainly d enc) (hC : d.C w A n xs) : (A = none → (flatK enc d.sz xs.toArray).toList = []) ∧ ∀ ad, A = some ad → ∀ j v, (flatK enc d.sz xs.toArray).toList[j]? = some v → w.cell? (ad.add j) = some v := by
  have hn : xs.length = n := hC.1
  constructor
  · rintro rfl
    rcases Nat.eq_zero_or_pos n with h0 | h0
    · have : xs = [] := List.eq_nil_of_length_eq_zero (by omega)
      subst this
      apply List.eq_nil_of_length_eq_zero
      simp
    · obtain ⟨ad, h, _⟩ := hC.2.2 h0
      cases h
  · rintro ad rfl t v hv
    obtain ⟨ht0, hv⟩ := List.getElem?_eq_some_iff.1 hv
    have ht : t < xs.toArray.size * d.sz := by simpa using ht0
    have ht' : t < xs.length * d.sz := by simpa using ht
    have hi : t / d.sz < xs.length := Nat.div_lt_of_lt_mul (by rw [Nat.mul_comm]; exact ht')
    obtain ⟨ad', c, ea, _, hK, hc⟩ := Kd.C_get hC default ((t / d.sz : Nat) : Int) (Int.natCast_nonneg _) (Int.ofNat_lt.2 (hn ▸ hi))
    injection ea with ea
    subst ea
    rw [PL.K hK] at hc
    have hg := get_flatK enc d.sz xs.toArray t ht
    have hj : t % d.sz < (enc (xs.toArray[t / d.sz]!)).length := by rw [PL.sz]; exact Nat.mod_lt _ PL.pos
    have he : xs.getD (t / d.sz) default = xs.toArray[t / d.sz]! := by
      rw [arr_get _ _ hi, List.getD_eq_getElem?_getD, List.getElem?_eq_getElem hi]; rfl
    have h2 : (enc (xs.getD ((t / d.sz : Nat) : Int).toNat default))[t % d.sz]? = some ((enc (xs.toArray[t / d.sz]!))[t % d.sz]!) := by
      rw [Int.toNat_natCast, he, List.getElem?_eq_getElem hj, getElem!_pos (enc (xs.toArray[t / d.sz]!)) (t % d.sz) hj]
    have h3 := hc (t % d.sz) _ h2
    rw [Int.toNat_natCast, Nat.div_add_mod'] at h3
    rw [← hg] at h3
    have hts : t < (flatK enc d.sz xs.toArray).size := by simpa using ht
    rw [getElem!_pos (flatK enc d.sz xs.toArray) t hts] at h3
    rw [← hv]
    simpa using h3

theorem flat_one (PL : Plainly d enc) (xs : List α) : ∀ v ∈ (flatK enc d.sz xs.toArray).toList, v.oneCell' = true := by
  intro v hv
  obtain ⟨t, ht0, rfl⟩ := List.mem_iff_getElem.1 hv
  have hts : t < (flatK enc d.sz xs.toArray).size := by simpa using ht0
  have ht : t < xs.toArray.size * d.sz := by simpa using hts
  have hg := get_flatK enc d.sz xs.toArray t ht
  have hj : t % d.sz < (enc (xs.toArray[t / d.sz]!)).length := by rw [PL.sz]; exact Nat.mod_lt _ PL.pos
  rw [getElem!_pos (flatK enc d.sz xs.toArray) t hts, getElem!_pos (enc (xs.toArray[t / d.sz]!)) (t % d.sz) hj] at hg
  have : (flatK enc d.sz xs.toArray).toList[t] = (flatK enc d.sz xs.toArray)[t] := by simp
  rw [this, hg]
  exact PL.one _ _ (List.getElem_mem _)

theorem wpList_copy_all (PL : Plainly d enc) (hgd : o.guard = none) (dO sO : Operand) (dT sT : TypeId) (ho : o.op = .call { callee := .builtin .copy, args := #[dO, sO], argTypes := #[dT, sT] })
    (hu : P.underlying dT = some (.slice e)) (hsz : (P.info? e).map (·.size) = some d.sz) (hd : a.eval dO = .slice (some ⟨g, 0, none⟩) n cap) (hs : a.eval sO = .slice A n c2)
    (HO : d.R e w base ok (.slice (some ⟨g, 0, none⟩) n cap) ys) (HC : d.C w A n xs)
    (h : ∀ w', d.R e w' base ok (.slice (some ⟨g, 0, none⟩) n cap) xs → Kept w w' (fun b => b = g) → Below g w w' → wpList P ops Q rest (a.put o.dst (goInt n)) w') : wpList P ops Q (o :: rest) a w := by
  have hlt := own_lt HO.2.choose_spec.1 g rfl
  obtain ⟨h0, inner, hown, hr⟩ := HO
  have hyl : ys.length = n := by
    rcases hown.2 with ⟨hv, _⟩ | ⟨g', cap', cur, hv, _⟩
    · cases hv
    · injection hv with _ hv _; exact hv.symm
  have hn : xs.length = n := HC.1
  have hfl : (flatK enc d.sz xs.toArray).toList.length = n * d.sz := by simp [hn]
  rcases hown.2 with ⟨hv, _⟩ | ⟨g', cap', cur, hv, hb, hh, h1, h2, h3, _⟩
  · cases hv
  · injection hv with hv _ hc
    injection hv with hv
    injection hv with hv
    subst hv
    subst hc
    have hfit : (flatK enc d.sz xs.toArray).toList.length ≤ cur.size := by rw [hfl, h3]; exact Nat.mul_le_mul_right _ (hyl ▸ h1)
    have hrun := run_copy_rows (P := P) w dT sT o.type e d.sz g n cap A n c2 cur e (flatK enc d.sz xs.toArray).toList hu hsz hh (by rw [hfl]; simp [Nat.min_def]) (cells_of_C PL HC).1 (cells_of_C PL HC).2 hfit (flat_one PL xs)
    have hmin : Nat.min n n = n := Nat.min_self n
    rw [hmin] at hrun
    refine wpList_plain hgd fun K hK => ?_
    unfold Oper.wp
    simp [execOp, ho, resolve, invoke, builtin, hd, hs, hrun, Result.andThen]
    refine hK _ _ (h _ ?_ ?_ ?_)
    · refine ⟨h0, (flatK enc d.sz xs.toArray).toList, ⟨by rw [hfl, hn], .inr ⟨g, cap, _, by rw [hn], hb, setRow_heap w g cur _ e (0, 0) hh, by rw [hn, ← hyl]; exact h1, h2, ?_, ?_⟩⟩, by rw [hfl, hn], fun j p hj => ?_⟩
      · rw [List.size_toArray, List.length_append, List.length_drop, hfl, Array.length_toList, ← h3]
        rw [hfl] at hfit
        rw [hn]
        omega
      · rw [hn, ← hfl]
        simp
      · obtain ⟨hj1, hj2⟩ := List.getElem?_eq_some_iff.1 hj
        rw [flat_list PL xs.toArray j (by simpa using hj1), arr_get xs j hj1, hj2]
        exact PL.M _ _ _ _
    · exact ⟨by simp [World.setRow], fun b _ hb => setRow_other w g b _ hb⟩
    · exact below_setRow (Below.refl g w) (Nat.le_refl g) _
end
end Go.Proofs.YtbdkgdbfnkogaaaW.PrintWords
end
