/-
  rank's heap: 'up' lets the last one rise, 'down' lets the first one sink: a heap again, of the same elements. Conditions: the row lies as told.
-/
import Derived.Test.YtbdkgdbfnkogaaaOrd
import Derived.Test.YtbdkgdbfnkogaaaHeap
import Derived.Shelf.SlSortCmp.KitK
import Derived.Deep.LoopGhost
namespace Go.Proofs.Ytbdkgdbfnkogaaa.R
open Go.Shelf Go.RowKit Go.Lib Go.Sort Go.Proofs.YtbdkgdbfnkogaaaW.PrintWords Go.Proofs.YtbdkgdbfnkogaaaW.PrintLast Go.Proofs.YtbdkgdbfnkogaaaW.PrintMore Go.Proofs.Ytbdkgdbfnkogaaa.Plain
set_option linter.unusedVariables false
set_option linter.unusedSimpArgs false

instance : Inhabited S30 := ⟨z30⟩
def enc30 (x : S30) : List Value := [.int .i64 x.f0, .int .i64 x.f1]

set_option maxHeartbeats 1000000 in
set_option maxRecDepth 100000 in
theorem less_any (a b : S30) (w : World) : Calls Try.prog 15 #[.agg #[.int .i64 a.f0, .int .i64 a.f1], .agg #[.int .i64 b.f0, .int .i64 b.f1]] w fun e w' => e = .returned (.bool (nlt a b)) ∧ ∃ q os, w' = grow (w.drewN q) os := by
  have hd := ncmp_neg a b
  have C0 := Aside0.mk (order_any a b)
  generalize nlt a b = r at hd ⊢
  generalize ncmp a b = m at hd C0
  go_enter Try.func15, Try.ntmps15
  go_wp2_with fail
  refine (C0.out _).mono ?_
  rintro e w' ⟨rfl, hq⟩
  have HQ := Aside0.mk hq
  clear hq
  go_wp2
  go_ret
  obtain ⟨q, os, hw⟩ := HQ.out
  refine ⟨?_, q, #[.cells #[.int .i64 a.f0, .int .i64 a.f1] 30, .cells #[.int .i64 b.f0, .int .i64 b.f1] 30] ++ os, ?_⟩
  · first | rfl | simp
  · rw [hw, alloc_eq_grow, alloc_eq_grow, grow_grow]
    show grow (grow (w.drewN q) _) os = _
    rw [grow_grow]
    rfl
theorem arr_at (d : Array S30) (i : Nat) : d[i]! = at_ z30 d.toList i := by
  unfold at_
  rw [List.getD_eq_getElem?_getD, getElem!_def]
  simp only [Array.getElem?_toList]
  cases d[i]? <;> rfl
theorem arr_swp (d : Array S30) (i j : Nat) : (swp d i j).toList = swpl z30 d.toList i j := by
  unfold swp swpl
  rw [Array.toList_setIfInBounds, Array.toList_setIfInBounds, arr_at, arr_at]

theorem agg30 : ∀ w, (isAgg 30).run Try.prog w = .ok true w := Try.isAgg30
theorem size30 : ∀ w, (Go.sizeOf 30).run Try.prog w = .ok 2 w := Try.sizeOf30

section
variable {w0 W : World} {blk off : Nat} {dk d0 : Array S30}
theorem swk_cell (h : SWK enc30 2 w0 blk off dk W) (R : RowK enc30 2 w0 blk off d0) (hs : dk.size = d0.size) (i : Nat) (hi : i < dk.size) :
    W.cell? ⟨blk, off + i * 2, none⟩ = some (.int .i64 dk[i]!.f0) ∧ W.cell? ⟨blk, off + i * 2 + 1, none⟩ = some (.int .i64 dk[i]!.f1) := by
  have hc := HoldsK.cells (h.holds R.hblk R.hH hs) R.hk hi
  have h0 := hc 0 _ rfl
  have h1 := hc 1 _ rfl
  rw [Addr.add_lit] at h0 h1
  exact ⟨h0, h1⟩
theorem swk_frozen (h : SWK enc30 2 w0 blk off dk W) (R : RowK enc30 2 w0 blk off d0) (hs : dk.size = d0.size) (i : Nat) (hi : i < dk.size) :
    W.frozen? ⟨blk, off + i * 2, none⟩ = false ∧ W.frozen? ⟨blk, off + i * 2 + 1, none⟩ = false := by
  have h0 := HoldsK.cell (h.holds R.hblk R.hH hs) (i := i) (c := 0) hi (by decide)
  have h1 := HoldsK.cell (h.holds R.hblk R.hH hs) (i := i) (c := 1) hi (by decide)
  exact ⟨h0.2, h1.2⟩
end

theorem cell_set_some {W : World} {b : Addr} {u : Value} (a : Addr) (v : Value) (h : W.cell? b = some u) : ∃ u', (W.setCell a v).cell? b = some u' :=
  cell?_setCell_some (w := W) (p := a) (x := v) (q := b) (v := u) h |>.imp fun _ h => h

set_option maxHeartbeats 8000000 in
set_option maxRecDepth 1000000 in
theorem up_any (blk off cap : Nat) (d0 d : Array S30) (w0 w : World) (R : RowK enc30 2 w0 blk off d0) (hs : d0.size = d.size) (S : SWK enc30 2 w0 blk off d w) (hsz : d.size < 4611686018427387904)
    (h1 : 0 < d.size) (hu : UpInv nlt z30 d.toList (d.size - 1)) :
    Calls Try.prog 50 #[.slice (some ⟨blk, off, none⟩) d.size cap] w fun e w' => e = .returned (.tuple #[]) ∧ ∃ d' : Array S30, d'.size = d.size ∧ d'.toList.Perm d.toList ∧ IsHeap nlt z30 d'.toList ∧ SWK enc30 2 w0 blk off d' w' := by
  have mixed : Try.prog.follows .mixedOrders = true := by kernel_rfl
  have aE := agg30
  have zE := size30
  have S0 : Aside _ := S
  have U0 : Aside _ := hu
  clear S hu
  go_enter Try.func50, Try.ntmps50
  go_wp2
  go_loopg [2] d.size (fun gx s2 wr => ∃ (i : Nat) (dk : Array S30), s2 = .int .i64 i ∧ i < d.size ∧ i ≤ gx ∧ dk.size = d.size ∧ Aside (SWK enc30 2 w0 blk off dk wr) ∧ Aside (UpInv nlt z30 dk.toList i ∧ dk.toList.Perm d.toList))
  case atStart => exact ⟨d.size - 1, d, by congr 1; omega, by omega, by omega, rfl, S0, U0.out, List.Perm.refl _⟩
  case round =>
    obtain ⟨i, dk, rfl, hi, hgx, hds, S1, U1⟩ := hrel
    clear S0 U0
    by_cases h0 : i = 0
    · subst h0
      go_wp2
      go_end0
      exact ⟨rfl, dk, hds, U1.out.2, U1.out.1.zero, S1.out⟩
    · have h0z : (0 : Int) < (i : Int) := by omega
      obtain ⟨p, hp⟩ : ∃ p, p = (i - 1) / 2 := ⟨_, rfl⟩
      have hpi : p < i := by omega
      have rp : ((i : Int) - 1) / 2 = (p : Int) := by omega
      have HP : Aside (p = (i - 1) / 2) := hp
      clear hp h0
      have hpd : p < d.size := by omega
      have bi : (i : Int) < (d.size : Int) := by omega
      have bp : (p : Int) < (d.size : Int) := by omega
      obtain ⟨x, hx⟩ : ∃ x, x = dk[p]! := ⟨_, rfl⟩
      obtain ⟨y, hy⟩ : ∃ y, y = dk[i]! := ⟨_, rfl⟩
      have la0 := fun n os => (swk_cell (S1.out.grown n os) R (by omega) p (by omega)).1
      have la1 := fun n os => (swk_cell (S1.out.grown n os) R (by omega) p (by omega)).2
      have lb0 := fun n os => (swk_cell (S1.out.grown n os) R (by omega) i (by omega)).1
      have lb1 := fun n os => (swk_cell (S1.out.grown n os) R (by omega) i (by omega)).2
      rw [← hx] at la0 la1
      rw [← hy] at lb0 lb1
      have hc := fun (n : Nat) (os : Array Obj) => less_any x y (grow (wr.drewN n) os)
      cases hL : nlt x y with
      | false =>
        rw [hL] at hc
        have HL : Aside (nlt x y = false) := hL
        have HX : Aside (x = dk[p]! ∧ y = dk[i]!) := ⟨hx, hy⟩
        clear hL hx hy
        go_wp2_with fail
        rw [rp]
        go_quiet_grown (first | (go_at_call 15; refine Calls.grown_of (hc _ _)))
        have S2 : Aside (SWK enc30 2 w0 blk off dk (grow (wr.drewN nq) osq)) := S1.out.grown nq osq
        clear la0 la1 lb0 lb1 hc S1
        generalize grow (wr.drewN nq) osq = w2 at S2 ⊢
        clear nq osq
        go_wp2
        refine bodyPost_ret (results_none rfl _ _ _) rfl ?_
        refine ⟨rfl, dk, hds, U1.out.2, U1.out.1.done ?_, S2.out⟩
        have := HL.out
        rw [HX.out.1, HX.out.2, HP.out] at this
        rw [← arr_at, ← arr_at]; exact this
      | true =>
        rw [hL] at hc
        have HL : Aside (nlt x y = true) := hL
        have HX : Aside (x = dk[p]! ∧ y = dk[i]!) := ⟨hx, hy⟩
        clear hL hx hy
        go_wp2_with fail
        rw [rp]
        go_quiet_grown (first | (go_at_call 15; refine Calls.grown_of (hc _ _)))
        have S2 : Aside (SWK enc30 2 w0 blk off dk (grow (wr.drewN nq) osq)) := S1.out.grown nq osq
        clear la0 la1 lb0 lb1 hc S1
        generalize grow (wr.drewN nq) osq = w2 at S2 ⊢
        clear nq osq
        have S3 : Aside (SWK enc30 2 w0 blk off (swp dk p i) ((w2.drew.setCells blk (off + p * 2) (enc30 dk[i]!)).setCells blk (off + i * 2) (enc30 dk[p]!))) := S2.out.swapped R p i (by omega) (by omega)
        have U2 : Aside (UpInv nlt z30 (swp dk p i).toList p ∧ (swp dk p i).toList.Perm d.toList) := by
          have hl := HL.out
          rw [HX.out.1, HX.out.2, HP.out, arr_at, arr_at] at hl
          have hU := UpInv.step nlt_sto (i := i) (l := dk.toList) (by simp; omega) (by omega) U1.out.1 hl
          rw [arr_swp, HP.out]
          exact ⟨hU, (swpl_perm (by simp; omega) (by simp; omega)).trans U1.out.2⟩
        obtain ⟨cp0, cp1⟩ := swk_cell S2.out R (by omega) p (by omega)
        obtain ⟨ci0, ci1⟩ := swk_cell S2.out R (by omega) i (by omega)
        obtain ⟨fp0, fp1⟩ := swk_frozen S2.out R (by omega) p (by omega)
        obtain ⟨fi0, fi1⟩ := swk_frozen S2.out R (by omega) i (by omega)
        rw [← HX.out.1] at cp0 cp1 S3
        rw [← HX.out.2] at ci0 ci1 S3
        obtain ⟨u1, k1⟩ := cell_set_some ⟨blk, off + p * 2, none⟩ (.int .i64 y.f0) cp1
        obtain ⟨_, k2'⟩ := cell_set_some ⟨blk, off + p * 2, none⟩ (.int .i64 y.f0) ci0
        obtain ⟨u2, k2⟩ := cell_set_some ⟨blk, off + p * 2 + 1, none⟩ (.int .i64 y.f1) k2'
        obtain ⟨_, k3'⟩ := cell_set_some ⟨blk, off + p * 2, none⟩ (.int .i64 y.f0) ci1
        obtain ⟨_, k3''⟩ := cell_set_some ⟨blk, off + p * 2 + 1, none⟩ (.int .i64 y.f1) k3'
        obtain ⟨u3, k3⟩ := cell_set_some ⟨blk, off + i * 2, none⟩ (.int .i64 x.f0) k3''
        clear k2' k3' k3'' S2 U1
        go_wp2_with fail
        go_big_region_o
        clear cp0 cp1 ci0 ci1 fp0 fp1 fi0 fi1 k1 k2 k3
        go_wp2
        go_roundg p
        case measure => omega
        case rel => exact ⟨p, swp dk p i, by go_num, by omega, Nat.le_refl _, by rw [size_swp]; exact hds, S3, U2⟩

theorem stop_down {l : List S30} {i k : Nat} (hd : DownInv nlt z30 l i) (hl : nlt (at_ z30 l i) (at_ z30 l k) = false) (hk : k < l.length) (hki : k = 2 * i + 1 ∨ k = 2 * i + 2)
    (hbest : ∀ c, c < l.length → c = 2 * i + 1 ∨ c = 2 * i + 2 → Over nlt z30 l k c) : IsHeap nlt z30 l :=
  hd.done (fun h => nlt_sto.ntrans (hbest _ h (.inl rfl)) hl) (fun h => nlt_sto.ntrans (hbest _ h (.inr rfl)) hl)

set_option maxHeartbeats 8000000 in
set_option maxRecDepth 1000000 in
theorem down_any (blk off cap : Nat) (d0 d : Array S30) (w0 w : World) (R : RowK enc30 2 w0 blk off d0) (hs : d0.size = d.size) (S : SWK enc30 2 w0 blk off d w) (hsz : d.size < 2305843009213693952)
    (hu : DownInv nlt z30 d.toList 0) :
    Calls Try.prog 51 #[.slice (some ⟨blk, off, none⟩) d.size cap] w fun e w' => e = .returned (.tuple #[]) ∧ ∃ d' : Array S30, d'.size = d.size ∧ d'.toList.Perm d.toList ∧ IsHeap nlt z30 d'.toList ∧ SWK enc30 2 w0 blk off d' w' := by
  have mixed : Try.prog.follows .mixedOrders = true := by kernel_rfl
  have S0 : Aside _ := S
  have U0 : Aside _ := hu
  clear S hu
  go_enter Try.func51, Try.ntmps51
  go_wp2
  go_loopg [2] d.size (fun gx s2 wr => ∃ (i : Nat) (dk : Array S30), s2 = .int .i64 i ∧ i ≤ d.size ∧ d.size - i ≤ gx ∧ dk.size = d.size ∧ Aside (SWK enc30 2 w0 blk off dk wr) ∧ Aside (DownInv nlt z30 dk.toList i ∧ dk.toList.Perm d.toList))
  case atStart => exact ⟨0, d, by go_num, by omega, by omega, rfl, S0, U0.out, List.Perm.refl _⟩
  case round =>
    obtain ⟨i, dk, rfl, hi, hgx, hds, S1, U1⟩ := hrel
    clear S0 U0
    have w1 : IntKind.i64.wrap (2 * (i : Int)) = 2 * (i : Int) := by rw [IntKind.wrap_i64]; omega
    have w2k : IntKind.i64.wrap (2 * (i : Int) + 1) = 2 * (i : Int) + 1 := by rw [IntKind.wrap_i64]; omega
    have w3k : IntKind.i64.wrap (2 * (i : Int) + 1 + 1) = 2 * (i : Int) + 1 + 1 := by rw [IntKind.wrap_i64]; omega
    by_cases hA : d.size ≤ 2 * i + 1
    · have g1 : decide (2 * (i : Int) + 1 + 1 < (d.size : Int)) = false := decide_eq_false (by omega)
      have g2 : decide ((d.size : Int) ≤ 2 * (i : Int) + 1) = true := decide_eq_true (by omega)
      go_wp2_with fail
      go_big_region_o
      go_wp2_with fail
      go_big_region_o
      go_wp2
      refine bodyPost_ret (results_none rfl _ _ _) rfl ?_
      exact ⟨rfl, dk, hds, U1.out.2, U1.out.1.done (fun h => by simp at h; omega) (fun h => by simp at h; omega), S1.out.drew.drew⟩
    · by_cases hB : d.size ≤ 2 * i + 2
      · have g1 : decide (2 * (i : Int) + 1 + 1 < (d.size : Int)) = false := decide_eq_false (by omega)
        have BEST : Aside (∀ c, c < dk.toList.length → c = 2 * i + 1 ∨ c = 2 * i + 2 → Over nlt z30 dk.toList (2 * i + 1) c) := by
          intro c hc h
          obtain rfl : c = 2 * i + 1 := by simp at hc; omega
          exact nlt_sto.irrefl _
        go_wp2_with fail
        go_big_region_o
        have S2 : Aside (SWK enc30 2 w0 blk off dk wr.drew) := S1.out.drew
        clear S1
        generalize wr.drew = wb at S2 ⊢
        clear g1
        have HKI : (2 * (i : Int) + 1) = ((2 * i + 1 : Nat) : Int) := by omega
        have tk : (2 * (i : Int) + 1).toNat = 2 * i + 1 := by omega
        have b0 : (0 : Int) ≤ 2 * (i : Int) + 1 := by omega
        have bk : 2 * (i : Int) + 1 < (d.size : Int) := by omega
        have bi : (i : Int) < (d.size : Int) := by omega
        have g2 : decide ((d.size : Int) ≤ 2 * (i : Int) + 1) = false := decide_eq_false (by omega)
        have la0 := fun n os => (swk_cell (S2.out.grown n os) R (by omega) i (by omega)).1
        have la1 := fun n os => (swk_cell (S2.out.grown n os) R (by omega) i (by omega)).2
        have lb0 := fun n os => (swk_cell (S2.out.grown n os) R (by omega) (2 * i + 1) (by omega)).1
        have lb1 := fun n os => (swk_cell (S2.out.grown n os) R (by omega) (2 * i + 1) (by omega)).2
        obtain ⟨x, hx⟩ : ∃ x, x = dk[i]! := ⟨_, rfl⟩
        obtain ⟨y, hy⟩ : ∃ y, y = dk[2 * i + 1]! := ⟨_, rfl⟩
        rw [← hx] at la0 la1
        rw [← hy] at lb0 lb1
        have hc := fun (n : Nat) (os : Array Obj) => less_any x y (grow (wb.drewN n) os)
        cases hL : nlt x y with
        | false =>
          rw [hL] at hc
          have HL : Aside (nlt x y = false) := hL
          have HX : Aside (x = dk[i]! ∧ y = dk[2 * i + 1]!) := ⟨hx, hy⟩
          clear hL hx hy HKI
          go_wp2_with fail
          go_quiet_grown (first | (go_at_call 15; refine Calls.grown_of (hc _ _)))
          have S3 : Aside (SWK enc30 2 w0 blk off dk (grow (wb.drewN nq) osq)) := S2.out.grown nq osq
          clear la0 la1 lb0 lb1 hc S2
          generalize grow (wb.drewN nq) osq = w3 at S3 ⊢
          clear nq osq
          go_wp2
          refine bodyPost_ret (results_none rfl _ _ _) rfl ?_
          refine ⟨rfl, dk, hds, U1.out.2, ?_, S3.out⟩
          have hl := HL.out
          rw [HX.out.1, HX.out.2, arr_at, arr_at] at hl
          exact stop_down U1.out.1 hl (by simp; omega) (by omega) BEST.out
        | true =>
          rw [hL] at hc
          have HL : Aside (nlt x y = true) := hL
          have HX : Aside (x = dk[i]! ∧ y = dk[2 * i + 1]!) := ⟨hx, hy⟩
          clear hL hx hy HKI
          go_wp2_with fail
          go_quiet_grown (first | (go_at_call 15; refine Calls.grown_of (hc _ _)))
          have S3 : Aside (SWK enc30 2 w0 blk off dk (grow (wb.drewN nq) osq)) := S2.out.grown nq osq
          clear la0 la1 lb0 lb1 hc S2
          generalize grow (wb.drewN nq) osq = w3 at S3 ⊢
          clear nq osq
          have S4 : Aside (SWK enc30 2 w0 blk off (swp dk i (2 * i + 1)) ((w3.drew.setCells blk (off + i * 2) (enc30 dk[2 * i + 1]!)).setCells blk (off + (2 * i + 1) * 2) (enc30 dk[i]!))) := S3.out.swapped R i (2 * i + 1) (by omega) (by omega)
          have U2 : Aside (DownInv nlt z30 (swp dk i (2 * i + 1)).toList (2 * i + 1) ∧ (swp dk i (2 * i + 1)).toList.Perm d.toList) := by
            have hl := HL.out
            rw [HX.out.1, HX.out.2, arr_at, arr_at] at hl
            have hU := DownInv.step nlt_sto (i := i) (k := 2 * i + 1) (l := dk.toList) (by simp; omega) (by omega) U1.out.1 hl BEST.out
            rw [arr_swp]
            exact ⟨hU, (swpl_perm (by simp; omega) (by simp; omega)).trans U1.out.2⟩
          obtain ⟨cp0, cp1⟩ := swk_cell S3.out R (by omega) i (by omega)
          obtain ⟨ci0, ci1⟩ := swk_cell S3.out R (by omega) (2 * i + 1) (by omega)
          obtain ⟨fp0, fp1⟩ := swk_frozen S3.out R (by omega) i (by omega)
          obtain ⟨fi0, fi1⟩ := swk_frozen S3.out R (by omega) (2 * i + 1) (by omega)
          rw [← HX.out.1] at cp0 cp1 S4
          rw [← HX.out.2] at ci0 ci1 S4
          obtain ⟨u1, k1⟩ := cell_set_some ⟨blk, off + i * 2, none⟩ (.int .i64 y.f0) cp1
          obtain ⟨_, k2'⟩ := cell_set_some ⟨blk, off + i * 2, none⟩ (.int .i64 y.f0) ci0
          obtain ⟨u2, k2⟩ := cell_set_some ⟨blk, off + i * 2 + 1, none⟩ (.int .i64 y.f1) k2'
          obtain ⟨_, k3'⟩ := cell_set_some ⟨blk, off + i * 2, none⟩ (.int .i64 y.f0) ci1
          obtain ⟨_, k3''⟩ := cell_set_some ⟨blk, off + i * 2 + 1, none⟩ (.int .i64 y.f1) k3'
          obtain ⟨u3, k3⟩ := cell_set_some ⟨blk, off + (2 * i + 1) * 2, none⟩ (.int .i64 x.f0) k3''
          clear k2' k3' k3'' S3 U1
          go_wp2_with fail
          go_big_region_o
          clear cp0 cp1 ci0 ci1 fp0 fp1 fi0 fi1 k1 k2 k3
          go_wp2
          go_roundg (d.size - (2 * i + 1))
          case measure => omega
          case rel => exact ⟨2 * i + 1, swp dk i (2 * i + 1), by go_num, by omega, Nat.le_refl _, by rw [size_swp]; exact hds, S4, U2⟩

      · have g1 : decide (2 * (i : Int) + 1 + 1 < (d.size : Int)) = true := decide_eq_true (by omega)
        cases hL : nlt dk[2 * i + 1]! dk[2 * i + 2]! with
        | true =>
          have la0 := fun n os => (swk_cell (S1.out.grown n os) R (by omega) (2 * i + 1) (by omega)).1
          have la1 := fun n os => (swk_cell (S1.out.grown n os) R (by omega) (2 * i + 1) (by omega)).2
          have lb0 := fun n os => (swk_cell (S1.out.grown n os) R (by omega) (2 * i + 2) (by omega)).1
          have lb1 := fun n os => (swk_cell (S1.out.grown n os) R (by omega) (2 * i + 2) (by omega)).2
          have ta : (2 * (i : Int) + 1).toNat = 2 * i + 1 := by omega
          have tb : (2 * (i : Int) + 1 + 1).toNat = 2 * i + 2 := by omega
          have ba : 2 * (i : Int) + 1 < (d.size : Int) := by omega
          have bb : 2 * (i : Int) + 1 + 1 < (d.size : Int) := by omega
          have pa : (0 : Int) ≤ 2 * (i : Int) + 1 := by omega
          have pb : (0 : Int) ≤ 2 * (i : Int) + 1 + 1 := by omega
          obtain ⟨x, hx⟩ : ∃ x, x = dk[2 * i + 1]! := ⟨_, rfl⟩
          obtain ⟨y, hy⟩ : ∃ y, y = dk[2 * i + 2]! := ⟨_, rfl⟩
          have hl : nlt (at_ z30 dk.toList (2 * i + 1)) (at_ z30 dk.toList (2 * i + 2)) = true := by rw [← arr_at, ← arr_at]; exact hL
          rw [← hx, ← hy] at hL
          rw [← hx] at la0 la1
          rw [← hy] at lb0 lb1
          have hc := fun (n : Nat) (os : Array Obj) => less_any x y (grow (wr.drewN n) os)
          rw [hL] at hc
          have BEST : Aside (∀ c, c < dk.toList.length → c = 2 * i + 1 ∨ c = 2 * i + 2 → Over nlt z30 dk.toList (2 * i + 2) c) := by
            intro c hc h
            rcases h with rfl | rfl
            · exact nlt_sto.asymm hl
            · exact nlt_sto.irrefl _
          clear hL hx hy hl
          go_wp2_with fail
          go_quiet_grown (first | (go_at_call 15; refine Calls.grown_of (hc _ _)))
          have S2 : Aside (SWK enc30 2 w0 blk off dk (grow (wr.drewN nq) osq)) := S1.out.grown nq osq
          clear la0 la1 lb0 lb1 hc S1 ta tb ba bb pa pb
          generalize grow (wr.drewN nq) osq = wb at S2 ⊢
          clear nq osq
          go_wp2_with fail
          have HKI : (2 * (i : Int) + 1 + 1) = ((2 * i + 2 : Nat) : Int) := by omega
          have tk : (2 * (i : Int) + 1 + 1).toNat = 2 * i + 2 := by omega
          have b0 : (0 : Int) ≤ 2 * (i : Int) + 1 + 1 := by omega
          have bk : 2 * (i : Int) + 1 + 1 < (d.size : Int) := by omega
          have bi : (i : Int) < (d.size : Int) := by omega
          have g2 : decide ((d.size : Int) ≤ 2 * (i : Int) + 1 + 1) = false := decide_eq_false (by omega)
          have la0 := fun n os => (swk_cell (S2.out.grown n os) R (by omega) i (by omega)).1
          have la1 := fun n os => (swk_cell (S2.out.grown n os) R (by omega) i (by omega)).2
          have lb0 := fun n os => (swk_cell (S2.out.grown n os) R (by omega) (2 * i + 2) (by omega)).1
          have lb1 := fun n os => (swk_cell (S2.out.grown n os) R (by omega) (2 * i + 2) (by omega)).2
          obtain ⟨x, hx⟩ : ∃ x, x = dk[i]! := ⟨_, rfl⟩
          obtain ⟨y, hy⟩ : ∃ y, y = dk[2 * i + 2]! := ⟨_, rfl⟩
          rw [← hx] at la0 la1
          rw [← hy] at lb0 lb1
          have hc := fun (n : Nat) (os : Array Obj) => less_any x y (grow (wb.drewN n) os)
          cases hL : nlt x y with
          | false =>
            rw [hL] at hc
            have HL : Aside (nlt x y = false) := hL
            have HX : Aside (x = dk[i]! ∧ y = dk[2 * i + 2]!) := ⟨hx, hy⟩
            clear hL hx hy HKI
            go_wp2_with fail
            go_quiet_grown (first | (go_at_call 15; refine Calls.grown_of (hc _ _)))
            have S3 : Aside (SWK enc30 2 w0 blk off dk (grow (wb.drewN nq) osq)) := S2.out.grown nq osq
            clear la0 la1 lb0 lb1 hc S2
            generalize grow (wb.drewN nq) osq = w3 at S3 ⊢
            clear nq osq
            go_wp2
            refine bodyPost_ret (results_none rfl _ _ _) rfl ?_
            refine ⟨rfl, dk, hds, U1.out.2, ?_, S3.out⟩
            have hl := HL.out
            rw [HX.out.1, HX.out.2, arr_at, arr_at] at hl
            exact stop_down U1.out.1 hl (by simp; omega) (by omega) BEST.out
          | true =>
            rw [hL] at hc
            have HL : Aside (nlt x y = true) := hL
            have HX : Aside (x = dk[i]! ∧ y = dk[2 * i + 2]!) := ⟨hx, hy⟩
            clear hL hx hy HKI
            go_wp2_with fail
            go_quiet_grown (first | (go_at_call 15; refine Calls.grown_of (hc _ _)))
            have S3 : Aside (SWK enc30 2 w0 blk off dk (grow (wb.drewN nq) osq)) := S2.out.grown nq osq
            clear la0 la1 lb0 lb1 hc S2
            generalize grow (wb.drewN nq) osq = w3 at S3 ⊢
            clear nq osq
            have S4 : Aside (SWK enc30 2 w0 blk off (swp dk i (2 * i + 2)) ((w3.drew.setCells blk (off + i * 2) (enc30 dk[2 * i + 2]!)).setCells blk (off + (2 * i + 2) * 2) (enc30 dk[i]!))) := S3.out.swapped R i (2 * i + 2) (by omega) (by omega)
            have U2 : Aside (DownInv nlt z30 (swp dk i (2 * i + 2)).toList (2 * i + 2) ∧ (swp dk i (2 * i + 2)).toList.Perm d.toList) := by
              have hl := HL.out
              rw [HX.out.1, HX.out.2, arr_at, arr_at] at hl
              have hU := DownInv.step nlt_sto (i := i) (k := 2 * i + 2) (l := dk.toList) (by simp; omega) (by omega) U1.out.1 hl BEST.out
              rw [arr_swp]
              exact ⟨hU, (swpl_perm (by simp; omega) (by simp; omega)).trans U1.out.2⟩
            obtain ⟨cp0, cp1⟩ := swk_cell S3.out R (by omega) i (by omega)
            obtain ⟨ci0, ci1⟩ := swk_cell S3.out R (by omega) (2 * i + 2) (by omega)
            obtain ⟨fp0, fp1⟩ := swk_frozen S3.out R (by omega) i (by omega)
            obtain ⟨fi0, fi1⟩ := swk_frozen S3.out R (by omega) (2 * i + 2) (by omega)
            rw [← HX.out.1] at cp0 cp1 S4
            rw [← HX.out.2] at ci0 ci1 S4
            obtain ⟨u1, k1⟩ := cell_set_some ⟨blk, off + i * 2, none⟩ (.int .i64 y.f0) cp1
            obtain ⟨_, k2'⟩ := cell_set_some ⟨blk, off + i * 2, none⟩ (.int .i64 y.f0) ci0
            obtain ⟨u2, k2⟩ := cell_set_some ⟨blk, off + i * 2 + 1, none⟩ (.int .i64 y.f1) k2'
            obtain ⟨_, k3'⟩ := cell_set_some ⟨blk, off + i * 2, none⟩ (.int .i64 y.f0) ci1
            obtain ⟨_, k3''⟩ := cell_set_some ⟨blk, off + i * 2 + 1, none⟩ (.int .i64 y.f1) k3'
            obtain ⟨u3, k3⟩ := cell_set_some ⟨blk, off + (2 * i + 2) * 2, none⟩ (.int .i64 x.f0) k3''
            clear k2' k3' k3'' S3 U1
            go_wp2_with fail
            go_big_region_o
            clear cp0 cp1 ci0 ci1 fp0 fp1 fi0 fi1 k1 k2 k3
            go_wp2
            go_roundg (d.size - (2 * i + 2))
            case measure => omega
            case rel => exact ⟨2 * i + 2, swp dk i (2 * i + 2), by go_num, by omega, Nat.le_refl _, by rw [size_swp]; exact hds, S4, U2⟩

        | false =>
          have la0 := fun n os => (swk_cell (S1.out.grown n os) R (by omega) (2 * i + 1) (by omega)).1
          have la1 := fun n os => (swk_cell (S1.out.grown n os) R (by omega) (2 * i + 1) (by omega)).2
          have lb0 := fun n os => (swk_cell (S1.out.grown n os) R (by omega) (2 * i + 2) (by omega)).1
          have lb1 := fun n os => (swk_cell (S1.out.grown n os) R (by omega) (2 * i + 2) (by omega)).2
          have ta : (2 * (i : Int) + 1).toNat = 2 * i + 1 := by omega
          have tb : (2 * (i : Int) + 1 + 1).toNat = 2 * i + 2 := by omega
          have ba : 2 * (i : Int) + 1 < (d.size : Int) := by omega
          have bb : 2 * (i : Int) + 1 + 1 < (d.size : Int) := by omega
          have pa : (0 : Int) ≤ 2 * (i : Int) + 1 := by omega
          have pb : (0 : Int) ≤ 2 * (i : Int) + 1 + 1 := by omega
          obtain ⟨x, hx⟩ : ∃ x, x = dk[2 * i + 1]! := ⟨_, rfl⟩
          obtain ⟨y, hy⟩ : ∃ y, y = dk[2 * i + 2]! := ⟨_, rfl⟩
          have hl : nlt (at_ z30 dk.toList (2 * i + 1)) (at_ z30 dk.toList (2 * i + 2)) = false := by rw [← arr_at, ← arr_at]; exact hL
          rw [← hx, ← hy] at hL
          rw [← hx] at la0 la1
          rw [← hy] at lb0 lb1
          have hc := fun (n : Nat) (os : Array Obj) => less_any x y (grow (wr.drewN n) os)
          rw [hL] at hc
          have BEST : Aside (∀ c, c < dk.toList.length → c = 2 * i + 1 ∨ c = 2 * i + 2 → Over nlt z30 dk.toList (2 * i + 1) c) := by
            intro c hc h
            rcases h with rfl | rfl
            · exact nlt_sto.irrefl _
            · exact hl
          clear hL hx hy hl
          go_wp2_with fail
          go_quiet_grown (first | (go_at_call 15; refine Calls.grown_of (hc _ _)))
          have S2 : Aside (SWK enc30 2 w0 blk off dk (grow (wr.drewN nq) osq)) := S1.out.grown nq osq
          clear la0 la1 lb0 lb1 hc S1 ta tb ba bb pa pb
          generalize grow (wr.drewN nq) osq = wb at S2 ⊢
          clear nq osq
          go_wp2_with fail
          have HKI : (2 * (i : Int) + 1) = ((2 * i + 1 : Nat) : Int) := by omega
          have tk : (2 * (i : Int) + 1).toNat = 2 * i + 1 := by omega
          have b0 : (0 : Int) ≤ 2 * (i : Int) + 1 := by omega
          have bk : 2 * (i : Int) + 1 < (d.size : Int) := by omega
          have bi : (i : Int) < (d.size : Int) := by omega
          have g2 : decide ((d.size : Int) ≤ 2 * (i : Int) + 1) = false := decide_eq_false (by omega)
          have la0 := fun n os => (swk_cell (S2.out.grown n os) R (by omega) i (by omega)).1
          have la1 := fun n os => (swk_cell (S2.out.grown n os) R (by omega) i (by omega)).2
          have lb0 := fun n os => (swk_cell (S2.out.grown n os) R (by omega) (2 * i + 1) (by omega)).1
          have lb1 := fun n os => (swk_cell (S2.out.grown n os) R (by omega) (2 * i + 1) (by omega)).2
          obtain ⟨x, hx⟩ : ∃ x, x = dk[i]! := ⟨_, rfl⟩
          obtain ⟨y, hy⟩ : ∃ y, y = dk[2 * i + 1]! := ⟨_, rfl⟩
          rw [← hx] at la0 la1
          rw [← hy] at lb0 lb1
          have hc := fun (n : Nat) (os : Array Obj) => less_any x y (grow (wb.drewN n) os)
          cases hL : nlt x y with
          | false =>
            rw [hL] at hc
            have HL : Aside (nlt x y = false) := hL
            have HX : Aside (x = dk[i]! ∧ y = dk[2 * i + 1]!) := ⟨hx, hy⟩
            clear hL hx hy HKI
            go_wp2_with fail
            go_quiet_grown (first | (go_at_call 15; refine Calls.grown_of (hc _ _)))
            have S3 : Aside (SWK enc30 2 w0 blk off dk (grow (wb.drewN nq) osq)) := S2.out.grown nq osq
            clear la0 la1 lb0 lb1 hc S2
            generalize grow (wb.drewN nq) osq = w3 at S3 ⊢
            clear nq osq
            go_wp2
            refine bodyPost_ret (results_none rfl _ _ _) rfl ?_
            refine ⟨rfl, dk, hds, U1.out.2, ?_, S3.out⟩
            have hl := HL.out
            rw [HX.out.1, HX.out.2, arr_at, arr_at] at hl
            exact stop_down U1.out.1 hl (by simp; omega) (by omega) BEST.out
          | true =>
            rw [hL] at hc
            have HL : Aside (nlt x y = true) := hL
            have HX : Aside (x = dk[i]! ∧ y = dk[2 * i + 1]!) := ⟨hx, hy⟩
            clear hL hx hy HKI
            go_wp2_with fail
            go_quiet_grown (first | (go_at_call 15; refine Calls.grown_of (hc _ _)))
            have S3 : Aside (SWK enc30 2 w0 blk off dk (grow (wb.drewN nq) osq)) := S2.out.grown nq osq
            clear la0 la1 lb0 lb1 hc S2
            generalize grow (wb.drewN nq) osq = w3 at S3 ⊢
            clear nq osq
            have S4 : Aside (SWK enc30 2 w0 blk off (swp dk i (2 * i + 1)) ((w3.drew.setCells blk (off + i * 2) (enc30 dk[2 * i + 1]!)).setCells blk (off + (2 * i + 1) * 2) (enc30 dk[i]!))) := S3.out.swapped R i (2 * i + 1) (by omega) (by omega)
            have U2 : Aside (DownInv nlt z30 (swp dk i (2 * i + 1)).toList (2 * i + 1) ∧ (swp dk i (2 * i + 1)).toList.Perm d.toList) := by
              have hl := HL.out
              rw [HX.out.1, HX.out.2, arr_at, arr_at] at hl
              have hU := DownInv.step nlt_sto (i := i) (k := 2 * i + 1) (l := dk.toList) (by simp; omega) (by omega) U1.out.1 hl BEST.out
              rw [arr_swp]
              exact ⟨hU, (swpl_perm (by simp; omega) (by simp; omega)).trans U1.out.2⟩
            obtain ⟨cp0, cp1⟩ := swk_cell S3.out R (by omega) i (by omega)
            obtain ⟨ci0, ci1⟩ := swk_cell S3.out R (by omega) (2 * i + 1) (by omega)
            obtain ⟨fp0, fp1⟩ := swk_frozen S3.out R (by omega) i (by omega)
            obtain ⟨fi0, fi1⟩ := swk_frozen S3.out R (by omega) (2 * i + 1) (by omega)
            rw [← HX.out.1] at cp0 cp1 S4
            rw [← HX.out.2] at ci0 ci1 S4
            obtain ⟨u1, k1⟩ := cell_set_some ⟨blk, off + i * 2, none⟩ (.int .i64 y.f0) cp1
            obtain ⟨_, k2'⟩ := cell_set_some ⟨blk, off + i * 2, none⟩ (.int .i64 y.f0) ci0
            obtain ⟨u2, k2⟩ := cell_set_some ⟨blk, off + i * 2 + 1, none⟩ (.int .i64 y.f1) k2'
            obtain ⟨_, k3'⟩ := cell_set_some ⟨blk, off + i * 2, none⟩ (.int .i64 y.f0) ci1
            obtain ⟨_, k3''⟩ := cell_set_some ⟨blk, off + i * 2 + 1, none⟩ (.int .i64 y.f1) k3'
            obtain ⟨u3, k3⟩ := cell_set_some ⟨blk, off + (2 * i + 1) * 2, none⟩ (.int .i64 x.f0) k3''
            clear k2' k3' k3'' S3 U1
            go_wp2_with fail
            go_big_region_o
            clear cp0 cp1 ci0 ci1 fp0 fp1 fi0 fi1 k1 k2 k3
            go_wp2
            go_roundg (d.size - (2 * i + 1))
            case measure => omega
            case rel => exact ⟨2 * i + 1, swp dk i (2 * i + 1), by go_num, by omega, Nat.le_refl _, by rw [size_swp]; exact hds, S4, U2⟩

end Go.Proofs.Ytbdkgdbfnkogaaa.R
