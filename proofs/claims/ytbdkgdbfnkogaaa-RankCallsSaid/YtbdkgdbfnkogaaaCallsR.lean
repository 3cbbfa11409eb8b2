/-
  RankCalls' walk. Conditions: the list lies as told.
-/
import Derived.Test.YtbdkgdbfnkogaaaMerges
import Derived.Test.YtbdkgdbfnkogaaaRefT
import Derived.Test.YtbdkgdbfnkogaaaRf21
namespace Go.Proofs.Ytbdkgdbfnkogaaa.R
open Go.Shelf Go.RowKit Go.Lib Go.Sort Go.Proofs Go.Proofs.YtbdkgdbfnkogaaaW.PrintWords Go.Proofs.YtbdkgdbfnkogaaaW.PrintLast Go.Proofs.YtbdkgdbfnkogaaaW.PrintMore Go.Proofs.Ytbdkgdbfnkogaaa.Plain
set_option linter.unusedVariables false
set_option linter.unusedSimpArgs false

/-- A Top and the document's, side by side. -/
def Both (base : Nat) (W : World) (p q k : Nat) (L M : List S30) : Prop :=
  ∃ S1 S2 : Nat → Prop, TopAt base S1 W p k L ∧ RefAt base S2 W q k M ∧ (∀ b, S1 b → ¬ S2 b) ∧ (∀ b, S1 b → b < W.heap.size) ∧ (∀ b, S2 b → b < W.heap.size)

section
variable {base p q k : Nat} {W w' : World} {L M : List S30}
theorem Both.below (T : Both base W p q k L M) (hb : Below W.heap.size W w') : Both base w' p q k L M := by
  obtain ⟨S1, S2, h1, h2, h3, h4, h5⟩ := T
  exact ⟨S1, S2, h1.below hb, h2.below hb, h3, fun b h => Nat.lt_of_lt_of_le (h4 b h) hb.size, fun b h => Nat.lt_of_lt_of_le (h5 b h) hb.size⟩
theorem Both.new (W : World) (hk : k ≤ 16777216) (hb : base ≤ W.heap.size) : Both base ((W.alloc (.cells #[.int .i64 k, .slice none 0 0] 83)).alloc (.cells #[.int .i64 k, .slice none 0 0] 48)) W.heap.size (W.heap.size + 1) k [] [] := by
  have hs : (W.alloc (.cells #[.int .i64 k, .slice none 0 0] 83)).heap.size = W.heap.size + 1 := by simp
  have h2 := RefAt.new (W.alloc (.cells #[.int .i64 k, .slice none 0 0] 83)) k hk base (by omega)
  rw [hs] at h2
  refine ⟨_, _, (TopAt.new W k hk base hb).below (below_alloc (Below.refl _ _) _), h2, fun b h h' => by omega, fun b h => by simp; omega, fun b h => by simp; omega⟩
theorem both_add (T : Both base W p q k L M) (x : S30) (hb : base ≤ W.heap.size) : Calls Try.prog 14 #[.pointer (some ⟨p, 0, none⟩), .agg #[.int .i64 x.f0, .int .i64 x.f1]] W fun e w' => e = .returned (.tuple #[.bool (addB k L x), .int .i64 0]) ∧ Both base w' p q k (addL k L x) M ∧ Below base W w' := by
  obtain ⟨S1, S2, h1, h2, h3, h4, h5⟩ := T
  refine (add_any x h1 hb).mono ?_
  rintro e w' ⟨he, hT, hB, hK⟩
  refine ⟨he, ⟨_, S2, hT.bound, h2.kept hK (fun b h h' => h3 b h' h), fun b h h' => ?_, fun b h => h.2.2, fun b h => Nat.lt_of_lt_of_le (h5 b h) hB.size⟩, hB⟩
  rcases h.1 with h | h
  · exact h3 b h h'
  · have := h5 b h'; omega
theorem both_add4 (T : Both base W p q k L M) (x : S30) (hb : base ≤ W.heap.size) : Calls Try.prog 23 #[.pointer (some ⟨q, 0, none⟩), .agg #[.int .i64 x.f0, .int .i64 x.f1]] W fun e w' => e = .returned (.bool (addB k M x)) ∧ Both base w' p q k L (addL k M x) ∧ Below base W w' := by
  obtain ⟨S1, S2, h1, h2, h3, h4, h5⟩ := T
  refine (add4_any x h2 hb).mono ?_
  rintro e w' ⟨he, hT, hB, hK⟩
  refine ⟨he, ⟨S1, _, h1.kept hK h3, hT.bound, fun b h h' => ?_, fun b h => Nat.lt_of_lt_of_le (h4 b h) hB.size, fun b h => h.2.2⟩, hB⟩
  rcases h'.1 with h' | h'
  · exact h3 b h h'
  · have := h4 b h; omega
theorem both_worst (T : Both base W p q k L M) (hW : Below W.heap.size W w') : Calls Try.prog 13 #[.pointer (some ⟨p, 0, none⟩)] w' fun e w'' => e = .returned (.tuple #[.agg #[.int .i64 (worstOf k L).1.f0, .int .i64 (worstOf k L).1.f1], .bool (worstOf k L).2]) ∧ Below w'.heap.size w' w'' ∧ Below W.heap.size W w'' := by
  obtain ⟨S1, S2, h1, h2, h3, h4, h5⟩ := T
  exact (worst_any (h1.below hW)).mono fun e w'' ⟨he, hB⟩ => ⟨he, hB, hW.trans (hB.mono hW.size)⟩
theorem both_worst4 (T : Both base W p q k L M) (hW : Below W.heap.size W w') : Calls Try.prog 24 #[.pointer (some ⟨q, 0, none⟩)] w' fun e w'' => e = .returned (.tuple #[.agg #[.int .i64 (worstOf k M).1.f0, .int .i64 (worstOf k M).1.f1], .bool (worstOf k M).2]) ∧ Below w'.heap.size w' w'' ∧ Below W.heap.size W w'' := by
  obtain ⟨S1, S2, h1, h2, h3, h4, h5⟩ := T
  exact (worst4_any (h2.below hW)).mono fun e w'' ⟨he, hB⟩ => ⟨he, hB, hW.trans (hB.mono hW.size)⟩
theorem both_full (T : Both base W p q k L M) (fb : Bool) (hf : ((L.length : Int) == (k : Int)) = fb) (hW : Below W.heap.size W w') : Calls Try.prog 25 #[.pointer (some ⟨p, 0, none⟩)] w' fun e w'' => e = .returned (.bool fb) ∧ Below w'.heap.size w' w'' ∧ Below W.heap.size W w'' := by
  obtain ⟨S1, S2, h1, h2, h3, h4, h5⟩ := T
  refine (full_any (h1.below hW)).mono ?_
  rintro e w'' ⟨he, n, rfl⟩
  refine ⟨?_, pw_below_drewN (Below.refl _ _) n, pw_below_drewN hW n⟩
  rw [he, ← hf]
  congr 2
  rw [Bool.eq_iff_iff]; simp; omega
theorem both_len (T : Both base W p q k L M) (hW : Below W.heap.size W w') : Calls Try.prog 26 #[.pointer (some ⟨p, 0, none⟩)] w' fun e w'' => e = .returned (.int .i64 L.length) ∧ Below w'.heap.size w' w'' ∧ Below W.heap.size W w'' := by
  obtain ⟨S1, S2, h1, h2, h3, h4, h5⟩ := T
  exact (len_any (h1.below hW)).mono fun e w'' ⟨he, hw⟩ => by subst hw; exact ⟨he, Below.refl _ _, hW⟩
theorem both_list (T : Both base W p q k L M) (hW : Below W.heap.size W w') : Calls Try.prog 16 #[.pointer (some ⟨p, 0, none⟩)] w' fun e w'' => ∃ A c, e = .returned (.slice A L.length c) ∧ (L.length ≤ c ∧ Kd.C k30 w'' A L.length L) ∧ Below w'.heap.size w' w'' ∧ Below W.heap.size W w'' := by
  obtain ⟨S1, S2, h1, h2, h3, h4, h5⟩ := T
  refine (list_any (h1.below hW)).mono ?_
  rintro e w'' ⟨v, he, hR, hB⟩
  obtain ⟨A, c, rfl⟩ := Kd.R_slice hR
  exact ⟨A, c, he, (Kd.R_reads' hR).2, hB, hW.trans (hB.mono hW.size)⟩
/-- The document's Top, as its cells lie. -/
theorem Both.ref (T : Both base W p q k L M) : ∃ A c, (M.length ≤ c ∧ Kd.C k30 W A M.length M) ∧ W.cell? ⟨q, 0, none⟩ = some (.int .i64 k) ∧ W.cell? ⟨q, 1, none⟩ = some (.slice A M.length c) := by
  obtain ⟨S1, S2, h1, ⟨v, h2⟩, h3, h4, h5⟩ := T
  obtain ⟨A, c, rfl⟩ := Kd.R_slice h2.row
  exact ⟨A, c, (Kd.R_reads' h2.row).2, h2.cells.1, h2.cells.2.1⟩
end

theorem less_later (a b : S30) (W w : World) (hB : Below W.heap.size W w) : Calls Try.prog 15 #[.agg #[.int .i64 a.f0, .int .i64 a.f1], .agg #[.int .i64 b.f0, .int .i64 b.f1]] w fun e w' => e = .returned (.bool (nlt a b)) ∧ Below w.heap.size w w' ∧ Below W.heap.size W w' := by
  refine (less_any a b w).mono ?_
  rintro e w' ⟨he, q, os, rfl⟩
  exact ⟨he, below_grow w q os, hB.trans ((below_grow w q os).mono hB.size)⟩
theorem own_later {W w' : World} {A : Option Addr} {c : Nat} {zs : List S30} (hC : Kd.C k30 W A zs.length zs) (hc : zs.length ≤ c) (hm : zs.length ≤ 150) (hB : Below W.heap.size W w') :
    Calls Try.prog 21 #[.slice A zs.length c] w' fun e w'' => ∃ A c, e = .returned (.slice A zs.length c) ∧ (zs.length ≤ c ∧ Kd.C k30 w'' A zs.length zs) ∧ Below w'.heap.size w' w'' ∧ Below W.heap.size W w'' := by
  refine (api_Near_21.calls A c zs zs w' (Kd.C_below hC hB) hc (by unfold api_Near_21.f; simp; omega)).mono ?_
  rintro e w'' ⟨v, he, hR, hb⟩
  obtain ⟨A, c, rfl⟩ := Kd.R_slice hR
  exact ⟨A, c, he, (Kd.R_reads' hR).2, hb, hB.trans (hb.mono hB.size)⟩
theorem sorted_now {W w' : World} {A : Option Addr} {c : Nat} {zs : List S30} (hC : zs.length ≤ c ∧ Kd.C k30 w' A zs.length zs) (hm : zs.length ≤ 150) (hB : Below W.heap.size W w') :
    Calls Try.prog 18 #[.slice A zs.length c] w' fun e w'' => ∃ A c, e = .returned (.slice A (isort nlt zs).length c) ∧ ((isort nlt zs).length ≤ c ∧ Kd.C k30 w'' A (isort nlt zs).length (isort nlt zs)) ∧ Below w'.heap.size w' w'' ∧ Below W.heap.size W w'' := by
  refine (sorted_any A c zs w' hC.2 hC.1 (by omega)).mono ?_
  rintro e w'' ⟨v, he, hR, hb⟩
  obtain ⟨A, c, rfl⟩ := Kd.R_slice hR
  exact ⟨A, c, he, (Kd.R_reads' hR).2, hb, hB.trans (hb.mono hB.size)⟩
theorem sorted4_later {W w' : World} {A : Option Addr} {c : Nat} {zs : List S30} (hC : Kd.C k30 W A zs.length zs) (hc : zs.length ≤ c) (hm : zs.length ≤ 150) (hB : Below W.heap.size W w') :
    Calls Try.prog 22 #[.slice A zs.length c] w' fun e w'' => ∃ A c, e = .returned (.slice A (isort nlt zs).length c) ∧ ((isort nlt zs).length ≤ c ∧ Kd.C k30 w'' A (isort nlt zs).length (isort nlt zs)) ∧ Below w'.heap.size w' w'' ∧ Below W.heap.size W w'' := by
  refine (wayfinderref04_Sorted.calls (2 * zs.length + 1) A c zs (isort nlt zs) w' (Kd.C_below hC hB) hc (sorted4_f zs (by omega) _ (by omega))).mono ?_
  rintro e w'' ⟨v, he, hR, hb⟩
  obtain ⟨A, c, rfl⟩ := Kd.R_slice hR
  exact ⟨A, c, he, (Kd.R_reads' hR).2, hb, hB.trans (hb.mono hB.size)⟩

set_option maxHeartbeats 8000000 in
set_option maxRecDepth 100000 in
theorem rcalls_any (A : Option Addr) (c : Nat) (zs : List S30) (k : Int) (a b : S30) (w : World) (hC : Kd.C k30 w A zs.length zs) (hc : zs.length ≤ c) :
    Calls Try.prog 5 #[.slice A zs.length c, .int .i64 k, .agg #[.int .i64 a.f0, .int .i64 a.f1], .agg #[.int .i64 b.f0, .int .i64 b.f1]] w fun e w' => e = .returned (.bool true) ∧ Below w.heap.size w w' := by
  have L := Aside0.mk lives_any
  have X0 : Aside0 (((w.alloc (.cells #[.int .i64 a.f0, .int .i64 a.f1] 30)).alloc (.cells #[.int .i64 b.f0, .int .i64 b.f1] 30)).heap[w.heap.size]? = some (.cells #[.int .i64 a.f0, .int .i64 a.f1] 30 (0, 0))) := ⟨((below_alloc (Below.refl _ (w.alloc (.cells #[.int .i64 a.f0, .int .i64 a.f1] 30))) (.cells #[.int .i64 b.f0, .int .i64 b.f1] 30)).block _ (by simp)).trans (heap_alloc_new w _)⟩
  have X1 : Aside0 (((w.alloc (.cells #[.int .i64 a.f0, .int .i64 a.f1] 30)).alloc (.cells #[.int .i64 b.f0, .int .i64 b.f1] 30)).heap[w.heap.size + 1]? = some (.cells #[.int .i64 b.f0, .int .i64 b.f1] 30 (0, 0))) := ⟨by have := heap_alloc_new (w.alloc (.cells #[.int .i64 a.f0, .int .i64 a.f1] 30)) (.cells #[.int .i64 b.f0, .int .i64 b.f1] 30); rwa [World.size_alloc] at this⟩
  have HB := Aside0.mk (below_alloc (below_alloc (Below.refl _ w) (.cells #[.int .i64 a.f0, .int .i64 a.f1] 30)) (.cells #[.int .i64 b.f0, .int .i64 b.f1] 30))
  have HC := Aside0.mk hC
  clear hC
  by_cases hm : 150 < zs.length
  · have hm' : decide ((150 : Int) < (zs.length : Int)) = true := decide_eq_true (by omega)
    go_enter Try.func5, Try.ntmps5
    go_wp2_with fail
    refine (L.out _).mono ?_
    rintro e w1 ⟨rfl, hB⟩
    have HB1 := Aside0.mk (HB.out.trans (hB.mono HB.out.size))
    clear hB
    go_wp2
    go_ret
    exact ⟨rfl, by repeat (first | exact HB1.out | apply below_drew | apply pw_below_drewN)⟩
  · have hm' : decide ((150 : Int) < (zs.length : Int)) = false := decide_eq_false (by omega)
    have HM := Aside0.mk hm
    clear hm
    go_enter Try.func5, Try.ntmps5
    go_wp2_with fail
    generalize (w.alloc (.cells #[.int .i64 a.f0, .int .i64 a.f1] 30)).alloc (.cells #[.int .i64 b.f0, .int .i64 b.f1] 30) = W0 at X0 X1 HB ⊢
    refine (L.out _).mono ?_
    rintro e w1 ⟨rfl, hB⟩
    have HB1 := Aside0.mk (HB.out.trans (hB.mono HB.out.size))
    have X01 := Aside0.mk ((hB.block _ (Array.getElem?_eq_some_iff.1 X0.out).1).trans X0.out)
    have X11 := Aside0.mk ((hB.block _ (Array.getElem?_eq_some_iff.1 X1.out).1).trans X1.out)
    clear hB X0 X1 HB L W0
    go_wp2_with fail
    by_cases hk : k < 0 ∨ 16777216 < k
    · refine (new_bad k w1 hk).mono ?_
      rintro e w2 ⟨rfl, n, rfl⟩
      go_wp2_with fail
      refine (new4_bad k _ hk).mono ?_
      rintro e w3 ⟨rfl, n2, rfl⟩
      have HB3 : Aside0 (Below w.heap.size w ((w1.drewN n).drewN n2)) := ⟨pw_below_drewN (pw_below_drewN HB1.out n) n2⟩
      have X03 : Aside0 (((w1.drewN n).drewN n2).heap[w.heap.size]? = _) := ⟨X01.out⟩
      have X13 : Aside0 (((w1.drewN n).drewN n2).heap[w.heap.size + 1]? = _) := ⟨X11.out⟩
      clear X01 X11 HB1 hk
      generalize (w1.drewN n).drewN n2 = W at HB3 X03 X13 ⊢
      clear w1 n n2
      obtain ⟨r0, hr0⟩ : ∃ r, r = nlt a b := ⟨_, rfl⟩
      have L1 : Aside0 (∀ w', Below W.heap.size W w' → Calls Try.prog 15 #[.agg #[.int .i64 a.f0, .int .i64 a.f1], .agg #[.int .i64 b.f0, .int .i64 b.f1]] w' fun e w'' => e = .returned (.bool r0) ∧ Below w'.heap.size w' w'' ∧ Below W.heap.size W w'') := ⟨fun w' hB => by rw [hr0]; exact less_later a b W w' hB⟩
      have L2 : Aside0 (∀ w', Below W.heap.size W w' → Calls Try.prog 20 #[.agg #[.int .i64 a.f0, .int .i64 a.f1], .agg #[.int .i64 b.f0, .int .i64 b.f1]] w' fun e w'' => e = .returned (.bool r0) ∧ Below w'.heap.size w' w'' ∧ Below W.heap.size W w'') := ⟨fun w' hB => by rw [hr0]; exact less4_any a b W w' hB⟩
      have CW := Aside0.mk (Kd.C_below HC.out HB3.out)
      have OW : Aside0 (∀ w', Below W.heap.size W w' → Calls Try.prog 21 #[.slice A zs.length c] w' _) := ⟨fun w' hB => own_later CW.out hc (by have := HM.out; omega) hB⟩
      have S4 : Aside0 (∀ w', Below W.heap.size W w' → Calls Try.prog 22 #[.slice A zs.length c] w' _) := ⟨fun w' hB => sorted4_later CW.out hc (by have := HM.out; omega) hB⟩
      have Y : Aside0 (∀ w', Below W.heap.size W w' → w'.cell? ⟨w.heap.size, 0, none⟩ = some (.int .i64 a.f0) ∧ w'.cell? ⟨w.heap.size, 1, none⟩ = some (.int .i64 a.f1) ∧ w'.cell? ⟨w.heap.size + 1, 0, none⟩ = some (.int .i64 b.f0) ∧ w'.cell? ⟨w.heap.size + 1, 1, none⟩ = some (.int .i64 b.f1)) := ⟨fun w' hB => ⟨pw_cell_below hB (blk_cells X03.out 0).1, pw_cell_below hB (blk_cells X03.out 1).1, pw_cell_below hB (blk_cells X13.out 0).1, pw_cell_below hB (blk_cells X13.out 1).1⟩⟩
      have hb0 : Below W.heap.size W W.drew := below_drew (Below.refl _ _)
      obtain ⟨y0, y1, y2, y3⟩ := Y.out _ hb0
      clear hr0
      go_wp2_with fail
      go_region_held3 (fun w' => w'.cell? ⟨w.heap.size, 0, none⟩ = some (.int .i64 a.f0) ∧ w'.cell? ⟨w.heap.size, 1, none⟩ = some (.int .i64 a.f1) ∧ w'.cell? ⟨w.heap.size + 1, 0, none⟩ = some (.int .i64 b.f0) ∧ w'.cell? ⟨w.heap.size + 1, 1, none⟩ = some (.int .i64 b.f1)) (refine ⟨?_, ?_, ?_, ?_⟩ <;> assumption) (first
        | (go_at_call 15; with_reducible refine (L1.out _ hb0).mono ?_; rintro e w1 ⟨rfl, hb1, hB1⟩; obtain ⟨u0, u1, u2, u3⟩ := Y.out _ hB1)
        | (go_at_call 20; with_reducible refine (L2.out _ hB1).mono ?_; rintro e w2 ⟨rfl, hb2, hB2⟩; obtain ⟨v0, v1, v2, v3⟩ := Y.out _ hB2)
        | (go_at_call 21; with_reducible refine (OW.out _ hB2).mono ?_; rintro e w3 ⟨A3, c3, rfl, D3, hb3, hB3⟩; obtain ⟨t0, t1, t2, t3⟩ := Y.out _ hB3; have F3 := Aside0.mk (sorted_now D3 (by have := HM.out; omega) hB3); clear D3)
        | (go_at_call 18; with_reducible refine F3.out.mono ?_; rintro e w4 ⟨A4, c4, rfl, D4, hb4, hB4⟩; obtain ⟨s0, s1, s2, s3⟩ := Y.out _ hB4; have D4 := Aside0.mk D4)
        | (go_at_call 22; with_reducible refine (S4.out _ hB4).mono ?_; rintro e w5 ⟨A5, c5, rfl, D5, hb5, hB5⟩; obtain ⟨n0, n1, n2, n3⟩ := Y.out _ hB5; have D5 := Aside0.mk D5; have E4 : Aside0 ((isort nlt zs).length ≤ c4 ∧ Kd.C k30 w5 A4 (isort nlt zs).length (isort nlt zs)) := ⟨D4.out.1, Kd.C_below D4.out.2 hb5⟩)
        | (go_at_call 17; with_reducible refine (same_later E4.out D5.out rfl (by rw [isort_length]; have := HM.out; omega) hB5).mono ?_; rintro e w6 ⟨rfl, hb6, hB6⟩; obtain ⟨m0, m1, m2, m3⟩ := Y.out _ hB6))
      have HB6 := Aside0.mk (HB3.out.trans (hB6.mono HB3.out.size))
      clear L1 L2 CW OW S4 Y hb0 y0 y1 y2 y3 u0 u1 u2 u3 v0 v1 v2 v3 t0 t1 t2 t3 s0 s1 s2 s3 n0 n1 n2 n3 m0 m1 m2 m3 hb1 hB1 hb2 hB2 hb3 hB3 hb4 hB4 hb5 hB5 hb6 hB6 D4 D5 E4 F3 X03 X13 HB3
      clear D4 D5
      go_wp2_with fail
      go_loopg [13] 0 (fun gx s13 wr => s13 = .int .i64 0 ∧ Aside0 (Below w.heap.size w wr))
      case atStart => exact ⟨rfl, HB6⟩
      case round =>
        obtain ⟨rfl, HB⟩ := hrel
        clear HB6
        by_cases hz : zs.length = 0
        · have hlt : decide ((0 : Int) < (zs.length : Int)) = false := decide_eq_false (by omega)
          have hlt' : decide (0 < zs.length) = false := decide_eq_false (by omega)
          clear hz
          go_wp2_with fail
          refine bodyPost_ret (v := .bool true) (by simp [results, Try.results5, go_sem]) rfl ⟨rfl, HB.out⟩
        · have hlt : decide ((0 : Int) < (zs.length : Int)) = true := decide_eq_true (by omega)
          have hlt' : decide (0 < zs.length) = true := decide_eq_true (by omega)
          clear hz
          go_wp2_with fail
          refine bodyPost_ret (v := .bool true) (by simp [results, Try.results5, go_sem]) rfl ⟨rfl, HB.out⟩
    · obtain ⟨kk, rfl⟩ : ∃ kk : Nat, k = kk := ⟨k.toNat, by omega⟩
      have hkk : kk ≤ 16777216 := by omega
      have HK := Aside0.mk hkk
      have B0 := Aside0.mk (Both.new (base := w.heap.size) w1 hkk HB1.out.size)
      have N4 := new4_good kk (w1.alloc (.cells #[.int .i64 kk, .slice none 0 0] 83)) hkk
      rw [show (w1.alloc (.cells #[.int .i64 kk, .slice none 0 0] 83)).heap.size = w1.heap.size + 1 by simp] at N4
      clear hk
      refine (new_good kk w1 hkk).mono ?_
      rintro e w2 ⟨rfl, rfl⟩
      go_wp2_with fail
      refine N4.mono ?_
      rintro e w3 ⟨rfl, rfl⟩
      clear N4 hkk
      have HB3 := Aside0.mk (below_alloc (below_alloc HB1.out (.cells #[.int .i64 kk, .slice none 0 0] 83)) (.cells #[.int .i64 kk, .slice none 0 0] 48))
      have HBB := below_alloc (below_alloc (Below.refl _ w1) (.cells #[.int .i64 kk, .slice none 0 0] 83)) (.cells #[.int .i64 kk, .slice none 0 0] 48)
      have X03 := Aside0.mk ((HBB.block _ (Array.getElem?_eq_some_iff.1 X01.out).1).trans X01.out)
      have X13 := Aside0.mk ((HBB.block _ (Array.getElem?_eq_some_iff.1 X11.out).1).trans X11.out)
      clear HBB X01 X11
      generalize (w1.alloc (.cells #[.int .i64 kk, .slice none 0 0] 83)).alloc (.cells #[.int .i64 kk, .slice none 0 0] 48) = W at B0 HB3 X03 X13 ⊢
      generalize w1.heap.size = p0 at B0 ⊢
      clear HB1 w1
      obtain ⟨r0, hr0⟩ : ∃ r, r = nlt a b := ⟨_, rfl⟩
      have L1 : Aside0 (∀ w', Below W.heap.size W w' → Calls Try.prog 15 #[.agg #[.int .i64 a.f0, .int .i64 a.f1], .agg #[.int .i64 b.f0, .int .i64 b.f1]] w' fun e w'' => e = .returned (.bool r0) ∧ Below w'.heap.size w' w'' ∧ Below W.heap.size W w'') := ⟨fun w' hB => by rw [hr0]; exact less_later a b W w' hB⟩
      have L2 : Aside0 (∀ w', Below W.heap.size W w' → Calls Try.prog 20 #[.agg #[.int .i64 a.f0, .int .i64 a.f1], .agg #[.int .i64 b.f0, .int .i64 b.f1]] w' fun e w'' => e = .returned (.bool r0) ∧ Below w'.heap.size w' w'' ∧ Below W.heap.size W w'') := ⟨fun w' hB => by rw [hr0]; exact less4_any a b W w' hB⟩
      have CW := Aside0.mk (Kd.C_below HC.out HB3.out)
      have OW : Aside0 (∀ w', Below W.heap.size W w' → Calls Try.prog 21 #[.slice A zs.length c] w' _) := ⟨fun w' hB => own_later CW.out hc (by have := HM.out; omega) hB⟩
      have S4 : Aside0 (∀ w', Below W.heap.size W w' → Calls Try.prog 22 #[.slice A zs.length c] w' _) := ⟨fun w' hB => sorted4_later CW.out hc (by have := HM.out; omega) hB⟩
      have Y : Aside0 (∀ w', Below W.heap.size W w' → w'.cell? ⟨w.heap.size, 0, none⟩ = some (.int .i64 a.f0) ∧ w'.cell? ⟨w.heap.size, 1, none⟩ = some (.int .i64 a.f1) ∧ w'.cell? ⟨w.heap.size + 1, 0, none⟩ = some (.int .i64 b.f0) ∧ w'.cell? ⟨w.heap.size + 1, 1, none⟩ = some (.int .i64 b.f1)) := ⟨fun w' hB => ⟨pw_cell_below hB (blk_cells X03.out 0).1, pw_cell_below hB (blk_cells X03.out 1).1, pw_cell_below hB (blk_cells X13.out 0).1, pw_cell_below hB (blk_cells X13.out 1).1⟩⟩
      have hb0 : Below W.heap.size W W.drew := below_drew (Below.refl _ _)
      obtain ⟨y0, y1, y2, y3⟩ := Y.out _ hb0
      clear hr0
      go_wp2_with fail
      go_region_held3 (fun w' => w'.cell? ⟨w.heap.size, 0, none⟩ = some (.int .i64 a.f0) ∧ w'.cell? ⟨w.heap.size, 1, none⟩ = some (.int .i64 a.f1) ∧ w'.cell? ⟨w.heap.size + 1, 0, none⟩ = some (.int .i64 b.f0) ∧ w'.cell? ⟨w.heap.size + 1, 1, none⟩ = some (.int .i64 b.f1)) (refine ⟨?_, ?_, ?_, ?_⟩ <;> assumption) (first
        | (go_at_call 15; with_reducible refine (L1.out _ hb0).mono ?_; rintro e w1 ⟨rfl, hb1, hB1⟩; obtain ⟨u0, u1, u2, u3⟩ := Y.out _ hB1)
        | (go_at_call 20; with_reducible refine (L2.out _ hB1).mono ?_; rintro e w2 ⟨rfl, hb2, hB2⟩; obtain ⟨v0, v1, v2, v3⟩ := Y.out _ hB2)
        | (go_at_call 21; with_reducible refine (OW.out _ hB2).mono ?_; rintro e w3 ⟨A3, c3, rfl, D3, hb3, hB3⟩; obtain ⟨t0, t1, t2, t3⟩ := Y.out _ hB3; have F3 := Aside0.mk (sorted_now D3 (by have := HM.out; omega) hB3); clear D3)
        | (go_at_call 18; with_reducible refine F3.out.mono ?_; rintro e w4 ⟨A4, c4, rfl, D4, hb4, hB4⟩; obtain ⟨s0, s1, s2, s3⟩ := Y.out _ hB4; have D4 := Aside0.mk D4)
        | (go_at_call 22; with_reducible refine (S4.out _ hB4).mono ?_; rintro e w5 ⟨A5, c5, rfl, D5, hb5, hB5⟩; obtain ⟨n0, n1, n2, n3⟩ := Y.out _ hB5; have D5 := Aside0.mk D5; have E4 : Aside0 ((isort nlt zs).length ≤ c4 ∧ Kd.C k30 w5 A4 (isort nlt zs).length (isort nlt zs)) := ⟨D4.out.1, Kd.C_below D4.out.2 hb5⟩)
        | (go_at_call 17; with_reducible refine (same_later E4.out D5.out rfl (by rw [isort_length]; have := HM.out; omega) hB5).mono ?_; rintro e w6 ⟨rfl, hb6, hB6⟩; obtain ⟨m0, m1, m2, m3⟩ := Y.out _ hB6))
      have B6 := Aside0.mk (B0.out.below hB6)
      have HB6 := Aside0.mk (HB3.out.trans (hB6.mono HB3.out.size))
      clear L1 L2 CW OW S4 Y hb0 y0 y1 y2 y3 u0 u1 u2 u3 v0 v1 v2 v3 t0 t1 t2 t3 s0 s1 s2 s3 n0 n1 n2 n3 m0 m1 m2 m3 hb1 hB1 hb2 hB2 hb3 hB3 hb4 hB4 hb5 hB5 hb6 hB6 D4 D5 E4 F3 X03 X13 HB3 B0
      clear D4 D5
      go_wp2_with fail
      clear w1 w2 w3 w4 w5 W
      go_loopg [13] zs.length (fun gx s13 wr => ∃ (j : Int) (i : Nat), s13 = .int .i64 j ∧ Aside0 (j = i ∧ i ≤ zs.length ∧ zs.length - i ≤ gx) ∧ Aside0 (Both w.heap.size wr p0 (p0 + 1) kk (kept nlt kk (zs.take i)) (kept nlt kk (zs.take i))) ∧ Aside0 (Below w.heap.size w wr))
      case atStart => exact ⟨0, 0, rfl, ⟨by omega, by omega, by omega⟩, ⟨by simpa [kept_nil] using B6.out⟩, HB6⟩
      case round =>
        obtain ⟨j, i, rfl, HI, T, HB⟩ := hrel
        clear B6 HB6
        by_cases hin : i < zs.length
        · have hlt : decide (j < (zs.length : Int)) = true := decide_eq_true (by have := HI.out; omega)
          have p1 : 0 ≤ j := by have := HI.out; omega
          have q1 : j < (zs.length : Int) := by have := HI.out; omega
          obtain ⟨ad, eA, h1, h2⟩ := at_T30 (Kd.C_below HC.out HB.out) j p1 q1
          clear h1 h2
          cases eA
          obtain ⟨x, hx⟩ : ∃ x, x = rd_T30 zs j := ⟨_, rfl⟩
          have HN := Aside0.mk hin
          have HX := Aside0.mk hx
          have P1 := Aside0.mk p1
          have Q1 := Aside0.mk q1
          obtain ⟨g0, g1⟩ := cellsAt (Kd.C_below HC.out HB.out) j p1 q1 x hx.symm
          obtain ⟨La, hLa⟩ : ∃ La, La = kept nlt kk (zs.take i) := ⟨_, rfl⟩
          rw [← hLa] at T
          obtain ⟨bx, hbx⟩ : ∃ bx, bx = addB kk La x := ⟨_, rfl⟩
          obtain ⟨Lb, hLb⟩ : ∃ Lb, Lb = addL kk La x := ⟨_, rfl⟩
          have HL : Aside0 (Lb = kept nlt kk (zs.take (i + 1))) := ⟨by rw [hLb, hLa, hx, HI.out.1, rd_at]; exact kept_more kk zs i hin _ rfl⟩
          have A0 : Aside0 (Calls Try.prog 14 #[.pointer (some ⟨p0, 0, none⟩), .agg #[.int .i64 x.f0, .int .i64 x.f1]] wr fun e w' => e = .returned (.tuple #[.bool bx, .int .i64 0]) ∧ Both w.heap.size w' p0 (p0 + 1) kk Lb La ∧ Below w.heap.size wr w') := ⟨by rw [hbx, hLb]; exact both_add T.out x HB.out.size⟩
          have A1 : Aside0 (∀ w1, Both w.heap.size w1 p0 (p0 + 1) kk Lb La → w.heap.size ≤ w1.heap.size → Calls Try.prog 23 #[.pointer (some ⟨p0 + 1, 0, none⟩), .agg #[.int .i64 x.f0, .int .i64 x.f1]] w1 fun e w' => e = .returned (.bool bx) ∧ Both w.heap.size w' p0 (p0 + 1) kk Lb Lb ∧ Below w.heap.size w1 w') := ⟨fun w1 h1 h2 => by
            have := both_add4 h1 x h2
            rw [← hbx, ← hLb] at this
            exact this⟩
          replace p1 := eq_true p1
          replace q1 := eq_true q1
          clear hx hin hLa hbx hLb
          go_wp2_with fail
          refine A0.out.mono ?_
          rintro e w1 ⟨rfl, hT, hB⟩
          have A2 := Aside0.mk (A1.out w1 hT (HB.out.trans hB).size)
          have HB1 := Aside0.mk (HB.out.trans hB)
          clear A0 A1 hT hB T HB g0 g1
          obtain ⟨g0, g1⟩ := cellsAt (Kd.C_below HC.out HB1.out) j P1.out Q1.out x HX.out.symm
          go_wp2_with fail
          refine A2.out.mono ?_
          rintro e w2 ⟨rfl, hT, hB⟩
          have T2 := Aside0.mk hT
          have HB2 := Aside0.mk (HB1.out.trans hB)
          clear A2 hT hB HB1 g0 g1 p1 q1 w1
          obtain ⟨m, is, hm⟩ : ∃ m is, worstOf kk Lb = (m, is) := ⟨_, _, rfl⟩
          have W30 := both_worst T2.out (Below.refl _ w2)
          have W40 := fun w' => both_worst4 (w' := w') T2.out
          simp only [hm] at W30 W40
          have W3 := Aside0.mk W30
          have W4 := Aside0.mk W40
          clear hm W30 W40
          go_wp2_with fail
          refine W3.out.mono ?_
          rintro e w3 ⟨rfl, hb3, hB3⟩
          have HB3 := Aside0.mk (below_alloc hB3 (.cells #[.int .i64 m.f0, .int .i64 m.f1] 30))
          have X3 := Aside0.mk (heap_alloc_new w3 (.cells #[.int .i64 m.f0, .int .i64 m.f1] 30))
          clear hb3 hB3 W3
          go_wp2_with fail
          generalize w3.alloc (.cells #[.int .i64 m.f0, .int .i64 m.f1] 30) = w3' at HB3 X3 ⊢
          generalize w3.heap.size = b3 at X3 ⊢
          refine (W4.out _ HB3.out).mono ?_
          rintro e w4 ⟨rfl, hb4, hB4⟩
          have HB4 := Aside0.mk (below_alloc hB4 (.cells #[.int .i64 m.f0, .int .i64 m.f1] 30))
          have X4 := Aside0.mk (heap_alloc_new w4 (.cells #[.int .i64 m.f0, .int .i64 m.f1] 30))
          have X3b := Aside0.mk (((below_alloc hb4 (.cells #[.int .i64 m.f0, .int .i64 m.f1] 30)).block b3 (Array.getElem?_eq_some_iff.1 X3.out).1).trans X3.out)
          clear hb4 hB4 W4 X3 HB3
          go_wp2_with fail
          generalize w4.alloc (.cells #[.int .i64 m.f0, .int .i64 m.f1] 30) = W at HB4 X4 X3b ⊢
          generalize w4.heap.size = b4 at X4 ⊢
          clear w3 w4 w3'
          have T5 := Aside0.mk (T2.out.below HB4.out)
          have HB5 := Aside0.mk (HB2.out.trans (HB4.out.mono HB2.out.size))
          clear T2 HB4 HB2 w2
          obtain ⟨A5, c5, D5, e0, e1⟩ := T5.out.ref
          have D5 := Aside0.mk D5
          obtain ⟨fb, hfb⟩ : ∃ fb, ((Lb.length : Int) == (kk : Int)) = fb := ⟨_, rfl⟩
          have F0 := Aside0.mk (fun w' => both_full (w' := w') T5.out fb hfb)
          have F1 := Aside0.mk (fun w' => both_len (w' := w') T5.out)
          have F2 := Aside0.mk (fun w' => both_list (w' := w') T5.out)
          have HLl : Aside0 (Lb.length ≤ 150) := ⟨by rw [HL.out, kept_length', List.length_take]; have := HM.out; omega⟩
          have Y : Aside0 (∀ w', Below W.heap.size W w' → w'.cell? ⟨b3, 0, none⟩ = some (.int .i64 m.f0) ∧ w'.cell? ⟨b3, 1, none⟩ = some (.int .i64 m.f1) ∧ w'.cell? ⟨b4, 0, none⟩ = some (.int .i64 m.f0) ∧ w'.cell? ⟨b4, 1, none⟩ = some (.int .i64 m.f1) ∧ w'.cell? ⟨p0 + 1, 0, none⟩ = some (.int .i64 kk) ∧ w'.cell? ⟨p0 + 1, 1, none⟩ = some (.slice A5 Lb.length c5)) := ⟨fun w' hB => ⟨pw_cell_below hB (blk_cells X3b.out 0).1, pw_cell_below hB (blk_cells X3b.out 1).1, pw_cell_below hB (blk_cells X4.out 0).1, pw_cell_below hB (blk_cells X4.out 1).1, pw_cell_below hB e0, pw_cell_below hB e1⟩⟩
          clear e0 e1
          have hb0 : Below W.heap.size W W.drew := below_drew (Below.refl _ _)
          obtain ⟨y0, y1, y2, y3, y4, y5⟩ := Y.out _ hb0
          go_region_held3 (fun w' => w'.cell? ⟨b3, 0, none⟩ = some (.int .i64 m.f0) ∧ w'.cell? ⟨b3, 1, none⟩ = some (.int .i64 m.f1) ∧ w'.cell? ⟨b4, 0, none⟩ = some (.int .i64 m.f0) ∧ w'.cell? ⟨b4, 1, none⟩ = some (.int .i64 m.f1) ∧ w'.cell? ⟨p0 + 1, 0, none⟩ = some (.int .i64 kk) ∧ w'.cell? ⟨p0 + 1, 1, none⟩ = some (.slice A5 Lb.length c5)) (refine ⟨?_, ?_, ?_, ?_, ?_, ?_⟩ <;> assumption) (first
            | (go_at_call 25; with_reducible refine (F0.out _ hb0).mono ?_; rintro e w1 ⟨rfl, hb1, hB1⟩; obtain ⟨u0, u1, u2, u3, u4, u5⟩ := Y.out _ hB1)
            | (go_at_call 26; with_reducible refine (F1.out _ hB1).mono ?_; rintro e w2 ⟨rfl, hb2, hB2⟩; obtain ⟨v0, v1, v2, v3, v4, v5⟩ := Y.out _ hB2)
            | (go_at_call 16; with_reducible refine (F2.out _ hB2).mono ?_; rintro e w3 ⟨A3, c3, rfl, D3, hb3, hB3⟩; obtain ⟨t0, t1, t2, t3, t4, t5⟩ := Y.out _ hB3; have D3 := Aside0.mk D3; have E5 : Aside0 (Lb.length ≤ c5 ∧ Kd.C k30 w3 A5 Lb.length Lb) := ⟨D5.out.1, Kd.C_below D5.out.2 hB3⟩)
            | (go_at_call 17; with_reducible refine (same_later D3.out E5.out rfl HLl.out hB3).mono ?_; rintro e w6 ⟨rfl, hb6, hB6⟩; obtain ⟨m0, m1, m2, m3, m4, m5⟩ := Y.out _ hB6))
          have T6 : Aside0 (Both w.heap.size w6 p0 (p0 + 1) kk (kept nlt kk (zs.take (i + 1))) (kept nlt kk (zs.take (i + 1)))) := ⟨by rw [← HL.out]; exact T5.out.below hB6⟩
          have HB6 := Aside0.mk (HB5.out.trans (hB6.mono HB5.out.size))
          go_wp2_with fail
          go_roundg (gk - 1)
          case measure => have := HI.out; have := HN.out; omega
          case rel => exact ⟨wrap64 (j + 1), i + 1, by first | rfl | (simp; done), ⟨by have := HI.out; have := HN.out; have := HM.out; unfold wrap64; omega, by have := HN.out; omega, by have := HI.out; have := HN.out; omega⟩, T6, HB6⟩
        · have hlt : decide (j < (zs.length : Int)) = false := decide_eq_false (by have := HI.out; omega)
          clear hin
          go_wp2_with fail
          refine bodyPost_ret (v := .bool true) (by simp [results, Try.results5, go_sem]) rfl ⟨rfl, HB.out⟩
end Go.Proofs.Ytbdkgdbfnkogaaa.R
