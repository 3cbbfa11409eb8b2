/-
  RankKeeps' walk. Conditions: the list lies as told; its numbers are int64s.
-/
import Derived.Test.YtbdkgdbfnkogaaaTops
import Derived.Test.YtbdkgdbfnkogaaaCnt
import Derived.Test.YtbdkgdbfnkogaaaKeepsP
import Derived.Deep.LoopGhost
import Derived.Deep.Cut
namespace Go.Proofs.Ytbdkgdbfnkogaaa.R
open Go.Shelf Go.RowKit Go.Lib Go.Sort Go.Proofs Go.Proofs.YtbdkgdbfnkogaaaW.PrintWords Go.Proofs.YtbdkgdbfnkogaaaW.PrintLast Go.Proofs.YtbdkgdbfnkogaaaW.PrintMore Go.Proofs.Ytbdkgdbfnkogaaa.Plain
set_option linter.unusedVariables false
set_option linter.unusedSimpArgs false

theorem pick_any (a : Int) (n : Nat) (h1 : 1 ≤ n) (h2 : n ≤ 2147483648) : ∃ r : Nat, r < n ∧ ∀ w, Calls Try.prog 11 #[.int .i64 a, .int .i64 n] w fun e w' => e = .returned (.int .i64 r) ∧ ∃ m, w' = w.drewN m := by
  have hb := Int.emod_nonneg a (b := (n : Int)) (by omega)
  have hb' := Int.emod_lt_of_pos a (b := (n : Int)) (by omega)
  refine ⟨(a % (n : Int)).toNat, by omega, fun w => ?_⟩
  have e : (((a % (n : Int)).toNat : Nat) : Int) = a % (n : Int) := by omega
  rw [e]
  have hf : wayfinderkit_Pick.f a n = some (a % (n : Int)) := by
    unfold wayfinderkit_Pick.f
    rw [if_neg (by omega), if_neg (by omega)]
    have ht := Int.tmod_eq_emod (a := a) (b := (n : Int))
    split
    · rw [Option.some.injEq]
      split at ht
      · rename_i hneg _; have := Int.emod_nonneg a (b := (n : Int)) (by omega); omega
      · have hn : ((n : Int).natAbs : Int) = n := by omega
        unfold wrap64; omega
    · rw [Option.some.injEq]
      split at ht
      · omega
      · have hn : ((n : Int).natAbs : Int) = n := by omega
        omega
  exact (wayfinderkit_Pick.calls a n _ w hf).mono fun e w' ⟨he, n, hn⟩ => ⟨he, n, hn⟩

def two {α : Type} (a b : α) : Nat → α
  | 0 => a
  | _ => b

theorem two_cases {P : Nat → Prop} (h0 : P 0) (h1 : P 1) : ∀ i, i < 2 → P i
  | 0, _ => h0
  | 1, _ => h1
  | n + 2, h => absurd h (by omega)

theorem below_grow (w : World) (n : Nat) (os : Array Obj) : Below w.heap.size w (grow (w.drewN n) os) :=
  ⟨rfl, rfl, rfl, by simp [grow], fun k hk => by simp [grow, Array.getElem?_append_left, hk]⟩
theorem CMap.below {w w1 : World} {b n : Nat} {f : S30 → Int} (M : CMap w b n f) (h : Below w.heap.size w w1) : CMap w1 b n f := by
  obtain ⟨es, clock, hb, r⟩ := M
  exact ⟨es, clock, (h.block b (Array.getElem?_eq_some_iff.1 hb).1).trans hb, r⟩

theorem cellsAt {w : World} {ad : Addr} {n : Nat} {xs : List S30} (h : Kd.C k30 w (some ad) n xs) (j : Int) (h0 : 0 ≤ j) (h1 : j < n) (x : S30) (hx : rd_T30 xs j = x) : w.cell? (ad.add (j.toNat * 2)) = some (.int .i64 x.f0) ∧ w.cell? ⟨(ad.add (j.toNat * 2)).block, (ad.add (j.toNat * 2)).off + 1, none⟩ = some (.int .i64 x.f1) := by
  obtain ⟨ad', e, g0, g1⟩ := at_T30 h j h0 h1
  injection e with e
  subst e hx
  exact ⟨g0, g1⟩

theorem C_wide {α : Type} {d : Kd α} {w w1 : World} {A : Option Addr} {n : Nat} {xs : List α} (h : d.C w A n xs) (hb : Below w.heap.size w w1) : d.C w1 A n xs := Kd.C_below h hb

set_option maxHeartbeats 8000000 in
set_option maxRecDepth 100000 in
theorem keeps_any (A : Option Addr) (c : Nat) (zs : List S30) (k : Int) (w : World) (hC : Kd.C k30 w A zs.length zs) (hc : zs.length ≤ c) (hwf : ∀ x ∈ zs, Wf30 x) :
    Calls Try.prog 3 #[.slice A zs.length c, .int .i64 k] w fun e w' => e = .returned (.bool true) ∧ Below w.heap.size w w' := by
  have mixed : Try.prog.follows .mixedOrders = true := by kernel_rfl
  have L := Aside0.mk (lives_any w)
  have HC := Aside0.mk hC
  have HWF := Aside0.mk hwf
  clear hC hwf
  by_cases hm : 150 < zs.length
  · have hm' : decide ((150 : Int) < (zs.length : Int)) = true := decide_eq_true (by omega)
    go_enter Try.func3, Try.ntmps3
    go_wp2_with fail
    refine L.out.mono ?_
    rintro e w1 ⟨rfl, hB⟩
    have HB := Aside0.mk hB
    clear hB
    go_wp2
    go_ret
    exact ⟨rfl, by repeat (first | exact HB.out | apply below_drew | apply pw_below_drewN)⟩
  · have hm' : decide ((150 : Int) < (zs.length : Int)) = false := decide_eq_false (by omega)
    obtain ⟨kk, hkk, hP⟩ := pick_any k 150 (by decide) (by decide)
    have P := Aside0.mk hP
    have HK := Aside0.mk hkk
    have HM := Aside0.mk hm
    clear hP hkk hm
    go_enter Try.func3, Try.ntmps3
    go_wp2_with fail
    refine L.out.mono ?_
    rintro e w1 ⟨rfl, hB⟩
    have HB1 := Aside0.mk hB
    clear hB L
    go_wp2_with fail
    refine (P.out w1).mono ?_
    rintro e w2 ⟨rfl, n, rfl⟩
    have HB2 := Aside0.mk (pw_below_drewN HB1.out n)
    generalize w1.drewN n = w2 at HB2 ⊢
    clear HB1 P w1
    have T2 := Aside0.mk (Tops.start w.heap.size (fun _ => False) w2 (two w2.heap.size (w2.heap.size + 1)) kk (fun _ => []))
    go_wp2_with fail
    refine (new_good kk w2 (by have := HK.out; omega)).mono ?_
    rintro e w3 ⟨rfl, rfl⟩
    have T3 := Aside0.mk (T2.out.more (by have := HK.out; omega) HB2.out.size (fun _ h => h.elim) rfl rfl)
    have HB3 := Aside0.mk (below_alloc HB2.out (.cells #[.int .i64 kk, .slice none 0 0] 83))
    have HS3 : Aside0 ((w2.alloc (.cells #[.int .i64 kk, .slice none 0 0] 83)).heap.size = w2.heap.size + 1) := ⟨by simp⟩
    generalize w2.alloc (.cells #[.int .i64 kk, .slice none 0 0] 83) = w3 at T3 HB3 HS3 ⊢
    clear T2
    go_wp2_with fail
    refine (new_good kk w3 (by have := HK.out; omega)).mono ?_
    rintro e w4 ⟨rfl, rfl⟩
    have T4 := Aside0.mk (T3.out.more (by have := HK.out; omega) HB3.out.size (fun _ h => h.elim) HS3.out.symm rfl)
    have HB4 := Aside0.mk (below_alloc HB3.out (.cells #[.int .i64 kk, .slice none 0 0] 83))
    rw [HS3.out]
    generalize w3.alloc (.cells #[.int .i64 kk, .slice none 0 0] 83) = w4 at T4 HB4 ⊢
    clear T3 HB2 HB3 HS3
    generalize w2.heap.size = p0 at T4 ⊢
    clear w2 w3
    go_wp2_with fail
    go_loopg [9] zs.length (fun gx s9 wr => ∃ (j : Int) (i : Nat), s9 = .int .i64 j ∧ Aside0 (j = i ∧ i ≤ zs.length ∧ zs.length - i ≤ gx) ∧ Aside0 (Tops w.heap.size (fun _ => False) wr 2 (two p0 (p0 + 1)) kk (two (kept nlt kk (zs.take i)) (kept nlt kk (zs.reverse.take i)))) ∧ Aside0 (Below w.heap.size w wr))
    case atStart => exact ⟨0, 0, rfl, ⟨by omega, by omega, by omega⟩, ⟨T4.out.congr (fun _ _ => rfl) (two_cases (by simp [two, kept_nil]) (by simp [two, kept_nil]))⟩, HB4⟩
    case round =>
      obtain ⟨j, i, rfl, HI, T, HB⟩ := hrel
      clear T4 HB4 w4
      by_cases hin : i < zs.length
      · have hlt : decide (j < (zs.length : Int)) = true := decide_eq_true (by have := HI.out; omega)
        have p1 : 0 ≤ j := by have := HI.out; omega
        have q1 : j < (zs.length : Int) := by have := HI.out; omega
        have hr : wrap64 (wrap64 ((zs.length : Int) - 1) - j) = ((zs.length - 1 - i : Nat) : Int) := by have := HI.out; have := HM.out; unfold wrap64; omega
        have p2 : 0 ≤ wrap64 (wrap64 ((zs.length : Int) - 1) - j) := by omega
        have q2 : wrap64 (wrap64 ((zs.length : Int) - 1) - j) < (zs.length : Int) := by omega
        obtain ⟨ad, eA, h1, h2⟩ := at_T30 (Kd.C_below HC.out HB.out) j p1 q1
        clear h1 h2
        cases eA
        obtain ⟨x, hx⟩ : ∃ x, x = rd_T30 zs j := ⟨_, rfl⟩
        obtain ⟨y, hy⟩ : ∃ y, y = rd_T30 zs (wrap64 (wrap64 ((zs.length : Int) - 1) - j)) := ⟨_, rfl⟩
        have HN := Aside0.mk hin
        have HX := Aside0.mk hx
        have HY := Aside0.mk hy
        have HR := Aside0.mk hr
        have P1 := Aside0.mk p1
        have Q1 := Aside0.mk q1
        have P2 := Aside0.mk p2
        have Q2 := Aside0.mk q2
        obtain ⟨was, full, hwas⟩ : ∃ was full, worstOf kk (kept nlt kk (zs.take i)) = (was, full) := ⟨_, _, rfl⟩
        have W0 : Aside0 (Calls Try.prog 13 #[.pointer (some ⟨p0, 0, none⟩)] wr fun e w' => e = .returned (.tuple #[.agg #[.int .i64 was.f0, .int .i64 was.f1], .bool full]) ∧ Below wr.heap.size wr w' ∧ Tops w.heap.size (fun _ => False) w' 2 (two p0 (p0 + 1)) kk (two (kept nlt kk (zs.take i)) (kept nlt kk (zs.reverse.take i)))) := ⟨by
          have h := tops_worst T.out (i := 0) (by decide)
          simp only [two, hwas] at h
          exact h⟩
        have HW := Aside0.mk hwas
        clear hx hy hr hin hwas
        go_wp2_with fail
        refine W0.out.mono ?_
        rintro e w1 ⟨rfl, hB, hT⟩
        have T1 := Aside0.mk hT
        have HB1 := Aside0.mk (HB.out.trans (hB.mono HB.out.size))
        clear hB hT W0 T HB
        go_upto_region 14 with fail
        have T2 := Aside0.mk (T1.out.boxed (.cells #[.int .i64 was.f0, .int .i64 was.f1] 30))
        have HB2 := Aside0.mk (below_alloc HB1.out (.cells #[.int .i64 was.f0, .int .i64 was.f1] 30))
        have X2 : Aside0 ((w1.alloc (.cells #[.int .i64 was.f0, .int .i64 was.f1] 30)).heap[w1.heap.size]? = some (.cells #[.int .i64 was.f0, .int .i64 was.f1] 30 (0, 0))) := ⟨heap_alloc_new w1 _⟩
        generalize w1.alloc (.cells #[.int .i64 was.f0, .int .i64 was.f1] 30) = w2 at T2 HB2 X2 ⊢
        clear T1 HB1
        generalize w1.heap.size = b1 at T2 X2 ⊢
        clear w1
        have B1 : Aside0 (∀ b, (False ∨ b = b1) → b < w2.heap.size) := ⟨fun b hb => by
          rcases hb with hb | rfl
          · exact hb.elim
          · exact (Array.getElem?_eq_some_iff.1 X2.out).1⟩
        have A0 : Aside0 (Calls Try.prog 14 #[.pointer (some ⟨p0, 0, none⟩), .agg #[.int .i64 x.f0, .int .i64 x.f1]] w2 _) := ⟨tops_add T2.out (i := 0) (by decide) x HB2.out.size B1.out⟩
        obtain ⟨g0, g1⟩ := cellsAt (Kd.C_below HC.out HB2.out) j P1.out Q1.out x HX.out.symm
        replace p1 := eq_true p1
        replace q1 := eq_true q1
        replace p2 := eq_true p2
        replace q2 := eq_true q2
        go_wp2_with fail
        refine A0.out.mono ?_
        rintro e w3 ⟨rfl, hT, hB, hK⟩
        have T3 := Aside0.mk hT
        have HB3 := Aside0.mk (HB2.out.trans hB)
        have X3 := Aside0.mk ((hK b1 (.inr rfl)).trans X2.out)
        have B3 : Aside0 (∀ b, (False ∨ b = b1) → b < w3.heap.size) := ⟨fun b hb => Nat.lt_of_lt_of_le (B1.out b hb) hB.size⟩
        clear hT hB hK T2 HB2 X2 B1 A0 g0 g1
        have A1 : Aside0 (Calls Try.prog 14 #[.pointer (some ⟨p0 + 1, 0, none⟩), .agg #[.int .i64 y.f0, .int .i64 y.f1]] w3 _) := ⟨tops_add T3.out (i := 1) (by decide) y HB3.out.size B3.out⟩
        obtain ⟨g0, g1⟩ := cellsAt (Kd.C_below HC.out HB3.out) _ P2.out Q2.out y HY.out.symm
        go_wp2_with fail
        refine A1.out.mono ?_
        rintro e w4 ⟨rfl, hT, hB, hK⟩
        have T4 : Aside0 (Tops w.heap.size (fun b => False ∨ b = b1) w4 2 (two p0 (p0 + 1)) kk (two (kept nlt kk (zs.take (i + 1))) (kept nlt kk (zs.reverse.take (i + 1))))) := ⟨hT.congr (fun _ _ => rfl) (two_cases (kept_more kk zs i HN.out x (by rw [HX.out, HI.out.1, rd_at])).symm (kept_more kk zs.reverse i (by have := HN.out; simpa using this) y (by rw [HY.out, HR.out, rd_at, at_rev zs i HN.out])).symm)⟩
        have HB4 := Aside0.mk (HB3.out.trans hB)
        have X4 := Aside0.mk ((hK b1 (.inr rfl)).trans X3.out)
        clear hT hB hK T3 HB3 X3 B3 A1 g0 g1
        obtain ⟨now, is, hnow⟩ : ∃ now is, worstOf kk (kept nlt kk (zs.take (i + 1))) = (now, is) := ⟨_, _, rfl⟩
        have W4 : Aside0 (Calls Try.prog 13 #[.pointer (some ⟨p0, 0, none⟩)] w4 fun e w' => e = .returned (.tuple #[.agg #[.int .i64 now.f0, .int .i64 now.f1], .bool is]) ∧ Below w4.heap.size w4 w' ∧ Tops w.heap.size (fun b => False ∨ b = b1) w' 2 (two p0 (p0 + 1)) kk (two (kept nlt kk (zs.take (i + 1))) (kept nlt kk (zs.reverse.take (i + 1))))) := ⟨by
          have h := tops_worst T4.out (i := 0) (by decide)
          simp only [two, hnow] at h
          exact h⟩
        have HF : Aside0 (full = true → is = true ∧ nlt was now = false) := ⟨by
          have h := worst_step kk (zs.take i) (zs[i]'HN.out)
          rw [HW.out, ← take_snoc zs i HN.out, hnow] at h
          exact h⟩
        clear hnow
        go_wp2_with fail
        refine W4.out.mono ?_
        rintro e w5 ⟨rfl, hB, hT⟩
        have T5 := Aside0.mk hT
        have HB5 := Aside0.mk (HB4.out.trans (hB.mono HB4.out.size))
        have X5 := Aside0.mk ((hB.block b1 (Array.getElem?_eq_some_iff.1 X4.out).1).trans X4.out)
        clear hB hT W4 T4 HB4 X4
        go_upto_region 17 with fail
        have T6 : Aside0 (Tops w.heap.size (fun _ => False) (w5.alloc (.cells #[.int .i64 now.f0, .int .i64 now.f1] 30)) 2 (two p0 (p0 + 1)) kk (two (kept nlt kk (zs.take (i + 1))) (kept nlt kk (zs.reverse.take (i + 1))))) := ⟨(T5.out.boxed _).other (fun _ _ h => h.elim)⟩
        have HB6 := Aside0.mk (below_alloc HB5.out (.cells #[.int .i64 now.f0, .int .i64 now.f1] 30))
        have hX := Array.getElem?_eq_some_iff.1 X5.out
        obtain ⟨c1, c2⟩ := Box2.cells (x := was) (((below_alloc (Below.refl _ w5) (.cells #[.int .i64 now.f0, .int .i64 now.f1] 30)).block b1 hX.1).trans X5.out)
        obtain ⟨c3, c4⟩ := Box2.cells (x := now) (heap_alloc_new w5 (.cells #[.int .i64 now.f0, .int .i64 now.f1] 30))
        clear T5 HB5 X5 hX p1 q1 p2 q2
        generalize w5.alloc (.cells #[.int .i64 now.f0, .int .i64 now.f1] 30) = w6 at T6 HB6 c1 c2 c3 c4 ⊢
        generalize w5.heap.size = b2 at c3 c4 ⊢
        clear w5
        cases full with
        | false =>
          go_wp2_with fail
          clear c1 c2 c3 c4
          go_roundg (gk - 1)
          case measure => have := HI.out; have := HN.out; omega
          case rel => exact ⟨wrap64 (j + 1), i + 1, by first | rfl | (simp; done), ⟨by have := HI.out; have := HN.out; have := HM.out; unfold wrap64; omega, by have := HN.out; omega, by have := HI.out; have := HN.out; omega⟩, T6, HB6⟩
        | true =>
          obtain ⟨his, hless⟩ := HF.out rfl
          subst his
          have L1 := Aside0.mk (less_any was now)
          simp only [hless] at L1
          clear hless
          go_wp2_with fail
          refine (L1.out w6).mono ?_
          rintro e w7 ⟨rfl, nq, osq, rfl⟩
          clear c1 c2 c3 c4
          have T7 := Aside0.mk (T6.out.below (below_grow w6 nq osq))
          have HB7 := Aside0.mk (HB6.out.trans ((below_grow w6 nq osq).mono HB6.out.size))
          generalize grow (w6.drewN nq) osq = w7 at T7 HB7 ⊢
          go_wp2_with fail
          go_roundg (gk - 1)
          case measure => have := HI.out; have := HN.out; omega
          case rel => exact ⟨wrap64 (j + 1), i + 1, by first | rfl | (simp; done), ⟨by have := HI.out; have := HN.out; have := HM.out; unfold wrap64; omega, by have := HN.out; omega, by have := HI.out; have := HN.out; omega⟩, T7, HB7⟩
      · have hlt : decide (j < (zs.length : Int)) = false := decide_eq_false (by have := HI.out; omega)
        replace HI : Aside0 (i = zs.length) := ⟨by have := HI.out; omega⟩
        clear hin
        go_wp2_with fail
        have TL : Aside0 (Tops w.heap.size (fun _ => False) wr 2 (two p0 (p0 + 1)) kk (two (kept nlt kk zs) (kept nlt kk zs))) := ⟨T.out.congr (fun _ _ => rfl) (two_cases (by rw [HI.out, List.take_length]; rfl) (by rw [HI.out]; exact (kept_rev kk zs).symm))⟩
        clear T
        refine (tops_list TL.out (i := 0) (by decide)).mono ?_
        rintro e w5 ⟨v, rfl, hR, hB, hT⟩
        obtain ⟨A1, c1, rfl⟩ := Kd.R_slice hR
        have R1 := Aside0.mk (Kd.R_reads' hR)
        have T5 := Aside0.mk hT
        have HB5 := Aside0.mk (HB.out.trans (hB.mono HB.out.size))
        clear hR hT hB TL HB
        go_wp2_with fail
        refine (tops_list T5.out (i := 1) (by decide)).mono ?_
        rintro e w6 ⟨v, rfl, hR, hB, hT⟩
        obtain ⟨A2, c2, rfl⟩ := Kd.R_slice hR
        have R2 := Aside0.mk (Kd.R_reads' hR)
        have R3 : Aside0 ((kept nlt kk zs).length ≤ c1 ∧ Kd.C k30 w6 A1 (kept nlt kk zs).length (kept nlt kk zs)) := ⟨R1.out.2.1, Kd.C_below R1.out.2.2 hB⟩
        have HB6 := Aside0.mk (HB5.out.trans (hB.mono HB5.out.size))
        clear hR hT hB T5 R1 HB5
        change Aside0 ((kept nlt kk zs).length = (kept nlt kk zs).length ∧ (kept nlt kk zs).length ≤ c2 ∧ Kd.C k30 w6 A2 (kept nlt kk zs).length (kept nlt kk zs)) at R2
        have HL := Aside0.mk (kept_length' kk zs)
        have HX : Aside0 (∃ xs, xs = kept nlt kk zs) := ⟨_, rfl⟩
        obtain ⟨xs, hx⟩ := HX.out
        have HX := Aside0.mk hx
        simp only [two]
        rw [← hx] at R2 R3 HL ⊢
        clear hx
        have S := Aside0.mk (same_any A1 c1 xs A2 c2 xs w6 R3.out.2 R3.out.1 R2.out.2.2 R2.out.2.1 (by have := HL.out; have := HM.out; omega))
        simp at S
        have hmin : ((xs.length : Int) != min (kk : Int) (zs.length : Int)) = false := bne_eq_false_iff_eq.mpr (by have := HL.out; omega)
        have hmm := @run_makeMap Try.prog
        go_wp2_with fail
        refine S.out.mono ?_
        rintro e w7 ⟨rfl, n7, rfl⟩
        have HB7 := Aside0.mk (pw_below_drewN HB6.out n7)
        have R7 : Aside0 (xs.length ≤ c1 ∧ Kd.C k30 (w6.drewN n7) A1 xs.length xs) := ⟨R3.out.1, Kd.C_drewN R3.out.2 n7⟩
        clear S R2 R3 HB6
        generalize w6.drewN n7 = w7 at HB7 R7 ⊢
        clear n7 w6
        have C7 : Aside0 (Kd.C k30 w7 A zs.length zs) := ⟨Kd.C_below HC.out HB7.out⟩
        have M7 := Aside0.mk (CMap.made w7)
        have B7 := Aside0.mk (below_alloc (Below.refl _ w7) (.map #[] 0))
        go_wp2_with fail
        clear hmm hmin
        generalize w7.alloc (.map #[] 0) = w8 at M7 B7 ⊢
        go_loopg [16] zs.length (fun gx s16 wr => ∃ (j : Int) (i : Nat), s16 = .int .i64 j ∧ Aside0 (j = i ∧ i ≤ zs.length ∧ zs.length - i ≤ gx) ∧ Aside0 (CMap wr w7.heap.size i (cnt (zs.take i))) ∧ Aside0 (Below w7.heap.size w7 wr))
        case atStart => exact ⟨0, 0, rfl, ⟨by omega, by omega, by omega⟩, M7, B7⟩
        case round =>
          obtain ⟨j, i, rfl, HI, M, HB⟩ := hrel
          clear M7 B7 w8
          by_cases hin : i < zs.length
          · have hlt : decide (j < (zs.length : Int)) = true := decide_eq_true (by have := HI.out; omega)
            have p0 : 0 ≤ j := by have := HI.out; omega
            have q0 : j < (zs.length : Int) := by have := HI.out; omega
            obtain ⟨ad, eA, g0, g1⟩ := at_T30 (Kd.C_below C7.out HB.out) j p0 q0
            have hxe : rd_T30 zs j = at_ z30 zs i := by rw [HI.out.1, rd_at]
            obtain ⟨x, hx⟩ : ∃ x, x = rd_T30 zs j := ⟨_, rfl⟩
            obtain ⟨y, hy⟩ : ∃ y, y = cnt (zs.take i) x := ⟨_, rfl⟩
            rw [← hx] at g0 g1 hxe
            cases eA
            replace p0 := eq_true p0
            replace q0 := eq_true q0
            obtain ⟨v0, st, w9, w10, l0, m0, l1, e1, M1, G1⟩ := CMap.step (w := wr.drew) M.out x (hxe ▸ HWF.out _ (at_mem zs i hin)) (wrap64 (y + 1))
            rw [← hy] at l0 l1
            have HX := Aside0.mk (And.intro hxe hy)
            have M1 := Aside0.mk M1
            have G1 := Aside0.mk G1
            have HN := Aside0.mk hin
            clear hxe hx hy hin
            go_wp2_with fail
            go_region
            all_goals
              go_wp2
              go_roundg (gk - 1)
              case measure => have := HI.out; have := HN.out; omega
              case rel =>
                refine ⟨wrap64 (j + 1), i + 1, by first | rfl | (simp; done), ⟨by have := HI.out; have := HN.out; have := HM.out; unfold wrap64; omega, by have := HN.out; omega, by have := HI.out; have := HN.out; omega⟩, ⟨?_⟩, ⟨?_⟩⟩
                · rw [← cnt_up zs i HN.out x HX.out.1 (wrap64 (y + 1)) (by have := cnt_nonneg (zs.take i) x; have := cnt_le (zs.take i) x; have := HX.out.2; have h : (zs.take i).length ≤ 150 := by { have := HM.out; simp; omega }; unfold wrap64; omega)]
                  exact M1.out
                · exact (HB.out.drew).grown G1.out HB.out.size (fun b hb => by injection hb with hb; omega)
          · have hlt : decide (j < (zs.length : Int)) = false := decide_eq_false (by have := HI.out; omega)
            replace HI : Aside0 (i = zs.length) := ⟨by have := HI.out; omega⟩
            clear hin
            go_wp2_with fail
            have M2 : Aside0 (CMap wr w7.heap.size (zs.length + 0) (fun e => cnt zs e - cnt (xs.take 0) e)) := ⟨by
              have h : (fun e => cnt zs e - cnt (xs.take 0) e) = cnt (zs.take i) := by funext e; rw [HI.out, List.take_length, List.take_zero, cnt_nil]; omega
              rw [h, Nat.add_zero, ← HI.out]
              exact M.out⟩
            have HB2 := HB
            clear M HB HI hlt
            go_loopg [17] xs.length (fun gx s17 wr => ∃ (j : Int) (i : Nat), s17 = .int .i64 j ∧ Aside0 (j = i ∧ i ≤ xs.length ∧ xs.length - i ≤ gx) ∧ Aside0 (CMap wr w7.heap.size (zs.length + i) (fun e => cnt zs e - cnt (xs.take i) e)) ∧ Aside0 (Below w7.heap.size w7 wr))
            case atStart => exact ⟨0, 0, rfl, ⟨by omega, by omega, by omega⟩, M2, HB2⟩
            case round =>
              clear M2 HB2
              obtain ⟨j, i, rfl, HI, M, HB⟩ := hrel
              by_cases hin : i < xs.length
              · have hlt : decide (j < (xs.length : Int)) = true := decide_eq_true (by have := HI.out; omega)
                have p0 : 0 ≤ j := by have := HI.out; omega
                have q0 : j < (xs.length : Int) := by have := HI.out; omega
                obtain ⟨ad, eA, g0, g1⟩ := at_T30 (Kd.C_below R7.out.2 HB.out) j p0 q0
                have hxe : rd_T30 xs j = at_ z30 xs i := by rw [HI.out.1, rd_at]
                obtain ⟨x, hx⟩ : ∃ x, x = rd_T30 xs j := ⟨_, rfl⟩
                obtain ⟨y, hy⟩ : ∃ y, y = cnt zs x - cnt (xs.take i) x := ⟨_, rfl⟩
                rw [← hx] at g0 g1 hxe
                cases eA
                replace p0 := eq_true p0
                replace q0 := eq_true q0
                have hmem : x ∈ zs := by
                  have h2 : ∀ u, u ∈ xs → u ∈ zs := fun u hu => by
                    rw [HX.out] at hu
                    exact (isort_perm (lt := nlt) zs).mem_iff.1 (List.mem_of_mem_take hu)
                  rw [hxe]
                  exact h2 _ (at_mem xs i hin)
                have WX := Aside0.mk (HWF.out _ hmem)
                obtain ⟨v0, st, w9, w10, l0, m0, l1, e1, M1, G1⟩ := CMap.step (w := wr.drew) M.out x WX.out (wrap64 (y - 1))
                rw [← hy] at l0 l1
                have HXY := Aside0.mk (And.intro hxe hy)
                have HXE := Aside0.mk hx.symm
                have hY : Aside0 (0 ≤ y - 1 ∧ y ≤ 150) := ⟨by
                  have h1 := kept_cnt kk zs (i + 1) x
                  have h2 := cnt_take xs i hin x
                  rw [← at_eq xs i hin, ← hxe, if_pos rfl, HX.out] at h2
                  have h3 := cnt_le zs x
                  have h4 := HM.out
                  have h5 := cnt_nonneg ((kept nlt kk zs).take i) x
                  rw [hy, HX.out]
                  omega⟩
                have hyw : wrap64 (y - 1) = y - 1 := by have := hY.out; unfold wrap64; omega
                have M1 : Aside0 (CMap w10 w7.heap.size (zs.length + (i + 1)) (fun e => cnt zs e - cnt (xs.take (i + 1)) e)) := ⟨by
                  rw [← cnt_down (cnt zs) xs i hin x hxe (wrap64 (y - 1)) (by rw [hyw, hy])]
                  exact M1⟩
                have HB1 : Aside0 (Below w7.heap.size w7 w10) := ⟨(HB.out.drew).grown G1 HB.out.size (fun b hb => by injection hb with hb; omega)⟩
                have HN := Aside0.mk hin
                have HYW := Aside0.mk hyw
                clear hxe hx hy hin G1 hmem hyw M HB
                go_wp2_with fail
                go_region
                all_goals
                  clear l0 m0 l1 e1 g0 g1
                  have ll := fun (n : Nat) (os : Array Obj) => (M1.out.below (below_grow w10 n os)).look x WX.out
                  have hfx : cnt zs x - cnt (xs.take (i + 1)) x = wrap64 (y - 1) := by
                    have h2 := cnt_take xs i HN.out x
                    rw [← at_eq xs i HN.out, ← HXY.out.1, if_pos rfl] at h2
                    have h3 := HXY.out.2
                    rw [HYW.out]; omega
                  simp only [hfx] at ll
                  have hneg : decide (wrap64 (y - 1) < 0) = false := decide_eq_false (by rw [HYW.out]; have := hY.out; omega)
                  have g0 := fun (n : Nat) (os : Array Obj) => (cellsAt (Kd.C_below (Kd.C_below R7.out.2 HB1.out) (below_grow w10 n os)) j (of_eq_true p0) (of_eq_true q0) x HXE.out).1
                  have g1 := fun (n : Nat) (os : Array Obj) => (cellsAt (Kd.C_below (Kd.C_below R7.out.2 HB1.out) (below_grow w10 n os)) j (of_eq_true p0) (of_eq_true q0) x HXE.out).2
                  clear hfx
                  by_cases h0 : i = 0
                  · have gz : decide (0 < j) = false := decide_eq_false (by have := HI.out; omega)
                    have ll := fun (n : Nat) => ll n #[]
                    simp only [grow_empty] at ll
                    have g0 := (cellsAt (Kd.C_below R7.out.2 HB1.out) j (of_eq_true p0) (of_eq_true q0) x HXE.out).1
                    have g1 := (cellsAt (Kd.C_below R7.out.2 HB1.out) j (of_eq_true p0) (of_eq_true q0) x HXE.out).2
                    clear h0
                    go_wp2_with fail
                    go_quiet (fail)
                    clear ll g0 g1
                    have HB2 : Aside0 (Below w7.heap.size w7 (w10.drewN nq)) := ⟨pw_below_drewN HB1.out nq⟩
                    have M2 : Aside0 (CMap (w10.drewN nq) _ _ _) := ⟨M1.out⟩
                    generalize w10.drewN nq = w11 at HB2 M2 ⊢
                    go_wp2
                    go_roundg (gk - 1)
                    case measure => have := HI.out; have := HN.out; omega
                    case rel => exact ⟨wrap64 (j + 1), i + 1, by first | rfl | (simp; done), ⟨by have := HI.out; have := HN.out; have := HM.out; have := HL.out; unfold wrap64; omega, by have := HN.out; omega, by have := HI.out; have := HN.out; omega⟩, M2, HB2⟩
                  · have gz : decide (0 < j) = true := decide_eq_true (by have := HI.out; omega)
                    have hj1 : IntKind.i64.wrap (j - 1) = ((i - 1 : Nat) : Int) := by have := HI.out; have := HN.out; have := HM.out; have := HL.out; rw [IntKind.wrap_i64]; omega
                    have p1 : 0 ≤ IntKind.i64.wrap (j - 1) := by omega
                    have q1 : IntKind.i64.wrap (j - 1) < (xs.length : Int) := by have := HN.out; omega
                    obtain ⟨z, hz⟩ : ∃ z, z = rd_T30 xs (IntKind.i64.wrap (j - 1)) := ⟨_, rfl⟩
                    have g2 := fun (n : Nat) (os : Array Obj) => (cellsAt (Kd.C_below (Kd.C_below R7.out.2 HB1.out) (below_grow w10 n os)) (IntKind.i64.wrap (j - 1)) p1 q1 z hz.symm).1
                    have g3 := fun (n : Nat) (os : Array Obj) => (cellsAt (Kd.C_below (Kd.C_below R7.out.2 HB1.out) (below_grow w10 n os)) (IntKind.i64.wrap (j - 1)) p1 q1 z hz.symm).2
                    replace p1 := eq_true p1
                    replace q1 := eq_true q1
                    have hc := fun (n : Nat) (os : Array Obj) => less_any x z (grow (w10.drewN n) os)
                    have hless : nlt x z = false := by
                      have h1 := kept_order kk zs (i - 1) (by rw [← HX.out]; have := HN.out; omega)
                      rw [← HX.out, show i - 1 + 1 = i by omega] at h1
                      rw [HXY.out.1, hz, hj1, rd_at]
                      exact h1
                    simp only [hless] at hc
                    clear hless hz hj1 h0
                    go_wp2_with fail
                    go_quiet_grown (first | (go_at_call 15; refine Calls.grown_of (hc _ _)))
                    clear ll g0 g1 g2 g3 hc
                    have HB2 : Aside0 (Below w7.heap.size w7 (grow (w10.drewN nq) osq)) := ⟨HB1.out.trans ((below_grow w10 nq osq).mono HB1.out.size)⟩
                    have M2 := Aside0.mk (M1.out.below (below_grow w10 nq osq))
                    generalize grow (w10.drewN nq) osq = w11 at HB2 M2 ⊢
                    go_wp2
                    go_roundg (gk - 1)
                    case measure => have := HI.out; have := HN.out; omega
                    case rel => exact ⟨wrap64 (j + 1), i + 1, by first | rfl | (simp; done), ⟨by have := HI.out; have := HN.out; have := HM.out; have := HL.out; unfold wrap64; omega, by have := HN.out; omega, by have := HI.out; have := HN.out; omega⟩, M2, HB2⟩
              · have hlt : decide (j < (xs.length : Int)) = false := decide_eq_false (by have := HI.out; omega)
                have M2 : Aside0 (CMap wr w7.heap.size (zs.length + i) (fun e => cnt zs e - cnt xs e)) := ⟨by
                  have h := M.out
                  have hi : xs.take i = xs := by have := HI.out; rw [List.take_of_length_le (by omega)]
                  rw [hi] at h
                  exact h⟩
                have HB2 := HB
                clear M HB HI hin
                go_wp2_with fail
                clear hlt
                generalize zs.length + i = nn at M2
                go_loopg [18] zs.length (fun gx s18 wr => ∃ (j : Int) (i : Nat), s18 = .int .i64 j ∧ Aside0 (j = i ∧ i ≤ zs.length ∧ zs.length - i ≤ gx) ∧ Aside0 (CMap wr w7.heap.size nn (fun e => cnt zs e - cnt xs e)) ∧ Aside0 (Below w7.heap.size w7 wr))
                case atStart => exact ⟨0, 0, rfl, ⟨by omega, by omega, by omega⟩, M2, HB2⟩
                case round =>
                  clear M2 HB2
                  obtain ⟨j, i, rfl, HI, M, HB⟩ := hrel
                  by_cases hin : i < zs.length
                  · have hlt : decide (j < (zs.length : Int)) = true := decide_eq_true (by have := HI.out; omega)
                    by_cases hx0 : xs.length = 0
                    · have hxn : xs = [] := List.eq_nil_of_length_eq_zero hx0
                      subst hxn
                      clear hx0 hin
                      go_wp2_with fail
                      refine bodyPost_ret (v := .bool true) (by simp [results, Try.results3, go_sem]) rfl ⟨rfl, HB7.out.trans (HB.out.mono HB7.out.size)⟩
                    · have p0 : 0 ≤ j := by have := HI.out; omega
                      have q0 : j < (zs.length : Int) := by have := HI.out; omega
                      obtain ⟨ad, eA, h1, h2⟩ := at_T30 (Kd.C_below C7.out HB.out) j p0 q0
                      clear h1 h2
                      have hxe : rd_T30 zs j = at_ z30 zs i := by rw [HI.out.1, rd_at]
                      obtain ⟨x, hx⟩ : ∃ x, x = rd_T30 zs j := ⟨_, rfl⟩
                      obtain ⟨y, hy⟩ : ∃ y, y = cnt zs x - cnt xs x := ⟨_, rfl⟩
                      have hmem : x ∈ zs := by rw [hx, hxe]; exact at_mem zs i hin
                      cases eA
                      obtain ⟨m, hm⟩ : ∃ m : Nat, xs.length = m + 1 := ⟨xs.length - 1, by omega⟩
                      have hlast : IntKind.i64.wrap ((xs.length : Int) - 1) = (m : Int) := by have := HL.out; have := HM.out; rw [IntKind.wrap_i64]; omega
                      have p1 : 0 ≤ IntKind.i64.wrap ((xs.length : Int) - 1) := by omega
                      have q1 : IntKind.i64.wrap ((xs.length : Int) - 1) < (xs.length : Int) := by omega
                      obtain ⟨ad1, eA1, h1, h2⟩ := at_T30 (Kd.C_below R7.out.2 HB.out) (IntKind.i64.wrap ((xs.length : Int) - 1)) p1 q1
                      clear h1 h2
                      cases eA1
                      have hpos : 0 < xs.length := by omega
                      have ll := fun (n : Nat) (os : Array Obj) => (M.out.below (below_grow wr n os)).look x (HWF.out x hmem)
                      simp only [← hy] at ll
                      have HN := Aside0.mk hin
                      by_cases hp : 0 < y
                      · have gz : decide (0 < y) = true := decide_eq_true hp
                        obtain ⟨z, hz⟩ : ∃ z, z = rd_T30 xs (IntKind.i64.wrap ((xs.length : Int) - 1)) := ⟨_, rfl⟩
                        have g0 := fun (n : Nat) (os : Array Obj) => (cellsAt (Kd.C_below (Kd.C_below C7.out HB.out) (below_grow wr n os)) j p0 q0 x hx.symm).1
                        have g1 := fun (n : Nat) (os : Array Obj) => (cellsAt (Kd.C_below (Kd.C_below C7.out HB.out) (below_grow wr n os)) j p0 q0 x hx.symm).2
                        have g2 := fun (n : Nat) (os : Array Obj) => (cellsAt (Kd.C_below (Kd.C_below R7.out.2 HB.out) (below_grow wr n os)) _ p1 q1 z hz.symm).1
                        have g3 := fun (n : Nat) (os : Array Obj) => (cellsAt (Kd.C_below (Kd.C_below R7.out.2 HB.out) (below_grow wr n os)) _ p1 q1 z hz.symm).2
                        have hc := fun (n : Nat) (os : Array Obj) => less_any x z (grow (wr.drewN n) os)
                        have hless : nlt x z = false := by
                          have h1 := left_far kk zs x (by rw [← HX.out]; omega) (by rw [← HX.out]; omega)
                          rw [← HX.out] at h1
                          rw [hz, hlast, rd_at]
                          rw [hm] at h1
                          exact h1
                        simp only [hless] at hc
                        replace p0 := eq_true p0
                        replace q0 := eq_true q0
                        replace p1 := eq_true p1
                        replace q1 := eq_true q1
                        clear hless hz hx hy hxe hmem hm hlast hx0 hin hp
                        go_wp2_with fail
                        go_quiet_grown (first | (go_at_call 15; refine Calls.grown_of (hc _ _)))
                        clear ll g0 g1 g2 g3 hc
                        have HB2 : Aside0 (Below w7.heap.size w7 (grow (wr.drewN nq) osq)) := ⟨HB.out.trans ((below_grow wr nq osq).mono HB.out.size)⟩
                        have M2 := Aside0.mk (M.out.below (below_grow wr nq osq))
                        generalize grow (wr.drewN nq) osq = w11 at HB2 M2 ⊢
                        go_wp2
                        go_roundg (gk - 1)
                        case measure => have := HI.out; have := HN.out; omega
                        case rel => exact ⟨wrap64 (j + 1), i + 1, by first | rfl | (simp; done), ⟨by have := HI.out; have := HN.out; have := HM.out; unfold wrap64; omega, by have := HN.out; omega, by have := HI.out; have := HN.out; omega⟩, M2, HB2⟩
                      · have gz : decide (0 < y) = false := decide_eq_false hp
                        have ll := fun (n : Nat) => ll n #[]
                        simp only [grow_empty] at ll
                        have g0 := (cellsAt (Kd.C_below C7.out HB.out) j p0 q0 x hx.symm).1
                        have g1 := (cellsAt (Kd.C_below C7.out HB.out) j p0 q0 x hx.symm).2
                        replace p0 := eq_true p0
                        replace q0 := eq_true q0
                        clear hx hy hxe hmem hm hlast hx0 hin hp p1 q1
                        go_wp2_with fail
                        go_quiet (fail)
                        clear ll g0 g1
                        have HB2 : Aside0 (Below w7.heap.size w7 (wr.drewN nq)) := ⟨pw_below_drewN HB.out nq⟩
                        have M2 : Aside0 (CMap (wr.drewN nq) _ _ _) := ⟨M.out⟩
                        generalize wr.drewN nq = w11 at HB2 M2 ⊢
                        go_wp2
                        go_roundg (gk - 1)
                        case measure => have := HI.out; have := HN.out; omega
                        case rel => exact ⟨wrap64 (j + 1), i + 1, by first | rfl | (simp; done), ⟨by have := HI.out; have := HN.out; have := HM.out; unfold wrap64; omega, by have := HN.out; omega, by have := HI.out; have := HN.out; omega⟩, M2, HB2⟩
                  · have hlt : decide (j < (zs.length : Int)) = false := decide_eq_false (by have := HI.out; omega)
                    clear hin
                    go_wp2_with fail
                    refine bodyPost_ret (v := .bool true) (by simp [results, Try.results3, go_sem]) rfl ⟨rfl, HB7.out.trans (HB.out.mono HB7.out.size)⟩
end Go.Proofs.Ytbdkgdbfnkogaaa.R
