import Derived.Test.YtbdkgdbfnkogaaaB15
import Derived.Test.YtbdkgdbfnkogaaaB16
import Derived.Test.YtbdkgdbfnkogaaaB17
import Derived.Deep.RegionHeld3
import Derived.Test.YtbdkgdbfnkogaaaRk

section
/-
  CellNearest's walk. Conditions: the cents and the vector lie as told.
-/
namespace Go.Proofs.Ytbdkgdbfnkogaaa.R
open Go.RowKit Go.Proofs Go.Proofs.YtbdkgdbfnkogaaaW.PrintWords Go.Proofs.YtbdkgdbfnkogaaaW.PrintLast Go.Proofs.YtbdkgdbfnkogaaaW.PrintMore Go.Proofs.Ytbdkgdbfnkogaaa.Plain
set_option linter.unusedVariables false
set_option linter.unusedSimpArgs false

theorem lives13_f : wayfinderlaw13_lives.f 20 = some true := by decide +kernel
theorem lives13_any (w : World) : Calls Try.prog 27 #[] w fun e w' => e = .returned (.bool true) ∧ Below w.heap.size w w' :=
  wayfinderlaw13_lives.calls 20 true w lives13_f

abbrev kI32 : Kd Int := Kd.int .i32
abbrev kL32 : Kd (List Int) := Kd.slice 21 (Kd.int .i32)

theorem light_later {W w' : World} {A : Option Addr} {c : Nat} {cs : List (List Int)} (hC : Kd.C kL32 W A cs.length cs) (hc : cs.length ≤ c) (hB : Below W.heap.size W w') :
    Calls Try.prog 28 #[.slice A cs.length c, .int .i64 80, .int .i64 30] w' fun e w'' => e = .returned (.bool (lightB cs 80 30)) ∧ Below w'.heap.size w' w'' ∧ Below W.heap.size W w'' := by
  have hm := Kd.C_max hC
  refine (wayfinderkit_Light_int32.calls (cs.length + 1) A c cs (80 : Nat) (30 : Nat) (lightB cs 80 30) w' (Kd.C_below hC hB) hc ?_).mono fun e w'' ⟨he, hd⟩ => ⟨he, hd.below, hB.trans (hd.below.mono hB.size)⟩
  by_cases h : cs.length < 9223372036854775807
  · exact light_f cs 80 30 h _ (by omega)
  · unfold wayfinderkit_Light_int32.f lightB
    rw [if_pos (by omega), decide_eq_false (by omega)]; rfl
theorem lightB_true {cs : List (List Int)} (h : lightB cs 80 30 = true) : cs.length ≤ 80 ∧ ∀ x ∈ cs, x.length ≤ 30 := by
  unfold lightB at h
  simp at h
  exact h
theorem nearest_later {W w' : World} {A Av : Option Addr} {c cv : Nat} {cs : List (List Int)} {v : List Int} (hC : Kd.C kL32 W A cs.length cs) (hc : cs.length ≤ c) (hV : Kd.C kI32 W Av v.length v) (hcv : v.length ≤ cv) (hB : Below W.heap.size W w') {r1 r2 r3 : Int} (h : cell_Nearest.f cs v = some (r1, r2, r3)) :
    Calls Try.prog 29 #[.slice A cs.length c, .slice Av v.length cv] w' fun e w'' => e = .returned (.tuple #[.int .i64 r1, .int .i64 r2, .int .i64 r3]) ∧ Below w'.heap.size w' w'' ∧ Below W.heap.size W w'' :=
  (cell_Nearest.calls A c cs Av cv v r1 r2 r3 w' (Kd.C_below hC hB) hc (Kd.C_below hV hB) hcv h).mono fun e w'' ⟨he, hb⟩ => ⟨he, hb, hB.trans (hb.mono hB.size)⟩
theorem order_later {W w' : World} {A Av : Option Addr} {c cv : Nat} {cs : List (List Int)} {v : List Int} (hC : Kd.C kL32 W A cs.length cs) (hc : cs.length ≤ c) (hV : Kd.C kI32 W Av v.length v) (hcv : v.length ≤ cv) (hB : Below W.heap.size W w') (n : Nat) (h : bothE cs v = 0) :
    Calls Try.prog 31 #[.slice A cs.length c, .slice Av v.length cv, .int .i64 n] w' fun e w'' => ∃ A1 c1, e = .returned (.tuple #[.slice A1 (ordL cs v (min n cs.length)).length c1, .int .i64 0]) ∧ ((ordL cs v (min n cs.length)).length ≤ c1 ∧ Kd.C (Kd.int .i64) w'' A1 (ordL cs v (min n cs.length)).length (ordL cs v (min n cs.length))) ∧ Below w'.heap.size w' w'' ∧ Below W.heap.size W w'' := by
  refine (cell_Order.calls A c cs Av cv v n (ordL cs v (min n cs.length)) 0 w' (Kd.C_below hC hB) hc (Kd.C_below hV hB) hcv (by unfold cell_Order.f; rw [orderS_ok h])).mono ?_
  rintro e w'' ⟨v0, rfl, hR, hb⟩
  obtain ⟨A1, c1, rfl⟩ := Kd.R_slice hR
  exact ⟨A1, c1, rfl, (Kd.R_reads' hR).2, hb, hB.trans (hb.mono hB.size)⟩
theorem rdist_later {W w' : World} {A Av : Option Addr} {c cv : Nat} {x v : List Int} (hC : Kd.C kI32 W A x.length x) (hc : x.length ≤ c) (hV : Kd.C kI32 W Av v.length v) (hcv : v.length ≤ cv) (hB : Below W.heap.size W w') {d e0 : Int} (h : distE x v = (d, e0)) :
    Calls Try.prog 30 #[.slice A x.length c, .slice Av v.length cv] w' fun e w'' => e = .returned (.tuple #[.int .i64 d, .int .i64 e0]) ∧ Below w'.heap.size w' w'' ∧ Below W.heap.size W w'' :=
  (wayfinderref03_Dist.calls 1027 A c x Av cv v d e0 w' (Kd.C_below hC hB) hc (Kd.C_below hV hB) hcv (by rw [rdist_f _ _ _ (by omega), h])).mono fun e w'' ⟨he, hd⟩ => ⟨he, hd.below, hB.trans (hd.below.mono hB.size)⟩
theorem nearf_ok {cs : List (List Int)} {v : List Int} (h : bothE cs v = 0) {j : Nat} (e : nearS (dists cs v) = ((j : Int), dj cs v j)) : cell_Nearest.f cs v = some ((j : Int), dj cs v j, 0) := by
  unfold cell_Nearest.f; rw [if_pos h, e]
theorem nearf_bad {cs : List (List Int)} {v : List Int} (h : bothE cs v ≠ 0) : cell_Nearest.f cs v = some (0, 0, bothE cs v) := by
  unfold cell_Nearest.f; rw [if_neg h]

theorem takeI (l : List Int) (i : Nat) (h : i < l.length) : l.take (i + 1) = l.take i ++ [rd l (i : Int)] := by
  have e2 : rd l (i : Int) = l[i] := by unfold rd; simp [h]
  rw [e2, List.take_add_one, List.getElem?_eq_getElem h]; rfl
theorem wf_small (x : Int) (h0 : 0 ≤ x) (h1 : x < 9223372036854775808) : (Lit.int .i64 x).wf = true := by
  have e1 : IntKind.i64.min = -9223372036854775808 := rfl
  have e2 : IntKind.i64.max = 9223372036854775807 := rfl
  simp [Lit.wf]; omega

set_option maxHeartbeats 8000000 in
set_option maxRecDepth 100000 in
theorem cnear_any (A : Option Addr) (c : Nat) (cs : List (List Int)) (Av : Option Addr) (cv : Nat) (v : List Int) (n m : Int) (w : World) (hC : Kd.C kL32 w A cs.length cs) (hc : cs.length ≤ c) (hV : Kd.C kI32 w Av v.length v) (hcv : v.length ≤ cv) :
    Calls Try.prog 6 #[.slice A cs.length c, .slice Av v.length cv, .int .i64 n, .int .i64 m] w fun e w' => e = .returned (.bool true) ∧ Below w.heap.size w w' := by
  have L := Aside0.mk (lives13_any w)
  have LT := Aside0.mk (fun w' => light_later (w' := w') hC hc)
  have NR := Aside0.mk (fun w' hB r1 r2 r3 h => nearest_later (w' := w') (r1 := r1) (r2 := r2) (r3 := r3) hC hc hV hcv hB h)
  have OD := Aside0.mk (fun w' hB n h => order_later (w' := w') hC hc hV hcv hB n h)
  have HC := Aside0.mk hC
  have HV := Aside0.mk hV
  have HCV := Aside0.mk hcv
  clear hC hc hV hcv
  cases hl : lightB cs 80 30 with
  | false =>
    rw [hl] at LT
    clear hl
    go_enter Try.func6, Try.ntmps6
    go_wp2_with fail
    refine L.out.mono ?_
    rintro e w1 ⟨rfl, hB1⟩
    go_wp2_with fail
    refine (LT.out _ hB1).mono ?_
    rintro e w2 ⟨rfl, hb2, hB2⟩
    go_wp2_with fail
    go_ret
    exact ⟨rfl, hB2⟩
  | true =>
    have HL := Aside0.mk (lightB_true hl)
    rw [hl] at LT
    clear hl
    by_cases hv : 30 < v.length
    · have hv1 : decide ((30 : Int) < (v.length : Int)) = true := decide_eq_true (by omega)
      have hv2 : decide (30 < v.length) = true := decide_eq_true hv
      clear hv
      go_enter Try.func6, Try.ntmps6
      go_wp2_with fail
      refine L.out.mono ?_
      rintro e w1 ⟨rfl, hB1⟩
      go_wp2_with fail
      refine (LT.out _ hB1).mono ?_
      rintro e w2 ⟨rfl, hb2, hB2⟩
      go_wp2_with fail
      go_ret
      exact ⟨rfl, hB2⟩
    · have hv1 : decide ((30 : Int) < (v.length : Int)) = false := decide_eq_false (by omega)
      have hv2 : decide (30 < v.length) = false := decide_eq_false hv
      clear hv
      by_cases hz : bothE cs v = 0
      · obtain ⟨j0, hj0, hnear, hall⟩ := near_spec hz
        have NR2 := Aside0.mk (fun w' hB => NR.out w' hB _ _ _ (nearf_ok hz hnear))
        have HALL := Aside0.mk hall
        have HJ0 := Aside0.mk hj0
        have HZ := Aside0.mk hz
        obtain ⟨d0, hd0⟩ : ∃ d, d = dj cs v j0 := ⟨_, rfl⟩
        rw [← hd0] at NR2
        have HD0 := Aside0.mk hd0
        obtain ⟨k0, hk0⟩ : ∃ k : Int, k = (j0 : Int) := ⟨_, rfl⟩
        rw [← hk0] at NR2
        have HK0 := Aside0.mk hk0
        have f1 : decide (k0 < 0) = false := decide_eq_false (by omega)
        have f2 : decide ((cs.length : Int) ≤ k0) = false := decide_eq_false (by omega)
        obtain ⟨r1, hr1, hP1⟩ := pick_any n 160 (by decide) (by decide)
        obtain ⟨r2, hr2, hP2⟩ := pick_any m (r1 + 1) (by omega) (by omega)
        have hw : wrap64 ((r1 : Int) + 1) = ((r1 + 1 : Nat) : Int) := by unfold wrap64; omega
        rw [← hw] at hP2
        have P1 := Aside0.mk hP1
        have P2 := Aside0.mk hP2
        have HR := Aside0.mk (And.intro hr1 hr2)
        clear hz hj0 hnear hall hd0 hk0 NR hr1 hr2 hP1 hP2 hw
        go_enter Try.func6, Try.ntmps6
        go_wp2_with fail
        refine L.out.mono ?_
        rintro e w1 ⟨rfl, hB1⟩
        go_wp2_with fail
        refine (LT.out _ hB1).mono ?_
        rintro e w2 ⟨rfl, hb2, hB2⟩
        go_wp2_with fail
        refine (NR2.out _ hB2).mono ?_
        rintro e w3 ⟨rfl, hb3, hB3⟩
        have HB3 := Aside0.mk hB3
        clear hb2 hB2 hb3 hB3 hB1
        go_wp2_with fail
        clear hv1 hv2 f1 f2
        go_loopg [12] cs.length (fun gx s12 wr => ∃ (j : Int) (i : Nat), s12 = .int .i64 j ∧ Aside0 (j = i ∧ i ≤ cs.length ∧ cs.length - i ≤ gx) ∧ Aside0 (Below w.heap.size w wr))
        case atStart => exact ⟨0, 0, rfl, ⟨by omega, by omega, by omega⟩, HB3⟩
        case round =>
          clear HB3
          obtain ⟨j, i, rfl, HI, HB⟩ := hrel
          by_cases hin : i < cs.length
          · have hlt : decide (j < (cs.length : Int)) = true := decide_eq_true (by have := HI.out; omega)
            have p1 : 0 ≤ j := by have := HI.out; omega
            have q1 : j < (cs.length : Int) := by have := HI.out; omega
            obtain ⟨ad, A1, c1, eA, g0, hc1, hC1⟩ := at_L3 (Kd.C_below HC.out HB.out) j p1 q1
            cases eA
            have RD := Aside0.mk (rdist_later (d := dj cs v i) (e0 := 0) hC1 hc1 (Kd.C_below HV.out HB.out) HCV.out (Below.refl _ wr) (by rw [HI.out.1]; exact distE_ok HZ.out i hin))
            obtain ⟨n1, hn1⟩ : ∃ n1, n1 = (rd_L3 cs j).length := ⟨_, rfl⟩
            rw [← hn1] at g0 RD
            obtain ⟨d, hd⟩ : ∃ d, d = dj cs v i := ⟨_, rfl⟩
            rw [← hd] at RD
            have h1 := HALL.out i hin
            rw [← HD0.out, ← hd] at h1
            have HN := Aside0.mk hin
            have f1 : decide (d < d0) = false := decide_eq_false (by omega)
            replace p1 := eq_true p1
            replace q1 := eq_true q1
            by_cases hij : i < j0
            · have f2 : decide (j < k0) = true := decide_eq_true (by have := HI.out; have := HK0.out; omega)
              have f3 : (d == d0) = false := by rw [beq_eq_false_iff_ne]; have := h1.2 hij; omega
              have f4 : (j == k0) = false := by rw [beq_eq_false_iff_ne]; have := HI.out; have := HK0.out; omega
              clear h1 hd hij hin hn1 hC1 hc1
              go_wp2_with fail
              refine RD.out.mono ?_
              rintro e w4 ⟨rfl, hb4, hB4⟩
              have HB4 := Aside0.mk (HB.out.trans (hB4.mono HB.out.size))
              clear hb4 hB4 g0
              go_wp2_with fail
              go_roundg (gk - 1)
              case measure => have := HI.out; have := HN.out; omega
              case rel => exact ⟨wrap64 (j + 1), i + 1, by first | rfl | (simp; done), ⟨by have := HI.out; have := HN.out; have := HL.out.1; unfold wrap64; omega, by have := HN.out; omega, by have := HI.out; have := HN.out; omega⟩, HB4⟩
            · have f2 : decide (j < k0) = false := decide_eq_false (by have := HI.out; have := HK0.out; omega)
              by_cases hij2 : i = j0
              · have f3 : (j == k0) = true := by rw [beq_iff_eq]; have := HI.out; have := HK0.out; omega
                have f4 : (d != d0) = false := by rw [hd, HD0.out, hij2]; simp
                clear h1 hd hij hij2 hin hn1 hC1 hc1
                go_wp2_with fail
                refine RD.out.mono ?_
                rintro e w4 ⟨rfl, hb4, hB4⟩
                have HB4 := Aside0.mk (HB.out.trans (hB4.mono HB.out.size))
                clear hb4 hB4 g0
                go_wp2_with fail
                go_roundg (gk - 1)
                case measure => have := HI.out; have := HN.out; omega
                case rel => exact ⟨wrap64 (j + 1), i + 1, by first | rfl | (simp; done), ⟨by have := HI.out; have := HN.out; have := HL.out.1; unfold wrap64; omega, by have := HN.out; omega, by have := HI.out; have := HN.out; omega⟩, HB4⟩
              · have f3 : (j == k0) = false := by rw [beq_eq_false_iff_ne]; have := HI.out; have := HK0.out; omega
                clear h1 hd hij hij2 hin hn1 hC1 hc1
                go_wp2_with fail
                refine RD.out.mono ?_
                rintro e w4 ⟨rfl, hb4, hB4⟩
                have HB4 := Aside0.mk (HB.out.trans (hB4.mono HB.out.size))
                clear hb4 hB4 g0
                go_wp2_with fail
                go_roundg (gk - 1)
                case measure => have := HI.out; have := HN.out; omega
                case rel => exact ⟨wrap64 (j + 1), i + 1, by first | rfl | (simp; done), ⟨by have := HI.out; have := HN.out; have := HL.out.1; unfold wrap64; omega, by have := HN.out; omega, by have := HI.out; have := HN.out; omega⟩, HB4⟩
          · have hlt : decide (j < (cs.length : Int)) = false := decide_eq_false (by have := HI.out; omega)
            clear hin
            go_wp2_with fail
            refine (P1.out _).mono ?_
            rintro e w4 ⟨rfl, n4, rfl⟩
            go_wp2_with fail
            refine (P2.out _).mono ?_
            rintro e w5 ⟨rfl, n5, rfl⟩
            have HB5 : Aside0 (Below w.heap.size w ((wr.drewN n4).drewN n5)) := ⟨pw_below_drewN (pw_below_drewN HB.out n4) n5⟩
            generalize (wr.drewN n4).drewN n5 = W5 at HB5 ⊢
            clear P1 P2 HB hlt
            obtain ⟨L1, hL1⟩ : ∃ L, L = ordL cs v (min r1 cs.length) := ⟨_, rfl⟩
            obtain ⟨L2, hL2⟩ : ∃ L, L = ordL cs v (min r2 cs.length) := ⟨_, rfl⟩
            have O1 := Aside0.mk (fun w' hB => OD.out w' hB r1 HZ.out)
            have O2 := Aside0.mk (fun w' hB => OD.out w' hB r2 HZ.out)
            rw [← hL1] at O1
            rw [← hL2] at O2
            have l1 : L1.length = min r1 cs.length := by rw [hL1, ordL_length (Nat.min_le_right _ _)]
            have l2 : L2.length = min r2 cs.length := by rw [hL2, ordL_length (Nat.min_le_right _ _)]
            have hpre : L2 = L1.take L2.length := by rw [l2, hL1, ordL_take (by have := HR.out; omega), ← hL2]
            have HL1 := Aside0.mk hL1
            have HLE := Aside0.mk (And.intro l1 l2)
            have HPRE := Aside0.mk hpre
            have m1 : min (r1 : Int) (cs.length : Int) = (L1.length : Int) := by omega
            have m2 : min (r2 : Int) (cs.length : Int) = (L2.length : Int) := by omega
            clear hL1 hL2 l1 l2 hpre
            go_wp2_with fail
            refine (O1.out _ HB5.out).mono ?_
            rintro e w6 ⟨A1, c1, rfl, D1, hb6, hB6⟩
            have D1 := Aside0.mk D1
            go_wp2_with fail
            refine (O2.out _ hB6).mono ?_
            rintro e w7 ⟨A2, c2, rfl, D2, hb7, hB7⟩
            have D2 := Aside0.mk D2
            have E1 : Aside0 (L1.length ≤ c1 ∧ Kd.C (Kd.int .i64) w7 A1 L1.length L1) := ⟨D1.out.1, Kd.C_below D1.out.2 hb7⟩
            have HB7 := Aside0.mk hB7
            have q1 : (L2.length : Int) ≤ (c1 : Int) := by have := D1.out.1; have := HLE.out; have := HR.out; omega
            have q2 : L2.length ≤ c1 := by omega
            have hlt : L2.length ≤ L1.length := by have := HLE.out; have := HR.out; omega
            have hct := Kd.C_take E1.out.2 hlt
            have hcl : (L1.take L2.length).length = L2.length := by rw [List.length_take]; omega
            have SM := wayfinderkit_Same_int.calls (L2.length + 1) A2 c2 L2 A1 c1 (L1.take L2.length) true w7 D2.out.2 D2.out.1 hct (by rw [hcl]; omega) (by rw [same_int_f _ _ (by have := HLE.out; have := HL.out.1; omega) _ (by omega), ← HPRE.out]; simp)
            rw [hcl] at SM
            have SM := Aside0.mk SM
            rename_i SM0
            clear SM0 hct hcl hlt hb6 hB6 hb7 hB7 O1 O2 D1
            by_cases hz1 : L1.length = 0
            · have g1 : decide ((0 : Int) < (L1.length : Int)) = false := decide_eq_false (by omega)
              have g2 : decide (0 < L1.length) = false := decide_eq_false (by omega)
              have HZ1 := Aside0.mk hz1
              clear hz1
              have hmm := @run_makeMap Try.prog
              go_wp2_with fail
              refine SM.out.mono ?_
              rintro e w8 ⟨rfl, ⟨n8, rfl⟩⟩
              go_wp2_with fail
              have M8 := Aside0.mk (Seen.made (w7.drewN n8))
              have CL8 := Aside0.mk (Kd.C_alloc (Kd.C_drewN E1.out.2 n8) (.map #[] 0))
              have HB8 : Aside0 (Below w.heap.size w ((w7.drewN n8).alloc (.map #[] 0))) := ⟨below_alloc (pw_below_drewN HB7.out n8) _⟩
              have NB : Aside0 (w.heap.size ≤ w7.heap.size) := ⟨HB7.out.size⟩
              clear SM hmm HB7 q1 q2 m1 m2 D2 E1 g1 g2
              change Aside0 (Seen ((w7.drewN n8).alloc (.map #[] 0)) w7.heap.size 0 []) at M8
              generalize (w7.drewN n8).alloc (.map #[] 0) = W8 at M8 CL8 HB8 ⊢
              go_loopg [20] 0 (fun gx s20 wr => s20 = .int .i64 0 ∧ Aside0 (Below w.heap.size w wr))
              case atStart => exact ⟨rfl, HB8⟩
              case round =>
                obtain ⟨rfl, HB9⟩ := hrel
                have g1 : decide ((0 : Int) < (L1.length : Int)) = false := decide_eq_false (by have := HZ1.out; omega)
                have g2 : decide (0 < L1.length) = false := decide_eq_false (by have := HZ1.out; omega)
                go_wp2_with fail
                refine bodyPost_ret (v := .bool true) (by simp [results, Try.results6, go_sem]) rfl ⟨rfl, HB9.out⟩
            · have g1 : decide ((0 : Int) < (L1.length : Int)) = true := decide_eq_true (by omega)
              have g2 : decide (0 < L1.length) = true := decide_eq_true (by omega)
              have g3 : 0 < L1.length := by omega
              have g4 : (0 : Int) < (L1.length : Int) := by omega
              obtain ⟨ad, eA, h0⟩ := Kd.at_int E1.out.2 0 (Int.le_refl _) g4
              cases eA
              have ez : ad.add (0 : Int).toNat = ad := Addr.add_zero' ad
              rw [ez] at h0
              have hv0 : rd L1 0 = k0 := by
                have h1 := ordL_at (c := cs) (v := v) (Nat.min_le_right r1 cs.length) 0 (by have := HLE.out; omega)
                rw [← HL1.out] at h1
                have h2 := far_first HZ.out HJ0.out HALL.out
                have h1 : rd L1 0 = (rd_T30 (farS cs v) 0).f1 := h1
                rw [h1, h2, HK0.out]; rfl
              rw [hv0] at h0
              clear hv0 ez hz1
              have hmm := @run_makeMap Try.prog
              go_wp2_with fail
              refine SM.out.mono ?_
              rintro e w8 ⟨rfl, ⟨n8, rfl⟩⟩
              have E8 := Aside0.mk (Kd.C_drewN E1.out.2 n8)
              have HB8 := Aside0.mk (pw_below_drewN HB7.out n8)
              replace h0 : (w7.drewN n8).cell? ad = some (.int .i64 k0) := h0
              generalize w7.drewN n8 = W7 at E8 HB8 h0 ⊢
              go_wp2_with fail
              have M8 := Aside0.mk (Seen.made W7)
              have HB9 := Aside0.mk (below_alloc (Below.refl _ W7) (.map #[] 0))
              clear SM hmm HB7 q1 q2 m1 m2 D2 E1 g1 g2 g3 g4 h0
              generalize W7.alloc (.map #[] 0) = W8 at M8 HB9 ⊢
              go_loopg [20] L1.length (fun gx s20 wr => ∃ (j : Int) (i : Nat), s20 = .int .i64 j ∧ Aside0 (j = i ∧ i ≤ L1.length ∧ L1.length - i ≤ gx) ∧ Aside0 (Seen wr W7.heap.size i (L1.take i)) ∧ Aside0 (Below W7.heap.size W7 wr))
              case atStart => exact ⟨0, 0, rfl, ⟨by omega, by omega, by omega⟩, ⟨by simpa using M8.out⟩, HB9⟩
              case round =>
                clear M8 HB9
                obtain ⟨j, i, rfl, HI, M, HB⟩ := hrel
                by_cases hin : i < L1.length
                · have hlt : decide (j < (L1.length : Int)) = true := decide_eq_true (by have := HI.out; omega)
                  have p1 : 0 ≤ j := by have := HI.out; omega
                  have q1 : j < (L1.length : Int) := by have := HI.out; omega
                  obtain ⟨ad', eA', h0⟩ := Kd.at_int (Kd.C_below E8.out HB.out) j p1 q1
                  injection eA' with eA'
                  subst eA'
                  have hic : i < cs.length := by have := HLE.out; omega
                  obtain ⟨t, ht, et⟩ := far_at HZ.out i hic
                  have hx : rd L1 j = (t : Int) := by
                    have h1 := ordL_at (c := cs) (v := v) (Nat.min_le_right r1 cs.length) i (by have := HLE.out; omega)
                    rw [← HL1.out, et] at h1
                    rw [HI.out.1, h1]; rfl
                  obtain ⟨x, hxe⟩ : ∃ x : Int, x = (t : Int) := ⟨_, rfl⟩
                  rw [hx, ← hxe] at h0
                  have hnew : x ∉ L1.take i := by
                    have h1 := ordL_new HZ.out (Nat.min_le_right r1 cs.length) i (by have := HLE.out; omega)
                    rw [← HL1.out, ← HI.out.1, hx] at h1
                    rw [hxe]; exact h1
                  have hwf : (Lit.int .i64 x).wf = true := wf_small x (by omega) (by have := HL.out.1; omega)
                  have ll := M.out.look x hnew hwf
                  have HT := Aside0.mk (And.intro ht (And.intro et hxe))
                  have HXJ := Aside0.mk hx
                  have HN := Aside0.mk hin
                  have HWF := Aside0.mk hwf
                  have f1 : decide (x < 0) = false := decide_eq_false (by omega)
                  have f2 : decide ((cs.length : Int) ≤ x) = false := decide_eq_false (by omega)
                  have P1 := Aside0.mk p1
                  have Q1 := Aside0.mk q1
                  replace p1 := eq_true p1
                  replace q1 := eq_true q1
                  clear hin hic ht et hx hxe hnew hwf
                  by_cases hi0 : i = 0
                  · have g5 : (j == 0) = true := by rw [beq_iff_eq]; have := HI.out; omega
                    clear hi0
                    go_wp2_with (at_mapUpdate; refine wpList_seen rfl _ _ _ rfl x rfl rfl rfl M.out (by have := HI.out; have := HLE.out; have := HL.out.1; unfold maxLen; omega) HWF.out ?_; intro w2 hM2 hg2; have M2 := Aside0.mk hM2; have HB2 := Aside0.mk (HB.out.grown hg2 HB.out.size (fun k e => by cases e; exact Nat.le_refl _)); clear hM2 hg2 h0 ll)
                    go_roundg (gk - 1)
                    case measure => have := HI.out; have := HN.out; omega
                    case rel => exact ⟨wrap64 (j + 1), i + 1, by first | rfl | (simp; done), ⟨by have := HI.out; have := HN.out; have := HLE.out; have := HL.out.1; unfold wrap64; omega, by have := HN.out; omega, by have := HI.out; have := HN.out; omega⟩, ⟨by rw [takeI L1 i HN.out, ← HI.out.1, HXJ.out, ← HT.out.2.2]; exact M2.out⟩, HB2⟩
                  · have g5 : (j == 0) = false := by rw [beq_eq_false_iff_ne]; have := HI.out; omega
                    obtain ⟨j1, hj1⟩ : ∃ j1 : Int, j1 = j - 1 := ⟨_, rfl⟩
                    have hw1 : wrap64 (j - 1) = j1 := by have := HI.out; have := HLE.out; have := HL.out.1; unfold wrap64; omega
                    have hw2 : IntKind.i64.wrap (j - 1) = j1 := by have := HI.out; have := HLE.out; have := HL.out.1; rw [IntKind.wrap_i64]; omega
                    have p2 : 0 ≤ j1 := by have := HI.out; omega
                    have q2 : j1 < (L1.length : Int) := by have := HI.out; have := HN.out; omega
                    have hji : j1 = ((i - 1 : Nat) : Int) := by have := HI.out; omega
                    have hic : i - 1 < cs.length := by have := HLE.out; have := HN.out; omega
                    obtain ⟨t2, ht2, et2⟩ := far_at HZ.out (i - 1) hic
                    have hy : rd L1 j1 = (t2 : Int) := by
                      have h1 := ordL_at (c := cs) (v := v) (Nat.min_le_right r1 cs.length) (i - 1) (by have := HLE.out; have := HN.out; omega)
                      rw [← HL1.out, et2] at h1
                      rw [hji, h1]; rfl
                    obtain ⟨y, hye⟩ : ∃ y : Int, y = (t2 : Int) := ⟨_, rfl⟩
                    have hnx := far_next HZ.out (i - 1) (by have := HLE.out; have := HN.out; omega) et2 (by rw [show i - 1 + 1 = i by omega]; exact HT.out.2.1)
                    obtain ⟨ds, hds⟩ : ∃ d, d = dj cs v t2 := ⟨_, rfl⟩
                    obtain ⟨dt, hdt⟩ : ∃ d, d = dj cs v t := ⟨_, rfl⟩
                    rw [← hds, ← hdt] at hnx
                    have f3 : decide (dt < ds) = false := decide_eq_false (by omega)
                    have p3 : 0 ≤ y := by omega
                    have q3 : y < (cs.length : Int) := by omega
                    have p4 : 0 ≤ x := by have := HT.out.2.2; omega
                    have q4 : x < (cs.length : Int) := by have := HT.out.2.2; have := HT.out.1; omega
                    obtain ⟨adc, Ay, cy, eAy, hcy0, hcy, hCy⟩ := at_L3 (Kd.C_below HC.out HB8.out) y p3 q3
                    obtain ⟨adc', Ax, cx, eAx, hcx0, hcx, hCx⟩ := at_L3 (Kd.C_below HC.out HB8.out) x p4 q4
                    cases eAy
                    injection eAx with eAx
                    subst eAx
                    obtain ⟨ad3, eA3, h2⟩ := Kd.at_int E8.out j1 p2 q2
                    injection eA3 with eA3
                    subst eA3
                    obtain ⟨ad4, eA4, h3⟩ := Kd.at_int E8.out j P1.out Q1.out
                    injection eA4 with eA4
                    subst eA4
                    rw [hy, ← hye] at h2
                    rw [HXJ.out, ← HT.out.2.2] at h3
                    have RD1 := Aside0.mk (fun w' hB => rdist_later (w' := w') (d := ds) (e0 := 0) hCy hcy (Kd.C_below HV.out HB8.out) HCV.out hB (by rw [hye, hds]; exact distE_ok HZ.out t2 ht2))
                    have RD2 := Aside0.mk (fun w' hB => rdist_later (w' := w') (d := dt) (e0 := 0) hCx hcx (Kd.C_below HV.out HB8.out) HCV.out hB (by rw [HT.out.2.2, hdt]; exact distE_ok HZ.out t HT.out.1))
                    obtain ⟨ny, hny⟩ : ∃ n, n = (rd_L3 cs y).length := ⟨_, rfl⟩
                    obtain ⟨nx, hnxl⟩ : ∃ n, n = (rd_L3 cs x).length := ⟨_, rfl⟩
                    rw [← hny] at hcy0 RD1
                    rw [← hnxl] at hcx0 RD2
                    have Y : Aside0 (∀ w', Below W7.heap.size W7 w' → w'.cell? (ad.add j1.toNat) = some (.int .i64 y) ∧ w'.cell? (ad.add j.toNat) = some (.int .i64 x) ∧ w'.cell? (adc.add y.toNat) = some (.slice Ay ny cy) ∧ w'.cell? (adc.add x.toNat) = some (.slice Ax nx cx)) := ⟨fun w' hB => ⟨pw_cell_below hB h2, pw_cell_below hB h3, pw_cell_below hB hcy0, pw_cell_below hB hcx0⟩⟩
                    have f4 : Aside0 (ds = dt → decide (x < y) = false) := ⟨fun e => decide_eq_false (by have := hnx.2 e; have := HT.out.2.2; omega)⟩
                    clear hnx hds hdt hny hnxl hy hye et2 ht2 hic hji hj1 hi0 h2 h3 hcy0 hcx0 hcy hCy hcx hCx
                    replace p2 := eq_true p2
                    replace q2 := eq_true q2
                    replace p3 := eq_true p3
                    replace q3 := eq_true q3
                    replace p4 := eq_true p4
                    replace q4 := eq_true q4
                    go_wp2_with (at_mapUpdate; refine wpList_seen rfl _ _ _ rfl x rfl rfl rfl M.out (by have := HI.out; have := HLE.out; have := HL.out.1; unfold maxLen; omega) HWF.out ?_; intro w2 hM2 hg2; have M2 := Aside0.mk hM2; have hB2 := (HB.out.grown hg2 HB.out.size (fun k e => by cases e; exact Nat.le_refl _)); have HB2 := Aside0.mk hB2; obtain ⟨y0, y1, y2, y3⟩ := Y.out _ hB2; clear hM2 hg2 h0 ll hB2)
                    refine (RD1.out _ HB2.out).mono ?_
                    rintro e w3 ⟨rfl, hb3, hB3⟩
                    have M3 := Aside0.mk (M2.out.below hb3)
                    have HB3 := Aside0.mk hB3
                    clear y0 y1 y2 y3 hb3
                    obtain ⟨y0, y1, y2, y3⟩ := Y.out _ hB3
                    clear hB3
                    go_wp2_with fail
                    refine (RD2.out _ HB3.out).mono ?_
                    rintro e w4 ⟨rfl, hb4, hB4⟩
                    have M4 := Aside0.mk (M3.out.below hb4)
                    have HB4 := Aside0.mk hB4
                    clear y0 y1 y2 y3 hb4
                    obtain ⟨y0, y1, y2, y3⟩ := Y.out _ hB4
                    clear hB4 y2 y3
                    go_wp2_with fail
                    by_cases hde : ds = dt
                    · have f5 : (ds == dt) = true := by rw [beq_iff_eq]; exact hde
                      have f6 := f4.out hde
                      clear hde
                      go_quiet (fail)
                      go_wp2_with fail
                      go_roundg (gk - 1)
                      case measure => have := HI.out; have := HN.out; omega
                      case rel => exact ⟨wrap64 (j + 1), i + 1, by first | rfl | (simp; done), ⟨by have := HI.out; have := HN.out; have := HLE.out; have := HL.out.1; unfold wrap64; omega, by have := HN.out; omega, by have := HI.out; have := HN.out; omega⟩, ⟨by rw [takeI L1 i HN.out, ← HI.out.1, HXJ.out, ← HT.out.2.2]; exact M4.out.below (pw_below_drewN (Below.refl _ _) _)⟩, ⟨pw_below_drewN HB4.out _⟩⟩
                    · have f5 : (ds == dt) = false := by rw [beq_eq_false_iff_ne]; exact hde
                      clear hde
                      go_quiet (fail)
                      go_wp2_with fail
                      go_roundg (gk - 1)
                      case measure => have := HI.out; have := HN.out; omega
                      case rel => exact ⟨wrap64 (j + 1), i + 1, by first | rfl | (simp; done), ⟨by have := HI.out; have := HN.out; have := HLE.out; have := HL.out.1; unfold wrap64; omega, by have := HN.out; omega, by have := HI.out; have := HN.out; omega⟩, ⟨by rw [takeI L1 i HN.out, ← HI.out.1, HXJ.out, ← HT.out.2.2]; exact M4.out.below (pw_below_drewN (Below.refl _ _) _)⟩, ⟨pw_below_drewN HB4.out _⟩⟩
                · have hlt : decide (j < (L1.length : Int)) = false := decide_eq_false (by have := HI.out; omega)
                  clear hin
                  go_wp2_with fail
                  refine bodyPost_ret (v := .bool true) (by simp [results, Try.results6, go_sem]) rfl ⟨rfl, HB8.out.trans (HB.out.mono HB8.out.size)⟩
      · have NR2 := Aside0.mk (fun w' hB => NR.out w' hB _ _ _ (nearf_bad hz))
        obtain ⟨E, hE⟩ : ∃ E, E = bothE cs v := ⟨_, rfl⟩
        rw [← hE] at NR2 hz
        clear hE NR
        have z1 : (E != 0) = true := by simpa using hz
        have z2 : (E == 0) = false := by simpa using hz
        clear hz
        go_enter Try.func6, Try.ntmps6
        go_wp2_with fail
        refine L.out.mono ?_
        rintro e w1 ⟨rfl, hB1⟩
        go_wp2_with fail
        refine (LT.out _ hB1).mono ?_
        rintro e w2 ⟨rfl, hb2, hB2⟩
        go_wp2_with fail
        refine (NR2.out _ hB2).mono ?_
        rintro e w3 ⟨rfl, hb3, hB3⟩
        go_wp2_with fail
        go_ret
        exact ⟨rfl, hB3⟩
end Go.Proofs.Ytbdkgdbfnkogaaa.R
end

section
namespace Go.Proofs.Ytbdkgdbfnkogaaa.R
open Go.RowKit Go.Proofs.YtbdkgdbfnkogaaaW.PrintWords Go.Proofs.YtbdkgdbfnkogaaaW.PrintLast Go.Proofs.YtbdkgdbfnkogaaaW.PrintMore
attribute [local go_sem] max2_int min2_int max_two min_two max_three min_three max_four min_four   -- for this text's walks alone
set_option linter.unusedVariables false
set_option linter.unusedSimpArgs false

/-! ### wayfinderkit_Own_int32: function 34 -/
def wayfinderkit_Own_int32.f (l0 : List Int) : Option (List Int) := (some (([] : List Int) : List Int)).bind fun y288 => (if y288.length + l0.length < 35184372088832 then (some (y288 ++ l0)) else (none))
set_option maxHeartbeats 8000000 in
set_option maxRecDepth 100000 in
theorem wayfinderkit_Own_int32.calls (A0 : Option Addr) (c0 : Nat) (l0 : List Int) (r : List Int) (w : World) (hr0 : Kd.C (Kd.int .i32) w A0 l0.length l0) (hc0 : l0.length ≤ c0) (h : wayfinderkit_Own_int32.f l0 = some r) :
    Calls Try.prog 34 #[.slice A0 l0.length c0] w fun e w' => ∃ v0_ : Value, e = .returned (v0_) ∧ Kd.R (Kd.int .i32) 21 w' w.heap.size (fun _ => True) v0_ r ∧ Below w.heap.size w w' := by
  have HR0 := Aside0.mk hr0
  have HC0 := Aside0.mk hc0
  clear hr0 hc0
  have HB := Aside0.mk (Below.refl w.heap.size w)
  have H : ((some (([] : List Int) : List Int)).bind fun y288 => (if y288.length + l0.length < 35184372088832 then (some (y288 ++ l0)) else (none))) = some r := h
  clear h
  obtain ⟨y288, hy288⟩ : ∃ y_ : List Int, y_ = (([] : List Int)) := ⟨_, rfl⟩
  replace H : (if y288.length + l0.length < 35184372088832 then (some (y288 ++ l0)) else (none)) = some r := by first | (rw [hy288]; with_reducible exact H) | (have H2_ := (Option.bind_some _ _).symm.trans H; rw [hy288]; with_reducible exact H2_) | (have H2_ := (Option.bind_some _ _).symm.trans H; with_reducible exact H2_) | with_reducible exact H | (rw [hy288]; exact H) | exact H
  have Ny288 := Aside0.mk hy288
  clear hy288
  by_cases c2 : y288.length + l0.length < 35184372088832
  · rw [if_pos c2] at H
    have LMc2 := Aside0.mk c2
    clear c2
    obtain ⟨y291, hy291⟩ : ∃ y_ : List Int, y_ = (y288 ++ l0) := ⟨_, rfl⟩
    replace H : (some y291) = some r := by first | (rw [hy291]; with_reducible exact H) | (have H2_ := (Option.bind_some _ _).symm.trans H; rw [hy291]; with_reducible exact H2_) | (have H2_ := (Option.bind_some _ _).symm.trans H; with_reducible exact H2_) | with_reducible exact H | (rw [hy291]; exact H) | exact H
    have Ny291 := Aside0.mk hy291
    clear hy291
    obtain rfl := Option.some.inj H
    go_enter Try.func34, Try.ntmps34
    go_wp2_with (first | ((with_reducible refine gate_dst (N := 3) rfl ?_); refine Kd.R_lit (Kd.int .i32) _ 21 ?hg (N := 3) ?hd (xs := ([] : List Int)) (inner := []) (ok := fun _ => True) (okp := fun _ => True) ?hr ?hp (fun _ hk => hk) trivial (Below.refl _ _) (Nat.le_refl _) (by simp) ?_; (case hd => rfl); (case hg => rfl); (case hr => first | (go_simp; done) | (go_simp; rfl)); (case hp => exact (Reps.none _ _)); intro v289 w3 ho4 hb hg_ hnew_; clear hg_ hnew_; (first | rw [← Ny288.out] at ho4 | (simp only [Int.reduceToNat] at ho4; rw [← Ny288.out] at ho4)); have n0_ := Aside0.mk (Kd.R_lower ho4 (below_size (by repeat (first | (with_reducible first | exact HB.out | apply below_alloc | apply pw_below_drewN | apply below_drew1) | exact HB.out)))); have n1_ := Aside0.mk (below_step (by repeat (first | (with_reducible first | exact HB.out | apply below_alloc | apply pw_below_drewN | apply below_drew1) | exact HB.out)) hb); clear HB; have HO290 := n0_; have HB := n1_; clear n0_ n1_; clear hb ho4) | ((with_reducible refine gate_builtin (b := .append) (xs := #[.tmp 3, .tmp 4]) rfl ?_); at_builtin; refine Kd.R_append_rows (Kd.int .i32) (w0 := w) w.heap.size rfl (.tmp 3) (.tmp 4) 52 21 (.int .i32 0) 4 rfl Try.underlying52 info21 rfl (by decide) (by omega) v289 y288 l0 _ _ _ (fun _ => True) (fun _ => False) rfl rfl ?aO ?aR (fun _ _ h => h) (fun _ h => h.elim) ?aF ?aB ?aS ?aL ?_; (case aR => repeat (first | exact (Kd.C_below HR0.out HB.out) | (with_reducible refine Kd.C_alloc ?_ _) | (with_reducible refine Kd.C_drewN ?_ _) | (with_reducible refine Kd.C_drew ?_))); (case aB => exact (by repeat (first | (with_reducible first | exact HB.out | apply below_alloc | apply pw_below_drewN | apply below_drew1) | exact HB.out))); (case aF => exact (fun _ _ => trivial)); (case aO => exact (by (with_reducible repeat (first | apply Kd.R_alloc | apply Kd.R_drewN | apply Kd.R_drew)); exact HO290.out)); (case aS => exact (below_size (by repeat (first | (with_reducible first | exact HB.out | apply below_alloc | apply pw_below_drewN | apply below_drew1) | exact HB.out)))); (case aL => have := LMc2.out; omega); intro v292 w5 ho hb hg hat; rw [← Ny291.out] at ho; have n0_ := Aside0.mk (hb); have n1_ := Aside0.mk (ho); clear HB; clear HO290; have HB := n0_; have HO293 := n1_; clear n0_ n1_; clear ho hb hg hat))
    go_ret
    exact ⟨_, by first | rfl | (simp [errW_none, errW_some] <;> rfl) | (simp [*, errW_none, errW_some] <;> rfl), by (with_reducible repeat (first | apply Kd.R_alloc | apply Kd.R_drewN | apply Kd.R_drew)); exact HO293.out, by repeat (first | (with_reducible first | exact HB.out | apply below_alloc | apply pw_below_drewN | apply below_drew1) | exact HB.out)⟩
  · rw [if_neg c2] at H
    exact absurd H (by simp)

end Go.Proofs.Ytbdkgdbfnkogaaa.R
end
