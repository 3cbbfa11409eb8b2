import Derived.Test.YtbdkgdbfnkogaaaRk
import Derived.Test.YtbdkgdbfnkogaaaB18
import Derived.Test.YtbdkgdbfnkogaaaWNEv

section
namespace Go.Proofs.Ytbdkgdbfnkogaaa.R
open Go.RowKit Go.Proofs.YtbdkgdbfnkogaaaW.PrintWords Go.Proofs.YtbdkgdbfnkogaaaW.PrintLast Go.Proofs.YtbdkgdbfnkogaaaW.PrintMore
attribute [local go_sem] max2_int min2_int max_two min_two max_three min_three max_four min_four   -- for this text's walks alone
set_option linter.unusedVariables false
set_option linter.unusedSimpArgs false

/-! ### wayfinderkit_OwnLists_int32: function 33 -/
def wayfinderkit_OwnLists_int32.l0 : Nat → List (List Int) → List (List Int) → Int → Option ((List (List Int)))
  | 0, _, _, _ => none
  | k + 1, x0, x3, x4 => if x4 < (x0.length : Int) then (if 0 ≤ x4 then ((wayfinderkit_Own_int32.f (rd_L3 x0 x4)).bind fun t295 => (if x3.length < 5864062014805 then (wayfinderkit_OwnLists_int32.l0 k x0 (x3 ++ [t295]) (wrap64 (x4 + 1))) else (none))) else (none)) else (some x3)
def wayfinderkit_OwnLists_int32.f (k : Nat) (l0 : List (List Int)) : Option ((List (List Int))) := wayfinderkit_OwnLists_int32.l0 k l0 ([] : List (List Int)) 0
theorem wayfinderkit_OwnLists_int32.mono_l : ∀ k, (∀ y0 y1 y2, LeO (wayfinderkit_OwnLists_int32.l0 k y0 y1 y2) (wayfinderkit_OwnLists_int32.l0 (k + 1) y0 y1 y2))
  | 0 => fun _ _ _ r h => by simp [wayfinderkit_OwnLists_int32.l0] at h
  | k + 1 => by
    have ih0 := wayfinderkit_OwnLists_int32.mono_l k
    · intro y0 y1 y2
      unfold wayfinderkit_OwnLists_int32.l0
      repeat' first
      | (with_reducible exact ih0 _ _ _)
      | (with_reducible exact LeO.refl _)
      | (with_reducible exact LeO.none _)
      | (with_reducible refine LeO.ite ?_ ?_)
      | (with_reducible refine LeO.bind ?_ (fun _ => ?_))
      | exact ih0 _ _ _
      | exact LeO.none _
      | refine LeO.ite ?_ ?_
      | refine LeO.bind ?_ (fun _ => ?_)
theorem wayfinderkit_OwnLists_int32.mono : ∀ a0 k, LeO (wayfinderkit_OwnLists_int32.f k a0) (wayfinderkit_OwnLists_int32.f (k + 1) a0) := by
  intro a0 k
  have ih0 := wayfinderkit_OwnLists_int32.mono_l k
  unfold wayfinderkit_OwnLists_int32.f
  repeat' first
      | (with_reducible exact ih0 _ _ _)
      | (with_reducible exact LeO.refl _)
      | (with_reducible exact LeO.none _)
      | (with_reducible refine LeO.ite ?_ ?_)
      | (with_reducible refine LeO.bind ?_ (fun _ => ?_))
      | exact ih0 _ _ _
      | exact LeO.none _
      | refine LeO.ite ?_ ?_
      | refine LeO.bind ?_ (fun _ => ?_)
set_option maxHeartbeats 8000000 in
set_option maxRecDepth 100000 in
theorem wayfinderkit_OwnLists_int32.calls (k : Nat) (A0 : Option Addr) (c0 : Nat) (l0 : List (List Int)) (r : List (List Int)) (w : World) (hr0 : Kd.C (Kd.slice 21 (Kd.int .i32)) w A0 l0.length l0) (hc0 : l0.length ≤ c0) (h : wayfinderkit_OwnLists_int32.f k l0 = some r) :
    Calls Try.prog 33 #[.slice A0 l0.length c0] w fun e w' => ∃ v0_ : Value, e = .returned (v0_) ∧ Kd.S (Kd.slice 21 (Kd.int .i32)) 52 w' w.heap.size (fun _ => True) v0_ r ∧ Below w.heap.size w w' := by
  have HR0 := Aside0.mk hr0
  have HC0 := Aside0.mk hc0
  clear hr0 hc0
  have HB := Aside0.mk (Below.refl w.heap.size w)
  have H : (wayfinderkit_OwnLists_int32.l0 k l0 ([] : List (List Int)) 0) = some r := h
  clear h
  have H' := Aside0.mk H
  clear H
  go_enter Try.func33, Try.ntmps33
  go_wp2
  go_loopg [3, 4] k (fun kq v3 v4 w' => ∃ (x3_1 : List (List Int)) (x4_1 : Int), v4 = .int .i64 x4_1 ∧ Aside0 (wayfinderkit_OwnLists_int32.l0 kq l0 x3_1 x4_1 = some r) ∧ Aside0 (kq ≤ k) ∧ Aside0 (Kd.S (Kd.slice 21 (Kd.int .i32)) 52 w' w.heap.size (fun _ => True) v3 x3_1) ∧ Aside0 (Below w.heap.size w w'))
  case atStart => exact ⟨(([] : List (List Int))), (0), (by first | rfl | (simp; done) | (simp [*]; done)), H', ⟨Nat.le_refl _⟩, ⟨by first | exact Kd.S_nil _ _ _ _ _ | exact Kd.N_nil _ _ _ _ _ | exact Kd.V_nil _ _ _ _ _ | exact Kd.Q_nil _ _ _ _ _ | exact Kd.R_nil _ _ _ _ _⟩, ⟨by repeat (first | (with_reducible first | exact HB.out | apply below_alloc | apply pw_below_drewN | apply below_drew1) | exact HB.out)⟩⟩
  case round =>
    clear H'
    obtain ⟨x3_1, x4_1, rfl, HA, HK1, HO_3, HB⟩ := hrel
    cases gk with
    | zero => exact absurd HA.out (by simp [wayfinderkit_OwnLists_int32.l0])
    | succ k1 =>
      have H := HA.out
      clear HA
      simp only [wayfinderkit_OwnLists_int32.l0] at H
      by_cases c2 : x4_1 < (l0.length : Int)
      · rw [if_pos c2] at H
        have c2b0 : decide (x4_1 < (l0.length : Int)) = true := decide_eq_true c2
        clear c2
        by_cases c3 : 0 ≤ x4_1
        · rw [if_pos c3] at H
          have c3b0 : decide (0 ≤ x4_1) = true := decide_eq_true c3
          clear c3
          replace H := Option.bind_eq_some_iff.mp H
          obtain ⟨t295, A40, H⟩ := H
          replace H : (if x3_1.length < 5864062014805 then (wayfinderkit_OwnLists_int32.l0 k1 l0 (x3_1 ++ [t295]) (wrap64 (x4_1 + 1))) else (none)) = some r := H
          have A4 := Aside0.mk A40
          clear A40
          by_cases c5 : x3_1.length < 5864062014805
          · rw [if_pos c5] at H
            have LMc5 := Aside0.mk c5
            clear c5
            obtain ⟨y298, hy298⟩ : ∃ y_ : List (List Int), y_ = (x3_1 ++ [t295]) := ⟨_, rfl⟩
            replace H : (wayfinderkit_OwnLists_int32.l0 k1 l0 y298 (wrap64 (x4_1 + 1))) = some r := by first | (rw [hy298]; with_reducible exact H) | (have H2_ := (Option.bind_some _ _).symm.trans H; rw [hy298]; with_reducible exact H2_) | (have H2_ := (Option.bind_some _ _).symm.trans H; with_reducible exact H2_) | with_reducible exact H | (rw [hy298]; exact H) | exact H
            have Ny298 := Aside0.mk hy298
            clear hy298
            have H' := Aside0.mk H
            clear H
            have p294 : 0 ≤ (x4_1 : Int) := of_decide_eq_true (by first | (with_reducible assumption) | assumption)
            have q294 : x4_1 < (l0.length : Int) := of_decide_eq_true (by first | (with_reducible assumption) | assumption)
            obtain ⟨ad294, A294_0, c294_0, e294, hx294_0, hl294_0, hi294_0⟩ := at_L3 HR0.out x4_1 p294 q294
            cases e294
            replace hx294_0 := (HB.out.cell (World.block_lt_of_cell? w _ hx294_0)).trans hx294_0
            have HR294_0 := Aside0.mk hi294_0
            have HC294_0 := Aside0.mk hl294_0
            clear hi294_0 hl294_0
            replace p294 := eq_true p294
            replace q294 := eq_true q294
            go_wp2_with (first | ((with_reducible refine gate_callee (f := 34) rfl ?_); refine goesL_ (some 16) rfl rfl Try.func34 (by kernel_rfl) rfl #[.slice A294_0 (rd_L3 l0 x4_1).length c294_0] rfl (by (try simp only [List.map_toArray, List.map_cons, List.map_nil]); first | done | rfl | (simp only [List.length_drop, List.length_take]; rfl)) ?_; (with_reducible refine (wayfinderkit_Own_int32.calls _ _ (rd_L3 l0 x4_1) t295 _ ?side1 ?side2 A4.out).mono ?_); (case side1 => repeat (first | exact (Kd.C_below HR294_0.out HB.out) | (with_reducible refine Kd.C_alloc ?_ _) | (with_reducible refine Kd.C_drewN ?_ _) | (with_reducible refine Kd.C_drew ?_))); (case side2 => exact HC294_0.out); rintro e w6 ⟨v296, rfl, ho0, hb⟩; refine ⟨_, rfl, ?_⟩; have n0_ := Aside0.mk (Kd.S_elder' (by (with_reducible repeat (first | apply Kd.S_alloc | apply Kd.S_drewN | apply Kd.S_drew)); exact HO_3.out) (Kd.R_base ho0) hb); have n1_ := Aside0.mk (Kd.R_lower ho0 (below_size (by repeat (first | (with_reducible first | exact HB.out | apply below_alloc | apply pw_below_drewN | apply below_drew1) | exact HB.out)))); have n2_ := Aside0.mk (below_step (by repeat (first | (with_reducible first | exact HB.out | apply below_alloc | apply pw_below_drewN | apply below_drew1) | exact HB.out)) hb); clear HO_3; clear HB; have HO_3 := n0_; have HO297 := n1_; have HB := n2_; clear n0_ n1_ n2_; (try clear hb); (try clear hb2); (try clear hk); (try clear hi); (try clear ho0); obtain ⟨Ao8, co8, eo8⟩ := Kd.R_slice HO297.out; subst eo8) | ((with_reducible refine gate_builtin (b := .append) (xs := #[.tmp 11, .tmp 17]) rfl ?_); at_builtin; refine Kd.S_append (Kd.slice 21 (Kd.int .i32)) (w0 := w) w.heap.size rfl (.tmp 11) (.tmp 17) 51 52 (.slice none 0 0) 24 rfl Try.underlying51 info52 rfl (by decide) (by omega) u3 x3_1 t295 [.slice Ao8 t295.length co8] (fun _ => True) (fun k_ => some k_ = (.slice Ao8 t295.length co8 : Value).ownBlock) rfl rfl ?aP (fun k_ hk_ => ((Kd.R_mono (ok' := fun k_ => ((fun _ => True)) k_ ∧ some k_ ≠ (u3 : Value).ownBlock) (Kd.R_apart' (HO297.out) (Kd.S_typed HO_3.out) (by decide)) (fun k_ hk => ⟨trivial, hk.2⟩))).1 k_ hk_.symm) ?aF ?aO ?aB ?aS ?aL ?_; (case aP => exact Kd.M_row (Kd.R_mono (Kd.R_tight rfl (Kd.R_mono (ok' := fun k_ => ((fun _ => True)) k_ ∧ some k_ ≠ (u3 : Value).ownBlock) (Kd.R_apart' (HO297.out) (Kd.S_typed HO_3.out) (by decide)) (fun k_ hk => ⟨trivial, hk.2⟩))) (fun _ h_ => h_))); (case aB => exact (by repeat (first | (with_reducible first | exact HB.out | apply below_alloc | apply pw_below_drewN | apply below_drew1) | exact HB.out))); (case aF => exact (fun _ _ => trivial)); (case aO => exact (by (with_reducible repeat (first | apply Kd.S_alloc | apply Kd.S_drewN | apply Kd.S_drew)); exact Kd.S_mono HO_3.out (fun k_ hk => ⟨trivial, fun e_ => hk.2 e_⟩))); (case aS => exact (below_size (by repeat (first | (with_reducible first | exact HB.out | apply below_alloc | apply pw_below_drewN | apply below_drew1) | exact HB.out)))); (case aL => have := LMc5.out; omega); intro v299 w7 ho hb hg hat; rw [← Ny298.out] at ho; have n0_ := Aside0.mk (hb); have n1_ := Aside0.mk (ho); clear HB; clear HO_3; clear HO297; have HB := n0_; have HO300 := n1_; clear n0_ n1_; clear ho hb hg hat))
            go_roundg k1
            case measure => have := HK1.out; omega
            case rel => exact ⟨(y298), (wrap64 (x4_1 + 1)), (by first | rfl | (simp; done) | (simp [*]; done)), H', ⟨by have := HK1.out; omega⟩, ⟨by (with_reducible repeat (first | apply Kd.S_alloc | apply Kd.S_drewN | apply Kd.S_drew)); exact HO300.out⟩, ⟨by repeat (first | (with_reducible first | exact HB.out | apply below_alloc | apply pw_below_drewN | apply below_drew1) | exact HB.out)⟩⟩
          · rw [if_neg c5] at H
            exact absurd H (by simp)
        · rw [if_neg c3] at H
          exact absurd H (by simp)
      · rw [if_neg c2] at H
        have c2b0 : decide (x4_1 < (l0.length : Int)) = false := decide_eq_false c2
        clear c2
        obtain rfl := Option.some.inj H
        go_wp2
        go_ret
        exact ⟨_, by first | rfl | (simp [errW_none, errW_some] <;> rfl) | (simp [*, errW_none, errW_some] <;> rfl), by (with_reducible repeat (first | apply Kd.S_alloc | apply Kd.S_drewN | apply Kd.S_drew)); exact HO_3.out, by repeat (first | (with_reducible first | exact HB.out | apply below_alloc | apply pw_below_drewN | apply below_drew1) | exact HB.out)⟩

end Go.Proofs.Ytbdkgdbfnkogaaa.R
end

section
/-
  CellMore's walk. Conditions: the cents, the further one and the vector lie as told.
-/
namespace Go.Proofs.Ytbdkgdbfnkogaaa.R
open Go.RowKit Go.Proofs Go.Proofs.YtbdkgdbfnkogaaaW.PrintWords Go.Proofs.YtbdkgdbfnkogaaaW.PrintLast Go.Proofs.YtbdkgdbfnkogaaaW.PrintMore Go.Proofs.Ytbdkgdbfnkogaaa.Plain
set_option linter.unusedVariables false
set_option linter.unusedSimpArgs false

theorem own_f (l : List Int) (h : l.length < 35184372088832) : wayfinderkit_Own_int32.f l = some l := by
  unfold wayfinderkit_Own_int32.f
  simp [h]
theorem ownL_loop (c : List (List Int)) (hm : c.length < 5864062014805) (hs : ∀ x ∈ c, x.length < 35184372088832) : ∀ d i, i + d = c.length → ∀ k, d < k → wayfinderkit_OwnLists_int32.l0 k c (c.take i) (i : Int) = some c := by
  intro d
  induction d with
  | zero =>
    intro i hi k hk
    obtain ⟨k, rfl⟩ : ∃ k', k = k' + 1 := ⟨k - 1, by omega⟩
    simp only [wayfinderkit_OwnLists_int32.l0]
    rw [if_neg (by omega), List.take_of_length_le (by omega)]
  | succ d ih =>
    intro i hi k hk
    obtain ⟨k, rfl⟩ : ∃ k', k = k' + 1 := ⟨k - 1, by omega⟩
    have ha : i < c.length := by omega
    have hw : wrap64 ((i : Int) + 1) = ((i + 1 : Nat) : Int) := by unfold wrap64; omega
    simp only [wayfinderkit_OwnLists_int32.l0]
    rw [if_pos (by omega), if_pos (by omega), rdL_at c i ha, own_f _ (hs _ (List.getElem_mem ha)), Option.bind_some, if_pos (by rw [List.length_take]; omega), hw]
    have e : c.take i ++ [c[i]] = c.take (i + 1) := by rw [List.take_add_one, List.getElem?_eq_getElem ha]; rfl
    rw [e, ih (i + 1) (by omega) k (by omega)]
theorem ownL_f (c : List (List Int)) (hm : c.length < 5864062014805) (hs : ∀ x ∈ c, x.length < 35184372088832) : wayfinderkit_OwnLists_int32.f (c.length + 1) c = some c := by
  unfold wayfinderkit_OwnLists_int32.f
  simpa using ownL_loop c hm hs c.length 0 (by omega) (c.length + 1) (by omega)

theorem dj_snoc {c : List (List Int)} {one v : List Int} (j : Nat) (hj : j < c.length) : dj (c ++ [one]) v j = dj c v j := by
  unfold dj
  rw [rdL_at _ j (by simp; omega), rdL_at c j hj, List.getElem_append_left hj]
theorem rdL_snoc {c : List (List Int)} {one : List Int} : rd_L3 (c ++ [one]) (c.length : Int) = one := by
  rw [rdL_at _ c.length (by simp), List.getElem_append_right (by omega)]; simp
/-- One more cent is the nearest if and only if it is nearer than all. -/
theorem near_snoc {c : List (List Int)} {one v : List Int} (h : bothE c v = 0) (h2 : bothE (c ++ [one]) v = 0) {j : Nat} (hj : j < c.length) (hall : ∀ i, i < c.length → dj c v j ≤ dj c v i ∧ (i < j → dj c v j < dj c v i)) :
    ∃ x, distE one v = (x, 0) ∧ nearS (dists (c ++ [one]) v) = (if x < dj c v j then ((c.length : Int), x) else ((j : Int), dj c v j)) := by
  have hn : (c ++ [one]).length = c.length + 1 := by simp
  obtain ⟨j1, hj1, e1, hall1⟩ := near_spec h2
  rw [hn] at hj1
  have hd := distE_ok h2 c.length (by omega)
  rw [rdL_snoc] at hd
  refine ⟨_, hd, ?_⟩
  rw [e1]
  by_cases hlt : dj (c ++ [one]) v c.length < dj c v j
  · rw [if_pos hlt]
    by_cases hjn : j1 = c.length
    · rw [hjn]
    · exfalso
      have a1 := (hall1 c.length (by omega)).1
      rw [dj_snoc j1 (by omega)] at a1
      have := (hall j1 (by omega)).1
      omega
  · rw [if_neg hlt]
    have a1 := hall1 j (by omega)
    rw [dj_snoc j hj] at a1
    have hjn : j1 ≠ c.length := by
      intro e
      rw [e] at a1
      have := a1.2 (by omega)
      have := a1.1
      omega
    rw [dj_snoc j1 (by omega)] at a1 ⊢
    have a2 := hall j1 (by omega)
    have a3 := (hall1 j (by omega)).2
    rw [dj_snoc j1 (by omega), dj_snoc j hj] at a3
    have hjj : j1 = j := by
      by_cases h1 : j1 < j
      · have := a2.2 h1; have := a1.1; omega
      · by_cases h2 : j < j1
        · have := a3 h2; have := a2.1; omega
        · omega
    rw [hjj]

theorem ownL_later {W w' : World} {A : Option Addr} {c : Nat} {cs : List (List Int)} (hC : Kd.C kL32 W A cs.length cs) (hc : cs.length ≤ c) (hB : Below W.heap.size W w') (hl : cs.length ≤ 80 ∧ ∀ x ∈ cs, x.length ≤ 30) :
    Calls Try.prog 33 #[.slice A cs.length c] w' fun e w'' => ∃ A1 c1, e = .returned (.slice A1 cs.length c1) ∧ Kd.N kL32 52 w'' w'.heap.size (fun _ => True) (.slice A1 cs.length c1) cs ∧ Below w'.heap.size w' w'' ∧ Below W.heap.size W w'' := by
  refine (wayfinderkit_OwnLists_int32.calls (cs.length + 1) A c cs cs w' (Kd.C_below hC hB) hc (ownL_f cs (by omega) (fun x hx => by have := hl.2 x hx; omega))).mono ?_
  rintro e w'' ⟨v0, rfl, hS, hb⟩
  have hN := Kd.S_N hS
  obtain ⟨A1, c1, rfl⟩ := Kd.N_slice hN
  exact ⟨A1, c1, rfl, hN, hb, hB.trans (hb.mono hB.size)⟩

set_option maxHeartbeats 8000000 in
set_option maxRecDepth 100000 in
theorem cmore_any (A : Option Addr) (c : Nat) (cs : List (List Int)) (Ao : Option Addr) (co : Nat) (one : List Int) (Av : Option Addr) (cv : Nat) (v : List Int) (w : World) (hC : Kd.C kL32 w A cs.length cs) (hc : cs.length ≤ c) (hO : Kd.C kI32 w Ao one.length one) (hco : one.length ≤ co) (hV : Kd.C kI32 w Av v.length v) (hcv : v.length ≤ cv) :
    Calls Try.prog 7 #[.slice A cs.length c, .slice Ao one.length co, .slice Av v.length cv] w fun e w' => e = .returned (.bool true) ∧ Below w.heap.size w w' := by
  have L := Aside0.mk (lives13_any w)
  have LT := Aside0.mk (fun w' => light_later (w' := w') hC hc)
  have NR := Aside0.mk (fun w' hB r1 r2 r3 h => nearest_later (w' := w') (r1 := r1) (r2 := r2) (r3 := r3) hC hc hV hcv hB h)
  have OL := Aside0.mk (fun w' hB hl => ownL_later (w' := w') hC hc hB hl)
  have HC := Aside0.mk hC
  have HO := Aside0.mk (And.intro hO hco)
  have HV := Aside0.mk (And.intro hV hcv)
  clear hC hc hV hcv hO hco
  cases hl : lightB cs 80 30 with
  | false =>
    rw [hl] at LT
    clear hl
    go_enter Try.func7, Try.ntmps7
    go_wp2_with fail
    refine L.out.mono ?_
    rintro e w1 ⟨rfl, hB1⟩
    go_wp2_with fail
    refine (LT.out _ hB1).mono ?_
    rintro e w2 ⟨rfl, hb2, hB2⟩
    go_wp2_with fail
    go_ret
    exact ⟨rfl, hB2⟩
  | true =>
    have HL := Aside0.mk (lightB_true hl)
    rw [hl] at LT
    clear hl
    by_cases ho : 30 < one.length
    · have ho1 : decide ((30 : Int) < (one.length : Int)) = true := decide_eq_true (by omega)
      have ho2 : decide (30 < one.length) = true := decide_eq_true ho
      clear ho
      go_enter Try.func7, Try.ntmps7
      go_wp2_with fail
      refine L.out.mono ?_
      rintro e w1 ⟨rfl, hB1⟩
      go_wp2_with fail
      refine (LT.out _ hB1).mono ?_
      rintro e w2 ⟨rfl, hb2, hB2⟩
      go_wp2_with fail
      go_ret
      exact ⟨rfl, hB2⟩
    · have ho1 : decide ((30 : Int) < (one.length : Int)) = false := decide_eq_false (by omega)
      have ho2 : decide (30 < one.length) = false := decide_eq_false ho
      clear ho
      by_cases hv : 30 < v.length
      · have hv1 : decide ((30 : Int) < (v.length : Int)) = true := decide_eq_true (by omega)
        have hv2 : decide (30 < v.length) = true := decide_eq_true hv
        clear hv
        go_enter Try.func7, Try.ntmps7
        go_wp2_with fail
        refine L.out.mono ?_
        rintro e w1 ⟨rfl, hB1⟩
        go_wp2_with fail
        refine (LT.out _ hB1).mono ?_
        rintro e w2 ⟨rfl, hb2, hB2⟩
        go_wp2_with fail
        go_ret
        exact ⟨rfl, hB2⟩
      · have hv1 : decide ((30 : Int) < (v.length : Int)) = false := decide_eq_false (by omega)
        have hv2 : decide (30 < v.length) = false := decide_eq_false hv
        clear hv
        obtain ⟨r1, r2, r3, hnr, hcase⟩ : ∃ r1 r2 r3, cell_Nearest.f cs v = some (r1, r2, r3) ∧ ((r3 ≠ 0 ∧ r1 = 0) ∨ (r3 = 0 ∧ ∃ j, bothE cs v = 0 ∧ j < cs.length ∧ r1 = (j : Int) ∧ r2 = dj cs v j ∧ ∀ i, i < cs.length → dj cs v j ≤ dj cs v i ∧ (i < j → dj cs v j < dj cs v i))) := by
          by_cases hz : bothE cs v = 0
          · obtain ⟨j0, hj0, hnear, hall⟩ := near_spec hz
            exact ⟨_, _, _, nearf_ok hz hnear, .inr ⟨rfl, j0, hz, hj0, rfl, rfl, hall⟩⟩
          · exact ⟨_, _, _, nearf_bad hz, .inl ⟨hz, rfl⟩⟩
        have NR1 := Aside0.mk (fun w' hB => NR.out w' hB r1 r2 r3 hnr)
        obtain ⟨m1, m2, m3, hmr, hcase2⟩ : ∃ m1 m2 m3, cell_Nearest.f (cs ++ [one]) v = some (m1, m2, m3) ∧ ((m3 ≠ 0 ∧ m1 = 0) ∨ (m3 = 0 ∧ bothE (cs ++ [one]) v = 0 ∧ nearS (dists (cs ++ [one]) v) = (m1, m2))) := by
          by_cases hz : bothE (cs ++ [one]) v = 0
          · obtain ⟨j0, hj0, hnear, hall⟩ := near_spec hz
            exact ⟨_, _, _, nearf_ok hz hnear, .inr ⟨rfl, hz, hnear⟩⟩
          · exact ⟨_, _, _, nearf_bad hz, .inl ⟨hz, rfl⟩⟩
        obtain ⟨all, halle⟩ : ∃ l, l = cs ++ [one] := ⟨_, rfl⟩
        rw [← halle] at hmr hcase2
        have HALLE := Aside0.mk halle
        have MR := Aside0.mk hmr
        have CASE := Aside0.mk (And.intro hcase hcase2)
        clear NR hnr hmr hcase hcase2 halle
        go_enter Try.func7, Try.ntmps7
        go_wp2_with fail
        refine L.out.mono ?_
        rintro e w1 ⟨rfl, hB1⟩
        go_wp2_with fail
        refine (LT.out _ hB1).mono ?_
        rintro e w2 ⟨rfl, hb2, hB2⟩
        go_wp2_with fail
        refine (NR1.out _ hB2).mono ?_
        rintro e w3 ⟨rfl, hb3, hB3⟩
        have HB3 := Aside0.mk hB3
        clear hb2 hB2 hb3 hB3 hB1
        go_wp2_with fail
        refine (OL.out _ HB3.out HL.out).mono ?_
        rintro e w4 ⟨A1, c1, rfl, hN4, hb4, hB4⟩
        have N4 := Aside0.mk hN4
        have HB4 := Aside0.mk hB4
        have HB34 := Aside0.mk hb4
        have NL : Aside0 (Kd.N kL32 52 w4 w.heap.size (fun _ => True) (.slice A1 cs.length c1) cs ∧ ∀ k, (Value.slice A1 cs.length c1).ownBlock = some k → w.heap.size ≤ k) := ⟨Kd.N_lower N4.out HB3.out.size, Kd.N_base (Kd.N_lower N4.out HB3.out.size)⟩
        have FO : Aside0 (Kd.FK kL32 w4 (fun k => k < w.heap.size) one [.slice Ao one.length co]) := ⟨Kd.FK_slice_mk HO.out.2 (Kd.F_below (Kd.C_F (Kd.heap_int .i32) HO.out.1) HB4.out)⟩
        clear hN4 hb4 hB4 N4 HB34
        go_wp2_with (at_builtin; refine Kd.N_append kL32 (w0 := w) w.heap.size rfl (.tmp 39) (.tmp 41) 51 52 (.slice none 0 0) 24 rfl Try.underlying51 info52 rfl (by decide) (by decide) (.slice A1 cs.length c1) cs one [.slice Ao one.length co] (fun _ => True) (fun k => k < w.heap.size) rfl rfl FO.out (fun k hk => ⟨trivial, fun e => by have := NL.out.2 k e.symm; omega⟩) (fun _ _ => trivial) NL.out.1 HB4.out HB4.out.size (by have := HL.out.1; omega) ?_; intro v1 w5 hN5 hB5 hg5 hat5; rw [← HALLE.out] at hN5; obtain ⟨A2, c2, rfl⟩ := Kd.N_slice hN5; have N5 := Aside0.mk hN5; have HB5 := Aside0.mk hB5; clear hN5 hB5 hg5 hat5)
        have M5 : Aside0 (Calls Try.prog 29 #[.slice A2 all.length c2, .slice Av v.length cv] w5 fun e w'' => e = .returned (.tuple #[.int .i64 m1, .int .i64 m2, .int .i64 m3]) ∧ Below w5.heap.size w5 w'' ∧ Below w.heap.size w w'') := ⟨by
          obtain ⟨q1, q2, q3⟩ := Kd.N_reads' N5.out
          exact (cell_Nearest.calls A2 c2 all Av cv v m1 m2 m3 w5 q3 q2 (Kd.C_below HV.out.1 HB5.out) HV.out.2 MR.out).mono fun e w'' ⟨he, hb⟩ => ⟨he, hb, HB5.out.trans (hb.mono HB5.out.size)⟩⟩
        refine M5.out.mono ?_
        rintro e w6 ⟨rfl, hb6, hB6⟩
        have HB6 := Aside0.mk hB6
        clear hb6 hB6 M5 N5 HB5 MR FO NL HB4 HB3 OL NR1 LT L
        obtain ⟨⟨hcase, hcase2⟩⟩ := CASE
        rcases hcase with ⟨a1, a2⟩ | ⟨a1, j, a2, a3, a4, a5, a6⟩
        · have z1 : (r3 != 0) = true := by simpa using a1
          have z2 : (r3 == 0) = false := by simpa using a1
          subst a2
          clear a1 hcase2
          go_wp2_with fail
          go_ret
          exact ⟨rfl, HB6.out⟩
        · subst a1
          rcases hcase2 with ⟨b1, b2⟩ | ⟨b1, b2, b3⟩
          · have z1 : (m3 != 0) = true := by simpa using b1
            have z2 : (m3 == 0) = false := by simpa using b1
            subst b2
            clear b1 a2 a3 a4 a5 a6
            go_wp2_with fail
            go_ret
            exact ⟨rfl, HB6.out⟩
          · subst b1
            rw [HALLE.out] at b2 b3
            obtain ⟨x, c1, c2⟩ := near_snoc a2 b2 a3 a6
            rw [c2] at b3
            rw [← a5, ← a4] at b3
            have RD := Aside0.mk (rdist_later (d := x) (e0 := 0) (Kd.C_below HO.out.1 HB6.out) HO.out.2 (Kd.C_below HV.out.1 HB6.out) HV.out.2 (Below.refl _ w6) c1)
            clear c1 c2 a2 a3 a4 a5 a6 b2
            by_cases hx : x < r2
            · rw [if_pos hx] at b3
              have d1 : decide (x < r2) = true := decide_eq_true hx
              obtain ⟨rfl, rfl⟩ := Prod.mk.inj b3.symm
              clear b3 hx
              go_wp2_with fail
              refine RD.out.mono ?_
              rintro e w7 ⟨rfl, hb7, hB7⟩
              have HB7 := Aside0.mk (HB6.out.trans (hb7.mono HB6.out.size))
              clear hb7 hB7
              go_wp2_with fail
              go_ret
              exact ⟨rfl, HB7.out⟩
            · rw [if_neg hx] at b3
              have d1 : decide (x < r2) = false := decide_eq_false hx
              obtain ⟨rfl, rfl⟩ := Prod.mk.inj b3.symm
              clear b3 hx
              go_wp2_with fail
              refine RD.out.mono ?_
              rintro e w7 ⟨rfl, hb7, hB7⟩
              have HB7 := Aside0.mk (HB6.out.trans (hb7.mono HB6.out.size))
              clear hb7 hB7
              go_wp2_with fail
              go_ret
              exact ⟨rfl, HB7.out⟩
end Go.Proofs.Ytbdkgdbfnkogaaa.R
end
