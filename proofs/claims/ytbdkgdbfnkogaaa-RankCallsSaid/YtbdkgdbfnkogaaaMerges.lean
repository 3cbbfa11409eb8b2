/-
  RankMerges' walk. Conditions: the list lies as told.
-/
import Derived.Test.YtbdkgdbfnkogaaaKeeps
import Derived.Deep.RegionHeld3
namespace Go.Proofs.Ytbdkgdbfnkogaaa.R
open Go.Shelf Go.RowKit Go.Lib Go.Sort Go.Proofs Go.Proofs.YtbdkgdbfnkogaaaW.PrintWords Go.Proofs.YtbdkgdbfnkogaaaW.PrintLast Go.Proofs.YtbdkgdbfnkogaaaW.PrintMore Go.Proofs.Ytbdkgdbfnkogaaa.Plain
set_option linter.unusedVariables false
set_option linter.unusedSimpArgs false

def ptr (p : Nat) : Value := .pointer (some ⟨p, 0, none⟩)
def kp : Kd Nat := Kd.scalar ptr (fun _ => rfl)
theorem info25 : (Try.prog.info? 25).map (fun i => (i.zero, i.size, i.bytes)) = some (some (.pointer none), 1, 8) := by kernel_rfl

section
variable {base n k : Nat} {O : Nat → Prop} {W w1 : World} {ps : Nat → Nat} {ls : Nat → List S30}
theorem Tops.grown {v v1 : Value} (T : Tops base (fun b => v.ownBlock = some b) W n ps k ls) (hg : W.grownBy w1 v.ownBlock) (hat : v1.ownBlock = v.ownBlock ∨ ∃ b, v1.ownBlock = some b ∧ W.heap.size ≤ b) :
    Tops base (fun b => v1.ownBlock = some b) w1 n ps k ls := by
  obtain ⟨Ss, h, hd, hO⟩ := T
  have hk : Kept W w1 (fun b => v.ownBlock = some b) := ⟨hg.size, fun b hb hn => hg.block b hb (fun e => hn e.symm)⟩
  refine ⟨Ss, fun i hi => (h i hi).kept hk (fun b hb => (hO i hi b hb).2), hd, fun i hi b hs => ⟨Nat.lt_of_lt_of_le (hO i hi b hs).1 hg.size, fun hb => ?_⟩⟩
  rcases hat with e | ⟨b', e, hle⟩
  · exact (hO i hi b hs).2 (e ▸ hb)
  · rw [e] at hb
    injection hb with hb
    have := (hO i hi b hs).1
    omega
/-- What is laid behind them is none of theirs. -/
theorem Tops.fresh (T : Tops base O W n ps k ls) (hb : Below W.heap.size W w1) : Tops base (fun b => O b ∨ W.heap.size ≤ b) w1 n ps k ls := by
  obtain ⟨Ss, h, hd, hO⟩ := T
  refine ⟨Ss, fun i hi => (h i hi).below hb, hd, fun i hi b hs => ⟨Nat.lt_of_lt_of_le (hO i hi b hs).1 hb.size, fun hc => ?_⟩⟩
  rcases hc with hc | hc
  · exact (hO i hi b hs).2 hc
  · have := (hO i hi b hs).1; omega
end

theorem Tops.drew {base n k : Nat} {O : Nat → Prop} {W : World} {ps : Nat → Nat} {ls : Nat → List S30} (T : Tops base O W n ps k ls) : Tops base O W.drew n ps k ls := T.below (below_drew (Below.refl _ _))
theorem lt_same {w w1 : World} {g : Nat} (h : w1.heap[g]? = w.heap[g]?) (hg : g < w.heap.size) : g < w1.heap.size := by
  rw [Array.getElem?_eq_getElem hg] at h
  exact (Array.getElem?_eq_some_iff.1 h).1
theorem C_block {w w1 : World} {h n : Nat} {xs : List S30} (hC : Kd.C k30 w (some ⟨h, 0, none⟩) n xs) (hb : w1.heap[h]? = w.heap[h]?) : Kd.C k30 w1 (some ⟨h, 0, none⟩) n xs := by
  refine ⟨hC.1, hC.2.1, fun hn => ?_⟩
  obtain ⟨ad, e, hc⟩ := hC.2.2 hn
  injection e with e
  subst e
  refine ⟨_, rfl, fun j p hj => ?_⟩
  obtain ⟨c, hs, hr, hcell⟩ := hc j p hj
  have := k30_open hr
  subst this
  refine ⟨_, hs, k30_mk w1 p, fun i u hu => ?_⟩
  rw [World.cell?_of_block (w := w) (by simpa [add_plain] using hb)]
  exact hcell i u hu
theorem ptr_block {w w1 : World} {h n : Nat} {qs : List Nat} (hC : Kd.C kp w (some ⟨h, 0, none⟩) n qs) (hb : w1.heap[h]? = w.heap[h]?) (j : Nat) (hj : j < n) : w1.cell? ⟨h, j, none⟩ = some (ptr (qs.getD j 0)) := by
  obtain ⟨ad, e, hc⟩ := hC.2.2 (by omega)
  injection e with e
  subst e
  have hl : j < qs.length := by rw [hC.1]; exact hj
  obtain ⟨c, hs, hr, hcell⟩ := hc j _ (List.getElem?_eq_getElem hl)
  have hr : c = [ptr qs[j]] := hr
  subst hr
  have h0 := hcell 0 _ rfl
  rw [World.cell?_of_block (w := w) hb, List.getD_eq_getElem?_getD, List.getElem?_eq_getElem hl]
  have e : j * kp.sz + 0 = j := by show j * 1 + 0 = j; omega
  rw [e, add_plain] at h0
  simpa using h0

def four {α : Type} (a b c d : α) : Nat → α
  | 0 => a
  | 1 => b
  | 2 => c
  | _ => d
theorem four_cases {P : Nat → Prop} (h0 : P 0) (h1 : P 1) (h2 : P 2) (h3 : P 3) : ∀ i, i < 4 → P i
  | 0, _ => h0
  | 1, _ => h1
  | 2, _ => h2
  | 3, _ => h3
  | n + 4, h => absurd h (by omega)

theorem take_more (l : List S30) (i : Nat) (h : i < l.length) : l.take (i + 1) = l.take i ++ [at_ z30 l i] := by
  rw [List.take_add_one, List.getElem?_eq_getElem h, at_eq l i h]; rfl
theorem kept_one (k : Nat) (a : List S30) (x : S30) : addL k (kept nlt k a) x = kept nlt k (a ++ [x]) := (kept_snoc k a x).symm
theorem drop_more (l : List S30) (m : Nat) (h : 0 < m) (hm : m ≤ l.length) (x : S30) (hx : x = at_ z30 l (m - 1)) : (l.drop (m - 1)).reverse = (l.drop m).reverse ++ [x] := by
  have e : l.drop (m - 1) = x :: l.drop m := by
    rw [List.drop_eq_getElem_cons (show m - 1 < l.length by omega), hx, at_eq l (m - 1) (by omega)]
    congr 2; omega
  rw [e, List.reverse_cons]
theorem kept_fin (k t : Nat) (l : List S30) : kept nlt k ((kept nlt k (l.take t)).reverse ++ (kept nlt k (l.drop t)).reverse) = kept nlt k l := by
  have h1 : ((kept nlt k (l.take t)).reverse ++ (kept nlt k (l.drop t)).reverse).Perm (kept nlt k (l.take t) ++ kept nlt k (l.drop t)) := (List.reverse_perm _).append (List.reverse_perm _)
  rw [kept_perm nlt_sto k h1, kept_append nlt_sto, List.take_append_drop]
/-- List, wherever the Tops still lie. -/
theorem list_later {base k n i : Nat} {O : Nat → Prop} {W w' : World} {ps : Nat → Nat} {ls : Nat → List S30} (T : Tops base O W n ps k ls) (hi : i < n) (ks : List S30) (hk : ls i = ks) (hB : Below W.heap.size W w') :
    Calls Try.prog 16 #[.pointer (some ⟨ps i, 0, none⟩)] w' fun e w'' => ∃ A c, e = .returned (.slice A ks.length c) ∧ (ks.length ≤ c ∧ Kd.C k30 w'' A ks.length ks) ∧ Below w'.heap.size w' w'' ∧ Below W.heap.size W w'' := by
  subst hk
  refine (tops_list (T.below hB) hi).mono ?_
  rintro e w'' ⟨v, he, hR, hb, _⟩
  obtain ⟨A, c, rfl⟩ := Kd.R_slice hR
  exact ⟨A, c, he, (Kd.R_reads' hR).2, hb, hB.trans (hb.mono hB.size)⟩
theorem same_later {W w' : World} {A A' : Option Addr} {c c' : Nat} {l l' : List S30} (h : l.length ≤ c ∧ Kd.C k30 w' A l.length l) (h' : l'.length ≤ c' ∧ Kd.C k30 w' A' l'.length l') (he : l = l') (hm : l.length ≤ 150) (hB : Below W.heap.size W w') :
    Calls Try.prog 17 #[.slice A l.length c, .slice A' l'.length c'] w' fun e w'' => e = .returned (.bool true) ∧ Below w'.heap.size w' w'' ∧ Below W.heap.size W w'' := by
  refine (same_any A c l A' c' l' w' h.2 h.1 h'.2 h'.1 (by omega)).mono ?_
  rintro e w'' ⟨h1, n, rfl⟩
  exact ⟨by rw [h1, decide_eq_true he], pw_below_drewN (Below.refl _ _) n, pw_below_drewN hB n⟩
theorem kept_cut (k : Nat) (zs : List S30) : kept nlt k zs = (isort nlt zs).take (kept nlt k zs).length := by
  unfold kept
  rw [List.length_take, List.take_eq_take_iff]
  omega
theorem same_cut {W w5 w' : World} {A5 A6 : Option Addr} {c5 c6 k : Nat} {ks zs : List S30} (hk : ks = kept nlt k zs) (h : ks.length ≤ c5 ∧ Kd.C k30 w5 A5 ks.length ks) (h' : (isort nlt zs).length ≤ c6 ∧ Kd.C k30 w' A6 (isort nlt zs).length (isort nlt zs)) (hb : Below w5.heap.size w5 w') (hm : ks.length ≤ 150) (hB : Below W.heap.size W w') :
    Calls Try.prog 17 #[.slice A5 ks.length c5, .slice A6 ks.length c6] w' fun e w'' => e = .returned (.bool true) ∧ Below w'.heap.size w' w'' ∧ Below W.heap.size W w'' := by
  have hle : ks.length ≤ (isort nlt zs).length := by rw [hk, kept_length', isort_length]; omega
  have hl : ((isort nlt zs).take ks.length).length = ks.length := by rw [List.length_take]; omega
  have := same_later (l := ks) (l' := (isort nlt zs).take ks.length) (c := c5) (c' := c6) ⟨h.1, Kd.C_below h.2 hb⟩ ⟨by omega, Kd.C_take h'.2 hle⟩ (by rw [hk]; exact kept_cut k zs) hm hB
  rw [hl] at this
  exact this
theorem sorted_later {W w' : World} {A : Option Addr} {c : Nat} {zs : List S30} (hC : Kd.C k30 W A zs.length zs) (hc : zs.length ≤ c) (hm : zs.length ≤ 150) (hB : Below W.heap.size W w') :
    Calls Try.prog 18 #[.slice A zs.length c] w' fun e w'' => ∃ A c, e = .returned (.slice A (isort nlt zs).length c) ∧ ((isort nlt zs).length ≤ c ∧ Kd.C k30 w'' A (isort nlt zs).length (isort nlt zs)) ∧ Below w'.heap.size w' w'' ∧ Below W.heap.size W w'' := by
  refine (sorted_any A c zs w' (Kd.C_below hC hB) hc (by omega)).mono ?_
  rintro e w'' ⟨v, he, hR, hb⟩
  obtain ⟨A, c, rfl⟩ := Kd.R_slice hR
  exact ⟨A, c, he, (Kd.R_reads' hR).2, hb, hB.trans (hb.mono hB.size)⟩
theorem merge_lo (k t i : Nat) (l : List S30) (hi : i < l.length) (h : i < t) (x : S30) (hx : x = at_ z30 l i) :
    addL k (kept nlt k ((l.take i).take t)) x = kept nlt k ((l.take (i + 1)).take t) ∧ (l.take i).drop t = (l.take (i + 1)).drop t := by
  have l1 : (l.take i).length ≤ t := by rw [List.length_take]; omega
  have l2 : (l.take (i + 1)).length ≤ t := by rw [List.length_take]; omega
  rw [kept_one, List.take_of_length_le l1, List.take_of_length_le l2, List.drop_of_length_le l1, List.drop_of_length_le l2, take_more l i hi, hx]
  exact ⟨rfl, rfl⟩
theorem merge_hi (k t i : Nat) (l : List S30) (hi : i < l.length) (h : t ≤ i) (x : S30) (hx : x = at_ z30 l i) :
    (l.take i).take t = (l.take (i + 1)).take t ∧ addL k (kept nlt k ((l.take i).drop t)) x = kept nlt k ((l.take (i + 1)).drop t) := by
  rw [kept_one, take_more l i hi, hx, List.take_append_of_le_length (by simp; omega), List.drop_append_of_le_length (by simp; omega)]
  exact ⟨rfl, rfl⟩

set_option maxHeartbeats 8000000 in
set_option maxRecDepth 100000 in
theorem merges_any (A : Option Addr) (c : Nat) (zs : List S30) (at_ k : Int) (w : World) (hC : Kd.C k30 w A zs.length zs) (hc : zs.length ≤ c) :
    Calls Try.prog 4 #[.slice A zs.length c, .int .i64 at_, .int .i64 k] w fun e w' => e = .returned (.bool true) ∧ Below w.heap.size w w' := by
  have mixed : Try.prog.follows .mixedOrders = true := by kernel_rfl
  have L := Aside0.mk (lives_any w)
  have HC := Aside0.mk hC
  clear hC
  by_cases hm : 150 < zs.length
  · have hm' : decide ((150 : Int) < (zs.length : Int)) = true := decide_eq_true (by omega)
    go_enter Try.func4, Try.ntmps4
    go_wp2_with fail
    refine L.out.mono ?_
    rintro e w1 ⟨rfl, hB⟩
    have HB := Aside0.mk hB
    clear hB
    go_wp2
    go_ret
    exact ⟨rfl, by repeat (first | exact HB.out | apply below_drew | apply pw_below_drewN)⟩
  · have hm' : decide ((150 : Int) < (zs.length : Int)) = false := decide_eq_false (by omega)
    obtain ⟨kk, hkk, hP⟩ := pick_any k 150 (by decide) (by decide)
    obtain ⟨tt, htt, hP2⟩ := pick_any at_ (zs.length + 1) (by omega) (by omega)
    have hw : wrap64 ((zs.length : Int) + 1) = ((zs.length + 1 : Nat) : Int) := by unfold wrap64; omega
    rw [← hw] at hP2
    have P := Aside0.mk hP
    have P2 := Aside0.mk hP2
    have HK := Aside0.mk hkk
    have HT := Aside0.mk htt
    have HM := Aside0.mk hm
    clear hP hP2 hkk htt hm hw
    go_enter Try.func4, Try.ntmps4
    go_wp2_with fail
    refine L.out.mono ?_
    rintro e w1 ⟨rfl, hB⟩
    have HB1 := Aside0.mk hB
    clear hB L
    go_wp2_with fail
    refine (P.out w1).mono ?_
    rintro e w2 ⟨rfl, n, rfl⟩
    go_wp2_with fail
    refine (P2.out _).mono ?_
    rintro e w3 ⟨rfl, n2, rfl⟩
    have HB2 : Aside0 (Below w.heap.size w ((w1.drewN n).drewN n2)) := ⟨pw_below_drewN (pw_below_drewN HB1.out n) n2⟩
    generalize (w1.drewN n).drewN n2 = w2 at HB2 ⊢
    clear HB1 P P2 w1 n n2
    go_wp2_with fail
    go_loopg [7, 8] 4 (fun gx s7 s8 wr => ∃ (i : Int) (qs : List Nat), s8 = .int .i64 i ∧ Aside0 (i = qs.length ∧ qs.length ≤ 4 ∧ 4 - qs.length ≤ gx) ∧ Aside0 (kp.R 25 wr w.heap.size (fun _ => True) s7 qs) ∧ Aside0 (Tops w.heap.size (fun b => s7.ownBlock = some b) wr qs.length (fun j => qs.getD j 0) kk (fun _ => [])) ∧ Aside0 (Below w.heap.size w wr))
    case atStart => exact ⟨0, [], rfl, ⟨by simp⟩, ⟨Kd.R_nil _ _ _ _ _⟩, ⟨Tops.start _ _ _ _ _ _⟩, HB2⟩
    case round =>
      obtain ⟨i, qs, rfl, HI, R, T, HB⟩ := hrel
      clear HB2 w2
      by_cases hin : qs.length < 4
      · have hlt : decide (i < 4) = true := decide_eq_true (by have := HI.out; omega)
        have HN := Aside0.mk hin
        have hO : ∀ b, u7.ownBlock = some b → b < wr.heap.size := fun b hb => own_lt R.out.2.choose_spec.1 b hb
        have T1 : Aside0 (Tops w.heap.size (fun b => u7.ownBlock = some b) (wr.alloc (.cells #[.int .i64 kk, .slice none 0 0] 83)) (qs.length + 1) (fun j => (qs ++ [wr.heap.size]).getD j 0) kk (fun _ => [])) := ⟨Tops.more (T.out.congr (ps' := fun j => (qs ++ [wr.heap.size]).getD j 0) (fun j hj => by simp [List.getD_eq_getElem?_getD, List.getElem?_append_left hj]) (fun _ _ => rfl)) (by have := HK.out; omega) HB.out.size hO (by simp) rfl⟩
        have R1 : Aside0 (kp.R 25 (wr.alloc (.cells #[.int .i64 kk, .slice none 0 0] 83)) w.heap.size (fun _ => True) u7 qs) := ⟨Kd.R_below R.out (below_alloc (Below.refl _ wr) _)⟩
        have HB1 := Aside0.mk (below_alloc HB.out (.cells #[.int .i64 kk, .slice none 0 0] 83))
        have N1 : Aside0 (Calls Try.prog 12 #[.int .i64 kk] wr _) := ⟨new_good kk wr (by have := HK.out; omega)⟩
        clear hin hO R T HB
        go_wp2_with fail
        refine N1.out.mono ?_
        rintro e w1 ⟨rfl, rfl⟩
        generalize hq : wr.heap.size = q0 at T1 ⊢
        generalize wr.alloc (.cells #[.int .i64 kk, .slice none 0 0] 83) = w1 at T1 R1 HB1 ⊢
        clear N1 hq wr
        go_wp2_with (at_builtin; refine Kd.R_append kp (w0 := w) (W := w1) w.heap.size rfl (.tmp 38) (.tmp 40) 40 25 (.pointer none) 8 rfl Try.underlying40 info25 rfl (by decide) (by decide) u7 qs q0 [ptr q0] (fun _ => True) (fun _ => False) rfl rfl rfl (fun _ h => h.elim) (fun _ _ => trivial) R1.out HB1.out HB1.out.size (by have := HI.out; have := HN.out; omega) ?_; intro v1 w2 hR2 hB2 hg2 hat2; have R2 := Aside0.mk hR2; have HB2 := Aside0.mk hB2; have T2 := Aside0.mk (T1.out.grown hg2 hat2); clear hR2 hB2 hg2 hat2 T1 R1 HB1)
        go_roundg (gk - 1)
        case measure => have := HI.out; have := HN.out; omega
        case rel => exact ⟨wrap64 (i + 1), qs ++ [q0], by first | rfl | (simp; done), ⟨by have := HI.out; have := HN.out; simp; unfold wrap64; omega⟩, R2, ⟨by rw [List.length_append]; exact T2.out⟩, HB2⟩
      · have hlt : decide (i < 4) = false := decide_eq_false (by have := HI.out; omega)
        have h4 : qs.length = 4 := by have := HI.out; omega
        obtain ⟨g, c7, hv, gb, gl, _⟩ := Kd.R_form R.out (by omega)
        rw [h4] at hv
        subst hv
        have C0 : Aside0 (Kd.C kp wr (some ⟨g, 0, none⟩) 4 qs) := ⟨by
          have := (Kd.R_reads' R.out).2.2
          rw [h4] at this
          exact this⟩
        have T0 : Aside0 (Tops w.heap.size (fun b => b = g) wr 4 (fun j => qs.getD j 0) kk (fun _ => [])) := ⟨by
          have := T.out
          rw [h4] at this
          exact this.other (fun b _ hb => by rw [hb]; rfl)⟩
        have HG := Aside0.mk (And.intro gb gl)
        clear R T HI hin h4 gb gl
        have HB0 := HB
        clear HB
        obtain ⟨w0, hw0⟩ : ∃ w0, w0 = wr := ⟨_, rfl⟩
        rw [← hw0] at C0 T0 HB0 HG ⊢
        have CS : Aside0 (c7 = c7) := ⟨rfl⟩
        clear hw0
        go_wp2_with fail
        clear hlt
        go_loopg [11] zs.length (fun gx s11 wr => ∃ (j : Int) (i : Nat), s11 = .int .i64 j ∧ Aside0 (j = i ∧ i ≤ zs.length ∧ zs.length - i ≤ gx) ∧ Aside0 (Tops w.heap.size (fun b => b = g) wr 4 (fun j => qs.getD j 0) kk (four (kept nlt kk (zs.take i)) (kept nlt kk ((zs.take i).take tt)) (kept nlt kk ((zs.take i).drop tt)) [])) ∧ Aside0 (wr.heap[g]? = w0.heap[g]?) ∧ Aside0 (Below w.heap.size w wr))
        case atStart => exact ⟨0, 0, rfl, ⟨by omega, by omega, by omega⟩, ⟨T0.out.congr (fun _ _ => rfl) (four_cases (by simp [four, kept_nil]) (by simp [four, kept_nil]) (by simp [four, kept_nil]) rfl)⟩, ⟨rfl⟩, HB0⟩
        case round =>
          clear T0
          obtain ⟨j, i, rfl, HI, T, G, HB⟩ := hrel
          by_cases hin : i < zs.length
          · have hlt : decide (j < (zs.length : Int)) = true := decide_eq_true (by have := HI.out; omega)
            have p1 : 0 ≤ j := by have := HI.out; omega
            have q1 : j < (zs.length : Int) := by have := HI.out; omega
            obtain ⟨ad, eA, h1, h2⟩ := at_T30 (Kd.C_below HC.out HB.out) j p1 q1
            clear h1 h2
            cases eA
            obtain ⟨x, hx⟩ : ∃ x, x = rd_T30 zs j := ⟨_, rfl⟩
            have HN := Aside0.mk hin
            have HX := Aside0.mk hx
            have P1 := Aside0.mk p1
            have Q1 := Aside0.mk q1
            clear hx hin
            have A3 : Aside0 (Calls Try.prog 14 #[ptr (qs.getD 0 0), .agg #[.int .i64 x.f0, .int .i64 x.f1]] wr.drew _) := ⟨tops_add T.out.drew (i := 0) (by decide) x HB.out.size (fun b hb => by rw [show b = g from hb]; exact lt_same (w := w0) G.out HG.out.2)⟩
            obtain ⟨g0, g1⟩ := cellsAt (Kd.C_below HC.out HB.out) j P1.out Q1.out x HX.out.symm
            have g2 := ptr_block C0.out G.out 0 (by decide)
            have Y : Aside0 (∀ w3 : World, w3.heap[g]? = w0.heap[g]? → w3.cell? ⟨g, 0, none⟩ = some (ptr (qs.getD 0 0))) := ⟨fun w3 h => ptr_block C0.out h 0 (by decide)⟩
            obtain ⟨t0, ht⟩ : ∃ t, t = qs.getD 0 0 := ⟨_, rfl⟩
            rw [← ht] at g2 A3 Y
            replace p1 := eq_true P1.out
            replace q1 := eq_true Q1.out
            clear ht
            unfold ptr at g2 A3 Y
            go_wp2_with fail
            go_region_held3 (fun w' => w'.cell? (ad.add (j.toNat * 2)) = some (.int .i64 x.f0) ∧ w'.cell? ⟨(ad.add (j.toNat * 2)).block, (ad.add (j.toNat * 2)).off + 1, none⟩ = some (.int .i64 x.f1) ∧ w'.cell? ⟨g, 0, none⟩ = some (.pointer (some ⟨t0, 0, none⟩))) (go_keep) (first | (go_at_call 14; refine A3.out.mono ?_; rintro e w3 ⟨rfl, hT, hB, hK⟩; have G3 := Aside0.mk ((hK g rfl).trans G.out); have HB3 := Aside0.mk (HB.out.drew.trans hB); have T3 := Aside0.mk hT; clear hT hB hK; obtain ⟨e0, e1⟩ := cellsAt (Kd.C_below HC.out HB3.out) j P1.out Q1.out x HX.out.symm; have e2 := Y.out w3 G3.out))
            clear g0 g1 g2 e0 e1 e2 Y A3
            by_cases hit : i < tt
            · have hlt2 : decide (j < (tt : Int)) = true := decide_eq_true (by have := HI.out; omega)
              have HH := Aside0.mk hit
              clear hit
              have A4 : Aside0 (Calls Try.prog 14 #[ptr (qs.getD 1 0), .agg #[.int .i64 x.f0, .int .i64 x.f1]] w3.drew _) := ⟨tops_add T3.out.drew (i := 1) (by decide) x HB3.out.size (fun b hb => by rw [show b = g from hb]; exact lt_same (w := w0) G3.out HG.out.2)⟩
              obtain ⟨g0, g1⟩ := cellsAt (Kd.C_below HC.out HB3.out) j P1.out Q1.out x HX.out.symm
              have g2 := ptr_block C0.out G3.out 1 (by decide)
              have Y : Aside0 (∀ w3 : World, w3.heap[g]? = w0.heap[g]? → w3.cell? ⟨g, 1, none⟩ = some (ptr (qs.getD 1 0))) := ⟨fun w3 h => ptr_block C0.out h 1 (by decide)⟩
              obtain ⟨t1, ht⟩ : ∃ t, t = qs.getD 1 0 := ⟨_, rfl⟩
              rw [← ht] at g2 A4 Y
              replace p1 := eq_true P1.out
              replace q1 := eq_true Q1.out
              clear ht
              unfold ptr at g2 A4 Y
              go_wp2_with fail
              go_region_held3 (fun w' => w'.cell? (ad.add (j.toNat * 2)) = some (.int .i64 x.f0) ∧ w'.cell? ⟨(ad.add (j.toNat * 2)).block, (ad.add (j.toNat * 2)).off + 1, none⟩ = some (.int .i64 x.f1) ∧ w'.cell? ⟨g, 1, none⟩ = some (.pointer (some ⟨t1, 0, none⟩))) (go_keep) (first | (go_at_call 14; refine A4.out.mono ?_; rintro e w4 ⟨rfl, hT, hB, hK⟩; have G4 := Aside0.mk ((hK g rfl).trans G3.out); have HB4 := Aside0.mk (HB3.out.drew.trans hB); have T4 := Aside0.mk hT; clear hT hB hK; obtain ⟨e0, e1⟩ := cellsAt (Kd.C_below HC.out HB4.out) j P1.out Q1.out x HX.out.symm; have e2 := Y.out w4 G4.out))
              clear g0 g1 g2 e0 e1 e2 Y A4
              have T5 : Aside0 (Tops w.heap.size (fun b => b = g) w4 4 (fun j => qs.getD j 0) kk (four (kept nlt kk (zs.take (i + 1))) (kept nlt kk ((zs.take (i + 1)).take tt)) (kept nlt kk ((zs.take (i + 1)).drop tt)) [])) := ⟨T4.out.congr (fun _ _ => rfl) (four_cases
                (kept_more kk zs i HN.out x (by rw [HX.out, HI.out.1, rd_at])).symm (merge_lo kk tt i zs HN.out HH.out x (by rw [HX.out, HI.out.1, rd_at])).1.symm (by show kept nlt kk _ = kept nlt kk _; rw [(merge_lo kk tt i zs HN.out HH.out x (by rw [HX.out, HI.out.1, rd_at])).2]) rfl)⟩
              go_wp2
              go_roundg (gk - 1)
              case measure => have := HI.out; have := HN.out; omega
              case rel => exact ⟨wrap64 (j + 1), i + 1, by first | rfl | (simp; done), ⟨by have := HI.out; have := HN.out; have := HM.out; unfold wrap64; omega, by have := HN.out; omega, by have := HI.out; have := HN.out; omega⟩, T5, G4, HB4⟩
            · have hlt2 : decide (j < (tt : Int)) = false := decide_eq_false (by have := HI.out; omega)
              have HH := Aside0.mk (Nat.le_of_not_lt hit)
              clear hit
              have A4 : Aside0 (Calls Try.prog 14 #[ptr (qs.getD 2 0), .agg #[.int .i64 x.f0, .int .i64 x.f1]] w3.drew _) := ⟨tops_add T3.out.drew (i := 2) (by decide) x HB3.out.size (fun b hb => by rw [show b = g from hb]; exact lt_same (w := w0) G3.out HG.out.2)⟩
              obtain ⟨g0, g1⟩ := cellsAt (Kd.C_below HC.out HB3.out) j P1.out Q1.out x HX.out.symm
              have g2 := ptr_block C0.out G3.out 2 (by decide)
              have Y : Aside0 (∀ w3 : World, w3.heap[g]? = w0.heap[g]? → w3.cell? ⟨g, 2, none⟩ = some (ptr (qs.getD 2 0))) := ⟨fun w3 h => ptr_block C0.out h 2 (by decide)⟩
              obtain ⟨t2, ht⟩ : ∃ t, t = qs.getD 2 0 := ⟨_, rfl⟩
              rw [← ht] at g2 A4 Y
              replace p1 := eq_true P1.out
              replace q1 := eq_true Q1.out
              clear ht
              unfold ptr at g2 A4 Y
              go_wp2_with fail
              go_region_held3 (fun w' => w'.cell? (ad.add (j.toNat * 2)) = some (.int .i64 x.f0) ∧ w'.cell? ⟨(ad.add (j.toNat * 2)).block, (ad.add (j.toNat * 2)).off + 1, none⟩ = some (.int .i64 x.f1) ∧ w'.cell? ⟨g, 2, none⟩ = some (.pointer (some ⟨t2, 0, none⟩))) (go_keep) (first | (go_at_call 14; refine A4.out.mono ?_; rintro e w4 ⟨rfl, hT, hB, hK⟩; have G4 := Aside0.mk ((hK g rfl).trans G3.out); have HB4 := Aside0.mk (HB3.out.drew.trans hB); have T4 := Aside0.mk hT; clear hT hB hK; obtain ⟨e0, e1⟩ := cellsAt (Kd.C_below HC.out HB4.out) j P1.out Q1.out x HX.out.symm; have e2 := Y.out w4 G4.out))
              clear g0 g1 g2 e0 e1 e2 Y A4
              have T5 : Aside0 (Tops w.heap.size (fun b => b = g) w4 4 (fun j => qs.getD j 0) kk (four (kept nlt kk (zs.take (i + 1))) (kept nlt kk ((zs.take (i + 1)).take tt)) (kept nlt kk ((zs.take (i + 1)).drop tt)) [])) := ⟨T4.out.congr (fun _ _ => rfl) (four_cases
                (kept_more kk zs i HN.out x (by rw [HX.out, HI.out.1, rd_at])).symm (by show kept nlt kk _ = kept nlt kk _; rw [(merge_hi kk tt i zs HN.out HH.out x (by rw [HX.out, HI.out.1, rd_at])).1]) (merge_hi kk tt i zs HN.out HH.out x (by rw [HX.out, HI.out.1, rd_at])).2.symm rfl)⟩
              go_wp2
              go_roundg (gk - 1)
              case measure => have := HI.out; have := HN.out; omega
              case rel => exact ⟨wrap64 (j + 1), i + 1, by first | rfl | (simp; done), ⟨by have := HI.out; have := HN.out; have := HM.out; unfold wrap64; omega, by have := HN.out; omega, by have := HI.out; have := HN.out; omega⟩, T5, G4, HB4⟩
          · have hlt : decide (j < (zs.length : Int)) = false := decide_eq_false (by have := HI.out; omega)
            have TL : Aside0 (Tops w.heap.size (fun b => b = g) wr 4 (fun j => qs.getD j 0) kk (four (kept nlt kk zs) (kept nlt kk (zs.take tt)) (kept nlt kk (zs.drop tt)) [])) := ⟨by
              have h := T.out
              have hi : zs.take i = zs := by have := HI.out; rw [List.take_of_length_le (by omega)]
              rw [hi] at h
              exact h⟩
            clear T HI hin
            go_wp2_with fail
            clear hlt
            go_loopg [12] 3 (fun gx s12 wr => ∃ (i : Nat), s12 = .int .i64 (i : Int) ∧ Aside0 (1 ≤ i ∧ i ≤ 3 ∧ 3 - i ≤ gx) ∧ Aside0 (Tops w.heap.size (fun b => b = g) wr 4 (fun j => qs.getD j 0) kk (four (kept nlt kk zs) (kept nlt kk (zs.take tt)) (kept nlt kk (zs.drop tt)) (kept nlt kk (four [] [] ((kept nlt kk (zs.take tt)).reverse) ((kept nlt kk (zs.take tt)).reverse ++ (kept nlt kk (zs.drop tt)).reverse) i)))) ∧ Aside0 (wr.heap[g]? = w0.heap[g]?) ∧ Aside0 (Below w.heap.size w wr))
            case atStart => exact ⟨1, rfl, ⟨by omega, by omega, by omega⟩, ⟨TL.out.congr (fun _ _ => rfl) (four_cases rfl rfl rfl (by simp [four, kept_nil]))⟩, G, HB⟩
            case round =>
              clear TL G HB
              obtain ⟨i, rfl, HI, T, G, HB⟩ := hrel
              obtain ⟨go, hgo⟩ : ∃ n, n = gk := ⟨_, rfl⟩
              have HGO := Aside0.mk hgo
              clear hgo
              rcases (show i = 1 ∨ i = 2 ∨ i = 3 by have := HI.out; omega) with rfl | rfl | rfl
              · skip
                have g2 := ptr_block C0.out G.out 1 (by decide)
                have A0 : Aside0 (Calls Try.prog 16 #[ptr (qs.getD 1 0)] wr _) := ⟨tops_list T.out (i := 1) (by decide)⟩
                have Y3 : Aside0 (∀ w3 : World, w3.heap[g]? = w0.heap[g]? → w3.cell? ⟨g, 3, none⟩ = some (ptr (qs.getD 3 0))) := ⟨fun w3 h => ptr_block C0.out h 3 (by decide)⟩
                obtain ⟨t0, ht0⟩ : ∃ t, t = qs.getD 1 0 := ⟨_, rfl⟩
                obtain ⟨t3, ht3⟩ : ∃ t, t = qs.getD 3 0 := ⟨_, rfl⟩
                rw [← ht0] at g2 A0
                rw [← ht3] at Y3
                have HT3 := Aside0.mk ht3
                clear ht0 ht3
                unfold ptr at g2 A0 Y3
                go_wp2_with fail
                refine A0.out.mono ?_
                rintro e w1 ⟨v, rfl, hR, hB, hT⟩
                obtain ⟨A2, c2, rfl⟩ := Kd.R_slice hR
                have R1 := Aside0.mk hR
                have T1 : Aside0 (Tops w.heap.size (fun b => b = g ∨ wr.heap.size ≤ b ∧ b < w1.heap.size) w1 4 (fun j => qs.getD j 0) kk _) := ⟨(T.out.fresh hB).other (fun b _ hb => hb.imp id (fun h => h.1))⟩
                have B1 := Aside0.mk hB
                have HB1 := Aside0.mk (HB.out.trans (hB.mono HB.out.size))
                have G1 := Aside0.mk ((hB.block g (lt_same G.out HG.out.2)).trans G.out)
                clear hR hT hB A0 g2
                change Aside0 (Kd.R k30 30 w1 wr.heap.size (fun _ => True) (.slice A2 (kept nlt kk (zs.take tt)).length c2) (kept nlt kk (zs.take tt))) at R1
                obtain ⟨ys, hys⟩ : ∃ ys, ys = kept nlt kk (zs.take tt) := ⟨_, rfl⟩
                have HL : Aside0 (ys.length ≤ 150) := ⟨by rw [hys, kept_length']; have := HK.out; omega⟩
                rw [← hys] at R1
                simp only [four]
                rw [← hys]
                have HY := Aside0.mk hys
                clear hys B1
                generalize wr.heap.size = n0 at R1 T1
                go_wp2_with fail
                go_loopg [14] ys.length (fun gx s14 wn => ∃ (j : Int) (m : Nat), s14 = .int .i64 j ∧ Aside0 (j = (m : Int) - 1 ∧ m ≤ ys.length ∧ m ≤ gx) ∧ Aside0 (Tops w.heap.size (fun b => b = g ∨ n0 ≤ b ∧ b < w1.heap.size) wn 4 (fun j => qs.getD j 0) kk (four (kept nlt kk zs) (kept nlt kk (zs.take tt)) (kept nlt kk (zs.drop tt)) (kept nlt kk (([] : List S30) ++ (ys.drop m).reverse)))) ∧ Aside0 (∀ b, b = g ∨ n0 ≤ b ∧ b < w1.heap.size → wn.heap[b]? = w1.heap[b]?) ∧ Aside0 (Below w.heap.size w wn))
                case atStart => exact ⟨wrap64 ((ys.length : Int) - 1), ys.length, by first | rfl | (simp; done), ⟨by have := HL.out; unfold wrap64; omega, by omega, by omega⟩, ⟨T1.out.congr (fun _ _ => rfl) (four_cases rfl rfl rfl (by simp [four]))⟩, ⟨fun _ _ => rfl⟩, HB1⟩
                case round =>
                  clear T1 T G HB
                  obtain ⟨j, m, rfl, HI2, T, E, HB⟩ := hrel
                  by_cases hin : 0 < m
                  · have hlt : decide (0 ≤ j) = true := decide_eq_true (by have := HI2.out; omega)
                    have p1 : 0 ≤ j := by have := HI2.out; omega
                    have q1 : j < (ys.length : Int) := by have := HI2.out; omega
                    have CX := (Kd.R_reads' (Kd.R_step (w1 := _) (Kd.R_bound R1.out) (fun b hb _ => E.out b (.inr ⟨hb.2.1, hb.2.2.1⟩)))).2.2
                    obtain ⟨ad, eA, h1, h2⟩ := at_T30 CX j p1 q1
                    clear h1 h2
                    cases eA
                    obtain ⟨x, hx⟩ : ∃ x, x = rd_T30 ys j := ⟨_, rfl⟩
                    obtain ⟨g0, g1⟩ := cellsAt CX j p1 q1 x hx.symm
                    have HX := Aside0.mk hx
                    have HN := Aside0.mk hin
                    have P1 := Aside0.mk p1
                    have Q1 := Aside0.mk q1
                    have g2 := Y3.out _ ((E.out g (.inl rfl)).trans G1.out)
                    have A3 : Aside0 (Calls Try.prog 14 #[ptr (qs.getD 3 0), .agg #[.int .i64 x.f0, .int .i64 x.f1]] wr.drew _) := ⟨tops_add T.out.drew (i := 3) (by decide) x HB.out.size (fun b hb => by
                      rcases hb with hb | hb
                      · rw [hb]; exact lt_same (w := w0) ((E.out g (.inl rfl)).trans G1.out) HG.out.2
                      · exact lt_same (w := w1) (E.out b (.inr hb)) hb.2)⟩
                    rw [← HT3.out] at A3
                    unfold ptr at A3
                    replace p1 := eq_true p1
                    replace q1 := eq_true q1
                    clear hx hin CX
                    go_wp2_with fail
                    go_region_held3 (fun w' => w'.cell? (ad.add (j.toNat * 2)) = some (.int .i64 x.f0) ∧ w'.cell? ⟨(ad.add (j.toNat * 2)).block, (ad.add (j.toNat * 2)).off + 1, none⟩ = some (.int .i64 x.f1) ∧ w'.cell? ⟨g, 3, none⟩ = some (.pointer (some ⟨t3, 0, none⟩))) (go_keep) (first | (go_at_call 14; refine A3.out.mono ?_; rintro e w3 ⟨rfl, hT, hB, hK⟩; have E3 : Aside0 (∀ b, b = g ∨ n0 ≤ b ∧ b < w1.heap.size → w3.heap[b]? = w1.heap[b]?) := ⟨fun b hb => (hK b hb).trans (E.out b hb)⟩; have HB3 := Aside0.mk (HB.out.drew.trans hB); have T3 := Aside0.mk hT; clear hT hB hK; obtain ⟨e0, e1⟩ := cellsAt (Kd.R_reads' (Kd.R_step (w1 := w3) (Kd.R_bound R1.out) (fun b hb _ => E3.out b (.inr ⟨hb.2.1, hb.2.2.1⟩)))).2.2 j P1.out Q1.out x HX.out.symm; have e2 := Y3.out w3 ((E3.out g (.inl rfl)).trans G1.out)))
                    clear g0 g1 g2 e0 e1 e2 A3
                    go_wp2
                    go_roundg (gk - 1)
                    case measure => have := HI2.out; have := HN.out; omega
                    case rel => exact ⟨wrap64 (j - 1), m - 1, by first | rfl | (simp; done), ⟨by have := HI2.out; have := HN.out; have := HL.out; unfold wrap64; omega, by have := HI2.out; omega, by have := HI2.out; have := HN.out; omega⟩, ⟨T3.out.congr (fun _ _ => rfl) (four_cases rfl rfl rfl (by
                      have hj : j = ((m - 1 : Nat) : Int) := by have := HI2.out; have := HN.out; omega
                      show kept nlt kk _ = addL kk (kept nlt kk _) x
                      rw [kept_one, List.append_assoc, ← drop_more ys m HN.out HI2.out.2.1 x (by rw [HX.out, hj, rd_at])]))⟩, E3, HB3⟩
                  · have hlt : decide (0 ≤ j) = false := decide_eq_false (by have := HI2.out; omega)
                    have hm0 : m = 0 := by omega
                    subst hm0
                    clear hin
                    go_wp2_with fail
                    go_roundg (go - 1)
                    case measure => have := HI.out; have := HGO.out; omega
                    case rel => exact ⟨2, by first | rfl | (simp; done), ⟨by omega, by omega, by have := HI.out; have := HGO.out; omega⟩, ⟨(T.out.other (fun b _ hb => .inl hb)).congr (fun _ _ => rfl) (four_cases rfl rfl rfl (by rw [HY.out]; simp [four]))⟩, ⟨(E.out g (.inl rfl)).trans G1.out⟩, HB⟩
              · skip
                have g2 := ptr_block C0.out G.out 2 (by decide)
                have A0 : Aside0 (Calls Try.prog 16 #[ptr (qs.getD 2 0)] wr _) := ⟨tops_list T.out (i := 2) (by decide)⟩
                have Y3 : Aside0 (∀ w3 : World, w3.heap[g]? = w0.heap[g]? → w3.cell? ⟨g, 3, none⟩ = some (ptr (qs.getD 3 0))) := ⟨fun w3 h => ptr_block C0.out h 3 (by decide)⟩
                obtain ⟨t0, ht0⟩ : ∃ t, t = qs.getD 2 0 := ⟨_, rfl⟩
                obtain ⟨t3, ht3⟩ : ∃ t, t = qs.getD 3 0 := ⟨_, rfl⟩
                rw [← ht0] at g2 A0
                rw [← ht3] at Y3
                have HT3 := Aside0.mk ht3
                clear ht0 ht3
                unfold ptr at g2 A0 Y3
                go_wp2_with fail
                refine A0.out.mono ?_
                rintro e w1 ⟨v, rfl, hR, hB, hT⟩
                obtain ⟨A2, c2, rfl⟩ := Kd.R_slice hR
                have R1 := Aside0.mk hR
                have T1 : Aside0 (Tops w.heap.size (fun b => b = g ∨ wr.heap.size ≤ b ∧ b < w1.heap.size) w1 4 (fun j => qs.getD j 0) kk _) := ⟨(T.out.fresh hB).other (fun b _ hb => hb.imp id (fun h => h.1))⟩
                have B1 := Aside0.mk hB
                have HB1 := Aside0.mk (HB.out.trans (hB.mono HB.out.size))
                have G1 := Aside0.mk ((hB.block g (lt_same G.out HG.out.2)).trans G.out)
                clear hR hT hB A0 g2
                change Aside0 (Kd.R k30 30 w1 wr.heap.size (fun _ => True) (.slice A2 (kept nlt kk (zs.drop tt)).length c2) (kept nlt kk (zs.drop tt))) at R1
                obtain ⟨ys, hys⟩ : ∃ ys, ys = kept nlt kk (zs.drop tt) := ⟨_, rfl⟩
                have HL : Aside0 (ys.length ≤ 150) := ⟨by rw [hys, kept_length']; have := HK.out; omega⟩
                rw [← hys] at R1
                simp only [four]
                rw [← hys]
                have HY := Aside0.mk hys
                clear hys B1
                generalize wr.heap.size = n0 at R1 T1
                go_wp2_with fail
                go_loopg [14] ys.length (fun gx s14 wn => ∃ (j : Int) (m : Nat), s14 = .int .i64 j ∧ Aside0 (j = (m : Int) - 1 ∧ m ≤ ys.length ∧ m ≤ gx) ∧ Aside0 (Tops w.heap.size (fun b => b = g ∨ n0 ≤ b ∧ b < w1.heap.size) wn 4 (fun j => qs.getD j 0) kk (four (kept nlt kk zs) (kept nlt kk (zs.take tt)) (kept nlt kk (zs.drop tt)) (kept nlt kk ((kept nlt kk (zs.take tt)).reverse ++ (ys.drop m).reverse)))) ∧ Aside0 (∀ b, b = g ∨ n0 ≤ b ∧ b < w1.heap.size → wn.heap[b]? = w1.heap[b]?) ∧ Aside0 (Below w.heap.size w wn))
                case atStart => exact ⟨wrap64 ((ys.length : Int) - 1), ys.length, by first | rfl | (simp; done), ⟨by have := HL.out; unfold wrap64; omega, by omega, by omega⟩, ⟨T1.out.congr (fun _ _ => rfl) (four_cases rfl rfl rfl (by simp [four]))⟩, ⟨fun _ _ => rfl⟩, HB1⟩
                case round =>
                  clear T1 T G HB
                  obtain ⟨j, m, rfl, HI2, T, E, HB⟩ := hrel
                  by_cases hin : 0 < m
                  · have hlt : decide (0 ≤ j) = true := decide_eq_true (by have := HI2.out; omega)
                    have p1 : 0 ≤ j := by have := HI2.out; omega
                    have q1 : j < (ys.length : Int) := by have := HI2.out; omega
                    have CX := (Kd.R_reads' (Kd.R_step (w1 := _) (Kd.R_bound R1.out) (fun b hb _ => E.out b (.inr ⟨hb.2.1, hb.2.2.1⟩)))).2.2
                    obtain ⟨ad, eA, h1, h2⟩ := at_T30 CX j p1 q1
                    clear h1 h2
                    cases eA
                    obtain ⟨x, hx⟩ : ∃ x, x = rd_T30 ys j := ⟨_, rfl⟩
                    obtain ⟨g0, g1⟩ := cellsAt CX j p1 q1 x hx.symm
                    have HX := Aside0.mk hx
                    have HN := Aside0.mk hin
                    have P1 := Aside0.mk p1
                    have Q1 := Aside0.mk q1
                    have g2 := Y3.out _ ((E.out g (.inl rfl)).trans G1.out)
                    have A3 : Aside0 (Calls Try.prog 14 #[ptr (qs.getD 3 0), .agg #[.int .i64 x.f0, .int .i64 x.f1]] wr.drew _) := ⟨tops_add T.out.drew (i := 3) (by decide) x HB.out.size (fun b hb => by
                      rcases hb with hb | hb
                      · rw [hb]; exact lt_same (w := w0) ((E.out g (.inl rfl)).trans G1.out) HG.out.2
                      · exact lt_same (w := w1) (E.out b (.inr hb)) hb.2)⟩
                    rw [← HT3.out] at A3
                    unfold ptr at A3
                    replace p1 := eq_true p1
                    replace q1 := eq_true q1
                    clear hx hin CX
                    go_wp2_with fail
                    go_region_held3 (fun w' => w'.cell? (ad.add (j.toNat * 2)) = some (.int .i64 x.f0) ∧ w'.cell? ⟨(ad.add (j.toNat * 2)).block, (ad.add (j.toNat * 2)).off + 1, none⟩ = some (.int .i64 x.f1) ∧ w'.cell? ⟨g, 3, none⟩ = some (.pointer (some ⟨t3, 0, none⟩))) (go_keep) (first | (go_at_call 14; refine A3.out.mono ?_; rintro e w3 ⟨rfl, hT, hB, hK⟩; have E3 : Aside0 (∀ b, b = g ∨ n0 ≤ b ∧ b < w1.heap.size → w3.heap[b]? = w1.heap[b]?) := ⟨fun b hb => (hK b hb).trans (E.out b hb)⟩; have HB3 := Aside0.mk (HB.out.drew.trans hB); have T3 := Aside0.mk hT; clear hT hB hK; obtain ⟨e0, e1⟩ := cellsAt (Kd.R_reads' (Kd.R_step (w1 := w3) (Kd.R_bound R1.out) (fun b hb _ => E3.out b (.inr ⟨hb.2.1, hb.2.2.1⟩)))).2.2 j P1.out Q1.out x HX.out.symm; have e2 := Y3.out w3 ((E3.out g (.inl rfl)).trans G1.out)))
                    clear g0 g1 g2 e0 e1 e2 A3
                    go_wp2
                    go_roundg (gk - 1)
                    case measure => have := HI2.out; have := HN.out; omega
                    case rel => exact ⟨wrap64 (j - 1), m - 1, by first | rfl | (simp; done), ⟨by have := HI2.out; have := HN.out; have := HL.out; unfold wrap64; omega, by have := HI2.out; omega, by have := HI2.out; have := HN.out; omega⟩, ⟨T3.out.congr (fun _ _ => rfl) (four_cases rfl rfl rfl (by
                      have hj : j = ((m - 1 : Nat) : Int) := by have := HI2.out; have := HN.out; omega
                      show kept nlt kk _ = addL kk (kept nlt kk _) x
                      rw [kept_one, List.append_assoc, ← drop_more ys m HN.out HI2.out.2.1 x (by rw [HX.out, hj, rd_at])]))⟩, E3, HB3⟩
                  · have hlt : decide (0 ≤ j) = false := decide_eq_false (by have := HI2.out; omega)
                    have hm0 : m = 0 := by omega
                    subst hm0
                    clear hin
                    go_wp2_with fail
                    go_roundg (go - 1)
                    case measure => have := HI.out; have := HGO.out; omega
                    case rel => exact ⟨3, by first | rfl | (simp; done), ⟨by omega, by omega, by have := HI.out; have := HGO.out; omega⟩, ⟨(T.out.other (fun b _ hb => .inl hb)).congr (fun _ _ => rfl) (four_cases rfl rfl rfl (by rw [HY.out]; simp [four]))⟩, ⟨(E.out g (.inl rfl)).trans G1.out⟩, HB⟩
              · have HKS : Aside0 (kept nlt kk ((kept nlt kk (zs.take tt)).reverse ++ (kept nlt kk (zs.drop tt)).reverse) = kept nlt kk zs) := ⟨kept_fin kk tt zs⟩
                obtain ⟨ks, hks⟩ : ∃ ks, ks = kept nlt kk zs := ⟨_, rfl⟩
                have HE := Aside0.mk hks
                have HLK : Aside0 (ks.length = min kk zs.length) := ⟨by rw [hks, kept_length']⟩
                have LS0 : Aside0 (∀ w', Below wr.heap.size wr w' → Calls Try.prog 16 #[ptr (qs.getD 0 0)] w' _) := ⟨fun w' hB => list_later T.out (i := 0) (by decide) ks hks.symm hB⟩
                have LS3 : Aside0 (∀ w', Below wr.heap.size wr w' → Calls Try.prog 16 #[ptr (qs.getD 3 0)] w' _) := ⟨fun w' hB => list_later T.out (i := 3) (by decide) ks (by show kept nlt kk _ = ks; rw [hks]; exact HKS.out) hB⟩
                have SS : Aside0 (∀ w', Below wr.heap.size wr w' → Calls Try.prog 18 #[.slice A zs.length c] w' _) := ⟨fun w' hB => sorted_later (Kd.C_below HC.out HB.out) hc (by have := HM.out; omega) hB⟩
                have Y : Aside0 (∀ w', Below wr.heap.size wr w' → w'.cell? ⟨g, 0, none⟩ = some (ptr (qs.getD 0 0)) ∧ w'.cell? ⟨g, 3, none⟩ = some (ptr (qs.getD 3 0))) := ⟨fun w' hB => ⟨ptr_block C0.out ((hB.block g (lt_same (w := w0) G.out HG.out.2)).trans G.out) 0 (by decide), ptr_block C0.out ((hB.block g (lt_same (w := w0) G.out HG.out.2)).trans G.out) 3 (by decide)⟩⟩
                obtain ⟨t0, ht0⟩ : ∃ t, t = qs.getD 0 0 := ⟨_, rfl⟩
                obtain ⟨t3, ht3⟩ : ∃ t, t = qs.getD 3 0 := ⟨_, rfl⟩
                rw [← ht0] at LS0 Y
                rw [← ht3] at LS3 Y
                clear ht0 ht3 hks
                unfold ptr at LS0 LS3 Y
                have hmin : min (kk : Int) (zs.length : Int) = (ks.length : Int) := by have := HLK.out; omega
                have hb0 : Below wr.heap.size wr wr.drew := below_drew (Below.refl _ _)
                obtain ⟨y0, y3⟩ := Y.out _ hb0
                obtain ⟨z0, z3⟩ := Y.out _ (Below.refl _ wr)
                go_wp2_with fail
                go_region_held3 (fun w' => w'.cell? ⟨g, 0, none⟩ = some (.pointer (some ⟨t0, 0, none⟩)) ∧ w'.cell? ⟨g, 3, none⟩ = some (.pointer (some ⟨t3, 0, none⟩)) ∧ Below wr.heap.size wr w') (refine ⟨?_, ?_, ?_⟩ <;> assumption) (first
                  | (go_at_call 16; with_reducible refine (LS3.out _ hB1).mono ?_; rintro e w3 ⟨A3, c3, rfl, D3, hb3, hB3⟩; obtain ⟨u0, u3⟩ := Y.out _ hB3; have D3 := Aside0.mk D3; have E1 : Aside0 (ks.length ≤ c1 ∧ Kd.C k30 w3 A1 ks.length ks) := ⟨D1.out.1, Kd.C_below D1.out.2 hb3⟩)
                  | (go_at_call 17; with_reducible refine (same_later E1.out D3.out rfl (by have := HLK.out; have := HM.out; omega) hB3).mono ?_; rintro e w4 ⟨rfl, hb4, hB4⟩; obtain ⟨k0, k3⟩ := Y.out _ hB4)
                  | (go_at_call 16; with_reducible refine (LS0.out _ hB4).mono ?_; rintro e w5 ⟨A5, c5, rfl, D5, hb5, hB5⟩; obtain ⟨l0, l3⟩ := Y.out _ hB5; have D5 := Aside0.mk D5)
                  | (go_at_call 18; with_reducible refine (SS.out _ hB5).mono ?_; rintro e w6 ⟨A6, c6, rfl, D6, hb6, hB6⟩; obtain ⟨n0, n3⟩ := Y.out _ hB6; have q6 : (ks.length : Int) ≤ (c6 : Int) := (by have := D6.1; have h := isort_length (lt := nlt) zs; have := HLK.out; omega); have F6 := Aside0.mk (same_cut HE.out D5.out D6 hb6 (by have := HLK.out; have := HM.out; omega) hB6))
                  | (go_at_call 17; with_reducible refine F6.out.mono ?_; rintro e w7 ⟨rfl, hb7, hB7⟩; obtain ⟨r0, r3⟩ := Y.out _ hB7)
                  | (go_at_call 16; with_reducible refine (LS0.out _ hb0).mono ?_; rintro e w1 ⟨A1, c1, rfl, D1, hb1, hB1⟩; obtain ⟨v0, v3⟩ := Y.out _ hB1; have D1 := Aside0.mk D1))
                all_goals
                  go_wp2
                  refine bodyPost_ret (v := .bool true) (by simp [results, Try.results4, go_sem]) rfl ⟨rfl, HB.out.trans (hB7.mono HB.out.size)⟩
end Go.Proofs.Ytbdkgdbfnkogaaa.R
