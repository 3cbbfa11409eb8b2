import Derived.Test.YtbdkgdbfnkogaaaB10
import Derived.Test.YtbdkgdbfnkogaaaB1
import Derived.Test.YtbdkgdbfnkogaaaB3
import Derived.Test.YtbdkgdbfnkogaaaB4

section
/-
  slices.SortedFunc at an iterator of entries, and rank.Sorted, by their contracts. Conditions: the iterator keeps its word; lengths within the reach.
-/
namespace Go.Proofs.Ytbdkgdbfnkogaaa.R
open Go.Shelf Go.RowKit Go.Lib Go.Sort Go.Proofs Go.Proofs.YtbdkgdbfnkogaaaW.PrintWords Go.Proofs.YtbdkgdbfnkogaaaW.PrintLast Go.Proofs.YtbdkgdbfnkogaaaW.PrintMore Go.Proofs.Ytbdkgdbfnkogaaa.Plain
set_option linter.unusedVariables false
set_option linter.unusedSimpArgs false

section
variable {gf : Nat} {lb : Array Value} {zs : List S30} {Sp : List S30 → Prop} {w w0 : World}
theorem collect_any (egf : ∀ args w, (callFunc gf args).run Try.prog w = .ok (.enter gf args) w) (hw0 : w0.heap.size ≤ w.heap.size)
    (hseq : SeqStopsK Fence.wide 1 Try.prog gf lb (fun x : S30 => #[.agg #[.int .i64 x.f0, .int .i64 x.f1]]) (Below w0.heap.size) (fun ys => ys = zs) Sp zs.length w) (hreach : zs.length * 16 ≤ 140737488351232) :
    Calls Try.prog 81 #[.func (.func gf) #[] lb] w fun e W' => ∃ v, e = .returned v ∧ Kd.R k30 30 W' w.heap.size (fun _ => True) v zs ∧ Below w0.heap.size w W' := by
  have C := callsIn_wide.1 (appendSeq_in Fence.wide 2 (by decide) trivial gf trivial rfl egf lb zs Sp w w0 hw0 hseq hreach)
  clear hseq
  go_enter Try.func81, Try.ntmps81
  go_wp2_with (go_at_call 105; refine C.mono ?_; rintro e w1 ⟨v, rfl, hR, hB⟩)
  go_ret
  exact ⟨v, rfl, hR, hB⟩

theorem sortedFunc_any (egf : ∀ args w, (callFunc gf args).run Try.prog w = .ok (.enter gf args) w) (hw0 : w0.heap.size ≤ w.heap.size)
    (hseq : SeqStopsK Fence.wide 1 Try.prog gf lb (fun x : S30 => #[.agg #[.int .i64 x.f0, .int .i64 x.f1]]) (Below w0.heap.size) (fun ys => ys = zs) Sp zs.length w) (hreach : zs.length * 16 ≤ 140737488351232) :
    Calls Try.prog 54 #[.func (.func gf) #[] lb, .func (.func 52) #[] #[]] w fun e W' => ∃ v, e = .returned v ∧ Kd.R k30 30 W' w.heap.size (fun _ => True) v (isort nlt zs) ∧ Below w0.heap.size w W' := by
  have C := Aside0.mk (collect_any egf hw0 hseq hreach)
  clear hseq
  rcases Nat.eq_zero_or_pos zs.length with hz | hz
  · obtain rfl := List.eq_nil_of_length_eq_zero hz
    go_enter Try.func54, Try.ntmps54
    go_wp2_with fail
    refine C.out.mono ?_
    rintro e w1 ⟨v, rfl, hR, hB⟩
    have HR := Aside0.mk hR
    have HB := Aside0.mk hB
    obtain ⟨A, c, rfl⟩ := Kd.R_slice hR
    clear hR hB C
    have hs := AnyF.slices_SortFunc_none { Try.sortNear with } A c (.func (.func 52) #[] #[])
    change ∀ w, Calls Try.prog 53 #[.slice A 0 c, .func (.func 52) #[] #[]] w _ at hs
    go_wp2_with (go_at_call 53; refine (hs _).mono ?_; rintro e w' ⟨rfl, rfl⟩)
    go_ret
    exact ⟨_, rfl, HR.out, HB.out⟩
  · go_enter Try.func54, Try.ntmps54
    go_wp2_with fail
    refine C.out.mono ?_
    rintro e w1 ⟨v, rfl, hR, hB⟩
    obtain ⟨g, cap, rfl, gb, gl, _⟩ := Kd.R_form hR hz
    have S := Aside0.mk (sort_any hR (by omega))
    have HB := Aside0.mk hB
    clear hR hB C
    go_wp2_with fail
    refine S.out.mono ?_
    rintro e w2 ⟨rfl, hR2, hK2, hB2⟩
    have HR := Aside0.mk hR2
    have HB2 := Aside0.mk hB2
    clear hR2 hK2 hB2 S
    go_wp2
    go_ret
    exact ⟨_, rfl, HR.out, HB.out.trans (HB2.out.mono (Nat.le_trans hw0 gb))⟩
end

theorem spot_of_C {α : Type} {d : Kd α} {w : World} {A : Option Addr} {zs : List α} (hs : 0 < d.sz) (hC : Kd.C d w A zs.length zs) (z : α) : ∀ ad, A = some ad → 0 < zs.length → ad.block < w.heap.size ∧ ad.spot = none := by
  intro ad h hz
  obtain ⟨ad', c, ea, hl, hK, hc⟩ := Kd.C_get hC z 0 (Int.le_refl _) (by omega)
  rw [h] at ea
  injection ea with ea
  subst ea
  have hlen := d.K_len hK
  have h0 := hc 0 (c[0]'(by omega)) (List.getElem?_eq_getElem _)
  simp at h0
  refine ⟨?_, ?_⟩
  · have := World.block_lt_of_cell? w _ h0
    unfold Addr.add at this
    split at this <;> simpa using this
  · cases hsp : ad.spot with
    | none => rfl
    | some s =>
      exfalso
      unfold World.cell? Addr.add at h0
      simp [hsp] at h0
      split at h0 <;> simp_all

/-- rank.Sorted. -/
theorem sorted_any (A : Option Addr) (c : Nat) (zs : List S30) (w : World) (hC : Kd.C k30 w A zs.length zs) (hc : zs.length ≤ c) (hreach : zs.length * 16 ≤ 140737488351232) :
    Calls Try.prog 18 #[.slice A zs.length c] w fun e W' => ∃ v, e = .returned v ∧ Kd.R k30 30 W' w.heap.size (fun _ => True) v (isort nlt zs) ∧ Below w.heap.size w W' := by
  have V := callsIn_wide.1 (values_in Fence.wide 1 trivial rfl A zs.length c w)
  have hB0 : Below w.heap.size w (w.alloc (.cells #[.slice A zs.length c] 22)) := (Below.refl _ w).alloc (Nat.le_refl _) _
  have C := Aside0.mk (sortedFunc_any (w0 := w) (enters_of Try.func82 (by kernel_rfl) rfl) (by simp) (values_stops Fence.wide 1 trivial rfl (by decide) w.heap.size c A zs hreach (w.alloc (.cells #[.slice A zs.length c] 22)) (by simp) w.heap.size (by simp) (Boxed.new w 22 _).cell (Kd.C_below hC hB0) (spot_of_C (by decide) hC z30)) hreach)
  clear hC
  go_enter Try.func18, Try.ntmps18
  go_wp2_with (first | (go_at_call 55; refine V.mono ?_; rintro e w1 ⟨rfl, rfl⟩) | (go_at_call 54; refine C.out.mono ?_; rintro e w1 ⟨v, rfl, hR, hB⟩))
  go_ret
  exact ⟨_, rfl, Kd.R_lower hR (by simp), hB0.trans hB⟩
end Go.Proofs.Ytbdkgdbfnkogaaa.R
end

section
/-
  cell.distances, Nearest and Far, by their contracts. No conditions but that the rows read as told.
-/
namespace Go.Proofs.Ytbdkgdbfnkogaaa.R
open Go.Shelf Go.RowKit Go.Lib Go.Sort Go.Proofs Go.Proofs.YtbdkgdbfnkogaaaW.PrintWords Go.Proofs.YtbdkgdbfnkogaaaW.PrintLast Go.Proofs.YtbdkgdbfnkogaaaW.PrintMore Go.Proofs.Ytbdkgdbfnkogaaa.Plain
set_option linter.unusedVariables false
set_option linter.unusedSimpArgs false
attribute [local go_sem] Oper.semAt_some

/-- The error of cents and a vector. -/
def bothE (c : List (List Int)) (v : List Int) : Int := if chkC c = 0 then (if chkW v = 0 then (if v.length = (rd_L3 c 0).length then 0 else 2) else chkW v) else chkC c
theorem chkC_len {c : List (List Int)} (h : chkC c = 0) : 1 ≤ c.length ∧ c.length ≤ 4096 := by
  unfold chkC at h
  by_cases hc : c.length < 1 ∨ 4096 < c.length
  · rw [if_pos hc] at h; cases h
  · omega
theorem cell_both_f (c : List (List Int)) (v : List Int) : cell_both.f c v = some (bothE c v) := by
  unfold cell_both.f cell_Check.f vec_CheckWide.f bothE
  simp only [Option.bind_some]
  by_cases h1 : chkC c = 0
  · rw [if_pos h1, if_pos h1]
    by_cases h2 : chkW v = 0
    · rw [if_pos h2, if_pos h2, if_pos (by have := chkC_len h1; omega)]
      by_cases h3 : v.length = (rd_L3 c 0).length
      · rw [if_pos (by omega), if_pos h3]
      · rw [if_neg (by omega), if_neg h3]
    · rw [if_neg h2, if_neg h2]
  · rw [if_neg h1, if_neg h1]

/-- One cent and how far it is. -/
def dst (c : List (List Int)) (v : List Int) (j : Nat) : Int × Int := ((j : Int), (distE (rd_L3 c (j : Int)) v).1)
def dists (c : List (List Int)) (v : List Int) : List (Int × Int) := upto (dst c v) c.length
abbrev encP (p : Int × Int) : Array Value := #[.int .i64 p.1, .int .i64 p.2]

set_option maxHeartbeats 1000000 in
theorem distances_any (A Av : Option Addr) (len cap lv cv : Nat) (w : World) :
    Calls Try.prog 58 #[.slice A len cap, .slice Av lv cv] w fun e w' => e = .returned (.func (.func 83) #[] #[.pointer (some ⟨w.heap.size, 0, none⟩), .pointer (some ⟨w.heap.size + 1, 0, none⟩)]) ∧ w' = (w.alloc (.cells #[.slice A len cap] 51)).alloc (.cells #[.slice Av lv cv] 52) := by
  go_enter Try.func58, Try.ntmps58
  go_wp2
  go_ret
  exact ⟨rfl, rfl⟩

theorem vdist_any (A0 : Option Addr) (c0 : Nat) (l0 : List Int) (A1 : Option Addr) (c1 : Nat) (l1 : List Int) (d1 d2 : Int) (w : World) (hr0 : Kd.C (Kd.int .i32) w A0 l0.length l0) (hc0 : l0.length ≤ c0) (hr1 : Kd.C (Kd.int .i32) w A1 l1.length l1) (hc1 : l1.length ≤ c1) (h : distE l0 l1 = (d1, d2)) :
    Calls Try.prog 84 #[.slice A0 l0.length c0, .slice A1 l1.length c1] w fun e w' => e = .returned (.tuple #[.int .i64 d1, .int .i64 d2]) ∧ Below w.heap.size w w' :=
  vec_Dist.calls 1027 A0 c0 l0 A1 c1 l1 d1 d2 w hr0 hc0 hr1 hc1 (by rw [vdist_f _ _ _ (by omega), h])

/-- What a round keeps: what lay in w0, and the box of the vector. -/
def KpD (w0 : World) (Bv : Nat) (X Y : World) : Prop := Below w0.heap.size X Y ∧ Y.heap[Bv]? = X.heap[Bv]?
theorem kpD_t {w0 : World} {Bv : Nat} {A B C : World} (h : KpD w0 Bv A B) (k : KpD w0 Bv B C) : KpD w0 Bv A C := ⟨h.1.trans k.1, k.2.trans h.2⟩
theorem kpD_b {w0 w : World} {Bv : Nat} (hn : w0.heap.size ≤ w.heap.size) (hb : Bv < w.heap.size) (W : World) (l : Nat) (o o' : Obj) (hl : w.heap.size ≤ l) (h : W.heap[l]? = some o) (h1 : o.isCells = false) (h2 : o.isWalk = false) : KpD w0 Bv W (W.putObj l o') :=
  ⟨belowK_b hn W l o o' hl h h1 h2, World.putObj_heap_other (fun e => by omega)⟩

set_option maxRecDepth 100000 in
set_option maxHeartbeats 4000000 in
theorem dists1_in (F : Fence) (n : Nat) (h83 : F.fn 83) (h84 : F.fn 84) (hro : F.round = none) (hn : 1 ≤ n) (l Bc Bv cap cv : Nat) (A Av : Option Addr) (cs : List (List Int)) (v : List Int) (J Jx : List (Int × Int) → World → Prop) (w0 : World)
    (hY : ∀ pre x W, J pre W → pre.length < cs.length → YieldAt F (n - 1) Try.prog l (encP x) W fun e W' =>
      (e = .returned (.bool true) ∧ J (pre ++ [x]) W' ∧ KpD w0 Bv W W') ∨ (e = .returned (.bool false) ∧ Jx (pre ++ [x]) W'))
    (W : World) (hJ : AbidesFrom W.heap.size J) (hW : Below w0.heap.size w0 W) (hBc : W.cell? ⟨Bc, 0, none⟩ = some (.slice A cs.length cap)) (hBv : Boxed W Bv 52 (.slice Av v.length cv))
    (hC : Kd.C (Kd.slice 21 (Kd.int .i32)) w0 A cs.length cs) (hV : Kd.C (Kd.int .i32) w0 Av v.length v) (hcv : v.length ≤ cv) (h0 : J [] W)
    (hD : ∀ (A0 : Option Addr) (c0 : Nat) (l0 : List Int) (A1 : Option Addr) (c1 : Nat) (l1 : List Int) (d1 d2 : Int) (w : World), Kd.C (Kd.int .i32) w A0 l0.length l0 → l0.length ≤ c0 → Kd.C (Kd.int .i32) w A1 l1.length l1 → l1.length ≤ c1 → distE l0 l1 = (d1, d2) →
      CallsIn F (n - 1) Try.prog 84 #[.slice A0 l0.length c0, .slice A1 l1.length c1] w fun e w' => e = .returned (.tuple #[.int .i64 d1, .int .i64 d2]) ∧ Below w.heap.size w w') :
    CallsIn F n Try.prog 83 #[.func (.yield l) #[] #[], .pointer (some ⟨Bc, 0, none⟩), .pointer (some ⟨Bv, 0, none⟩)] W fun e W' => (∃ v, e = .returned v) ∧
      ((∃ ys, ys = dists cs v ∧ J ys W') ∨ (∃ pre, (∃ k, k ≤ cs.length ∧ pre = upto (dst cs v) k) ∧ Jx pre W')) := by
  have hm := Kd.C_max hC
  have HD := Aside0.mk hD
  have HM := Aside0.mk hm
  have HC := Aside0.mk hC
  have HV := Aside0.mk hV
  have HCV := Aside0.mk hcv
  have HBC := Aside0.mk hBc
  have HBV := Aside0.mk hBv
  have HW := Aside0.mk hW
  have HY := Aside0.mk hY
  have HJ := Aside0.mk hJ
  have H0 := Aside0.mk h0
  clear hm hC hV hcv hBc hBv hW hY hJ h0 hD
  refine callsIn_of_wp Try.func83 rfl h83 ?_ hro
  simp only [Try.ntmps83, List.size_toArray, List.length_cons, List.length_nil, Nat.reduceAdd, Nat.reduceSub, Array.replicate_succ, Array.replicate_zero, List.push_toArray, List.append_toArray, List.nil_append, List.cons_append]
  have bc := HBC.out
  gi_wp2
  clear bc
  gi_loopw [10] (fun i wr => ∃ k : Nat, k ≤ cs.length ∧ i = .int .i64 k ∧ Aside0 (J (upto (dst cs v) k) wr) ∧ Aside0 (Below w0.heap.size w0 wr) ∧ Aside0 (W.heap.size ≤ wr.heap.size) ∧ Aside0 (Boxed wr Bv 52 (.slice Av v.length cv)))
    (fun i _ => cs.length - (intOf i).toNat)
  case atStart => exact ⟨0, Nat.zero_le _, rfl, H0, HW, ⟨Nat.le_refl _⟩, HBV⟩
  case round =>
    obtain ⟨k, hk, rfl, hJs, HB, HS, HV0⟩ := hrel
    by_cases hlt : k < cs.length
    · obtain ⟨ad, A1, c1, eA, g0, hc1, hC1⟩ := at_L3 (Kd.C_below HC.out HB.out) (k : Int) (by omega) (by omega)
      cases eA
      have bv := HV0.out.cell
      obtain ⟨d1, d2, hd⟩ : ∃ d1 d2, distE (rd_L3 cs (k : Int)) v = (d1, d2) := ⟨_, _, rfl⟩
      have D := Aside0.mk (HD.out A1 c1 (rd_L3 cs (k : Int)) Av cv v d1 d2 wr hC1 hc1 (Kd.C_below HV.out HB.out) HCV.out hd)
      have HX : Aside0 (dst cs v k = ((k : Int), d1)) := ⟨by unfold dst; rw [hd]⟩
      clear hd
      obtain ⟨n1, hn1⟩ : ∃ n, n = (rd_L3 cs (k : Int)).length := ⟨_, rfl⟩
      rw [← hn1] at g0 D
      rw [Int.toNat_natCast] at g0
      clear hn1 hC1 hc1
      gi_wp2_with fail
      refine D.out.mono ?_
      rintro e w1 ⟨rfl, hb⟩
      have hJ1 : J (upto (dst cs v) k) w1 := HJ.out _ _ _ none hJs.out (grown_of_below hb none) (fun r e => by cases e)
      have HB1 := Aside0.mk (HB.out.trans (hb.mono HB.out.size))
      have HV1 : Aside0 (Boxed w1 Bv 52 (.slice Av v.length cv)) := ⟨(hb.block _ HV0.out.lt).trans HV0.out⟩
      have HS1 : Aside0 (W.heap.size ≤ w1.heap.size) := ⟨Nat.le_trans HS.out hb.size⟩
      obtain ⟨fn, tmps, assign, body, hy, hR⟩ := HY.out _ (dst cs v k) w1 hJ1 (by rw [upto_length]; exact hlt)
      have HR := Aside0.mk hR
      rw [HX.out] at hy
      dsimp only [encP] at hy
      have HK := Aside0.mk hlt
      clear D hb hJ1 hR bv g0 hJs hlt HV0
      gi_wp2_with fail
      refine HR.out.mono ?_
      rintro e W3 (⟨rfl, hJ3, hk3⟩ | ⟨rfl, hJx3⟩)
      · have J3 : Aside0 (J (upto (dst cs v) (k + 1)) W3) := ⟨by rw [upto_succ]; exact hJ3⟩
        have HB3 := Aside0.mk (HB1.out.trans hk3.1)
        have HV3 : Aside0 (Boxed W3 Bv 52 (.slice Av v.length cv)) := ⟨hk3.2.trans HV1.out⟩
        have HS3 : Aside0 (W.heap.size ≤ W3.heap.size) := ⟨Nat.le_trans HS1.out hk3.1.size⟩
        have hlt : k < cs.length := HK.out
        have hm2 : (cs.length : Int) ≤ 9223372036854775807 := by have := HM.out; omega
        clear hJ3 hk3 hy
        gi_wp2
        go_roundw
        case rel => exact ⟨k + 1, HK.out, by simp, J3, HB3, HS3, HV3⟩
        case measure => simp [intOf]; omega
      · have J3 : Aside0 (Jx (upto (dst cs v) (k + 1)) W3) := ⟨by rw [upto_succ]; exact hJx3⟩
        clear hJx3 hy
        gi_wp2
        refine bodyPost_ret (results_none rfl _ _ _) rfl ?_
        exact ⟨⟨_, rfl⟩, .inr ⟨_, ⟨k + 1, HK.out, rfl⟩, J3.out⟩⟩
    · obtain rfl : k = cs.length := by omega
      gi_wp2
      go_end0
      exact ⟨⟨_, rfl⟩, .inl ⟨_, rfl, hJs.out⟩⟩

/-- It hands back an iterator that keeps its word: each cent, in order, with its distance. -/
theorem dists_stops (n : Nat) (hn : 1 ≤ n) (Bc Bv cap cv : Nat) (A Av : Option Addr) (cs : List (List Int)) (v : List Int) (w w0 : World) (hw : Below w0.heap.size w0 w) (hBc : w.cell? ⟨Bc, 0, none⟩ = some (.slice A cs.length cap)) (hBv : Boxed w Bv 52 (.slice Av v.length cv))
    (hC : Kd.C (Kd.slice 21 (Kd.int .i32)) w0 A cs.length cs) (hV : Kd.C (Kd.int .i32) w0 Av v.length v) (hcv : v.length ≤ cv) :
    SeqStopsK Fence.wide n Try.prog 83 #[.pointer (some ⟨Bc, 0, none⟩), .pointer (some ⟨Bv, 0, none⟩)] encP (KpD w0 Bv) (fun ys => ys = dists cs v) (fun pre => ∃ k, k ≤ cs.length ∧ pre = upto (dst cs v) k) cs.length w := fun l J Jx W hW hJ _ hY h0 =>
  dists1_in Fence.wide n trivial trivial rfl hn l Bc Bv cap cv A Av cs v J Jx w0 hY W hJ (hw.trans (hW.mono hw.size)) (pw_cell_below hW hBc) ((hW.block _ hBv.lt).trans hBv) hC hV hcv h0 (fun A0 c0 l0 A1 c1 l1 d1 d2 w h0 h1 h2 h3 h => callsIn_wide.2 (vdist_any A0 c0 l0 A1 c1 l1 d1 d2 w h0 h1 h2 h3 h))

theorem boxed_put {W : World} {B : Nat} {t : TypeId} {v : Value} (h : Boxed W B t v) (u : Value) : Boxed (W.setCell ⟨B, 0, none⟩ u) B t u := blk_set h 0 u

/-- The nearest so far. -/
def nearS (ps : List (Int × Int)) : Int × Int := ps.foldl (fun b x => if b.2 < 0 ∨ x.2 < b.2 then x else b) (0, -1)
theorem nearS_snoc (ps : List (Int × Int)) (x : Int × Int) : nearS (ps ++ [x]) = if (nearS ps).2 < 0 ∨ x.2 < (nearS ps).2 then x else nearS ps := by unfold nearS; rw [List.foldl_append]; rfl

def cell_Nearest.f (l0 : List (List Int)) (l1 : List Int) : Option (Int × Int × Int) := some (if bothE l0 l1 = 0 then ((nearS (dists l0 l1)).1, (nearS (dists l0 l1)).2, 0) else (0, 0, bothE l0 l1))

set_option maxRecDepth 100000 in
set_option maxHeartbeats 4000000 in
theorem nearest_good (A0 : Option Addr) (c0 : Nat) (l0 : List (List Int)) (A1 : Option Addr) (c1 : Nat) (l1 : List Int) (w : World) (hr0 : Kd.C (Kd.slice 21 (Kd.int .i32)) w A0 l0.length l0) (hc0 : l0.length ≤ c0) (hr1 : Kd.C (Kd.int .i32) w A1 l1.length l1) (hc1 : l1.length ≤ c1) (h : bothE l0 l1 = 0) :
    Calls Try.prog 29 #[.slice A0 l0.length c0, .slice A1 l1.length c1] w fun e w' => e = .returned (.tuple #[.int .i64 (nearS (dists l0 l1)).1, .int .i64 (nearS (dists l0 l1)).2, .int .i64 0]) ∧ Below w.heap.size w w' := by
  have K := cell_both.calls A0 c0 l0 A1 c1 l1 (bothE l0 l1) w hr0 hc0 hr1 hc1 (cell_both_f l0 l1)
  rw [h] at K
  have K := Aside0.mk K
  have HR0 := Aside0.mk hr0
  have HR1 := Aside0.mk hr1
  have HC1 := Aside0.mk hc1
  rename_i K0
  clear K0 h hr0 hr1 hc0 hc1
  refine (callsIn_wide (n := 5)).1 ?_
  refine callsIn_of_wp_marks Try.func29 rfl trivial ?_ rfl
  simp only [Try.ntmps29, List.size_toArray, List.length_cons, List.length_nil, Nat.reduceAdd, Nat.reduceSub, Array.replicate_succ, Array.replicate_zero, List.push_toArray, List.append_toArray, List.nil_append, List.cons_append]
  gi_wp2_with fail
  refine ⟨trivial, (callsIn_wide.2 K.out).mono ?_⟩
  rintro e w1 ⟨rfl, hB1⟩
  gi_wp2_with fail
  have BB : Aside0 (Boxed ((w1.alloc (.cells #[.int .i64 0] 3)).alloc (.cells #[.int .i64 (-1)] 2)) w1.heap.size 3 (.int .i64 0)) := ⟨(Boxed.new w1 3 _).alloc _⟩
  have BF : Aside0 (Boxed ((w1.alloc (.cells #[.int .i64 0] 3)).alloc (.cells #[.int .i64 (-1)] 2)) (w1.heap.size + 1) 2 (.int .i64 (-1))) := ⟨by have := Boxed.new (w1.alloc (.cells #[.int .i64 0] 3)) 2 (.int .i64 (-1)); rwa [World.size_alloc] at this⟩
  have HB2 := Aside0.mk (below_alloc (below_alloc hB1 (.cells #[.int .i64 0] 3)) (.cells #[.int .i64 (-1)] 2))
  have HS2 : Aside0 (w.heap.size ≤ w1.heap.size) := ⟨hB1.size⟩
  clear hB1 K
  generalize (w1.alloc (.cells #[.int .i64 0] 3)).alloc (.cells #[.int .i64 (-1)] 2) = W2 at BB BF HB2 ⊢
  generalize w1.heap.size = b1 at BB BF HS2 ⊢
  refine ⟨trivial, (callsIn_wide.2 (distances_any _ _ _ _ _ _ W2)).mono ?_⟩
  rintro e w3 ⟨rfl, rfl⟩
  gi_wp2_with fail
  have BC : Aside0 (Boxed ((W2.alloc (.cells #[.slice A0 l0.length c0] 51)).alloc (.cells #[.slice A1 l1.length c1] 52)) W2.heap.size 51 (.slice A0 l0.length c0)) := ⟨(Boxed.new W2 51 _).alloc _⟩
  have BV : Aside0 (Boxed ((W2.alloc (.cells #[.slice A0 l0.length c0] 51)).alloc (.cells #[.slice A1 l1.length c1] 52)) (W2.heap.size + 1) 52 (.slice A1 l1.length c1)) := ⟨by have := Boxed.new (W2.alloc (.cells #[.slice A0 l0.length c0] 51)) 52 (.slice A1 l1.length c1); rwa [World.size_alloc] at this⟩
  have BB3 := Aside0.mk ((BB.out.alloc (.cells #[.slice A0 l0.length c0] 51)).alloc (.cells #[.slice A1 l1.length c1] 52))
  have BF3 := Aside0.mk ((BF.out.alloc (.cells #[.slice A0 l0.length c0] 51)).alloc (.cells #[.slice A1 l1.length c1] 52))
  have HB3 := Aside0.mk (below_alloc (below_alloc HB2.out (.cells #[.slice A0 l0.length c0] 51)) (.cells #[.slice A1 l1.length c1] 52))
  have NB : Aside0 (b1 < W2.heap.size ∧ b1 + 1 < W2.heap.size) := ⟨BB.out.lt, BF.out.lt⟩
  generalize (W2.alloc (.cells #[.slice A0 l0.length c0] 51)).alloc (.cells #[.slice A1 l1.length c1] 52) = W3 at BC BV BB3 BF3 HB3 ⊢
  generalize W2.heap.size = b2 at BC BV NB ⊢
  clear BB BF HB2
  refine wpIn_rangeFunc_ownF rfl (by decide) (gf := 83) (lb := #[.pointer (some ⟨b2, 0, none⟩), .pointer (some ⟨b2 + 1, 0, none⟩)]) rfl trivial (enters_of Try.func83 (by kernel_rfl) rfl)
    (dists_stops 4 (by decide) b2 (b2 + 1) c0 c1 A0 A1 l0 l1 W3 w HB3.out BC.out.cell BV.out HR0.out HR1.out HC1.out) kpD_t (kpD_b HB3.out.size BV.out.lt) (Below.refl _ _) (fun _ => rfl)
    (fun pre W => (Boxed W b1 3 (.int .i64 (nearS pre).1) ∧ Boxed W (b1 + 1) 2 (.int .i64 (nearS pre).2)) ∧ Below w.heap.size w W)
    (fun _ _ _ => False)
    (OwnFrom.and (Own.from (fun s A B row hs hg hr => ⟨boxed_own b1 3 (fun pre => .int .i64 (nearS pre).1) s A B row hs.1 hg hr, boxed_own (b1 + 1) 2 (fun pre => .int .i64 (nearS pre).2) s A B row hs.2 hg hr⟩) _) (ownFrom_below (Nat.le_refl _) HB3.out.size))
    (fun _ _ _ _ _ hs _ _ => hs)
    ⟨⟨BB3.out, BF3.out⟩, HB3.out⟩
    (fun x => { tmps := #[.slice A0 l0.length c0, .slice A1 l1.length c1, undef, undef, .int .i64 0, .int .i64 0, .int .i64 0, .int .i64 0, .pointer (some ⟨b1, 0, none⟩), .pointer (some ⟨b1 + 1, 0, none⟩), .int .i64 x.1, .int .i64 x.2, .slice A0 l0.length c0, .slice A1 l1.length c1, .int .i64 0, .int .i64 0, .bool false, undef, .slice A0 l0.length c0, .slice A1 l1.length c1, .func (.func 83) #[] #[.pointer (some ⟨b2, 0, none⟩), .pointer (some ⟨b2 + 1, 0, none⟩)], .int .i64 x.1, .int .i64 x.2, undef, undef, undef, undef, undef, undef, undef, undef, undef, undef, undef], defers := [] })
    ?assign ?body ?done ?stop
  case assign =>
    intro l x W K hK
    gi_wp2
    exact hK
  case body =>
    rintro l pre x W ⟨⟨hb1, hb2⟩, hB⟩ _
    have c1 := hb1.cell
    have c2 := hb2.cell
    have f1 := hb1.frozen
    have f2 := hb2.frozen
    have HI := Aside0.mk (And.intro (And.intro hb1 hb2) hB)
    have HN := Aside0.mk (nearS_snoc pre x)
    obtain ⟨a, f, haf⟩ : ∃ a f, nearS pre = (a, f) := ⟨_, _, rfl⟩
    rw [haf] at HI HN
    simp only [haf] at c1 c2
    clear hb1 hb2 hB haf
    by_cases h1 : f < 0
    · have g1 : decide (f < 0) = true := decide_eq_true h1
      have HE : Aside0 (nearS (pre ++ [x]) = x) := ⟨by rw [HN.out, if_pos (.inl h1)]⟩
      clear h1 HN
      gi_wp2
      have b1' := Boxed.other (B' := b1 + 1) (boxed_put HI.out.1.1 (.int .i64 x.1)) (by omega) (.int .i64 x.2)
      have b2' := boxed_put (Boxed.other (B' := b1) HI.out.1.2 (by omega) (.int .i64 x.1)) (.int .i64 x.2)
      have n1 := NB.out
      exact ⟨(KeepsOthers.setCell _ _ _).trans (KeepsOthers.setCell _ _ _), ⟨((Below.refl w.heap.size W).setCell (p := ⟨b1, 0, none⟩) HS2.out _).setCell (p := ⟨b1 + 1, 0, none⟩) (Nat.le_succ_of_le HS2.out) _, by rw [Below.heap_setCell _ _ _ _ (by simp; omega), Below.heap_setCell _ _ _ _ (by simp; omega)]⟩, ⟨by rw [HE.out]; exact b1', by rw [HE.out]; exact b2'⟩, (HI.out.2.setCell (p := ⟨b1, 0, none⟩) HS2.out _).setCell (p := ⟨b1 + 1, 0, none⟩) (Nat.le_succ_of_le HS2.out) _⟩
    · by_cases h2 : x.2 < f
      · have g1 : decide (f < 0) = false := decide_eq_false h1
        have g2 : decide (x.2 < f) = true := decide_eq_true h2
        have HE : Aside0 (nearS (pre ++ [x]) = x) := ⟨by rw [HN.out, if_pos (.inr h2)]⟩
        clear h1 h2 HN
        gi_wp2
        have b1' := Boxed.other (B' := b1 + 1) (boxed_put HI.out.1.1 (.int .i64 x.1)) (by omega) (.int .i64 x.2)
        have b2' := boxed_put (Boxed.other (B' := b1) HI.out.1.2 (by omega) (.int .i64 x.1)) (.int .i64 x.2)
        have n1 := NB.out
        exact ⟨(KeepsOthers.setCell _ _ _).trans (KeepsOthers.setCell _ _ _), ⟨((Below.refl w.heap.size W).setCell (p := ⟨b1, 0, none⟩) HS2.out _).setCell (p := ⟨b1 + 1, 0, none⟩) (Nat.le_succ_of_le HS2.out) _, by rw [Below.heap_setCell _ _ _ _ (by simp; omega), Below.heap_setCell _ _ _ _ (by simp; omega)]⟩, ⟨by rw [HE.out]; exact b1', by rw [HE.out]; exact b2'⟩, (HI.out.2.setCell (p := ⟨b1, 0, none⟩) HS2.out _).setCell (p := ⟨b1 + 1, 0, none⟩) (Nat.le_succ_of_le HS2.out) _⟩
      · have g1 : decide (f < 0) = false := decide_eq_false h1
        have g2 : decide (x.2 < f) = false := decide_eq_false h2
        have HE : Aside0 (nearS (pre ++ [x]) = (a, f)) := ⟨by rw [HN.out, if_neg (fun h => h.elim h1 h2)]⟩
        clear h1 h2 HN
        gi_wp2
        exact ⟨KeepsOthers.refl _, ⟨Below.refl _ _, rfl⟩, by rw [HE.out]; exact HI.out.1, HI.out.2⟩
  case done =>
    rintro D ys W hD rfl ⟨⟨hb1, hb2⟩, hB⟩ hK
    have c1 := hb1.cell
    have c2 := hb2.cell
    gi_wp2_with fail
    gi_region
    all_goals gi_wp2
    have hK2 : W.drew.heap[D]? = some (.deferred (some [])) := hK
    refine ⟨by simp, .inl ⟨_, _, rfl, run_takeDeferred hK2, ?_⟩⟩
    refine ⟨.tuple #[.int .i64 (nearS (dists l0 l1)).1, .int .i64 (nearS (dists l0 l1)).2, .int .i64 0], by simp [results, Try.results29, go_sem], rfl, ?_⟩
    exact (below_drew hB).trans (belowK_b (w := w) (Nat.le_refl _) W.drew D _ _ (Nat.le_trans HB3.out.size hD) hK2 rfl rfl)
  case stop =>
    rintro D c pre W _ _ h _
    exact h.elim

set_option maxHeartbeats 1000000 in
theorem nearest_bad (A0 : Option Addr) (c0 : Nat) (l0 : List (List Int)) (A1 : Option Addr) (c1 : Nat) (l1 : List Int) (w : World) (hr0 : Kd.C (Kd.slice 21 (Kd.int .i32)) w A0 l0.length l0) (hc0 : l0.length ≤ c0) (hr1 : Kd.C (Kd.int .i32) w A1 l1.length l1) (hc1 : l1.length ≤ c1) (h : bothE l0 l1 ≠ 0) :
    Calls Try.prog 29 #[.slice A0 l0.length c0, .slice A1 l1.length c1] w fun e w' => e = .returned (.tuple #[.int .i64 0, .int .i64 0, .int .i64 (bothE l0 l1)]) ∧ Below w.heap.size w w' := by
  have K := Aside0.mk (cell_both.calls A0 c0 l0 A1 c1 l1 (bothE l0 l1) w hr0 hc0 hr1 hc1 (cell_both_f l0 l1))
  clear hr0 hr1 hc0 hc1
  obtain ⟨E, hE⟩ : ∃ E, E = bothE l0 l1 := ⟨_, rfl⟩
  rw [← hE] at K h ⊢
  clear hE
  have z1 : (E != 0) = true := by simpa using h
  have z2 : (E == 0) = false := by simpa using h
  clear h
  go_enter Try.func29, Try.ntmps29
  go_wp2_with fail
  refine K.out.mono ?_
  rintro e w1 ⟨rfl, hB⟩
  go_wp2_with fail
  go_ret3
  exact ⟨rfl, hB⟩

theorem cell_Nearest.calls (A0 : Option Addr) (c0 : Nat) (l0 : List (List Int)) (A1 : Option Addr) (c1 : Nat) (l1 : List Int) (r1 r2 r3 : Int) (w : World) (hr0 : Kd.C (Kd.slice 21 (Kd.int .i32)) w A0 l0.length l0) (hc0 : l0.length ≤ c0) (hr1 : Kd.C (Kd.int .i32) w A1 l1.length l1) (hc1 : l1.length ≤ c1) (h : cell_Nearest.f l0 l1 = some (r1, r2, r3)) :
    Calls Try.prog 29 #[.slice A0 l0.length c0, .slice A1 l1.length c1] w fun e w' => e = .returned (.tuple #[.int .i64 r1, .int .i64 r2, .int .i64 r3]) ∧ Below w.heap.size w w' := by
  unfold cell_Nearest.f at h
  by_cases hz : bothE l0 l1 = 0
  · rw [if_pos hz] at h
    injection h with h
    injection h with h1 h
    injection h with h2 h3
    subst h1 h2 h3
    exact nearest_good A0 c0 l0 A1 c1 l1 w hr0 hc0 hr1 hc1 hz
  · rw [if_neg hz] at h
    injection h with h
    injection h with h1 h
    injection h with h2 h3
    subst h1 h2 h3
    exact nearest_bad A0 c0 l0 A1 c1 l1 w hr0 hc0 hr1 hc1 hz

/-- A cent and its distance as an entry. -/
def toN (p : Int × Int) : S30 := ⟨p.2, p.1⟩
def farS (c : List (List Int)) (v : List Int) : List S30 := isort nlt ((dists c v).map toN)
theorem dists_length (c : List (List Int)) (v : List Int) : (dists c v).length = c.length := upto_length _ _
def cell_Far.f (l0 : List (List Int)) (l1 : List Int) : Option (List S30 × Int) := some (if bothE l0 l1 = 0 then (farS l0 l1, 0) else ([], bothE l0 l1))

set_option maxHeartbeats 1000000 in
theorem far_bad (A0 : Option Addr) (c0 : Nat) (l0 : List (List Int)) (A1 : Option Addr) (c1 : Nat) (l1 : List Int) (w : World) (hr0 : Kd.C (Kd.slice 21 (Kd.int .i32)) w A0 l0.length l0) (hc0 : l0.length ≤ c0) (hr1 : Kd.C (Kd.int .i32) w A1 l1.length l1) (hc1 : l1.length ≤ c1) (h : bothE l0 l1 ≠ 0) :
    Calls Try.prog 37 #[.slice A0 l0.length c0, .slice A1 l1.length c1] w fun e w' => e = .returned (.tuple #[.slice none 0 0, .int .i64 (bothE l0 l1)]) ∧ Below w.heap.size w w' := by
  have K := Aside0.mk (cell_both.calls A0 c0 l0 A1 c1 l1 (bothE l0 l1) w hr0 hc0 hr1 hc1 (cell_both_f l0 l1))
  clear hr0 hr1 hc0 hc1
  obtain ⟨E, hE⟩ : ∃ E, E = bothE l0 l1 := ⟨_, rfl⟩
  rw [← hE] at K h ⊢
  clear hE
  have z1 : (E != 0) = true := by simpa using h
  have z2 : (E == 0) = false := by simpa using h
  clear h
  go_enter Try.func37, Try.ntmps37
  go_wp2_with fail
  refine K.out.mono ?_
  rintro e w1 ⟨rfl, hB⟩
  go_wp2_with fail
  go_ret2
  exact ⟨rfl, hB⟩

theorem bothE_len {c : List (List Int)} {v : List Int} (h : bothE c v = 0) : 1 ≤ c.length ∧ c.length ≤ 4096 := by
  unfold bothE at h
  by_cases h1 : chkC c = 0
  · exact chkC_len h1
  · rw [if_neg h1] at h; exact absurd h h1

set_option maxRecDepth 100000 in
set_option maxHeartbeats 4000000 in
theorem far_good (A0 : Option Addr) (c0 : Nat) (l0 : List (List Int)) (A1 : Option Addr) (c1 : Nat) (l1 : List Int) (w : World) (hr0 : Kd.C (Kd.slice 21 (Kd.int .i32)) w A0 l0.length l0) (hc0 : l0.length ≤ c0) (hr1 : Kd.C (Kd.int .i32) w A1 l1.length l1) (hc1 : l1.length ≤ c1) (h : bothE l0 l1 = 0) :
    Calls Try.prog 37 #[.slice A0 l0.length c0, .slice A1 l1.length c1] w fun e w' => ∃ v, e = .returned (.tuple #[v, .int .i64 0]) ∧ Kd.R k30 30 w' w.heap.size (fun _ => True) v (farS l0 l1) ∧ Below w.heap.size w w' := by
  obtain ⟨i0, hi, hz0, hz1, hz2⟩ := info_parts info30
  have K := cell_both.calls A0 c0 l0 A1 c1 l1 (bothE l0 l1) w hr0 hc0 hr1 hc1 (cell_both_f l0 l1)
  rw [h] at K
  have HLl := Aside0.mk (bothE_len h)
  have K := Aside0.mk K
  have HR0 := Aside0.mk hr0
  have HR1 := Aside0.mk hr1
  have HC1 := Aside0.mk hc1
  rename_i K0
  clear K0 h hr0 hr1 hc0 hc1
  refine (callsIn_wide (n := 5)).1 ?_
  refine callsIn_of_wp_marks Try.func37 rfl trivial ?_ rfl
  simp only [Try.ntmps37, List.size_toArray, List.length_cons, List.length_nil, Nat.reduceAdd, Nat.reduceSub, Array.replicate_succ, Array.replicate_zero, List.push_toArray, List.append_toArray, List.nil_append, List.cons_append]
  gi_wp2_with fail
  refine ⟨trivial, (callsIn_wide.2 K.out).mono ?_⟩
  rintro e w1 ⟨rfl, hB1⟩
  gi_wp2_with fail
  have BB : Aside0 (Boxed (w1.alloc (.cells #[.slice none 0 0] 22)) w1.heap.size 22 (.slice none 0 0)) := ⟨Boxed.new w1 22 _⟩
  have HB2 := Aside0.mk (below_alloc hB1 (.cells #[.slice none 0 0] 22))
  have HS2 : Aside0 (w.heap.size ≤ w1.heap.size) := ⟨hB1.size⟩
  clear hB1 K
  generalize w1.alloc (.cells #[.slice none 0 0] 22) = W2 at BB HB2 ⊢
  generalize w1.heap.size = b1 at BB HS2 ⊢
  refine ⟨trivial, (callsIn_wide.2 (distances_any _ _ _ _ _ _ W2)).mono ?_⟩
  rintro e w3 ⟨rfl, rfl⟩
  gi_wp2_with fail
  have BC : Aside0 (Boxed ((W2.alloc (.cells #[.slice A0 l0.length c0] 51)).alloc (.cells #[.slice A1 l1.length c1] 52)) W2.heap.size 51 (.slice A0 l0.length c0)) := ⟨(Boxed.new W2 51 _).alloc _⟩
  have BV : Aside0 (Boxed ((W2.alloc (.cells #[.slice A0 l0.length c0] 51)).alloc (.cells #[.slice A1 l1.length c1] 52)) (W2.heap.size + 1) 52 (.slice A1 l1.length c1)) := ⟨by have := Boxed.new (W2.alloc (.cells #[.slice A0 l0.length c0] 51)) 52 (.slice A1 l1.length c1); rwa [World.size_alloc] at this⟩
  have BB3 := Aside0.mk ((BB.out.alloc (.cells #[.slice A0 l0.length c0] 51)).alloc (.cells #[.slice A1 l1.length c1] 52))
  have HB3 := Aside0.mk (below_alloc (below_alloc HB2.out (.cells #[.slice A0 l0.length c0] 51)) (.cells #[.slice A1 l1.length c1] 52))
  have NB : Aside0 (b1 < W2.heap.size) := ⟨BB.out.lt⟩
  generalize (W2.alloc (.cells #[.slice A0 l0.length c0] 51)).alloc (.cells #[.slice A1 l1.length c1] 52) = W3 at BC BV BB3 HB3 ⊢
  generalize W2.heap.size = b2 at BC BV NB ⊢
  clear BB HB2
  refine wpIn_rangeFunc_ownF rfl (by decide) (gf := 83) (lb := #[.pointer (some ⟨b2, 0, none⟩), .pointer (some ⟨b2 + 1, 0, none⟩)]) rfl trivial (enters_of Try.func83 (by kernel_rfl) rfl)
    (dists_stops 4 (by decide) b2 (b2 + 1) c0 c1 A0 A1 l0 l1 W3 w HB3.out BC.out.cell BV.out HR0.out HR1.out HC1.out) kpD_t (kpD_b HB3.out.size BV.out.lt) (Below.refl _ _) (fun _ => rfl)
    (fun pre W => ((∃ v, Boxed W b1 22 v ∧ W.ownsRow w.heap.size 30 2 v pre.length (fl (pre.map toN)) ∧ True) ∧ Boxed W (b2 + 1) 52 (.slice A1 l1.length c1)) ∧ Below w.heap.size w W)
    (fun _ _ _ => False)
    (OwnFrom.and (OwnFrom.and (Own.from (holdsRow_own w.heap.size b1 22 30 2 (fun pre : List (Int × Int) => pre.length) (fun pre => fl (pre.map toN)) (fun _ _ => True)) _) (Own.from (boxed_own (b2 + 1) 52 (fun _ => .slice A1 l1.length c1)) _)) (ownFrom_below (Nat.le_refl _) HB3.out.size))
    (fun _ _ _ _ _ hs _ _ => hs)
    ⟨⟨⟨_, BB3.out, World.ownsRow_nil _ _ _ _, trivial⟩, BV.out⟩, HB3.out⟩
    (fun x => { tmps := #[.slice A0 l0.length c0, .slice A1 l1.length c1, undef, undef, .slice none 0 0, .int .i64 0, .int .i64 0, .pointer (some ⟨b1, 0, none⟩), .int .i64 x.1, .int .i64 x.2, .slice A0 l0.length c0, .slice A1 l1.length c1, .int .i64 0, .int .i64 0, .bool false, undef, .slice A0 l0.length c0, .slice A1 l1.length c1, .func (.func 83) #[] #[.pointer (some ⟨b2, 0, none⟩), .pointer (some ⟨b2 + 1, 0, none⟩)], .int .i64 x.1, .int .i64 x.2, undef, undef, undef, undef, undef, undef, undef, undef], defers := [] })
    ?assign ?body ?done ?stop
  case assign =>
    intro l x W K hK
    gi_wp2
    exact hK
  case body =>
    rintro l pre x W ⟨⟨⟨v, hv, hrow, _⟩, hbv⟩, hB⟩ hlt
    have hc := hv.cell
    have hll := HLl.out
    have HBV := Aside0.mk hbv
    clear hbv
    gi_wp2_with (gi_at_builtin; refine wpListIn_append_own _ rfl _ _ 22 rfl w.heap.size 30 i0 (.agg #[.int .i64 0, .int .i64 0]) 2 16 Try.underlying22 hi hz0 hz1 hz2 rfl (by decide) _ _ _ rfl (hrow.alloc _) ⟨W.heap.size, 0, none⟩ 1 1 [.int .i64 x.2, .int .i64 x.1] rfl rfl (World.news_of_block (cs := #[.int .i64 x.2, .int .i64 x.1]) (t := 30) (fr := (0, 0)) (heap_alloc_new W _)) (by simp [Value.oneCell']) (by have := hlt; simp only [maxLen]; omega) (by omega) (by have := hB.size; simp; omega) ?_; intro v' w1 hown' hgrow _; obtain ⟨g', cap', rfl⟩ := ownsRow_succ hown'; obtain ⟨hv1, hv2, hr2, hk2, hb2⟩ := hv.appended (by decide) hrow hB.size HS2.out hown' hgrow; have hc1 := hv1.cell; have hf1 := hv1.frozen)
    have hne := own_ne hrow HBV.out (by decide)
    have hbx : (w1.setCell ⟨b1, 0, none⟩ (.slice (some ⟨g', 0, none⟩) (pre.length + 1) cap')).heap[b2 + 1]? = W.heap[b2 + 1]? := by
      rw [Below.heap_setCell _ _ _ _ (by have := NB.out; simp; omega)]
      exact (hgrow.block (b2 + 1) (by have := HBV.out.lt; simp; omega) hne).trans ((World.grownBy_alloc W _ none).block (b2 + 1) HBV.out.lt (by simp))
    refine ⟨hk2, ⟨hb2, hbx⟩, ⟨⟨_, hv2, ?_, trivial⟩, hbx.trans HBV.out⟩, hB.trans hb2⟩
    rw [List.map_append, List.map_singleton, fl_snoc]
    simpa [enc30, toN] using hr2
  case done =>
    rintro D ys W hD rfl ⟨⟨⟨v, hv, hrow, _⟩, _⟩, hB⟩ hK
    have hc := hv.cell
    have hl : ((dists l0 l1).map toN).length = l0.length := by rw [List.length_map, dists_length]
    have hR : Kd.R k30 30 W w.heap.size (fun _ => True) v ((dists l0 l1).map toN) := ⟨fun _ _ => trivial, fl _, by rw [List.length_map]; exact hrow, fl_reps _ (fun x => k30_mkM _ _ _ x)⟩
    have hD2 := (Array.getElem?_eq_some_iff.1 hK).1
    obtain ⟨A, c, rfl⟩ := Kd.R_slice hR
    have S0 := sorted_any A c _ W (Kd.R_reads' hR).2.2 (Kd.R_reads' hR).2.1 (by rw [hl]; have := HLl.out; omega)
    rw [List.length_map] at S0
    have S := Aside0.mk S0
    clear hrow hv hR hl S0
    gi_wp2_with fail
    refine ⟨trivial, (callsIn_wide.2 S.out).mono ?_⟩
    rintro e w4 ⟨v4, rfl, hR4, hb4⟩
    have hK4 : w4.heap[D]? = some (.deferred (some [])) := (hb4.block D hD2).trans hK
    have HB4 := Aside0.mk (hB.trans (hb4.mono hB.size))
    clear hb4
    gi_wp2
    refine ⟨by simp, .inl ⟨_, _, rfl, run_takeDeferred hK4, ?_⟩⟩
    refine ⟨.tuple #[v4, .int .i64 0], by simp [results, Try.results37, go_sem], v4, rfl, ?_, ?_⟩
    · exact Kd.R_lower (Kd.R_mono (Kd.R_step (Kd.R_bound hR4) (fun b hb _ => World.putObj_heap_other (fun e => by have := hb.2.1; omega))) (fun _ _ => trivial)) hB.size
    · exact HB4.out.trans (belowK_b (w := w) (Nat.le_refl _) w4 D _ _ (Nat.le_trans HB3.out.size hD) hK4 rfl rfl)
  case stop =>
    rintro D c pre W _ _ h _
    exact h.elim

theorem cell_Far.calls (A0 : Option Addr) (c0 : Nat) (l0 : List (List Int)) (A1 : Option Addr) (c1 : Nat) (l1 : List Int) (r1 : List S30) (r2 : Int) (w : World) (hr0 : Kd.C (Kd.slice 21 (Kd.int .i32)) w A0 l0.length l0) (hc0 : l0.length ≤ c0) (hr1 : Kd.C (Kd.int .i32) w A1 l1.length l1) (hc1 : l1.length ≤ c1) (h : cell_Far.f l0 l1 = some (r1, r2)) :
    Calls Try.prog 37 #[.slice A0 l0.length c0, .slice A1 l1.length c1] w fun e w' => ∃ v0_ : Value, e = .returned (.tuple #[v0_, .int .i64 r2]) ∧ Kd.R k30 30 w' w.heap.size (fun _ => True) v0_ r1 ∧ Below w.heap.size w w' := by
  unfold cell_Far.f at h
  by_cases hz : bothE l0 l1 = 0
  · rw [if_pos hz] at h
    injection h with h
    injection h with h1 h2
    subst h1 h2
    exact far_good A0 c0 l0 A1 c1 l1 w hr0 hc0 hr1 hc1 hz
  · rw [if_neg hz] at h
    injection h with h
    injection h with h1 h2
    subst h1 h2
    exact (far_bad A0 c0 l0 A1 c1 l1 w hr0 hc0 hr1 hc1 hz).mono fun e w' ⟨he, hB⟩ => ⟨_, he, Kd.R_nil _ _ _ _ _, hB⟩
end Go.Proofs.Ytbdkgdbfnkogaaa.R
end
