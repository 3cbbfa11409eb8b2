/-
  slices.SortedFunc at an iterator of entries, and rank.Sorted, by their contracts. Conditions: the iterator keeps its word; lengths within the reach.
-/
import Derived.Test.YtbdkgdbfnkogaaaIter
namespace Go.Proofs.Ytbdkgdbfnkogaaa.R
open Go.Shelf Go.RowKit Go.Lib Go.Sort Go.Proofs Go.Proofs.YtbdkgdbfnkogaaaW.PrintWords Go.Proofs.YtbdkgdbfnkogaaaW.PrintLast Go.Proofs.YtbdkgdbfnkogaaaW.PrintMore Go.Proofs.Ytbdkgdbfnkogaaa.Plain
set_option linter.unusedVariables false
set_option linter.unusedSimpArgs false

section
variable {gf : Nat} {lb : Array Value} {zs : List S30} {Sp : List S30 → Prop} {w w0 : World}
theorem collect_any (egf : ∀ args w, (callFunc gf args).run Try.prog w = .ok (.enter gf args) w) (hw0 : w0.heap.size ≤ w.heap.size)
    (hseq : SeqStopsK Fence.wide 1 Try.prog gf lb (fun x : S30 => #[.agg #[.int .i64 x.f0, .int .i64 x.f1]]) (Below w0.heap.size) (fun ys => ys = zs) Sp zs.length w) (hreach : zs.length * 16 ≤ 140737488351232) :
    Calls Try.prog 81 #[.func (.func gf) #[] lb] w fun e W' => ∃ v, e = .returned v ∧ Kd.R k30 30 W' w.heap.size (fun _ => True) v zs ∧ Below w0.heap.size w W' := by
  have C := callsIn_wide.1 (appendSeq_in Fence.wide 2 (by decide) trivial gf trivial rfl egf lb zs Sp w w0 hw0 hseq hreach)
  clear hseq
  go_enter Try.func81, Try.ntmps81
  go_wp2_with (go_at_call 105; refine C.mono ?_; rintro e w1 ⟨v, rfl, hR, hB⟩)
  go_ret
  exact ⟨v, rfl, hR, hB⟩

theorem sortedFunc_any (egf : ∀ args w, (callFunc gf args).run Try.prog w = .ok (.enter gf args) w) (hw0 : w0.heap.size ≤ w.heap.size)
    (hseq : SeqStopsK Fence.wide 1 Try.prog gf lb (fun x : S30 => #[.agg #[.int .i64 x.f0, .int .i64 x.f1]]) (Below w0.heap.size) (fun ys => ys = zs) Sp zs.length w) (hreach : zs.length * 16 ≤ 140737488351232) :
    Calls Try.prog 54 #[.func (.func gf) #[] lb, .func (.func 52) #[] #[]] w fun e W' => ∃ v, e = .returned v ∧ Kd.R k30 30 W' w.heap.size (fun _ => True) v (isort nlt zs) ∧ Below w0.heap.size w W' := by
  have C := Aside0.mk (collect_any egf hw0 hseq hreach)
  clear hseq
  rcases Nat.eq_zero_or_pos zs.length with hz | hz
  · obtain rfl := List.eq_nil_of_length_eq_zero hz
    go_enter Try.func54, Try.ntmps54
    go_wp2_with fail
    refine C.out.mono ?_
    rintro e w1 ⟨v, rfl, hR, hB⟩
    have HR := Aside0.mk hR
    have HB := Aside0.mk hB
    obtain ⟨A, c, rfl⟩ := Kd.R_slice hR
    clear hR hB C
    have hs := AnyF.slices_SortFunc_none { Try.sortNear with } A c (.func (.func 52) #[] #[])
    change ∀ w, Calls Try.prog 53 #[.slice A 0 c, .func (.func 52) #[] #[]] w _ at hs
    go_wp2_with (go_at_call 53; refine (hs _).mono ?_; rintro e w' ⟨rfl, rfl⟩)
    go_ret
    exact ⟨_, rfl, HR.out, HB.out⟩
  · go_enter Try.func54, Try.ntmps54
    go_wp2_with fail
    refine C.out.mono ?_
    rintro e w1 ⟨v, rfl, hR, hB⟩
    obtain ⟨g, cap, rfl, gb, gl, _⟩ := Kd.R_form hR hz
    have S := Aside0.mk (sort_any hR (by omega))
    have HB := Aside0.mk hB
    clear hR hB C
    go_wp2_with fail
    refine S.out.mono ?_
    rintro e w2 ⟨rfl, hR2, hK2, hB2⟩
    have HR := Aside0.mk hR2
    have HB2 := Aside0.mk hB2
    clear hR2 hK2 hB2 S
    go_wp2
    go_ret
    exact ⟨_, rfl, HR.out, HB.out.trans (HB2.out.mono (Nat.le_trans hw0 gb))⟩
end

theorem spot_of_C {α : Type} {d : Kd α} {w : World} {A : Option Addr} {zs : List α} (hs : 0 < d.sz) (hC : Kd.C d w A zs.length zs) (z : α) : ∀ ad, A = some ad → 0 < zs.length → ad.block < w.heap.size ∧ ad.spot = none := by
  intro ad h hz
  obtain ⟨ad', c, ea, hl, hK, hc⟩ := Kd.C_get hC z 0 (Int.le_refl _) (by omega)
  rw [h] at ea
  injection ea with ea
  subst ea
  have hlen := d.K_len hK
  have h0 := hc 0 (c[0]'(by omega)) (List.getElem?_eq_getElem _)
  simp at h0
  refine ⟨?_, ?_⟩
  · have := World.block_lt_of_cell? w _ h0
    unfold Addr.add at this
    split at this <;> simpa using this
  · cases hsp : ad.spot with
    | none => rfl
    | some s =>
      exfalso
      unfold World.cell? Addr.add at h0
      simp [hsp] at h0
      split at h0 <;> simp_all

/-- rank.Sorted. -/
theorem sorted_any (A : Option Addr) (c : Nat) (zs : List S30) (w : World) (hC : Kd.C k30 w A zs.length zs) (hc : zs.length ≤ c) (hreach : zs.length * 16 ≤ 140737488351232) :
    Calls Try.prog 18 #[.slice A zs.length c] w fun e W' => ∃ v, e = .returned v ∧ Kd.R k30 30 W' w.heap.size (fun _ => True) v (isort nlt zs) ∧ Below w.heap.size w W' := by
  have V := callsIn_wide.1 (values_in Fence.wide 1 trivial rfl A zs.length c w)
  have hB0 : Below w.heap.size w (w.alloc (.cells #[.slice A zs.length c] 22)) := (Below.refl _ w).alloc (Nat.le_refl _) _
  have C := Aside0.mk (sortedFunc_any (w0 := w) (enters_of Try.func82 (by kernel_rfl) rfl) (by simp) (values_stops Fence.wide 1 trivial rfl (by decide) w.heap.size c A zs hreach (w.alloc (.cells #[.slice A zs.length c] 22)) (by simp) w.heap.size (by simp) (Boxed.new w 22 _).cell (Kd.C_below hC hB0) (spot_of_C (by decide) hC z30)) hreach)
  clear hC
  go_enter Try.func18, Try.ntmps18
  go_wp2_with (first | (go_at_call 55; refine V.mono ?_; rintro e w1 ⟨rfl, rfl⟩) | (go_at_call 54; refine C.out.mono ?_; rintro e w1 ⟨v, rfl, hR, hB⟩))
  go_ret
  exact ⟨_, rfl, Kd.R_lower hR (by simp), hB0.trans hB⟩
end Go.Proofs.Ytbdkgdbfnkogaaa.R
