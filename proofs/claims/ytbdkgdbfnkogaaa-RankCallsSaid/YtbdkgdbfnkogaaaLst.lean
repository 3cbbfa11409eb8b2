/-
  slices.SortFunc at entries by rank's order, and a Top's List, by their contracts. Conditions: the row, or the Top, lies as told.
-/
import Derived.Test.YtbdkgdbfnkogaaaAdd
import Derived.Test.YtbdkgdbfnkogaaaCopyK
import Derived.Test.YtbdkgdbfnkogaaaShelf
import Derived.Shelf.SlSortCmp.NoneTotal
namespace Go.Proofs.Ytbdkgdbfnkogaaa.R
open Go.Shelf Go.RowKit Go.Lib Go.Sort Go.Proofs Go.Proofs.YtbdkgdbfnkogaaaW.PrintWords Go.Proofs.YtbdkgdbfnkogaaaW.PrintLast Go.Proofs.YtbdkgdbfnkogaaaW.PrintMore Go.Proofs.Ytbdkgdbfnkogaaa.Plain
set_option linter.unusedVariables false
set_option linter.unusedSimpArgs false

theorem ltOf_ncmp : ltOf ncmp = nlt := by
  funext x y
  exact ncmp_neg x y

theorem nlt_swo : SWO (ltOf ncmp) := by
  rw [ltOf_ncmp]
  exact ⟨nlt_sto.irrefl, nlt_sto.trans, fun x y z h1 h2 => nlt_sto.ntrans h2 h1⟩

theorem merge_isort (xs : List S30) : xs.mergeSort (fun x y => !(nlt y x)) = isort nlt xs := by
  refine isort_eq nlt_sto ?_ (List.mergeSort_perm _ _)
  have h := List.pairwise_mergeSort (le := fun x y => !(nlt y x)) (fun a b c h1 h2 => by
    simp only [Bool.not_eq_true'] at h1 h2 ⊢
    exact nlt_sto.ntrans h1 h2) (fun a b => by
    cases h1 : nlt b a with
    | false => simp
    | true => simp [nlt_sto.asymm h1]) xs
  exact h.imp (fun h => by simpa using h)

theorem order_enters : ∀ args w, (callFunc 52 args).run Try.prog w = .ok (.enter 52 args) w := enters_of Try.func52 (by kernel_rfl) rfl
theorem order_lays (blk off size : Nat) (w : World) : CmpLays Try.prog 52 #[] enc30 2 ncmp blk off size w := fun _ _ _ _ x y => order_any x y _

section
variable {base g cap n : Nat} {ok : Nat → Prop} {w : World} {xs : List S30}
/-- slices.SortFunc at a row of one's own. -/
theorem sort_any (h : Kd.R k30 30 w base ok (.slice (some ⟨g, 0, none⟩) n cap) xs) (hb : xs.length < 4611686018427387904) :
    Calls Try.prog 53 #[.slice (some ⟨g, 0, none⟩) n cap, .func (.func 52) #[] #[]] w fun e w' => e = .returned (.tuple #[]) ∧ Kd.R k30 30 w' base ok (.slice (some ⟨g, 0, none⟩) n cap) (isort nlt xs) ∧ Kept w w' (fun b => b = g) ∧ Below g w w' := by
  have hr := Kd.R_reads' h
  have hn : n = xs.length := hr.1
  have hlt := own_lt h.2.choose_spec.1 g rfl
  have h' := h
  rw [hn] at h'
  have hcon := AnyQ.slices_SortFunc_total Try.sortNear 2 agg30 size30 enc30 plain30.sz plain30.one ncmp nlt_swo 52 #[] g 0 cap xs.toArray w order_enters (order_lays g 0 _ w) (holds_of_R plain30 h') hlt (by simpa using hb) (fun x y h1 h2 => by
    rw [ltOf_ncmp] at h1 h2
    exact nlt_sto.total x y h1 h2)
  have hs : xs.toArray.size = n := by simp [hn]
  change Calls Try.prog 53 #[.slice (some ⟨g, 0, none⟩) xs.toArray.size cap, .func (.func 52) #[] #[]] _ _ at hcon
  rw [hs] at hcon
  refine hcon.mono ?_
  rintro e w' ⟨he, m, os, hw⟩
  rw [ltOf_ncmp, merge_isort] at hw
  have S : SWK enc30 2 w g 0 (isort nlt xs).toArray w' := ⟨m, os, hw⟩
  refine ⟨he, ?_, kept_of_swk S hlt, below_of_swk S hlt (Nat.le_refl g)⟩
  have := R_of_swk plain30 hn h (d' := (isort nlt xs).toArray) (by simp [isort_length]) S
  simpa using this
end

theorem R_at_block {α : Type} {d : Kd α} {e base b : Nat} {ok : Nat → Prop} {w : World} {v : Value} {xs : List α} (h : d.R e w base ok v xs) (hb : v.ownBlock = some b) : ∃ cap, v = .slice (some ⟨b, 0, none⟩) xs.length cap := by
  obtain ⟨_, inner, ho, _⟩ := h
  rcases ho.2 with ⟨hv, _⟩ | ⟨g', cap', cur, hv, _⟩
  · rw [hv] at hb; simp [Value.ownBlock] at hb
  · rw [hv] at hb
    have : g' = b := by simpa [Value.ownBlock] using hb
    subst this
    exact ⟨cap', hv⟩

section
variable {base : Nat} {S : Nat → Prop} {w : World} {p k : Nat} {l : List S30}
set_option maxHeartbeats 1000000 in
set_option maxRecDepth 100000 in
theorem list_any (T : TopAt base S w p k l) : Calls Try.prog 16 #[.pointer (some ⟨p, 0, none⟩)] w fun e w' => ∃ v, e = .returned v ∧ Kd.R k30 30 w' w.heap.size (fun _ => True) v l ∧ Below w.heap.size w w' := by
  obtain ⟨hv, h, T⟩ := T
  obtain ⟨A, c, rfl⟩ := Kd.R_slice T.row
  obtain ⟨c0, c1, f0, f1⟩ := T.cells
  have T0 := Aside0.mk T
  clear T
  go_enter Try.func16, Try.ntmps16
  have HL := Aside0.mk (show (h.length : Int).toNat * 16 ≤ 281474976710656 by have := T0.out.hlen; have := T0.out.len; have := T0.out.most; omega)
  have HZ : Aside0 ((List.replicate (h.length : Int).toNat z30).length = h.length) := ⟨by simp⟩
  go_wp2_with (first
    | ((with_reducible refine gate_dst (N := 11) rfl ?_); refine Kd.R_make k30 (w0 := w) w.heap.size 30 rfl (N := 11) rfl 22 _ _ rfl (h.length : Int) rfl rfl Try.underlying22 (.agg #[.int .i64 0, .int .i64 0]) 16 info30 rfl (by decide) (by decide) z30 (okp := fun _ => False) (ok := fun _ => True) (k30_mkM _ _ _ z30) (fun _ _ => trivial) trivial (Int.natCast_nonneg _) HL.out (Below.refl _ _) (Nat.le_refl _) ?_; intro v1 w1 hR1 hB1 hg1 hat1; obtain ⟨b, hb, hle⟩ := hat1; obtain ⟨c2, rfl⟩ := R_at_block hR1 hb; rw [HZ.out] at hR1 hb ⊢; have HB1 := Aside0.mk hB1; have R1 := Aside0.mk hR1; have HLE := Aside0.mk hle; have T1 := Aside0.mk (T0.out.step fun b _ hlt => hB1.block b hlt); clear hR1 hB1 hg1 hb hle T0 c0 c1 f0 f1; obtain ⟨c0, c1, f0, f1⟩ := T1.out.cells; clear HL HZ)
    | ((with_reducible refine gate_builtin (b := .copy) (xs := #[.tmp 12, .tmp 16]) rfl ?_); refine wpList_copy_all plain30 rfl (.tmp 12) (.tmp 16) 22 81 rfl Try.underlying22 (by kernel_rfl) rfl rfl R1.out (Kd.R_reads' T1.out.row).2.2 ?_; intro w2 hR2 hK2 hB2; have R2 := Aside0.mk hR2; have HB2 := Aside0.mk hB2; clear hR2 hB2 hK2 c0 c1 f0 f1)
    | (go_at_call 53; refine (sort_any R2.out (by have := T1.out.hlen; have := T1.out.len; have := T1.out.most; omega)).mono ?_; rintro e w3 ⟨rfl, hR3, hK3, hB3⟩; have R3 := Aside0.mk hR3; have HB3 := Aside0.mk hB3; clear hR3 hB3 hK3))
  go_ret
  have hs : isort nlt h = l := (isort_eq nlt_sto T1.out.srt T1.out.perm.symm).symm
  refine ⟨_, rfl, ?_, ?_⟩
  · rw [← hs]; exact R3.out
  · exact (HB1.out.trans (HB2.out.mono HLE.out)).trans (HB3.out.mono HLE.out)
end
end Go.Proofs.Ytbdkgdbfnkogaaa.R
