import Derived.Test.YtbdkgdbfnkogaaaB12
import Derived.Test.YtbdkgdbfnkogaaaB7
import Derived.DeepKeys4
import Derived.WideKeyEntry
import Derived.MapKept

section
/-
  wayfinderkit.Same at entries tells whether two lists are the same. No condition but their sizes.
-/
namespace Go.Proofs.Ytbdkgdbfnkogaaa.R
open Go.RowKit Go.Proofs.YtbdkgdbfnkogaaaW.PrintWords Go.Proofs.YtbdkgdbfnkogaaaW.PrintLast Go.Proofs.YtbdkgdbfnkogaaaW.PrintMore
set_option linter.unusedVariables false
set_option linter.unusedSimpArgs false

instance : DecidableEq S30 := fun a b => if h : a.f0 = b.f0 ∧ a.f1 = b.f1 then isTrue (S30.ext' h.1 h.2) else isFalse (fun e => h (by rw [e]; exact ⟨rfl, rfl⟩))

theorem same_loop (a b : List S30) (hl : a.length = b.length) (hm : a.length < 9223372036854775807) : ∀ d i, i + d = a.length → ∀ k, d < k → api_Near_17.l0 k a b (i : Int) = some (decide (a.drop i = b.drop i)) := by
  intro d
  induction d with
  | zero =>
    intro i hi k hk
    obtain ⟨k, rfl⟩ : ∃ k', k = k' + 1 := ⟨k - 1, by omega⟩
    unfold api_Near_17.l0
    rw [if_neg (by omega), List.drop_of_length_le (by omega), List.drop_of_length_le (by omega)]
    simp
  | succ d ih =>
    intro i hi k hk
    obtain ⟨k, rfl⟩ : ∃ k', k = k' + 1 := ⟨k - 1, by omega⟩
    unfold api_Near_17.l0
    have ha : i < a.length := by omega
    have hb : i < b.length := by omega
    have e1 : rd_T30 a (i : Int) = a[i] := by unfold rd_T30; rw [Int.toNat_natCast, List.getD_eq_getElem?_getD, List.getElem?_eq_getElem ha]; rfl
    have e2 : rd_T30 b (i : Int) = b[i] := by unfold rd_T30; rw [Int.toNat_natCast, List.getD_eq_getElem?_getD, List.getElem?_eq_getElem hb]; rfl
    have hd : decide (a.drop i = b.drop i) = decide (a[i] = b[i] ∧ a.drop (i + 1) = b.drop (i + 1)) := by
      rw [List.drop_eq_getElem_cons ha, List.drop_eq_getElem_cons hb, decide_eq_decide, List.cons.injEq]
    rw [if_pos (by omega), if_pos (by omega), if_pos (by omega), e1, e2, hd]
    have hw : wrap64 ((i : Int) + 1) = ((i + 1 : Nat) : Int) := by unfold wrap64; omega
    rw [hw, ih (i + 1) (by omega) k (by omega)]
    by_cases h : a[i] = b[i]
    · rw [h]; simp
    · rw [if_pos]
      · simp [h]
      · by_cases h0 : a[i].f0 = b[i].f0
        · have h1 : a[i].f1 ≠ b[i].f1 := fun h1 => h (S30.ext' h0 h1)
          simp [h0, h1]
        · simp [h0]

theorem same_f (a b : List S30) (hm : a.length < 9223372036854775807) : api_Near_17.f (a.length + 1) a b = some (decide (a = b)) := by
  unfold api_Near_17.f
  by_cases hl : a.length = b.length
  · rw [if_pos (by omega)]
    simpa using same_loop a b hl hm a.length 0 (by omega) (a.length + 1) (by omega)
  · rw [if_neg (by omega)]
    have : a ≠ b := fun e => hl (by rw [e])
    simp [this]

theorem same_any (A0 : Option Addr) (c0 : Nat) (l0 : List S30) (A1 : Option Addr) (c1 : Nat) (l1 : List S30) (w : World) (hr0 : Kd.C k30 w A0 l0.length l0) (hc0 : l0.length ≤ c0) (hr1 : Kd.C k30 w A1 l1.length l1) (hc1 : l1.length ≤ c1) (hm : l0.length < 9223372036854775807) :
    Calls Try.prog 17 #[.slice A0 l0.length c0, .slice A1 l1.length c1] w fun e w' => e = .returned (.bool (decide (l0 = l1))) ∧ ∃ n, w' = w.drewN n :=
  (api_Near_17.calls (l0.length + 1) A0 c0 l0 A1 c1 l1 _ w hr0 hc0 hr1 hc1 (same_f l0 l1 hm)).mono fun e w' ⟨he, n, hn⟩ => ⟨he, n, hn⟩
end Go.Proofs.Ytbdkgdbfnkogaaa.R
end

section
/-
  A map from entries to counts, made by the call: looked up, and counted up or down. Conditions: the map lies as told (CMap); the entry's numbers are int64s.
-/
namespace Go.Proofs.Ytbdkgdbfnkogaaa.R
open Go.RowKit Go.Lib Go.MapKept Go.WideMaps Go.WideElems Go.ChangeMaps Go.Proofs.YtbdkgdbfnkogaaaW.PrintWords Go.Proofs.YtbdkgdbfnkogaaaW.PrintLast Go.Proofs.YtbdkgdbfnkogaaaW.PrintMore
set_option linter.unusedVariables false
set_option linter.unusedSimpArgs false

theorem laid : laidOutB Try.prog = true := by kernel_rfl
theorem row30 : (30 : TypeId) < Try.prog.types.size := of_decide_eq_true (by kernel_rfl)
theorem law30 : KeyLaw Try.prog 30 := by
  refine deep_law_laid (P := Try.prog) (k := 30) laid (m := 2) (by omega) row30 (by kernel_rfl) ?_
  rw [Try.underlying30]
def Wf30 (x : S30) : Prop := (Lit.int .i64 x.f0).wf = true ∧ (Lit.int .i64 x.f1).wf = true
theorem keyT30 : Try.prog.keyType 30 = true := by kernel_rfl
theorem cells30 : Try.prog.cellsOf 30 = 2 := by kernel_rfl
theorem cells2 : Try.prog.cellsOf 2 = 1 := by kernel_rfl
abbrev v30 (x : S30) : Value := .agg #[.int .i64 x.f0, .int .i64 x.f1]
theorem v30_inj {x y : S30} (h : v30 x = v30 y) : x = y := by
  injection h with h
  have h := congrArg Array.toList h
  simp at h
  exact S30.ext' h.1 h.2
theorem types_two : ∃ n, Try.prog.types.size + 1 = n + 2 := ⟨Try.prog.types.size - 1, by have h : (30 : Nat) < Try.prog.types.size := row30; omega⟩
theorem key30 (x : S30) (h : Wf30 x) : ∃ l, keyOf Try.prog 30 (v30 x) = some l := by
  obtain ⟨n, hn⟩ := types_two
  have hc : (Value.agg #[.int .i64 x.f0, .int .i64 x.f1]).cells = #[.int .i64 x.f0, .int .i64 x.f1] := rfl
  unfold keyOf
  rw [Try.underlying30]
  simp only [keyT30, Value.formed, Try.underlying30, cells30, hn, hc]
  simp [Program.keyLits, Try.underlying30, Try.underlying2, cells30, cells2, h.1, h.2]

/-- A map at block b, of at most n entries: it counts f. -/
def CMap (w : World) (b n : Nat) (f : S30 → Int) : Prop :=
  ∃ es clock, w.heap[b]? = some (.map es clock) ∧ Stamped es clock ∧ es.size ≤ n ∧ (∀ e ∈ es.toList, ∃ x, Wf30 x ∧ e.key = v30 x ∧ e.val = .int .i64 (f x)) ∧ (∀ x, (∀ e ∈ es.toList, e.key ≠ v30 x) → f x = 0)

theorem CMap.made (w : World) : CMap (w.alloc (.map #[] 0)) w.heap.size 0 (fun _ => 0) :=
  ⟨#[], 0, heap_alloc_new w _, stamped_empty 0, Nat.le_refl _, by simp, fun _ _ => rfl⟩
theorem zero3 (w : World) : (zeroValue 3).run Try.prog w = .ok (.int .i64 0) w := by kernel_rfl

section
variable {w : World} {b n : Nat} {f : S30 → Int}
theorem CMap.keys (M : CMap w b n f) : ∃ es clock, w.heap[b]? = some (.map es clock) ∧ (∀ e ∈ es.toList, ∃ l, keyOf Try.prog 30 e.key = some l) := by
  obtain ⟨es, clock, hb, _, _, hk, _⟩ := M
  exact ⟨es, clock, hb, fun e he => by obtain ⟨x, hx, h1, _⟩ := hk e he; rw [h1]; exact key30 x hx⟩
theorem CMap.look (M : CMap w b n f) (x : S30) (hx : Wf30 x) : (Instr.lookup 38 (.map (some b)) (v30 x) false).run Try.prog w = .ok (.int .i64 (f x)) w := by
  obtain ⟨es, clock, hb, hs, hn, hk, h0⟩ := M
  obtain ⟨l, hkey⟩ := key30 x hx
  have hks : ∀ e ∈ es.toList, ∃ l, keyOf Try.prog 30 e.key = some l := fun e he => by obtain ⟨x, hx, h1, _⟩ := hk e he; rw [h1]; exact key30 x hx
  rcases law30.find w hkey es.toList hks with ⟨h1, h2⟩ | ⟨j, e0, h1, h2, h3⟩
  · simp [Instr.lookup, run_underlying Try.underlying38, MapKept.run_getObj_map hb, law30.check w _ hkey, h1, zero3, Result.andThen, h0 x h2]
  · obtain ⟨y, hy, e1, e2⟩ := hk e0 (List.mem_of_getElem? h2)
    have : y = x := v30_inj (e1.symm.trans h3)
    subst this
    simp [Instr.lookup, run_underlying Try.underlying38, MapKept.run_getObj_map hb, law30.check w _ hkey, h1, Result.andThen, e2]

theorem CMap.mapEntry (M : CMap w b n f) (x : S30) (hx : Wf30 x) : ∃ (v0 : Value) (st : Nat) (es1 : Array MapEntry) (clock1 : Nat),
    (Instr.mapEntry 38 (.map (some b)) (v30 x)).run Try.prog w = .ok (.tuple #[v0, .int .i64 st]) (setBlock w b (.map es1 clock1)) ∧
    CMap (setBlock w b (.map es1 clock1)) b (n + 1) f ∧ ∃ (j : Nat) (e0 : MapEntry), es1[j]? = some e0 ∧ e0.key = v30 x ∧ e0.born = st := by
  obtain ⟨es, clock, hb, hs, hn, hk, h0⟩ := M
  obtain ⟨l, hkey⟩ := key30 x hx
  have hks : ∀ e ∈ es.toList, ∃ l, keyOf Try.prog 30 e.key = some l := fun e he => by obtain ⟨x, hx, h1, _⟩ := hk e he; rw [h1]; exact key30 x hx
  rcases law30.find w hkey es.toList hks with ⟨h1, h2⟩ | ⟨j, e0, h1, h2, h3⟩
  · refine ⟨.int .i64 0, clock, es.push ⟨v30 x, .int .i64 0, clock⟩, clock + 1, ?_, ⟨_, _, heap_setBlock_same hb _, stamped_push hs h2, by simpa using hn, ?_, ?_⟩, es.size, ⟨v30 x, .int .i64 0, clock⟩, by simp, rfl, rfl⟩
    · simp [Instr.mapEntry, run_underlying Try.underlying38, MapKept.run_getObj_map hb, law30.check w false hkey, h1, zero3, MapKept.run_setObj_map _ hb, Result.andThen, setBlock, goInt]
    · intro e he
      simp only [Array.toList_push, List.mem_append, List.mem_singleton] at he
      rcases he with he | rfl
      · exact hk e he
      · exact ⟨x, hx, rfl, by rw [h0 x h2]⟩
    · intro y hy
      exact h0 y fun e he => hy e (by simp [he])
  · have hj : es[j]? = some e0 := by simpa using h2
    have hsame : es.modify j (fun e => { e with key := v30 x }) = es := by
      apply Array.ext'
      rw [Array.toList_modify, modify_eq_set _ _ _ _ h2]
      have : ({ e0 with key := v30 x } : MapEntry) = e0 := by rw [← h3]
      rw [this]
      exact set_self _ _ _ h2
    refine ⟨e0.val, e0.born, es, clock, ?_, ⟨es, clock, heap_setBlock_same hb _, hs, Nat.le_succ_of_le hn, hk, h0⟩, j, e0, hj, h3, rfl⟩
    simp [Instr.mapEntry, run_underlying Try.underlying38, MapKept.run_getObj_map hb, law30.check w false hkey, h1, hj, h3, law30.stays w hkey, hsame, MapKept.run_setObj_map _ hb, Result.andThen, setBlock, goInt]

/-- One count is stored anew. -/
def upd (f : S30 → Int) (x : S30) (c : Int) (y : S30) : Int := if y = x then c else f y

theorem CMap.entryStore {es : Array MapEntry} {clock j st : Nat} {e0 : MapEntry} (hb : w.heap[b]? = some (.map es clock)) (M : CMap w b n f) (x : S30) (hj : es[j]? = some e0) (hkx : e0.key = v30 x) (hst : e0.born = st) (c : Int) :
    ∃ es', (Instr.entryStore 38 (.map (some b)) (.int .i64 st) (.int .i64 c)).run Try.prog w = .ok () (setBlock w b (.map es' clock)) ∧ CMap (setBlock w b (.map es' clock)) b n (upd f x c) := by
  obtain ⟨es0, clock0, hb', hs, hn, hk, h0⟩ := M
  rw [hb] at hb'
  injection hb' with hb'
  injection hb' with h1 h2
  subst h1 h2
  have h2 : es.toList[j]? = some e0 := by simpa using hj
  obtain ⟨s1, s2, s3⟩ := (stamped_iff es clock).1 hs
  have hidx : es.findIdx? (fun e => ((e.born : Nat) : Int) == ((st : Nat) : Int)) = some j := by
    subst hst
    rw [findIdx_arr]
    exact findIdx_born s2 h2
  have hlist : (es.modify j (fun e => { e with val := .int .i64 c })).toList = es.toList.set j { e0 with val := .int .i64 c } := by rw [Array.toList_modify, modify_eq_set _ _ _ _ h2]
  have hjl : j < es.toList.length := (List.getElem?_eq_some_iff.1 h2).1
  have hall : ∀ i e, (es.toList.set j { e0 with val := .int .i64 c })[i]? = some e → (i = j ∧ e = { e0 with val := .int .i64 c }) ∨ (i ≠ j ∧ es.toList[i]? = some e) := by
    intro i e he
    by_cases hij : i = j
    · subst hij
      rw [List.getElem?_set_self hjl] at he
      exact .inl ⟨rfl, (Option.some.inj he).symm⟩
    · rw [List.getElem?_set_ne (fun h => hij h.symm)] at he
      exact .inr ⟨hij, he⟩
  refine ⟨es.modify j (fun e => { e with val := .int .i64 c }), ?_, _, _, heap_setBlock_same hb _, stamped_modify hs j _ (fun _ _ => rfl) (fun _ _ _ => rfl), by simpa using hn, ?_, ?_⟩
  · simp [Instr.entryStore, MapKept.run_getObj_map hb, asInt, asIntOf, goInt, hidx, MapKept.run_setObj_map _ hb, Result.andThen, setBlock]
  · intro e he
    rw [hlist] at he
    obtain ⟨i, hi⟩ := List.getElem?_of_mem he
    obtain ⟨y, hy, k1, k2⟩ := hk e0 (List.mem_of_getElem? h2)
    have hyx : y = x := v30_inj (k1.symm.trans hkx)
    subst hyx
    rcases hall i e hi with ⟨rfl, rfl⟩ | ⟨hij, he'⟩
    · exact ⟨y, hy, k1, by simp [upd]⟩
    · obtain ⟨z, hz, m1, m2⟩ := hk e (List.mem_of_getElem? he')
      refine ⟨z, hz, m1, ?_⟩
      have : z ≠ y := by
        intro e1
        subst e1
        have hil := (List.getElem?_eq_some_iff.1 he').1
        have := List.pairwise_iff_getElem.1 s3
        rcases Nat.lt_or_gt_of_ne hij with h | h
        · have h3 := this i j hil hjl h
          rw [(List.getElem?_eq_some_iff.1 he').2, (List.getElem?_eq_some_iff.1 h2).2, m1, k1] at h3
          exact h3 rfl
        · have h3 := this j i hjl hil h
          rw [(List.getElem?_eq_some_iff.1 he').2, (List.getElem?_eq_some_iff.1 h2).2, m1, k1] at h3
          exact h3 rfl
      simp [upd, this, m2]
  · intro y hy
    have hne : y ≠ x := by
      intro e1
      subst e1
      refine hy { e0 with val := .int .i64 c } ?_ hkx
      rw [hlist]
      exact List.mem_iff_getElem.2 ⟨j, by simpa using hjl, by simp⟩
    rw [show upd f x c y = f y by simp [upd, hne]]
    refine h0 y fun e he e1 => ?_
    obtain ⟨i, hi⟩ := List.getElem?_of_mem he
    by_cases hij : i = j
    · subst hij
      rw [h2] at hi
      injection hi with hi
      subst hi
      exact hne (v30_inj (e1.symm.trans hkx))
    · refine hy e ?_ e1
      rw [hlist]
      refine List.mem_of_getElem? (i := i) ?_
      rw [List.getElem?_set_ne (fun h => hij h.symm)]
      exact hi

theorem grown_setBlock {w : World} {b clock : Nat} {es : Array MapEntry} (hb : w.heap[b]? = some (.map es clock)) (o : Obj) : w.grownBy (setBlock w b o) (some b) := ⟨rfl, rfl, rfl, by simp [setBlock], fun i _ hi => heap_setBlock_other hb _ (fun e => hi (by rw [e]))⟩

/-- m[x] op= d: what each of the three operations does, in whatever order the first two come. -/
theorem CMap.step (M : CMap w b n f) (x : S30) (hx : Wf30 x) (c : Int) : ∃ (v0 : Value) (st : Int) (w1 w2 : World),
    (Instr.lookup 38 (.map (some b)) (v30 x) false).run Try.prog w = .ok (.int .i64 (f x)) w ∧
    (Instr.mapEntry 38 (.map (some b)) (v30 x)).run Try.prog w = .ok (.tuple #[v0, .int .i64 st]) w1 ∧
    (Instr.lookup 38 (.map (some b)) (v30 x) false).run Try.prog w1 = .ok (.int .i64 (f x)) w1 ∧
    (Instr.entryStore 38 (.map (some b)) (.int .i64 st) (.int .i64 c)).run Try.prog w1 = .ok () w2 ∧
    CMap w2 b (n + 1) (upd f x c) ∧ w.grownBy w2 (some b) := by
  obtain ⟨v0, st, es1, clock1, r1, M1, j, e0, hj, hk, hst⟩ := M.mapEntry x hx
  have hg := M
  obtain ⟨es, clock, hb, _⟩ := hg
  have hb1 : (setBlock w b (.map es1 clock1)).heap[b]? = some (.map es1 clock1) := heap_setBlock_same hb _
  obtain ⟨es', r2, M2⟩ := CMap.entryStore hb1 M1 x hj hk hst c
  exact ⟨v0, st, _, _, M.look x hx, r1, M1.look x hx, r2, M2, (grown_setBlock hb _).trans (grown_setBlock hb1 _)⟩
end
end Go.Proofs.Ytbdkgdbfnkogaaa.R
end
