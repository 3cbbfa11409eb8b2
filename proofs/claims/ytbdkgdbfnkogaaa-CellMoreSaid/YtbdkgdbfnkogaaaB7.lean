import Derived.Test.YtbdkgdbfnkogaaaB6
import Derived.StillTailTactics
import Derived.Sort.Grow

section
/-
  A list kept in order: an element put into its place; sorting by that; the first k of all are the first k of the first k. Conditions: the order is strict and total, where a statement names STO. A heap in a list: the element at the root is the farthest; one that rises from the end, and one that sinks from the root, leave a heap. Conditions: the order is strict and total (STO).
-/

namespace Go.Proofs.Ytbdkgdbfnkogaaa.Plain

structure STO {α : Type} (lt : α → α → Bool) : Prop where
  irrefl : ∀ x, lt x x = false
  trans : ∀ x y z, lt x y = true → lt y z = true → lt x z = true
  total : ∀ x y, lt x y = false → lt y x = false → x = y

section
variable {α : Type} {lt : α → α → Bool}

theorem STO.asymm (h : STO lt) {x y : α} (hxy : lt x y = true) : lt y x = false := by
  cases e : lt y x with
  | false => rfl
  | true => have := h.trans x y x hxy e; rw [h.irrefl] at this; cases this

theorem STO.ntrans (h : STO lt) {x y z : α} (h1 : lt y x = false) (h2 : lt z y = false) : lt z x = false := by
  cases e : lt z x with
  | false => rfl
  | true =>
    cases e2 : lt x y with
    | true => have := h.trans z x y e e2; rw [h2] at this; cases this
    | false => obtain rfl := h.total x y e2 h1; rw [h2] at e; cases e

theorem STO.lt_of (h : STO lt) {x y z : α} (h1 : lt x y = true) (h2 : lt z y = false) : lt x z = true := by
  cases e : lt x z with
  | true => rfl
  | false => have := h.ntrans (x := y) (y := z) (z := x) h2 e; rw [h1] at this; cases this

theorem STO.lt_of' (h : STO lt) {x y z : α} (h1 : lt y x = false) (h2 : lt y z = true) : lt x z = true := by
  cases e : lt x z with
  | true => rfl
  | false => have := h.ntrans (x := z) (y := x) (z := y) e h1; rw [h2] at this; cases this

/-- In order: none behind is nearer. -/
def Srt (lt : α → α → Bool) (l : List α) : Prop := l.Pairwise fun x y => lt y x = false

def ins (lt : α → α → Bool) (x : α) : List α → List α
  | [] => [x]
  | y :: l => if lt x y then x :: y :: l else y :: ins lt x l

def isort (lt : α → α → Bool) (l : List α) : List α := l.foldl (fun a x => ins lt x a) []

theorem ins_perm (x : α) (l : List α) : (ins lt x l).Perm (x :: l) := by
  induction l with
  | nil => exact List.Perm.refl _
  | cons y l ih =>
    unfold ins
    split
    · exact List.Perm.refl _
    · exact (ih.cons y).trans (List.Perm.swap x y l)

theorem ins_length (x : α) (l : List α) : (ins lt x l).length = l.length + 1 := (ins_perm x l).length_eq

theorem mem_ins {x z : α} {l : List α} : z ∈ ins lt x l ↔ z = x ∨ z ∈ l := by
  rw [(ins_perm (lt := lt) x l).mem_iff]; simp

theorem ins_srt (h : STO lt) (x : α) {l : List α} (hs : Srt lt l) : Srt lt (ins lt x l) := by
  induction l with
  | nil => exact List.pairwise_singleton _ _
  | cons y l ih =>
    unfold Srt at hs ih ⊢
    rw [List.pairwise_cons] at hs
    unfold ins
    split
    · rename_i hxy
      refine List.pairwise_cons.2 ⟨fun z hz => ?_, List.pairwise_cons.2 hs⟩
      rcases List.mem_cons.1 hz with rfl | hz
      · exact h.asymm hxy
      · exact h.ntrans (h.asymm hxy) (hs.1 z hz)
    · rename_i hxy
      refine List.pairwise_cons.2 ⟨fun z hz => ?_, ih hs.2⟩
      rcases mem_ins.1 hz with rfl | hz
      · exact Bool.eq_false_iff.2 hxy
      · exact hs.1 z hz

theorem foldl_ins_srt (h : STO lt) (l : List α) : ∀ a, Srt lt a → Srt lt (l.foldl (fun a x => ins lt x a) a) := by
  induction l with
  | nil => intro a ha; exact ha
  | cons x l ih => intro a ha; exact ih _ (ins_srt h x ha)

theorem isort_srt (h : STO lt) (l : List α) : Srt lt (isort lt l) := foldl_ins_srt h l [] List.Pairwise.nil

theorem foldl_ins_perm (l : List α) : ∀ a, (l.foldl (fun a x => ins lt x a) a).Perm (a ++ l) := by
  induction l with
  | nil => intro a; simp
  | cons x l ih =>
    intro a
    refine (ih _).trans (((ins_perm x a).append_right l).trans ?_)
    simpa using (List.perm_middle (a := x) (l₁ := a) (l₂ := l)).symm

theorem isort_perm (l : List α) : (isort lt l).Perm l := by simpa [isort] using foldl_ins_perm (lt := lt) l []
theorem isort_length (l : List α) : (isort lt l).length = l.length := (isort_perm l).length_eq

/-- Two lists in order, of the same elements, are one. -/
theorem srt_unique (h : STO lt) {a b : List α} (ha : Srt lt a) (hb : Srt lt b) (hp : a.Perm b) : a = b := by
  refine List.Perm.eq_of_pairwise (le := fun x y => lt y x = false) (fun x y _ _ h1 h2 => h.total x y h2 h1) ha hb hp

theorem isort_eq (h : STO lt) {a l : List α} (ha : Srt lt a) (hp : a.Perm l) : a = isort lt l := srt_unique h ha (isort_srt h l) (hp.trans (isort_perm l).symm)
theorem isort_of_perm (h : STO lt) {a b : List α} (hp : a.Perm b) : isort lt a = isort lt b := isort_eq h (isort_srt h a) ((isort_perm a).trans hp)
theorem isort_snoc (l : List α) (x : α) : isort lt (l ++ [x]) = ins lt x (isort lt l) := by simp [isort]

theorem take_ins (x : α) (l : List α) : ∀ k, (ins lt x (l.take k)).take k = (ins lt x l).take k := by
  induction l with
  | nil => intro k; simp
  | cons y l ih =>
    intro k
    cases k with
    | zero => simp
    | succ k =>
      simp only [List.take_succ_cons, ins]
      split
      · simp only [List.take_succ_cons]
        cases k with
        | zero => simp
        | succ k => simp only [List.take_succ_cons, List.take_take]; rw [Nat.min_eq_left (by omega)]
      · simp only [List.take_succ_cons, ih]

/-- What is kept of l: the first k. -/
def kept (lt : α → α → Bool) (k : Nat) (l : List α) : List α := (isort lt l).take k
theorem kept_snoc (k : Nat) (l : List α) (x : α) : kept lt k (l ++ [x]) = (ins lt x (kept lt k l)).take k := by
  unfold kept; rw [isort_snoc, take_ins]
theorem kept_nil (k : Nat) : kept lt k ([] : List α) = [] := by simp [kept, isort]
theorem kept_length (k : Nat) (l : List α) : (kept lt k l).length = min k l.length := by simp [kept, isort_length]
theorem kept_srt (h : STO lt) (k : Nat) (l : List α) : Srt lt (kept lt k l) := List.Pairwise.sublist (List.take_sublist k _) (isort_srt h l)
theorem kept_perm (h : STO lt) (k : Nat) {a b : List α} (hp : a.Perm b) : kept lt k a = kept lt k b := by unfold kept; rw [isort_of_perm h hp]

/-- Adding one by one to what is kept, from whatever was kept on. -/
theorem foldl_kept (k : Nat) (b : List α) : ∀ a, b.foldl (fun L x => (ins lt x L).take k) (kept lt k a) = kept lt k (a ++ b) := by
  induction b with
  | nil => intro a; simp
  | cons x b ih => intro a; rw [List.foldl_cons, ← kept_snoc, ih]; simp

theorem take_foldl_ins (k : Nat) (b : List α) : ∀ a, (b.foldl (fun a x => ins lt x a) (a.take k)).take k = (b.foldl (fun a x => ins lt x a) a).take k := by
  induction b with
  | nil => intro a; simp [List.take_take]
  | cons x b ih =>
    intro a
    rw [List.foldl_cons, List.foldl_cons, ← ih (ins lt x (a.take k)), take_ins, ih]

/-- The first k of all are the first k of the first k of each part. -/
theorem kept_append (h : STO lt) (k : Nat) (a b : List α) : kept lt k (kept lt k a ++ kept lt k b) = kept lt k (a ++ b) := by
  have e1 : ∀ u v : List α, kept lt k (u ++ v) = (v.foldl (fun a x => ins lt x a) (isort lt u)).take k := fun u v => by unfold kept isort; rw [List.foldl_append]
  have s1 : ∀ u v : List α, kept lt k (kept lt k u ++ v) = kept lt k (u ++ v) := fun u v => by
    rw [e1, e1, ← isort_eq h (kept_srt h k u) (List.Perm.refl _)]
    unfold kept
    rw [take_foldl_ins]
  rw [s1, kept_perm h k (List.perm_append_comm (l₁ := a)), s1, kept_perm h k (List.perm_append_comm (l₁ := b))]

end
end Go.Proofs.Ytbdkgdbfnkogaaa.Plain

namespace Go.Proofs.Ytbdkgdbfnkogaaa.Plain

section
variable {α : Type} {lt : α → α → Bool} {z : α}

def at_ (z : α) (l : List α) (i : Nat) : α := l.getD i z
theorem at_set (l : List α) (i j : Nat) (v : α) : at_ z (l.set i v) j = if i = j ∧ i < l.length then v else at_ z l j := by
  unfold at_
  rw [List.getD_eq_getElem?_getD, List.getD_eq_getElem?_getD, List.getElem?_set]
  by_cases e : i = j
  · subst e
    by_cases h : i < l.length
    · simp [h]
    · simp [h]
  · simp [e]

def swpl (z : α) (l : List α) (i j : Nat) : List α := (l.set i (at_ z l j)).set j (at_ z l i)
theorem swpl_length (l : List α) (i j : Nat) : (swpl z l i j).length = l.length := by simp [swpl]
theorem at_swpl {l : List α} {i j : Nat} (hi : i < l.length) (hj : j < l.length) (k : Nat) : at_ z (swpl z l i j) k = if k = i then at_ z l j else if k = j then at_ z l i else at_ z l k := by
  unfold swpl
  rw [at_set, at_set]
  simp only [List.length_set]
  by_cases h1 : j = k
  · subst h1
    by_cases h2 : j = i
    · subst h2; simp [hj]
    · simp [hj, h2]
  · by_cases h2 : i = k
    · subst h2; simp [hi, h1]
    · have h3 : k ≠ j := fun e => h1 e.symm
      have h4 : k ≠ i := fun e => h2 e.symm
      simp [h1, h2, h3, h4]

theorem perm_cons_set {l : List α} {i : Nat} (hi : i < l.length) (v : α) : (at_ z l i :: l.set i v).Perm (v :: l) := by
  induction l generalizing i with
  | nil => exact absurd hi (Nat.not_lt_zero _)
  | cons a l ih =>
    cases i with
    | zero => simp only [at_, List.getD_cons_zero, List.set_cons_zero]; exact List.Perm.swap v a l
    | succ i =>
      have := ih (i := i) (by simpa using hi)
      simp only [at_, List.getD_cons_succ, List.set_cons_succ] at this ⊢
      exact (List.Perm.swap a _ _).trans ((this.cons a).trans (List.Perm.swap v a l))

theorem set_self (l : List α) (i : Nat) : l.set i (at_ z l i) = l := by
  apply List.ext_getElem?
  intro j
  rw [List.getElem?_set]
  split
  · subst_vars
    split
    · simp [at_, List.getD_eq_getElem?_getD, *]
    · rw [List.getElem?_eq_none (by omega)]
  · rfl

theorem swpl_perm {l : List α} {i j : Nat} (hi : i < l.length) (hj : j < l.length) : (swpl z l i j).Perm l := by
  by_cases e : i = j
  · subst e
    have : swpl z l i i = l := by unfold swpl; rw [set_self, set_self]
    rw [this]
  · have h1 := perm_cons_set (z := z) (l := l.set i (at_ z l j)) (i := j) (by simpa using hj) (at_ z l i)
    rw [at_set, if_neg (fun c => e c.1)] at h1
    have h2 := perm_cons_set (z := z) hi (at_ z l j)
    have h3 : (at_ z l j :: swpl z l i j).Perm (at_ z l j :: l) := h1.trans h2
    exact h3.cons_inv

/-- A heap, but for the place i and its parent, or but for i and its children: what stands over what. -/
def Over (lt : α → α → Bool) (z : α) (l : List α) (p c : Nat) : Prop := lt (at_ z l p) (at_ z l c) = false
def HeapBut (lt : α → α → Bool) (z : α) (l : List α) (bad : Nat → Nat → Prop) : Prop := ∀ p c, p = (c - 1) / 2 → 0 < c → c < l.length → ¬ bad p c → Over lt z l p c
def IsHeap (lt : α → α → Bool) (z : α) (l : List α) : Prop := HeapBut lt z l fun _ _ => False

theorem IsHeap.nil : IsHeap lt z ([] : List α) := fun _ _ _ _ h => absurd h (Nat.not_lt_zero _)

/-- The farthest one is at the root. -/
theorem IsHeap.root (h : STO lt) {l : List α} (hh : IsHeap lt z l) : ∀ n c, c ≤ n → c < l.length → Over lt z l 0 c := by
  intro n
  induction n with
  | zero => intro c hc _; obtain rfl : c = 0 := by omega
            exact h.irrefl _
  | succ n ih =>
    intro c hc hl
    by_cases h0 : c = 0
    · subst h0; exact h.irrefl _
    · have h1 := hh ((c - 1) / 2) c rfl (by omega) hl id
      have h2 := ih ((c - 1) / 2) (by omega) (by omega)
      unfold Over at *
      exact h.ntrans (x := at_ z l c) (y := at_ z l ((c - 1) / 2)) (z := at_ z l 0) h1 h2

theorem at_mem {l : List α} {i : Nat} (h : i < l.length) : at_ z l i ∈ l := by
  unfold at_; rw [List.getD_eq_getElem?_getD, List.getElem?_eq_getElem h]; exact List.getElem_mem _
theorem mem_at {l : List α} {x : α} (h : x ∈ l) : ∃ i, i < l.length ∧ at_ z l i = x := by
  obtain ⟨i, hi, e⟩ := List.mem_iff_getElem.1 h
  exact ⟨i, hi, by unfold at_; rw [List.getD_eq_getElem?_getD, List.getElem?_eq_getElem hi]; exact e⟩

/-- What a rising one owes: all but (parent of i, i) stands well; the children of i stand below i's parent. -/
structure UpInv (lt : α → α → Bool) (z : α) (l : List α) (i : Nat) : Prop where
  but : HeapBut lt z l fun _ c => c = i
  kids : ∀ c, 0 < i → 0 < c → c < l.length → (c - 1) / 2 = i → Over lt z l ((i - 1) / 2) c

theorem UpInv.start {l : List α} {x : α} (hh : IsHeap lt z l) : UpInv lt z (l ++ [x]) l.length where
  but p c hp h0 hl hb := by
    have hc : c < l.length := by simp at hl; omega
    have := hh p c hp h0 hc id
    unfold Over at_ at *
    rw [List.getD_eq_getElem?_getD, List.getD_eq_getElem?_getD] at *
    rwa [List.getElem?_append_left (by omega), List.getElem?_append_left (by omega)]
  kids c h0 hc hl he := by simp at hl; omega

theorem UpInv.zero {l : List α} (hu : UpInv lt z l 0) : IsHeap lt z l := fun p c hp h0 hl _ => hu.but p c hp h0 hl (by omega)
theorem UpInv.done {l : List α} {i : Nat} (hu : UpInv lt z l i) (h : lt (at_ z l ((i - 1) / 2)) (at_ z l i) = false) : IsHeap lt z l := fun p c hp h0 hl _ => by
  by_cases e : c = i
  · subst e; subst hp; exact h
  · exact hu.but p c hp h0 hl e
theorem UpInv.step (h : STO lt) {l : List α} {i : Nat} (hi : i < l.length) (h0 : 0 < i) (hu : UpInv lt z l i) (hlt : lt (at_ z l ((i - 1) / 2)) (at_ z l i) = true) : UpInv lt z (swpl z l ((i - 1) / 2) i) ((i - 1) / 2) where
  but p c hp hc hl hb := by
    rw [swpl_length] at hl
    have hpi : (i - 1) / 2 < l.length := by omega
    unfold Over
    rw [at_swpl hpi hi, at_swpl hpi hi]
    have n1 : c ≠ (i - 1) / 2 := hb
    rw [if_neg n1]
    by_cases e : c = i
    · have : p = (i - 1) / 2 := by rw [hp, e]
      rw [if_pos this, if_pos e]
      exact h.asymm hlt
    · rw [if_neg e]
      by_cases e1 : p = (i - 1) / 2
      · rw [if_pos e1]
        have := hu.but p c hp hc hl e
        unfold Over at this
        rw [e1] at this
        exact h.ntrans this (h.asymm hlt)
      · rw [if_neg e1]
        by_cases e2 : p = i
        · rw [if_pos e2]
          exact hu.kids c h0 hc hl (by omega)
        · rw [if_neg e2]
          exact hu.but p c hp hc hl e
  kids c hp0 hc hl he := by
    rw [swpl_length] at hl
    have hpi : (i - 1) / 2 < l.length := by omega
    unfold Over
    rw [at_swpl hpi hi, at_swpl hpi hi]
    have n1 : ((i - 1) / 2 - 1) / 2 ≠ (i - 1) / 2 := by omega
    have n2 : ((i - 1) / 2 - 1) / 2 ≠ i := by omega
    have n3 : c ≠ (i - 1) / 2 := by omega
    rw [if_neg n1, if_neg n2, if_neg n3]
    have hg : Over lt z l (((i - 1) / 2 - 1) / 2) ((i - 1) / 2) := hu.but _ _ rfl hp0 hpi (by omega)
    by_cases e : c = i
    · rw [if_pos e]; exact hg
    · rw [if_neg e]
      have := hu.but ((i - 1) / 2) c he.symm hc hl e
      unfold Over at *
      exact h.ntrans this hg

/-- What a sinking one owes: all but (i, its children) stands well; the children of i stand below i's parent. -/
structure DownInv (lt : α → α → Bool) (z : α) (l : List α) (i : Nat) : Prop where
  but : HeapBut lt z l fun p _ => p = i
  kids : ∀ c, 0 < i → 0 < c → c < l.length → (c - 1) / 2 = i → Over lt z l ((i - 1) / 2) c

theorem DownInv.start {l : List α} {x : α} (hh : IsHeap lt z l) : DownInv lt z (l.set 0 x) 0 where
  but p c hp h0 hl hb := by
    rw [List.length_set] at hl
    have := hh p c hp h0 hl id
    unfold Over at *
    rwa [at_set, at_set, if_neg (fun e => by omega), if_neg (fun e => by omega)]
  kids c h0 hc hl he := absurd h0 (Nat.lt_irrefl _)

theorem DownInv.done {l : List α} {i : Nat} (hd : DownInv lt z l i) (h1 : 2 * i + 1 < l.length → Over lt z l i (2 * i + 1)) (h2 : 2 * i + 2 < l.length → Over lt z l i (2 * i + 2)) : IsHeap lt z l := fun p c hp h0 hl _ => by
  by_cases e : p = i
  · have : c = 2 * i + 1 ∨ c = 2 * i + 2 := by omega
    rcases this with rfl | rfl
    · rw [e]; exact h1 hl
    · rw [e]; exact h2 hl
  · exact hd.but p c hp h0 hl e
/-- k: the farther one of i's children. -/
theorem DownInv.step (h : STO lt) {l : List α} {i k : Nat} (hk : k < l.length) (hki : k = 2 * i + 1 ∨ k = 2 * i + 2) (hd : DownInv lt z l i) (hlt : lt (at_ z l i) (at_ z l k) = true)
    (hbest : ∀ c, c < l.length → c = 2 * i + 1 ∨ c = 2 * i + 2 → Over lt z l k c) : DownInv lt z (swpl z l i k) k where
  but p c hp hc hl hb := by
    rw [swpl_length] at hl
    have hi : i < l.length := by omega
    unfold Over
    rw [at_swpl hi hk, at_swpl hi hk]
    have hb : p ≠ k := hb
    by_cases e : p = i
    · rw [if_pos e, if_neg (show c ≠ i by omega)]
      by_cases e1 : c = k
      · rw [if_pos e1]; exact h.asymm hlt
      · rw [if_neg e1]; exact hbest c hl (by omega)
    · rw [if_neg e, if_neg hb]
      by_cases e1 : c = i
      · rw [if_pos e1, hp, e1]
        exact hd.kids k (by omega) (by omega) hk (by omega)
      · rw [if_neg e1, if_neg (show c ≠ k by omega)]
        exact hd.but p c hp hc hl e
  kids c h0 hc hl he := by
    rw [swpl_length] at hl
    have hi : i < l.length := by omega
    unfold Over
    rw [at_swpl hi hk, at_swpl hi hk, if_pos (show (k - 1) / 2 = i by omega), if_neg (show c ≠ i by omega), if_neg (show c ≠ k by omega)]
    exact hd.but k c he.symm hc hl (by omega)

/-- The root of a heap that holds what a list in order holds is that list's last one. -/
theorem root_last (h : STO lt) {l s : List α} (hh : IsHeap lt z l) (hs : Srt lt s) (hp : l.Perm s) (h0 : 0 < s.length) : at_ z l 0 = at_ z s (s.length - 1) := by
  have hlen := hp.length_eq
  refine h.total _ _ ?_ ?_
  · obtain ⟨j, hj, e⟩ := mem_at (z := z) (hp.mem_iff.2 (at_mem (z := z) (show s.length - 1 < s.length by omega)))
    rw [← e]
    exact hh.root h l.length j (by omega) hj
  · obtain ⟨j, hj, e⟩ := mem_at (z := z) (hp.mem_iff.1 (at_mem (z := z) (show 0 < l.length by omega)))
    rw [← e]
    by_cases ej : j = s.length - 1
    · rw [ej]; exact h.irrefl _
    · have := List.pairwise_iff_getElem.1 hs j (s.length - 1) hj (by omega) (by omega)
      unfold at_
      rw [List.getD_eq_getElem?_getD, List.getD_eq_getElem?_getD, List.getElem?_eq_getElem hj, List.getElem?_eq_getElem (show s.length - 1 < s.length by omega)]
      exact this
end
end Go.Proofs.Ytbdkgdbfnkogaaa.Plain
end

section
/-
  rank.order, rank.Less and what they call, by their contracts. No conditions.
-/
namespace Go.Proofs.Ytbdkgdbfnkogaaa.R
open Go.RowKit Go.Sort Go.Proofs.YtbdkgdbfnkogaaaW.PrintWords Go.Proofs.YtbdkgdbfnkogaaaW.PrintLast Go.Proofs.YtbdkgdbfnkogaaaW.PrintMore Go.Proofs.Ytbdkgdbfnkogaaa.Plain
set_option linter.unusedVariables false
set_option linter.unusedSimpArgs false

/-- Nearer: by distance, then by id. -/
def nlt (a b : S30) : Bool := decide (a.f0 < b.f0 ∨ a.f0 = b.f0 ∧ a.f1 < b.f1)
def cmpi (a b : Int) : Int := if a < b then -1 else if b < a then 1 else 0
def ncmp (a b : S30) : Int := if cmpi a.f0 b.f0 = 0 then cmpi a.f1 b.f1 else cmpi a.f0 b.f0

theorem S30.ext' {a b : S30} (h0 : a.f0 = b.f0) (h1 : a.f1 = b.f1) : a = b := by
  cases a; cases b; simp_all

theorem nlt_sto : STO nlt where
  irrefl x := by simp [nlt]
  trans x y z h1 h2 := by simp only [nlt, decide_eq_true_eq] at *; omega
  total x y h1 h2 := by
    simp only [nlt, decide_eq_false_iff_not] at *
    exact S30.ext' (by omega) (by omega)

theorem ncmp_neg (a b : S30) : decide (ncmp a b < 0) = nlt a b := by
  unfold ncmp nlt cmpi
  rw [decide_eq_decide]
  by_cases h1 : a.f0 < b.f0
  · simp [h1]
  · by_cases h2 : b.f0 < a.f0
    · simp [h1, h2]; omega
    · by_cases h3 : a.f1 < b.f1
      · simp [h1, h2, h3]; omega
      · by_cases h4 : b.f1 < a.f1
        · simp [h1, h2, h3, h4]
        · simp [h1, h2, h3, h4]

theorem compare_f (a b : Int) : cmp_Compare_int64.f a b = some (cmpi a b) := by
  unfold cmp_Compare_int64.f cmp_isNaN_int64.f cmpi
  simp only [bne_self_eq_false, Option.bind_some]
  by_cases h1 : a < b
  · simp [h1]
  · by_cases h2 : b < a
    · simp [h1, h2]
    · simp [h1, h2]

theorem or_f (a b : Int) : cmp_Or_int.f 3 [a, b] = some (if a = 0 then b else a) := by
  unfold cmp_Or_int.f
  by_cases h1 : a = 0
  · by_cases h2 : b = 0
    · simp [cmp_Or_int.l0, rd, h1, h2, wrap64]
    · simp [cmp_Or_int.l0, rd, h1, h2, wrap64]
  · simp [cmp_Or_int.l0, rd, h1, wrap64]

theorem isNaN_any (a : Int) (w : World) : Calls Try.prog 94 #[.int .i64 a] w fun e w' => e = .returned (.bool false) ∧ w' = w := by
  go_enter Try.func94, Try.ntmps94
  go_wp2
  go_ret
  exact ⟨by simp, rfl⟩
set_option maxHeartbeats 1000000 in
theorem compare_any (a b : Int) (w : World) : Calls Try.prog 78 #[.int .i64 a, .int .i64 b] w fun e w' => e = .returned (.int .i64 (cmpi a b)) ∧ w' = w := by
  by_cases h1 : a < b
  · have r : cmpi a b = -1 := by simp [cmpi, h1]
    rw [r]; clear r
    have h1' : decide (a < b) = true := decide_eq_true h1
    clear h1
    go_enter Try.func78, Try.ntmps78
    go_wp2_with (go_at_call 94; refine (isNaN_any _ _).mono ?_; rintro e w' ⟨rfl, rfl⟩)
    go_ret
    exact ⟨rfl, rfl⟩
  · by_cases h2 : b < a
    · have r : cmpi a b = 1 := by simp [cmpi, h1, h2]
      rw [r]; clear r
      have h1' : decide (a < b) = false := decide_eq_false h1
      have h2' : decide (b < a) = true := decide_eq_true h2
      clear h1 h2
      go_enter Try.func78, Try.ntmps78
      go_wp2_with (go_at_call 94; refine (isNaN_any _ _).mono ?_; rintro e w' ⟨rfl, rfl⟩)
      go_ret
      exact ⟨rfl, rfl⟩
    · have r : cmpi a b = 0 := by simp [cmpi, h1, h2]
      rw [r]; clear r
      have h1' : decide (a < b) = false := decide_eq_false h1
      have h2' : decide (b < a) = false := decide_eq_false h2
      clear h1 h2
      go_enter Try.func78, Try.ntmps78
      go_wp2_with (go_at_call 94; refine (isNaN_any _ _).mono ?_; rintro e w' ⟨rfl, rfl⟩)
      go_ret
      exact ⟨rfl, rfl⟩

theorem reads_two (W : World) (r0 r1 : Int) (e : TypeId) {W1 : World} (h : W1 = W.alloc (.cells #[.int .i64 r0, .int .i64 r1] e)) : Kd.C (Kd.int .i64) W1 (some ⟨W.heap.size, 0, none⟩) 2 [r0, r1] := by
  subst h
  refine Kd.C_of_reads (d := (0 : Int)) (h1 := fun _ => rfl) ⟨rfl, by decide, fun _ => ⟨_, rfl, fun j hj => ?_⟩⟩
  have : j = 0 ∨ j = 1 := by omega
  rcases this with rfl | rfl
  · simp [add_plain]
  · simp [add_plain]

/-- A region of reads and quiet calls with a forced tail, in a world under a name. -/
theorem still_tail_at {P : Program} {id : Nat} {Q : Exit → Act → World → Prop} {a : Act} {w : World} {l : List Oper} (n : Nat) (hm : P.follows .mixedOrders = true) (hB : Region.lexTailB .any l.toArray n = true)
    (h : ∀ W, Aside0 (W = w.drew) → wpStill P l.toArray W (fun a' => wpList P l.toArray Q (l.drop n) a' W) (l.take n) a) : (Code.region id l.toArray true).wp P Q a w :=
  wp_region_still_tail n hm hB (h _ ⟨rfl⟩)

set_option maxHeartbeats 1000000 in
set_option maxRecDepth 100000 in
/-- rank.order: some draws, some blocks. -/
theorem order_any (a b : S30) (w : World) : Calls Try.prog 52 #[.agg #[.int .i64 a.f0, .int .i64 a.f1], .agg #[.int .i64 b.f0, .int .i64 b.f1]] w fun e w' => e = .returned (.int .i64 (ncmp a b)) ∧ ∃ q os, w' = grow (w.drewN q) os := by
  have hr : ncmp a b = if cmpi a.f0 b.f0 = 0 then cmpi a.f1 b.f1 else cmpi a.f0 b.f0 := rfl
  have c0 := compare_any a.f0 b.f0
  have c1 := compare_any a.f1 b.f1
  generalize cmpi a.f0 b.f0 = r0 at c0 hr
  generalize cmpi a.f1 b.f1 = r1 at c1 hr
  have C0 := Aside0.mk c0
  have C1 := Aside0.mk c1
  have OF := Aside0.mk (or_f r0 r1)
  rw [← hr] at OF
  clear hr c0 c1
  generalize ncmp a b = r at OF ⊢
  go_enter Try.func52, Try.ntmps52
  go_wp2
  refine still_tail_at 10 (by kernel_rfl) (by kernel_rfl) (fun W HW => ?_)
  simp only [List.take_succ_cons, List.take_zero, List.drop_succ_cons, List.drop_zero]
  have l0 : W.cell? ⟨w.heap.size, 0, none⟩ = some (.int .i64 a.f0) := by rw [HW.out]; simp
  have l1 : W.cell? ⟨w.heap.size, 1, none⟩ = some (.int .i64 a.f1) := by rw [HW.out]; simp
  have l2 : W.cell? ⟨w.heap.size + 1, 0, none⟩ = some (.int .i64 b.f0) := by rw [HW.out]; simp
  have l3 : W.cell? ⟨w.heap.size + 1, 1, none⟩ = some (.int .i64 b.f1) := by rw [HW.out]; simp
  repeat still_step
  still_call (C0.out _)
  repeat still_step
  still_call (C1.out _)
  refine wpStill_nil ?_
  clear l0 l1 l2 l3
  go_wp2_with fail
  refine (cmp_Or_int.calls 3 (some ⟨W.heap.size, 0, none⟩) 2 [r0, r1] _ _ (reads_two _ _ _ _ rfl) (Nat.le_refl _) OF.out).mono ?_
  rintro e w' ⟨rfl, hd⟩
  have HD := Aside0.mk hd
  clear hd
  go_wp2
  go_ret
  obtain ⟨n, hn⟩ := HD.out.out
  refine ⟨rfl, 1 + n, #[.cells #[.int .i64 a.f0, .int .i64 a.f1] 30, .cells #[.int .i64 b.f0, .int .i64 b.f1] 30, .cells #[.int .i64 r0, .int .i64 r1] 3], ?_⟩
  rw [hn, HW.out]
  rw [alloc_eq_grow, alloc_eq_grow, alloc_eq_grow, grow_grow]
  show grow ((grow _ _).drew.drewN n) _ = _
  show grow (grow (w.drew.drewN n) _) _ = _
  rw [grow_grow]
  have e : w.drew.drewN n = w.drewN (1 + n) := by show { w with drawn := w.drawn + 1 + n } = { w with drawn := w.drawn + (1 + n) }; rw [Nat.add_assoc]
  rw [e]
  rfl
end Go.Proofs.Ytbdkgdbfnkogaaa.R
end
