/-
  A list kept in order: an element put into its place; sorting by that; the first k of all are the first k of the first k. Conditions: the order is strict and total, where a statement names STO.
-/
namespace Go.Proofs.Ytbdkgdbfnkogaaa.Plain

structure STO {α : Type} (lt : α → α → Bool) : Prop where
  irrefl : ∀ x, lt x x = false
  trans : ∀ x y z, lt x y = true → lt y z = true → lt x z = true
  total : ∀ x y, lt x y = false → lt y x = false → x = y

section
variable {α : Type} {lt : α → α → Bool}

theorem STO.asymm (h : STO lt) {x y : α} (hxy : lt x y = true) : lt y x = false := by
  cases e : lt y x with
  | false => rfl
  | true => have := h.trans x y x hxy e; rw [h.irrefl] at this; cases this

theorem STO.ntrans (h : STO lt) {x y z : α} (h1 : lt y x = false) (h2 : lt z y = false) : lt z x = false := by
  cases e : lt z x with
  | false => rfl
  | true =>
    cases e2 : lt x y with
    | true => have := h.trans z x y e e2; rw [h2] at this; cases this
    | false => obtain rfl := h.total x y e2 h1; rw [h2] at e; cases e

theorem STO.lt_of (h : STO lt) {x y z : α} (h1 : lt x y = true) (h2 : lt z y = false) : lt x z = true := by
  cases e : lt x z with
  | true => rfl
  | false => have := h.ntrans (x := y) (y := z) (z := x) h2 e; rw [h1] at this; cases this

theorem STO.lt_of' (h : STO lt) {x y z : α} (h1 : lt y x = false) (h2 : lt y z = true) : lt x z = true := by
  cases e : lt x z with
  | true => rfl
  | false => have := h.ntrans (x := z) (y := x) (z := y) e h1; rw [h2] at this; cases this

/-- In order: none behind is nearer. -/
def Srt (lt : α → α → Bool) (l : List α) : Prop := l.Pairwise fun x y => lt y x = false

def ins (lt : α → α → Bool) (x : α) : List α → List α
  | [] => [x]
  | y :: l => if lt x y then x :: y :: l else y :: ins lt x l

def isort (lt : α → α → Bool) (l : List α) : List α := l.foldl (fun a x => ins lt x a) []

theorem ins_perm (x : α) (l : List α) : (ins lt x l).Perm (x :: l) := by
  induction l with
  | nil => exact List.Perm.refl _
  | cons y l ih =>
    unfold ins
    split
    · exact List.Perm.refl _
    · exact (ih.cons y).trans (List.Perm.swap x y l)

theorem ins_length (x : α) (l : List α) : (ins lt x l).length = l.length + 1 := (ins_perm x l).length_eq

theorem mem_ins {x z : α} {l : List α} : z ∈ ins lt x l ↔ z = x ∨ z ∈ l := by
  rw [(ins_perm (lt := lt) x l).mem_iff]; simp

theorem ins_srt (h : STO lt) (x : α) {l : List α} (hs : Srt lt l) : Srt lt (ins lt x l) := by
  induction l with
  | nil => exact List.pairwise_singleton _ _
  | cons y l ih =>
    unfold Srt at hs ih ⊢
    rw [List.pairwise_cons] at hs
    unfold ins
    split
    · rename_i hxy
      refine List.pairwise_cons.2 ⟨fun z hz => ?_, List.pairwise_cons.2 hs⟩
      rcases List.mem_cons.1 hz with rfl | hz
      · exact h.asymm hxy
      · exact h.ntrans (h.asymm hxy) (hs.1 z hz)
    · rename_i hxy
      refine List.pairwise_cons.2 ⟨fun z hz => ?_, ih hs.2⟩
      rcases mem_ins.1 hz with rfl | hz
      · exact Bool.eq_false_iff.2 hxy
      · exact hs.1 z hz

theorem foldl_ins_srt (h : STO lt) (l : List α) : ∀ a, Srt lt a → Srt lt (l.foldl (fun a x => ins lt x a) a) := by
  induction l with
  | nil => intro a ha; exact ha
  | cons x l ih => intro a ha; exact ih _ (ins_srt h x ha)

theorem isort_srt (h : STO lt) (l : List α) : Srt lt (isort lt l) := foldl_ins_srt h l [] List.Pairwise.nil

theorem foldl_ins_perm (l : List α) : ∀ a, (l.foldl (fun a x => ins lt x a) a).Perm (a ++ l) := by
  induction l with
  | nil => intro a; simp
  | cons x l ih =>
    intro a
    refine (ih _).trans (((ins_perm x a).append_right l).trans ?_)
    simpa using (List.perm_middle (a := x) (l₁ := a) (l₂ := l)).symm

theorem isort_perm (l : List α) : (isort lt l).Perm l := by simpa [isort] using foldl_ins_perm (lt := lt) l []
theorem isort_length (l : List α) : (isort lt l).length = l.length := (isort_perm l).length_eq

/-- Two lists in order, of the same elements, are one. -/
theorem srt_unique (h : STO lt) {a b : List α} (ha : Srt lt a) (hb : Srt lt b) (hp : a.Perm b) : a = b := by
  refine List.Perm.eq_of_pairwise (le := fun x y => lt y x = false) (fun x y _ _ h1 h2 => h.total x y h2 h1) ha hb hp

theorem isort_eq (h : STO lt) {a l : List α} (ha : Srt lt a) (hp : a.Perm l) : a = isort lt l := srt_unique h ha (isort_srt h l) (hp.trans (isort_perm l).symm)
theorem isort_of_perm (h : STO lt) {a b : List α} (hp : a.Perm b) : isort lt a = isort lt b := isort_eq h (isort_srt h a) ((isort_perm a).trans hp)
theorem isort_snoc (l : List α) (x : α) : isort lt (l ++ [x]) = ins lt x (isort lt l) := by simp [isort]

theorem take_ins (x : α) (l : List α) : ∀ k, (ins lt x (l.take k)).take k = (ins lt x l).take k := by
  induction l with
  | nil => intro k; simp
  | cons y l ih =>
    intro k
    cases k with
    | zero => simp
    | succ k =>
      simp only [List.take_succ_cons, ins]
      split
      · simp only [List.take_succ_cons]
        cases k with
        | zero => simp
        | succ k => simp only [List.take_succ_cons, List.take_take]; rw [Nat.min_eq_left (by omega)]
      · simp only [List.take_succ_cons, ih]

/-- What is kept of l: the first k. -/
def kept (lt : α → α → Bool) (k : Nat) (l : List α) : List α := (isort lt l).take k
theorem kept_snoc (k : Nat) (l : List α) (x : α) : kept lt k (l ++ [x]) = (ins lt x (kept lt k l)).take k := by
  unfold kept; rw [isort_snoc, take_ins]
theorem kept_nil (k : Nat) : kept lt k ([] : List α) = [] := by simp [kept, isort]
theorem kept_length (k : Nat) (l : List α) : (kept lt k l).length = min k l.length := by simp [kept, isort_length]
theorem kept_srt (h : STO lt) (k : Nat) (l : List α) : Srt lt (kept lt k l) := List.Pairwise.sublist (List.take_sublist k _) (isort_srt h l)
theorem kept_perm (h : STO lt) (k : Nat) {a b : List α} (hp : a.Perm b) : kept lt k a = kept lt k b := by unfold kept; rw [isort_of_perm h hp]

/-- Adding one by one to what is kept, from whatever was kept on. -/
theorem foldl_kept (k : Nat) (b : List α) : ∀ a, b.foldl (fun L x => (ins lt x L).take k) (kept lt k a) = kept lt k (a ++ b) := by
  induction b with
  | nil => intro a; simp
  | cons x b ih => intro a; rw [List.foldl_cons, ← kept_snoc, ih]; simp

theorem take_foldl_ins (k : Nat) (b : List α) : ∀ a, (b.foldl (fun a x => ins lt x a) (a.take k)).take k = (b.foldl (fun a x => ins lt x a) a).take k := by
  induction b with
  | nil => intro a; simp [List.take_take]
  | cons x b ih =>
    intro a
    rw [List.foldl_cons, List.foldl_cons, ← ih (ins lt x (a.take k)), take_ins, ih]

/-- The first k of all are the first k of the first k of each part. -/
theorem kept_append (h : STO lt) (k : Nat) (a b : List α) : kept lt k (kept lt k a ++ kept lt k b) = kept lt k (a ++ b) := by
  have e1 : ∀ u v : List α, kept lt k (u ++ v) = (v.foldl (fun a x => ins lt x a) (isort lt u)).take k := fun u v => by unfold kept isort; rw [List.foldl_append]
  have s1 : ∀ u v : List α, kept lt k (kept lt k u ++ v) = kept lt k (u ++ v) := fun u v => by
    rw [e1, e1, ← isort_eq h (kept_srt h k u) (List.Perm.refl _)]
    unfold kept
    rw [take_foldl_ins]
  rw [s1, kept_perm h k (List.perm_append_comm (l₁ := a)), s1, kept_perm h k (List.perm_append_comm (l₁ := b))]

end
end Go.Proofs.Ytbdkgdbfnkogaaa.Plain
