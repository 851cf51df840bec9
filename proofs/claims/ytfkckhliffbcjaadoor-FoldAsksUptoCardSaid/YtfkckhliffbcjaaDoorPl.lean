/- Lists that rise: plain facts, no program in sight. -/
import Derived.Lib.SlicesCompact
namespace Go.Proofs.YtfkckhliffbcjaaDoor.Plain
open Go.Lib

def Rising (l : List Int) : Prop := l.Pairwise (· < ·)

theorem Rising.ext : ∀ {a b : List Int}, Rising a → Rising b → (∀ x, x ∈ a ↔ x ∈ b) → a = b
  | [], [], _, _, _ => rfl
  | [], y :: b, _, _, h => absurd ((h y).2 List.mem_cons_self) (by simp)
  | x :: a, [], _, _, h => absurd ((h x).1 List.mem_cons_self) (by simp)
  | x :: a, y :: b, ha, hb, h => by
    obtain ⟨ha1, ha2⟩ := List.pairwise_cons.1 ha
    obtain ⟨hb1, hb2⟩ := List.pairwise_cons.1 hb
    have hxy : x = y := by
      have h1 := (h x).1 List.mem_cons_self
      have h2 := (h y).2 List.mem_cons_self
      rcases List.mem_cons.1 h1 with h1 | h1
      · exact h1
      · rcases List.mem_cons.1 h2 with h2 | h2
        · exact h2.symm
        · have := ha1 y h2
          have := hb1 x h1
          omega
    subst hxy
    congr 1
    refine Rising.ext ha2 hb2 (fun z => ?_)
    constructor
    · intro hz
      rcases List.mem_cons.1 ((h z).1 (List.mem_cons_of_mem _ hz)) with e | e
      · have := ha1 z hz
        omega
      · exact e
    · intro hz
      rcases List.mem_cons.1 ((h z).2 (List.mem_cons_of_mem _ hz)) with e | e
      · have := hb1 z hz
        omega
      · exact e

theorem compactUpTo_facts (d : Array Int) (hs : ∀ i, i + 1 < d.size → d[i]! ≤ d[i + 1]!) : ∀ m, m ≤ d.size →
    Rising (compactUpTo d m) ∧ (∀ x, x ∈ compactUpTo d m ↔ ∃ j, j < m ∧ d[j]! = x) ∧ (∀ x, x ∈ compactUpTo d m → 0 < m ∧ x ≤ d[m - 1]!) ∧ (compactUpTo d m).length ≤ m := by
  intro m
  induction m with
  | zero =>
    intro _
    refine ⟨?_, fun x => ?_, fun x hx => ?_, ?_⟩
    · simp [compactUpTo, Rising]
    · simp [compactUpTo]
    · simp [compactUpTo] at hx
    · simp [compactUpTo]
  | succ m ih =>
    intro hm
    obtain ⟨h1, h2, h3, h4⟩ := ih (by omega)
    rw [compactUpTo_succ]
    by_cases hk : keeps d m = true
    · rw [if_pos hk]
      have hlt : ∀ x, x ∈ compactUpTo d m → x < d[m]! := by
        intro x hx
        obtain ⟨hm0, hle⟩ := h3 x hx
        have h5 := hs (m - 1) (by omega)
        rw [show m - 1 + 1 = m by omega] at h5
        have h6 : d[m]! ≠ d[m - 1]! := by
          unfold keeps at hk
          have := of_decide_eq_true hk
          rcases this with h | h
          · omega
          · exact h
        omega
      refine ⟨?_, fun x => ?_, fun x hx => ⟨by omega, ?_⟩, ?_⟩
      · refine List.pairwise_append.2 ⟨h1, by simp, fun a ha b hb => ?_⟩
        rw [List.mem_singleton.1 hb]
        exact hlt a ha
      · rw [List.mem_append, List.mem_singleton, h2]
        constructor
        · rintro (⟨j, hj, e⟩ | e)
          · exact ⟨j, by omega, e⟩
          · exact ⟨m, by omega, e.symm⟩
        · rintro ⟨j, hj, e⟩
          rcases Nat.lt_or_ge j m with h | h
          · exact .inl ⟨j, h, e⟩
          · have : j = m := by omega
            subst this
            exact .inr e.symm
      · rw [Nat.add_sub_cancel]
        rcases List.mem_append.1 hx with h | h
        · have := hlt x h
          omega
        · rw [List.mem_singleton.1 h]
          exact Int.le_refl _
      · rw [List.length_append, List.length_singleton]
        omega
    · rw [if_neg hk, List.append_nil]
      have hk0 : 0 < m ∧ d[m]! = d[m - 1]! := by
        unfold keeps at hk
        have h5 : ¬ (m = 0 ∨ d[m]! ≠ d[m - 1]!) := fun h => hk (decide_eq_true h)
        refine ⟨by omega, ?_⟩
        exact Decidable.not_not.1 (fun h => h5 (.inr h))
      refine ⟨h1, fun x => ?_, fun x hx => ⟨by omega, ?_⟩, by omega⟩
      · rw [h2]
        constructor
        · rintro ⟨j, hj, e⟩
          exact ⟨j, by omega, e⟩
        · rintro ⟨j, hj, e⟩
          rcases Nat.lt_or_ge j m with h | h
          · exact ⟨j, h, e⟩
          · have : j = m := by omega
            subst this
            exact ⟨j - 1, by omega, by rw [← hk0.2]; exact e⟩
      · rw [Nat.add_sub_cancel, hk0.2]
        exact (h3 x hx).2

/-- A list in order, each once. -/
def norm (l : List Int) : List Int := compactUpTo (l.mergeSort fun x y => decide (x ≤ y)).toArray l.length

theorem sorted_le (l : List Int) : (l.mergeSort fun x y => decide (x ≤ y)).Pairwise (· ≤ ·) := by
  have h := List.pairwise_mergeSort (le := fun x y : Int => decide (x ≤ y)) (fun a b c h1 h2 => decide_eq_true (Int.le_trans (of_decide_eq_true h1) (of_decide_eq_true h2))) (fun a b => by simp only [Bool.or_eq_true, decide_eq_true_eq]; omega) l
  exact h.imp (fun h => of_decide_eq_true h)

theorem norm_facts (l : List Int) : Rising (norm l) ∧ (∀ x, x ∈ norm l ↔ x ∈ l) ∧ (norm l).length ≤ l.length := by
  have hs := sorted_le l
  have hp := List.mergeSort_perm l (fun x y => decide (x ≤ y))
  have hl := hp.length_eq
  have hm : ∀ x, x ∈ l.mergeSort (fun x y => decide (x ≤ y)) ↔ x ∈ l := fun x => hp.mem_iff
  unfold norm
  revert hs hl hm
  generalize l.mergeSort (fun x y => decide (x ≤ y)) = s
  intro hs hl hm
  obtain ⟨h1, h2, _, h4⟩ := compactUpTo_facts s.toArray (fun i hi => by
    have hi' : i + 1 < s.length := by simpa using hi
    rw [getElem!_pos s.toArray i (by simp; omega), getElem!_pos s.toArray (i + 1) (by simp; omega)]
    simpa using List.pairwise_iff_getElem.1 hs i (i + 1) (by omega) hi' (by omega)) l.length (by simp; omega)
  refine ⟨h1, fun x => ?_, h4⟩
  rw [h2, ← hm]
  constructor
  · rintro ⟨j, hj, e⟩
    rw [getElem!_pos s.toArray j (by simp; omega)] at e
    rw [← e]
    simp
  · intro hx
    obtain ⟨j, hj, e⟩ := List.getElem_of_mem hx
    refine ⟨j, by omega, ?_⟩
    rw [getElem!_pos s.toArray j (by simpa using hj)]
    simpa using e

theorem norm_unique {l r : List Int} (hr : Rising r) (hm : ∀ x, x ∈ r ↔ x ∈ l) : norm l = r :=
  Rising.ext (norm_facts l).1 hr (fun x => ((norm_facts l).2.1 x).trans (hm x).symm)
/-- A rising list with a number. -/
def putF : List Int → Int → List Int
  | [], n => [n]
  | x :: l, n => if x < n then x :: putF l n else if x = n then x :: l else n :: x :: l

theorem putF_mem (l : List Int) (n x : Int) : x ∈ putF l n ↔ x = n ∨ x ∈ l := by
  induction l with
  | nil => simp [putF]
  | cons y l ih =>
    unfold putF
    split
    · rw [List.mem_cons, ih, List.mem_cons]
      constructor <;> rintro (h | h | h) <;> simp [h]
    · split
      · rename_i h
        subst h
        rw [List.mem_cons]
        constructor
        · rintro (h | h) <;> simp [h]
        · rintro (h | h | h) <;> simp [h]
      · rw [List.mem_cons]

theorem putF_rising {l : List Int} (n : Int) (h : Rising l) : Rising (putF l n) := by
  induction l with
  | nil => simp [putF, Rising]
  | cons y l ih =>
    obtain ⟨h1, h2⟩ := List.pairwise_cons.1 h
    unfold putF
    split
    · rename_i hlt
      refine List.pairwise_cons.2 ⟨fun a ha => ?_, ih h2⟩
      rcases (putF_mem l n a).1 ha with e | e
      · omega
      · exact h1 a e
    · split
      · exact h
      · rename_i h3 h4
        refine List.pairwise_cons.2 ⟨fun a ha => ?_, h⟩
        rcases List.mem_cons.1 ha with e | e
        · omega
        · have := h1 a e
          omega

/-- A list in order, each once. -/
def riseF (l : List Int) : List Int := l.foldl putF []

theorem rise_go (l r : List Int) (h : Rising r) : Rising (l.foldl putF r) ∧ ∀ x, x ∈ l.foldl putF r ↔ x ∈ r ∨ x ∈ l := by
  induction l generalizing r with
  | nil => exact ⟨h, fun x => by simp⟩
  | cons y l ih =>
    obtain ⟨h1, h2⟩ := ih (putF r y) (putF_rising y h)
    refine ⟨h1, fun x => ?_⟩
    rw [List.foldl_cons, h2, putF_mem, List.mem_cons]
    constructor
    · rintro ((h | h) | h) <;> simp [h]
    · rintro (h | h | h) <;> simp [h]

theorem rise_facts (l : List Int) : Rising (riseF l) ∧ ∀ x, x ∈ riseF l ↔ x ∈ l := by
  obtain ⟨h1, h2⟩ := rise_go l [] List.Pairwise.nil
  exact ⟨h1, fun x => (h2 x).trans (by simp)⟩

theorem norm_rise (l : List Int) : norm l = riseF l := norm_unique (rise_facts l).1 (rise_facts l).2
end Go.Proofs.YtfkckhliffbcjaaDoor.Plain
