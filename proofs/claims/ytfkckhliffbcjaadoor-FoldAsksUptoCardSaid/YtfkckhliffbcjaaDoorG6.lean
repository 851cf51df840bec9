/- A list's parts, three letters at a time: plain. -/
import Derived.Test.YtfkckhliffbcjaaDoorG4
namespace Go.Proofs.YtfkckhliffbcjaaDoor.Fold
open Go.RowKit Go.Proofs.YtfkckhliffbcjaaDoorW.PrintWords

/-- Three letters as a number. -/
def triF (a b c : Int) : Int := digF a * 4398046511104 + digF b * 2097152 + digF c

theorem step_tri (n a b c : Int) : stepN (stepN (stepN n a) b) c = triF a b c := by
  have ha := digF_range a
  have hb := digF_range b
  have hc := digF_range c
  unfold stepN triF
  revert ha hb hc
  generalize digF a = x
  generalize digF b = y
  generalize digF c = z
  intro ha hb hc
  have e1 : (n % 4398046511104 * 2097152 + x) % 4398046511104 = n % 2097152 * 2097152 + x := by omega
  rw [e1]
  have e2 : ((n % 2097152 * 2097152 + x) * 2097152 + y) % 4398046511104 = x * 2097152 + y := by omega
  rw [e2]
  omega

theorem nAt_tri (l : List Int) (i : Nat) (h : i + 2 < l.length) : nAt l (i + 3) = triF (rd l (i : Int)) (rd l ((i + 1 : Nat) : Int)) (rd l ((i + 2 : Nat) : Int)) := by
  rw [nAt_succ l (i + 2) h, nAt_succ l (i + 1) (by omega), nAt_succ l i (by omega)]
  exact step_tri _ _ _ _

/-- The part that begins at place i. -/
def partAt (l : List Int) (i : Nat) : Int := triF (rd l (i : Int)) (rd l ((i + 1 : Nat) : Int)) (rd l ((i + 2 : Nat) : Int))

theorem outF_eq (l : List Int) : ∀ k, k ≤ l.length → outF l k = (List.range (k - 2)).map (partAt l) := by
  intro k
  induction k with
  | zero => intro _; rfl
  | succ k ih =>
    intro hk
    show outF l k ++ (if 2 ≤ k then [nAt l (k + 1)] else []) = _
    rw [ih (by omega)]
    by_cases h : 2 ≤ k
    · rw [if_pos h, show k + 1 - 2 = k - 2 + 1 by omega, List.range_succ, List.map_append]
      congr 1
      have e := nAt_tri l (k - 2) (by omega)
      rw [show k - 2 + 3 = k + 1 by omega] at e
      rw [e]
      rfl
    · rw [if_neg h, List.append_nil, show k + 1 - 2 = k - 2 by omega]

/-- A list's parts. -/
def partsF (l : List Int) : List Int := Plain.riseF ((List.range (l.length - 2)).map (partAt l))
theorem parts_eq (l : List Int) : Plain.riseF (outF l l.length) = partsF l := by
  unfold partsF
  rw [outF_eq l l.length (Nat.le_refl _)]

theorem mem_parts (l : List Int) (x : Int) : x ∈ partsF l ↔ ∃ i, i + 2 < l.length ∧ partAt l i = x := by
  unfold partsF
  rw [(Plain.rise_facts _).2 x, List.mem_map]
  constructor
  · rintro ⟨i, hi, e⟩
    exact ⟨i, by have := List.mem_range.1 hi; omega, e⟩
  · rintro ⟨i, hi, e⟩
    exact ⟨i, List.mem_range.2 (by omega), e⟩

theorem putF_length (l : List Int) (n : Int) : (Plain.putF l n).length ≤ l.length + 1 := by
  induction l with
  | nil => exact Nat.le_refl _
  | cons x l ih =>
    unfold Plain.putF
    split
    · rw [List.length_cons, List.length_cons]; omega
    · split
      · omega
      · simp
theorem rise_length_go (l r : List Int) : (l.foldl Plain.putF r).length ≤ r.length + l.length := by
  induction l generalizing r with
  | nil => exact Nat.le_refl _
  | cons x l ih =>
    have h1 := ih (Plain.putF r x)
    have h2 := putF_length r x
    rw [List.foldl_cons, List.length_cons]
    omega
theorem parts_length (l : List Int) : (partsF l).length ≤ l.length - 2 := by
  have h := rise_length_go ((List.range (l.length - 2)).map (partAt l)) []
  rw [List.length_map, List.length_range, List.length_nil] at h
  unfold partsF Plain.riseF
  omega
theorem parts_rising (l : List Int) : Plain.Rising (partsF l) := (Plain.rise_facts _).1

/-- What stands in a list has its parts among that list's. -/
theorem parts_within (a b c : List Int) (x : Int) (h : x ∈ partsF b) : x ∈ partsF (a ++ b ++ c) := by
  obtain ⟨i, hi, e⟩ := (mem_parts b x).1 h
  refine (mem_parts _ x).2 ⟨a.length + i, by simp only [List.length_append]; omega, ?_⟩
  rw [← e]
  have r : ∀ j, j < b.length → rd (a ++ b ++ c) ((a.length + j : Nat) : Int) = rd b (j : Int) := by
    intro j hj
    simp only [rd, Int.toNat_natCast, List.getD_eq_getElem?_getD]
    rw [List.append_assoc, List.getElem?_append_right (by omega), show a.length + j - a.length = j by omega, List.getElem?_append_left hj]
  unfold partAt
  rw [r i (by omega), show a.length + i + 1 = a.length + (i + 1) by omega, r (i + 1) (by omega), show a.length + i + 2 = a.length + (i + 2) by omega, r (i + 2) (by omega)]

/-- What is left of one rising list when another one was gone through. -/
def leftF : List Int → List Int → List Int
  | [], q => q
  | _ :: _, [] => []
  | x :: p, y :: q => if y = x then leftF p q else leftF p (y :: q)

theorem left_none : ∀ (p q : List Int), Plain.Rising p → Plain.Rising q → (∀ x, x ∈ q → x ∈ p) → leftF p q = []
  | [], q, _, _, h => by
    cases q with
    | nil => rfl
    | cons y q => exact absurd (h y List.mem_cons_self) (by simp)
  | x :: p, [], _, _, _ => rfl
  | x :: p, y :: q, hp, hq, h => by
    obtain ⟨hp1, hp2⟩ := List.pairwise_cons.1 hp
    obtain ⟨hq1, hq2⟩ := List.pairwise_cons.1 hq
    unfold leftF
    by_cases e : y = x
    · rw [if_pos e]
      refine left_none p q hp2 hq2 (fun z hz => ?_)
      rcases List.mem_cons.1 (h z (List.mem_cons_of_mem _ hz)) with e2 | e2
      · have := hq1 z hz
        omega
      · exact e2
    · rw [if_neg e]
      have hy : y ∈ p := by
        rcases List.mem_cons.1 (h y List.mem_cons_self) with e2 | e2
        · exact absurd e2 e
        · exact e2
      refine left_none p (y :: q) hp2 hq (fun z hz => ?_)
      rcases List.mem_cons.1 (h z hz) with e2 | e2
      · rcases List.mem_cons.1 hz with e3 | e3
        · rw [e3]
          exact hy
        · have h1 := hq1 z e3
          have h2 := hp1 y hy
          omega
      · exact e2
end Go.Proofs.YtfkckhliffbcjaaDoor.Fold
