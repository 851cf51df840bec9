/- What a merge step does to sizes. No program in sight. -/
import Derived.Test.YtfkckhliffbcjaaQ1
import Derived.Test.YtfkckhliffbcjaaT6
namespace Go.Proofs.Ytfkckhliffbcjaa.Tier
open Go.RowKit Go.Proofs.YtfkckhliffbcjaaW.PrintWords

theorem refPick_some (fan : Int) (l : List Int) (f : Nat) : ∀ m t, refPick fan l f m t = [] ∨ ∃ t', f ≤ (posT fan l t').length ∧ refPick fan l f m t = ((posT fan l t').take f).map fun i => ((i : Nat) : Int)
  | 0, _ => Or.inl rfl
  | m + 1, t => by
    unfold refPick
    split
    · rename_i h
      exact Or.inr ⟨t, h, rfl⟩
    · exact refPick_some fan l f m (t + 1)

/-- Numbers that rise, all below n. -/
structure Rises (p : List Int) (n : Nat) : Prop where
  two : 2 ≤ p.length
  zero : 0 ≤ rd p 0
  rest : ∀ j, j < p.tail.length → rd p 0 < (backF p.tail j).2 ∧ (backF p.tail j).2 + j < n

theorem rises_of (q : List Nat) (n : Nat) (h2 : 2 ≤ q.length) (hp : q.Pairwise (· < ·)) (hn : ∀ x ∈ q, x < n) : Rises (q.map fun i => ((i : Nat) : Int)) n := by
  have hget : ∀ i, (h : i < q.length) → rd (q.map fun i => ((i : Nat) : Int)) (i : Int) = ((q[i] : Nat) : Int) := by
    intro i h
    simp [rd, List.getD_eq_getElem?_getD, List.getElem?_eq_getElem h]
  have hlt : ∀ i j, (hi : i < q.length) → (hj : j < q.length) → i < j → q[i] < q[j] := fun i j hi hj h => (List.pairwise_iff_getElem.1 hp) i j hi hj h
  have hup : ∀ d i, (h : i + d < q.length) → q[i]'(by omega) + d < n := by
    intro d
    induction d with
    | zero => intro i h; exact hn _ (List.getElem_mem _)
    | succ d ih =>
      intro i h
      have h1 := hlt i (i + 1) (by omega) (by omega) (by omega)
      have h3 := ih (i + 1) (by omega)
      omega
  refine ⟨by simpa using h2, ?_, ?_⟩
  · have h3 := hget 0 (by omega)
    rw [show (0 : Int) = ((0 : Nat) : Int) from rfl, h3]
    omega
  · intro j hj
    simp only [List.length_tail, List.length_map] at hj
    have hb : (backF (q.map fun i => ((i : Nat) : Int)).tail j).2 = ((q[q.length - 1 - j]'(by omega) : Nat) : Int) := by
      unfold backF
      have e : ((((q.map fun i => ((i : Nat) : Int)).tail.length : Nat) : Int) - 1 - (j : Int)) = ((q.length - 1 - 1 - j : Nat) : Int) := by simp; omega
      simp only [e]
      have e2 : q.length - 1 - 1 - j + 1 = q.length - 1 - j := by omega
      simp [rd, List.getD_eq_getElem?_getD, e2, List.getElem?_eq_getElem (show q.length - 1 - j < q.length by omega)]
    rw [hb]
    have h3 := hget 0 (by omega)
    rw [show ((0 : Nat) : Int) = (0 : Int) from rfl] at h3
    rw [h3]
    have h4 := hlt 0 (q.length - 1 - j) (by omega) (by omega) (by omega)
    have h5 := hup j (q.length - 1 - j) (by omega)
    omega

theorem pick_rises (fan : Nat) (l : List Int) (hl : l.length ≤ 256) (hf : 2 ≤ fan) (h : pickF l fan ≠ []) : Rises (pickF l fan) l.length ∧ (pickF l fan).length = fan := by
  rw [pickF_eq fan l hl hf] at h ⊢
  rcases refPick_some fan l fan 64 0 with h' | ⟨t, ht, e⟩
  · exact absurd h' h
  · rw [e]
    refine ⟨rises_of _ _ ?_ ((posT_pairwise _ _ _).sublist (List.take_sublist _ _)) ?_, ?_⟩
    · rw [List.length_take]; omega
    · intro x hx
      exact (mem_posT.1 (List.mem_of_mem_take hx)).1
    · rw [List.length_map, List.length_take]; omega

/-- Sizes at work: each at least 1, together at most 2^20. -/
structure Good (l : List Int) : Prop where
  pos : ∀ x ∈ l, 1 ≤ x
  sum : l.sum ≤ 1048576

theorem sum_pos_le : ∀ (l : List Int), (∀ x ∈ l, 1 ≤ x) → ∀ x ∈ l, x ≤ l.sum
  | [], _, _, h => by cases h
  | a :: l, hp, x, h => by
    have h1 := hp a List.mem_cons_self
    have h0 : 0 ≤ l.sum := by
      clear h
      have hp' : ∀ x ∈ l, 1 ≤ x := fun x hx => hp x (List.mem_cons_of_mem _ hx)
      clear hp h1
      induction l with
      | nil => simp
      | cons b l ih =>
        rw [List.sum_cons]
        have := hp' b List.mem_cons_self
        have := ih (fun x hx => hp' x (List.mem_cons_of_mem _ hx))
        omega
    rw [List.sum_cons]
    rcases List.mem_cons.1 h with rfl | h
    · omega
    · have := sum_pos_le l (fun x hx => hp x (List.mem_cons_of_mem _ hx)) x h
      omega

theorem sum_set : ∀ (l : List Int) (i : Nat) (v : Int) (h : i < l.length), (l.set i v).sum + l[i] = l.sum + v
  | [], _, _, h => by simp at h
  | a :: l, 0, v, _ => by simp [List.sum_cons]; omega
  | a :: l, i + 1, v, h => by
    have := sum_set l i v (by simpa using h)
    simp [List.sum_cons]
    omega

theorem sum_eraseIdx : ∀ (l : List Int) (i : Nat) (h : i < l.length), (l.eraseIdx i).sum + l[i] = l.sum
  | [], _, h => by simp at h
  | a :: l, 0, _ => by simp [List.sum_cons]; omega
  | a :: l, i + 1, h => by
    have := sum_eraseIdx l i (by simpa using h)
    simp [List.sum_cons]
    omega

theorem sum_two : ∀ (l : List Int) (i j : Nat) (hi : i < j) (hj : j < l.length), (∀ x ∈ l, 1 ≤ x) → l[i] + l[j] ≤ l.sum
  | [], _, _, _, h, _ => by simp at h
  | a :: l, 0, j + 1, _, h, hp => by
    have := sum_pos_le l (fun x hx => hp x (List.mem_cons_of_mem _ hx)) (l[j]'(by simpa using h)) (List.getElem_mem _)
    simp [List.sum_cons]
    omega
  | a :: l, i + 1, j + 1, hi, h, hp => by
    have h1 := sum_two l i j (by omega) (by simpa using h) (fun x hx => hp x (List.mem_cons_of_mem _ hx))
    have := hp a List.mem_cons_self
    simp [List.sum_cons]
    omega

theorem rd_get (l : List Int) (i : Nat) (h : i < l.length) : rd l (i : Int) = l[i] := by simp [rd, List.getD_eq_getElem?_getD, List.getElem?_eq_getElem h]

theorem mergeAt_good (l : List Int) (a i : Nat) (hai : a < i) (hi : i < l.length) (h : Good l) : Good (mergeAt a l i) ∧ (mergeAt a l i).sum = l.sum ∧ mergeAt a l i = (l.set a (l[a]'(by omega) + l[i])).eraseIdx i := by
  have h2 := sum_two l a i hai hi h.pos
  have pa := h.pos _ (List.getElem_mem (l := l) (n := a) (by omega))
  have pi := h.pos _ (List.getElem_mem (l := l) (n := i) hi)
  have hs := h.sum
  have e : mergeAt a l i = (l.set a (l[a]'(by omega) + l[i])).eraseIdx i := by
    unfold mergeAt
    rw [rd_get l a (by omega), rd_get l i hi, Int.toNat_natCast, Int.toNat_natCast]
    rw [show wrap64 (l[a]'(by omega) + l[i]) = l[a]'(by omega) + l[i] from by unfold wrap64; omega]
  have hsum : (mergeAt a l i).sum = l.sum := by
    rw [e]
    have h3 := sum_eraseIdx (l.set a (l[a]'(by omega) + l[i])) i (by simpa using hi)
    have h4 := sum_set l a (l[a]'(by omega) + l[i]) (by omega)
    rw [List.getElem_set_ne (by omega)] at h3
    omega
  refine ⟨⟨?_, by omega⟩, hsum, e⟩
  intro x hx
  rw [e] at hx
  have hx2 := List.mem_of_mem_eraseIdx hx
  rcases List.mem_or_eq_of_mem_set hx2 with h5 | h5
  · exact h.pos x h5
  · omega

theorem stepK_good (first : Nat) (zs l : List Int) (h : Good l) : ∀ k, (∀ j, j < k → (first : Int) < (backF zs j).2 ∧ (backF zs j).2 + j < l.length) → Good (stepK first zs l k) ∧ (stepK first zs l k).sum = l.sum ∧ (stepK first zs l k).length + k = l.length
  | 0, _ => ⟨h, rfl, rfl⟩
  | k + 1, hk => by
    obtain ⟨h1, h2, h3⟩ := stepK_good first zs l h k (fun j hj => hk j (by omega))
    have h4 := hk k (by omega)
    obtain ⟨i, hi⟩ := Int.eq_ofNat_of_zero_le (show 0 ≤ (backF zs k).2 by omega)
    have hm := mergeAt_good (stepK first zs l k) first i (by omega) (by omega) h1
    have hl := mergeAt_length first (stepK first zs l k) i (by omega) (by omega)
    simp only [stepK]
    rw [hi]
    exact ⟨hm.1, hm.2.1.trans h2, by omega⟩

theorem stepF_good (l p : List Int) (h : Good l) (hp : Rises p l.length) : Good (stepF l p) ∧ (stepF l p).sum = l.sum ∧ (stepF l p).length + (p.length - 1) = l.length := by
  obtain ⟨a, ha⟩ := Int.eq_ofNat_of_zero_le hp.zero
  have h2 := hp.rest
  unfold stepF
  rw [ha] at h2 ⊢
  have := stepK_good a p.tail l h p.tail.length h2
  rw [List.length_tail] at this ⊢
  exact this

/-- Steps till nothing is picked; the first number bounds how often it is tried. -/
def settleF (fan : Int) : Nat → List Int → Nat → List Int × Nat
  | 0, l, n => (l, n)
  | k + 1, l, n => if pickF l fan = [] then (l, n) else settleF fan k (stepF l (pickF l fan)) (n + 1)
end Go.Proofs.Ytfkckhliffbcjaa.Tier
