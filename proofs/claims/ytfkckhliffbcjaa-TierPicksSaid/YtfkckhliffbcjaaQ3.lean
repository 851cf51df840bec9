/- Settled sizes. No program in sight. -/
import Derived.Test.YtfkckhliffbcjaaQ2
namespace Go.Proofs.Ytfkckhliffbcjaa.Tier
open Go.RowKit Go.Proofs.YtfkckhliffbcjaaW.PrintWords

theorem pickF_short (l : List Int) (f : Nat) (hl : l.length ≤ 256) (h2 : 2 ≤ f) (h : l.length < f) : pickF l f = [] := by
  rw [pickF_eq f l hl h2]
  rcases refPick_some f l f 64 0 with h' | ⟨t, ht, _⟩
  · exact h'
  · have h3 : (posT f l t).length ≤ l.length := by
      unfold posT
      have := List.length_filter_le (fun i => tierI f l i == t) (List.range l.length)
      rwa [List.length_range] at this
    omega

/-- What settling brings: the same sum, sizes still, a place fewer for each one that is merged; nothing is picked any more. -/
theorem settle_facts (f : Nat) (h2 : 2 ≤ f) : ∀ (k : Nat) (l : List Int) (n : Nat), Good l → l.length ≤ 256 → l.length ≤ k →
    Good (settleF f k l n).1 ∧ (settleF f k l n).1.sum = l.sum ∧ (settleF f k l n).1.length ≤ l.length ∧ pickF (settleF f k l n).1 f = [] ∧ n ≤ (settleF f k l n).2 ∧ l.length = (settleF f k l n).1.length + ((settleF f k l n).2 - n) * (f - 1)
  | 0, l, n, hg, hl, hk => by
    refine ⟨hg, rfl, Nat.le_refl _, pickF_short l f hl h2 (by omega), Nat.le_refl _, ?_⟩
    show l.length = l.length + (n - n) * (f - 1)
    rw [Nat.sub_self, Nat.zero_mul, Nat.add_zero]
  | k + 1, l, n, hg, hl, hk => by
    unfold settleF
    by_cases hp : pickF l f = []
    · rw [if_pos hp]
      refine ⟨hg, rfl, Nat.le_refl _, hp, Nat.le_refl _, ?_⟩
      show l.length = l.length + (n - n) * (f - 1)
      rw [Nat.sub_self, Nat.zero_mul, Nat.add_zero]
    · rw [if_neg hp]
      obtain ⟨hri, hpl⟩ := pick_rises f l hl h2 hp
      obtain ⟨h3, h4, h5⟩ := stepF_good l (pickF l f) hg hri
      rw [hpl] at h5
      obtain ⟨i1, i2, i3, i4, i5, i6⟩ := settle_facts f h2 k (stepF l (pickF l f)) (n + 1) h3 (by omega) (by omega)
      refine ⟨i1, i2.trans h4, by omega, i4, by omega, ?_⟩
      have e : (settleF f k (stepF l (pickF l f)) (n + 1)).2 - n = ((settleF f k (stepF l (pickF l f)) (n + 1)).2 - (n + 1)) + 1 := by omega
      rw [e, Nat.add_mul, Nat.one_mul]
      omega

theorem tierF_mono (fan : Int) (hf : 2 ≤ fan) : ∀ (k : Nat) (a b : Int), a ≤ b → tierF fan k a ≤ tierF fan k b
  | 0, _, _, _ => Nat.le_refl _
  | k + 1, a, b, h => by
    unfold tierF
    by_cases ha : a < fan
    · rw [if_pos ha]; omega
    · rw [if_neg ha, if_neg (by omega)]
      have := tierF_mono fan hf k (a / fan) (b / fan) (Int.ediv_le_ediv (by omega) h)
      omega

theorem refPick_none (fan : Int) (l : List Int) (f : Nat) (hf : 0 < f) : ∀ m t, refPick fan l f m t = [] → ∀ t', t ≤ t' → t' < t + m → (posT fan l t').length < f
  | 0, _, _, t', h1, h2 => by omega
  | m + 1, t, h, t', h1, h2 => by
    unfold refPick at h
    split at h
    · rename_i hb
      have := congrArg List.length h
      rw [List.length_map, List.length_take, List.length_nil] at this
      omega
    · rename_i hb
      by_cases e : t' = t
      · subst e; omega
      · exact refPick_none fan l f hf m (t + 1) h t' (by omega) (by omega)

theorem few_of_none (f : Nat) (h2 : 2 ≤ f) (l : List Int) (hl : l.length ≤ 256) (hg : Good l) (hp : pickF l f = []) : l.length ≤ (tierF f 63 l.sum + 1) * (f - 1) := by
  have hlen : (blocks f l (List.range 64)).length = l.length := by rw [← sortM_eq _ _ hl, sortM_length, marksL_length]
  rw [pickF_eq f l hl h2] at hp
  have hnone := refPick_none f l f (by omega) 64 0 hp
  have key : ∀ n, n ≤ 64 → (blocks f l (List.range n)).length ≤ (min n (tierF f 63 l.sum + 1)) * (f - 1) := by
    intro n
    induction n with
    | zero => intro _; simp [blocks]
    | succ n ih =>
      intro hn
      have ih := ih (by omega)
      rw [List.range_succ, blocks_append, blocks_one, List.length_append, List.length_map]
      by_cases hT : n ≤ tierF f 63 l.sum
      · have h3 := hnone n (by omega) (by omega)
        rw [show min (n + 1) (tierF f 63 l.sum + 1) = min n (tierF f 63 l.sum + 1) + 1 from by omega, Nat.add_mul, Nat.one_mul]
        omega
      · have h0 : posT f l n = [] := by
          rw [List.eq_nil_iff_forall_not_mem]
          intro i hi
          rw [mem_posT] at hi
          have hmem : rd l (i : Int) ∈ l := by
            rw [rd_get l i hi.1]
            exact List.getElem_mem _
          have h4 := sum_pos_le l hg.pos _ hmem
          have h5 := tierF_mono f (by omega) 63 _ _ h4
          unfold tierI at hi
          omega
        rw [h0, List.length_nil, Nat.add_zero, show min (n + 1) (tierF f 63 l.sum + 1) = min n (tierF f 63 l.sum + 1) from by omega]
        exact ih
  have h6 := key 64 (Nat.le_refl _)
  rw [hlen] at h6
  exact Nat.le_trans h6 (Nat.mul_le_mul_right _ (Nat.min_le_right _ _))
end Go.Proofs.Ytfkckhliffbcjaa.Tier
