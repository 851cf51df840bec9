/- Settling leaves few: the plain law behind the statement TierFew. -/
import Derived.Test.YtfkckhliffbcjaaQ4
namespace Go.Proofs.Ytfkckhliffbcjaa.Pure
open Go.RowKit Go.Proofs.Ytfkckhliffbcjaa.X Go.Proofs.YtfkckhliffbcjaaW.PrintWords Go.Proofs.YtfkckhliffbcjaaW.PrintLast Go.Proofs.Ytfkckhliffbcjaa.Tier

theorem take_sum_succ (l : List Int) (i : Nat) (h : i < l.length) : (l.take (i + 1)).sum = (l.take i).sum + rd l (i : Int) := by
  rw [List.take_succ_eq_append_getElem h, List.sum_append, rd_get l i h]
  simp

theorem take_sum_le (l : List Int) (hp : ∀ x ∈ l, 1 ≤ x) (i : Nat) : 0 ≤ (l.take i).sum ∧ (l.take i).sum ≤ l.sum := by
  have h1 : ∀ m : List Int, (∀ x ∈ m, 1 ≤ x) → 0 ≤ m.sum := by
    intro m
    induction m with
    | nil => intro _; simp
    | cons x m ih =>
      intro h
      have := ih fun y hy => h y (List.mem_cons_of_mem _ hy)
      have := h x (List.mem_cons_self ..)
      rw [List.sum_cons]; omega
  have h2 := h1 (l.take i) fun x hx => hp x (List.mem_of_mem_take hx)
  have h3 := h1 (l.drop i) fun x hx => hp x (List.mem_of_mem_drop hx)
  have h4 : l.sum = (l.take i).sum + (l.drop i).sum := by rw [← List.sum_append, List.take_append_drop]
  omega

theorem ev_few_l0 (x0 : List Int) (x1 : Int) (x5 : List Int) (x6 x9 : Int) (m : List Int) (hm : Tier.Good m) (hl : m.length ≤ 256) (r : Bool)
    (hk : Ev (fun k => missivelaw17_TierFew.l1 k x0 x1 x5 x6 m.sum x9 x5 (x5.length : Int) 0) r) :
    ∀ (d i : Nat), i + d = m.length → Ev (fun k => missivelaw17_TierFew.l0 k x0 x1 x5 x6 (m.take i).sum x9 m (m.length : Int) (i : Int)) r := by
  intro d
  induction d with
  | zero =>
    intro i hi
    rw [List.take_of_length_le (by omega)]
    refine Ev.step (fun k => ?_) hk
    simp only [missivelaw17_TierFew.l0]
    rw [if_neg (by omega)]
  | succ d ih =>
    intro i hi
    have h1 := take_sum_succ m i (by omega)
    have h2 := take_sum_le m hm.pos (i + 1)
    have h3 := hm.sum
    refine Ev.step (fun k => ?_) (ih (i + 1) (by omega))
    simp only [missivelaw17_TierFew.l0]
    rw [if_pos (by omega), if_pos (by omega), if_pos (by omega), ← h1, wrap64_id _ (by omega) (by omega), wrap64_id ((i : Int) + 1) (by omega) (by omega)]
    rfl

theorem ev_few_l1 (x0 : List Int) (x1 : Int) (x5 : List Int) (x6 x8 : Int) (m : List Int) (hm : Tier.Good m) (hl : m.length ≤ 256) (r : Bool)
    (hk : Ev (fun k => (tier_Most.f k x8 x1).bind fun bt220 => (if bt220.2 = 0 then (if x8 = m.sum then (if (x5.length : Int) > bt220.1 then (missivelaw17_TierFew.j2 k x1 x5 true) else (missivelaw17_TierFew.j2 k x1 x5 ((wrap64 ((x0.length : Int) - (x5.length : Int))) != (wrap64 (x6 * (wrap64 (x1 - 1))))))) else (missivelaw17_TierFew.j2 k x1 x5 true)) else (missivelaw17_TierFew.j2 k x1 x5 true))) r) :
    ∀ (d i : Nat), i + d = m.length → Ev (fun k => missivelaw17_TierFew.l1 k x0 x1 x5 x6 x8 (m.take i).sum m (m.length : Int) (i : Int)) r := by
  intro d
  induction d with
  | zero =>
    intro i hi
    rw [List.take_of_length_le (by omega)]
    refine Ev.step (fun k => ?_) hk
    simp only [missivelaw17_TierFew.l1]
    rw [if_neg (by omega)]
  | succ d ih =>
    intro i hi
    have h1 := take_sum_succ m i (by omega)
    have h2 := take_sum_le m hm.pos (i + 1)
    have h3 := hm.sum
    refine Ev.step (fun k => ?_) (ih (i + 1) (by omega))
    simp only [missivelaw17_TierFew.l1]
    rw [if_pos (by omega), if_pos (by omega), if_pos (by omega), ← h1, wrap64_id _ (by omega) (by omega), wrap64_id ((i : Int) + 1) (by omega) (by omega)]
    rfl

theorem check_zero (l : List Int) (fan : Int) (hf : fansB fan = true) (hl : l.length ≤ 256) (h : ∀ x ∈ l, 1 ≤ x ∧ x ≤ 4096) : checkE l fan = 0 := by
  unfold checkE
  rw [hf, if_neg (by decide), if_neg, if_neg (by omega)]
  intro ha
  obtain ⟨x, hx, hb⟩ := List.any_eq_true.1 ha
  have := h x hx
  simp [badB] at hb
  omega

theorem ev_few_l2 (x1 : Int) (m : List Int) (hf : fansB x1 = true) (hm : Tier.Good m) (hl : m.length ≤ 256) (hp : pickF m x1 = []) :
    ∀ (d i : Nat), i + d = m.length → (∀ j, j < i → rd m (j : Int) ≤ 4096) → Ev (fun k => missivelaw17_TierFew.l2 k x1 m m (m.length : Int) (i : Int)) true := by
  intro d
  induction d with
  | zero =>
    intro i hi ha
    have hc : checkE m x1 = 0 := by
      refine check_zero m x1 hf hl fun x hx => ⟨hm.pos x hx, ?_⟩
      obtain ⟨j, hj, rfl⟩ := List.mem_iff_getElem.1 hx
      have := ha j (by omega)
      rwa [rd_get m j hj] at this
    refine Ev.step (fun k => ?_) (Ev.now _)
    simp only [missivelaw17_TierFew.l2]
    rw [if_neg (by omega), pick_f]
    unfold pickR
    rw [if_pos hc, hp]
    rfl
  | succ d ih =>
    intro i hi ha
    by_cases h : rd m (i : Int) > 4096
    · refine Ev.step (fun k => ?_) (Ev.now _)
      simp only [missivelaw17_TierFew.l2]
      rw [if_pos (by omega), if_pos (by omega), if_pos (by omega), if_pos h]
    · refine Ev.step (fun k => ?_) (ih (i + 1) (by omega) fun j hj => ?_)
      · simp only [missivelaw17_TierFew.l2]
        rw [if_pos (by omega), if_pos (by omega), if_pos (by omega), if_neg h, wrap64_id ((i : Int) + 1) (by omega) (by omega)]
        rfl
      · by_cases e : j = i
        · subst e; omega
        · exact ha j (by omega)

/-- What settling leaves is few. -/
theorem ev_few (l : List Int) (a : Int) (hc : checkE l a = 0) :
    Ev (fun k => missivelaw17_TierFew.l0 k l a (settleF a l.length l 0).1 ((settleF a l.length l 0).2 : Nat) 0 0 l (l.length : Int) 0) true := by
  obtain ⟨⟨h1, h1'⟩, h2, h3⟩ := check_ok l a hc
  have hg := check_good l a hc
  obtain ⟨f, rfl⟩ : ∃ f : Nat, a = (f : Int) := ⟨a.toNat, by omega⟩
  have hf : fansB (f : Int) = true := by simp [fansB]; omega
  obtain ⟨g1, g2, g3, g4, _, g6⟩ := settle_facts f (by omega) l.length l 0 hg h2 (Nat.le_refl _)
  generalize hS : (settleF f l.length l 0).1 = S at *
  generalize hN : (settleF f l.length l 0).2 = N at *
  rw [Nat.sub_zero] at g6
  have hfew := few_of_none f (by omega) S (by omega) g1 g4
  have hT := tierF_le f 63 S.sum
  have hs0 : 0 ≤ l.sum := by have := take_sum_le l hg.pos 0; omega
  have hs1 := hg.sum
  have hm : mostR l.sum f = ((f : Int) * (1 + (tierF f 63 l.sum : Nat)) + 1, 0) := by
    unfold mostR
    rw [if_pos hf, if_neg (by omega), wrap64_id (1 + _) (by rw [← g2]; omega) (by rw [← g2]; omega)]
    have h5 : (f : Int) * (1 + (tierF f 63 l.sum : Nat)) ≤ 16 * 64 := Int.mul_le_mul (by omega) (by rw [← g2]; omega) (by omega) (by omega)
    have h6 : 0 ≤ (f : Int) * (1 + (tierF f 63 l.sum : Nat)) := Int.mul_nonneg (by omega) (by omega)
    rw [wrap64_id (_ * _) (by omega) (by omega), wrap64_id _ (by omega) (by omega)]
  have hmax : ¬ ((S.length : Int) > (f : Int) * (1 + (tierF f 63 l.sum : Nat)) + 1) := by
    rw [← g2]
    have h7 : (tierF f 63 S.sum + 1) * (f - 1) ≤ (tierF f 63 S.sum + 1) * f := Nat.mul_le_mul_left _ (by omega)
    have h8 : ((S.length : Nat) : Int) ≤ (((tierF f 63 S.sum + 1) * f : Nat) : Int) := by omega
    rw [Int.natCast_mul, Int.mul_comm, Int.natCast_add, show ((1 : Nat) : Int) = 1 from rfl] at h8
    rw [Int.add_comm 1]
    omega
  have hlen : (wrap64 ((l.length : Int) - (S.length : Int)) != wrap64 ((N : Int) * wrap64 ((f : Int) - 1))) = false := by
    have h8 : N * (f - 1) ≤ 256 := by omega
    have h9 : ((l.length : Nat) : Int) = S.length + (N : Int) * ((f : Int) - 1) := by
      have e := congrArg (fun n : Nat => (n : Int)) g6
      simp only [Int.natCast_add, Int.natCast_mul] at e
      rw [show ((f - 1 : Nat) : Int) = (f : Int) - 1 from by omega] at e
      exact e
    have h10 : (l.length : Int) - S.length = (N : Int) * ((f : Int) - 1) := by omega
    rw [wrap64_id ((f : Int) - 1) (by omega) (by omega), ← h10]
    simp
  have e0 := ev_few_l0 l f S N 0 l hg h2 true ?_ l.length 0 (by omega)
  · rw [show (l.take 0).sum = 0 from rfl] at e0
    exact e0
  · have e1 := ev_few_l1 l f S N l.sum S g1 (by omega) true ?_ S.length 0 (by omega)
    · rw [show (S.take 0).sum = 0 from rfl] at e1
      exact e1
    · have e2 := ev_Most l.sum f (by omega)
      rw [hm] at e2
      refine Ev.bind e2 ?_
      simp only
      refine Ev.congr (f := fun k => missivelaw17_TierFew.j2 k f S false) (fun k => ?_) ?_
      · rw [if_pos trivial, if_pos g2.symm, if_neg hmax, hlen]
      · refine Ev.step (fun k => ?_) (ev_few_l2 f S hf g1 (by omega) g4 S.length 0 (by omega) (fun j hj => by omega))
        simp only [missivelaw17_TierFew.j2]
        rw [if_neg (by decide)]
        rfl

theorem TierFew : missivelaw17_TierFew.Pure := by
  intro l a _ _ _ _
  refine Ev.rounds (Ev.congr (fun k => ?_) (Ev.bind (f := fun k t212 => (if t212 = true then ((tier_Settle.f l a).bind fun bt213 => (if bt213.2.2 = 0 then (missivelaw17_TierFew.l0 k l a bt213.1 bt213.2.1 0 0 l (l.length : Int) 0) else (if (bt213.1.length : Int) = 0 then (some (bt213.2.1 == 0)) else (some false)))) else (some false))) ev_sizes ?_))
  · rfl
  · by_cases hc : checkE l a = 0
    · refine Ev.congr (fun k => ?_) (ev_few l a hc)
      rw [if_pos rfl, settle_f]
      unfold settleR
      rw [if_pos hc]
      rfl
    · refine Ev.congr (fun k => ?_) (Ev.now _)
      rw [if_pos rfl, settle_f]
      unfold settleR
      rw [if_neg hc]
      simp only [Option.bind_some]
      rw [if_neg hc]
      rfl
end Go.Proofs.Ytfkckhliffbcjaa.Pure
