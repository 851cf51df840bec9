/- What the printed reference functions of sizes come to. -/
import Derived.Test.YtfkckhliffbcjaaQ5
namespace Go.Proofs.Ytfkckhliffbcjaa.Tier
open Go.RowKit Go.Proofs.Ytfkckhliffbcjaa.X Go.Proofs.YtfkckhliffbcjaaW.PrintWords Go.Proofs.YtfkckhliffbcjaaW.PrintLast

theorem ev_rtier_l (fan : Int) (hf : 2 ≤ fan) : ∀ (j : Nat) (s : Int) (n : Nat), n + j ≤ 63 → s < 2 ^ j → s ≤ 9223372036854775807 → Ev (fun k => missiveref17_tier.l0 k s fan n) ((n + tierF fan j s : Nat) : Int) := by
  intro j
  induction j with
  | zero =>
    intro s n hn hs _
    refine Ev.step (fun k => ?_) (Ev.now _)
    simp only [missiveref17_tier.l0]
    rw [if_neg (by simp at hs; omega)]
    rfl
  | succ j ih =>
    intro s n hn hs hs2
    by_cases h : s < fan
    · have e : n + tierF fan (j + 1) s = n := by unfold tierF; rw [if_pos h, Nat.add_zero]
      rw [e]
      refine Ev.step (fun k => ?_) (Ev.now _)
      simp only [missiveref17_tier.l0]
      rw [if_neg (by omega)]
    · have hd := div_lt_pow (k := j) hf hs
      have h0 : 0 ≤ s / fan := Int.ediv_nonneg (by omega) (by omega)
      have h1 : s / fan ≤ s := Int.ediv_le_self _ (by omega)
      have ih' := ih (s / fan) (n + 1) (by omega) hd (by omega)
      have e : n + tierF fan (j + 1) s = n + 1 + tierF fan j (s / fan) := by conv => lhs; unfold tierF; rw [if_neg h]
                                                                             omega
      rw [e]
      refine Ev.step (fun k => ?_) ih'
      simp only [missiveref17_tier.l0]
      rw [if_pos (by omega), if_neg (by omega), Int.tdiv_eq_ediv_of_nonneg (by omega), wrap64_id (s / fan) (by omega) (by omega), wrap64_id ((n : Int) + 1) (by omega) (by omega)]
      rfl

theorem ev_rtier (fan s : Int) (hf : 2 ≤ fan) (hs : s ≤ 9223372036854775807) : Ev (fun k => missiveref17_tier.f k s fan) ((tierF fan 63 s : Nat) : Int) := by
  have h := ev_rtier_l fan hf 63 s 0 (by omega) (by omega) hs
  rw [Nat.zero_add] at h
  exact h

theorem rfan_f (fan : Int) : missiveref17_fan.f fan = some (fansB fan) := by
  unfold missiveref17_fan.f fansB
  by_cases h : 2 ≤ fan
  · rw [if_pos h, decide_eq_true h]; simp
  · rw [if_neg h, decide_eq_false h]; simp

theorem ev_rTier (s fan : Int) (hs : s ≤ 9223372036854775807) : Ev (fun k => missiveref17_Tier.f k s fan) (tierR s fan) := by
  unfold tierR
  cases h : fansB fan with
  | true =>
    refine Ev.congr (fun k => ?_) (Ev.bind (f := fun _ t => some (t, (0 : Int))) (ev_rtier fan s (fans_lo h).1 hs) (Ev.now _))
    unfold missiveref17_Tier.f
    rw [rfan_f, h]
    rfl
  | false =>
    refine Ev.congr (fun k => ?_) (Ev.now _)
    unfold missiveref17_Tier.f
    rw [rfan_f, h]
    rfl

theorem ev_rMost (s fan : Int) (hs : s ≤ 9223372036854775807) : Ev (fun k => missiveref17_Most.f k s fan) (mostR s fan) := by
  unfold mostR
  cases h : fansB fan with
  | true =>
    by_cases h0 : s < 0
    · refine Ev.congr (fun k => ?_) (Ev.now _)
      unfold missiveref17_Most.f
      rw [rfan_f, h]
      simp only [Option.bind_some, if_true]
      rw [if_pos h0, if_pos h0]
    · rw [if_pos rfl, if_neg h0]
      refine Ev.congr (fun k => ?_) (Ev.bind (f := fun _ t => some (wrap64 (wrap64 (fan * wrap64 (1 + t)) + 1), (0 : Int))) (ev_rtier fan s (fans_lo h).1 hs) (Ev.now _))
      unfold missiveref17_Most.f
      rw [rfan_f, h]
      simp only [Option.bind_some, if_true]
      rw [if_neg h0]
  | false =>
    refine Ev.congr (fun k => ?_) (Ev.now _)
    unfold missiveref17_Most.f
    rw [rfan_f, h]
    rfl

/-- The check of sizes, from place i on. -/
theorem ev_rcheck_l (l : List Int) (hb : l.length ≤ 9223372036854775806) : ∀ (d i : Nat), i + d = l.length →
    Ev (fun k => missiveref17_check.l0 k l l (l.length : Int) (i : Int)) (if (l.drop i).any badB = true then 1 else if l.length > 256 then 15 else 0) := by
  intro d
  induction d with
  | zero =>
    intro i hi
    rw [List.drop_of_length_le (by omega)]
    refine Ev.step (fun k => ?_) (Ev.now _)
    simp only [missiveref17_check.l0]
    rw [if_neg (by omega), List.any_nil, if_neg Bool.false_ne_true]
    by_cases h : l.length > 256
    · rw [if_pos h, if_pos (show (l.length : Int) > 256 by omega)]
    · rw [if_neg h, if_neg (show ¬ (l.length : Int) > 256 by omega)]
  | succ d ih =>
    intro i hi
    have hd : l.drop i = rd l (i : Int) :: l.drop (i + 1) := by
      rw [List.drop_eq_getElem_cons (by omega), rd_get l i (by omega)]
    rw [hd, List.any_cons]
    by_cases h : badB (rd l (i : Int)) = true
    · rw [h, Bool.true_or, if_pos rfl]
      refine Ev.step (fun k => ?_) (Ev.now _)
      simp only [missiveref17_check.l0]
      rw [if_pos (by omega), if_pos (by omega), if_pos (by omega)]
      by_cases h1 : rd l (i : Int) < 1
      · rw [if_pos h1]
      · rw [if_neg h1, if_pos]
        simp [badB] at h
        omega
    · have h' : badB (rd l (i : Int)) = false := by simpa using h
      rw [h', Bool.false_or]
      refine Ev.step (fun k => ?_) (ih (i + 1) (by omega))
      simp only [missiveref17_check.l0]
      simp [badB] at h'
      rw [if_pos (by omega), if_pos (by omega), if_pos (by omega), if_neg (by omega), if_neg (by omega), wrap64_id ((i : Int) + 1) (by omega) (by omega)]
      rfl

theorem ev_rcheck (l : List Int) (fan : Int) (hb : l.length ≤ 9223372036854775806) : Ev (fun k => missiveref17_check.f k l fan) (checkE l fan) := by
  unfold checkE
  cases h : fansB fan with
  | false =>
    rw [if_pos rfl]
    refine Ev.congr (fun k => ?_) (Ev.now _)
    unfold missiveref17_check.f
    rw [rfan_f, h]
    rfl
  | true =>
    rw [if_neg (by decide)]
    have h1 := ev_rcheck_l l hb l.length 0 (by omega)
    rw [List.drop_zero] at h1
    refine Ev.congr (fun k => ?_) h1
    unfold missiveref17_check.f
    rw [rfan_f, h]
    rfl

/-- The places of a tier, up to place i. -/
def upT (fan : Int) (l : List Int) (t i : Nat) : List Int := ((List.range i).filter fun j => tierI fan l j == t).map fun j => ((j : Nat) : Int)

theorem upT_hit (fan : Int) (l : List Int) (t i : Nat) (h : tierI fan l i = t) : upT fan l t (i + 1) = upT fan l t i ++ [(i : Int)] := by
  unfold upT
  rw [List.range_succ, List.filter_append, List.map_append]
  simp [h]
theorem upT_miss (fan : Int) (l : List Int) (t i : Nat) (h : tierI fan l i ≠ t) : upT fan l t (i + 1) = upT fan l t i := by
  unfold upT
  rw [List.range_succ, List.filter_append, List.map_append]
  simp [h]
theorem upT_le (fan : Int) (l : List Int) (t i : Nat) : (upT fan l t i).length ≤ i := by
  unfold upT
  rw [List.length_map]
  have := List.length_filter_le (fun j => tierI fan l j == t) (List.range i)
  rwa [List.length_range] at this

theorem ev_rpick (f : Nat) (h2 : 2 ≤ f) (hf : f ≤ 16) (l : List Int) (hl : l.length ≤ 256) (hs : ∀ i, i < l.length → rd l (i : Int) ≤ 9223372036854775807) :
    ∀ (m t : Nat), t + m = 64 → Ev (fun k => missiveref17_pick.l0 k l f (t : Int)) (refPick f l f m t) := by
  intro m
  induction m with
  | zero =>
    intro t ht
    refine Ev.step (fun k => ?_) (Ev.now _)
    simp only [missiveref17_pick.l0]
    rw [if_neg (by omega)]
    rfl
  | succ m ihm =>
    intro t ht
    have inner : ∀ (d i : Nat), i + d = l.length → Ev (fun k => missiveref17_pick.l1 k l f (t : Int) (upT f l t i) l (l.length : Int) (i : Int)) (refPick f l f (m + 1) t) := by
      intro d
      induction d with
      | zero =>
        intro i hi
        have e : i = l.length := by omega
        subst e
        have hu : upT f l t l.length = (posT f l t).map fun j => ((j : Nat) : Int) := rfl
        have hlu : (upT f l t l.length).length = (posT f l t).length := by rw [hu, List.length_map]
        by_cases h : f ≤ (posT f l t).length
        · have e : refPick f l f (m + 1) t = (upT f l t l.length).take f := by
            conv => lhs; unfold refPick
            rw [if_pos h, hu, List.map_take]
          rw [e]
          refine Ev.step (fun k => ?_) (Ev.now _)
          simp only [missiveref17_pick.l1]
          rw [if_neg (by omega), if_pos (by omega), if_pos (by omega), if_pos (by omega), Int.toNat_natCast]
        · have e : refPick f l f (m + 1) t = refPick f l f m (t + 1) := by
            conv => lhs; unfold refPick
            rw [if_neg h]
          rw [e]
          refine Ev.step (fun k => ?_) (ihm (t + 1) (by omega))
          simp only [missiveref17_pick.l1]
          rw [if_neg (by omega), if_neg (by omega), wrap64_id ((t : Int) + 1) (by omega) (by omega)]
          rfl
      | succ d ih =>
        intro i hi
        have ht := ev_rtier f (rd l (i : Int)) (by omega) (hs i (by omega))
        have hu := upT_le f l t i
        refine Ev.step (f := fun k => (missiveref17_tier.f k (rd l (i : Int)) f).bind fun t108 => if t108 = (t : Int) then missiveref17_pick.l1 k l f (t : Int) (upT f l t i ++ [(i : Int)]) l (l.length : Int) ((i + 1 : Nat) : Int) else missiveref17_pick.l1 k l f (t : Int) (upT f l t i) l (l.length : Int) ((i + 1 : Nat) : Int)) (fun k => ?_) (Ev.bind ht ?_)
        · simp only [missiveref17_pick.l1]
          rw [if_pos (by omega), if_pos (by omega), if_pos (by omega), wrap64_id ((i : Int) + 1) (by omega) (by omega)]
          simp only [show (upT f l t i).length < 17592186044416 from by omega, if_true]
          rfl
        · have ih' := ih (i + 1) (by omega)
          by_cases h : tierI f l i = t
          · rw [upT_hit f l t i h] at ih'
            refine Ev.congr (fun k => ?_) ih'
            rw [if_pos]
            unfold tierI at h
            omega
          · rw [upT_miss f l t i h] at ih'
            refine Ev.congr (fun k => ?_) ih'
            rw [if_neg]
            unfold tierI at h
            omega
    refine Ev.step (fun k => ?_) (inner l.length 0 (by omega))
    simp only [missiveref17_pick.l0]
    rw [if_pos (by omega)]
    rfl

theorem ev_rpick_f (f : Nat) (h2 : 2 ≤ f) (hf : f ≤ 16) (l : List Int) (hl : l.length ≤ 256) (hs : ∀ i, i < l.length → rd l (i : Int) ≤ 9223372036854775807) : Ev (fun k => missiveref17_pick.f k l f) (pickF l f) := by
  rw [pickF_eq f l hl h2]
  exact ev_rpick f h2 hf l hl hs 64 0 (by omega)

/-- The step by the front, past the first place. -/
theorem ev_rstep_l (l p : List Int) (a : Nat) (hl : l.length ≤ 256) (hg : Good l) : ∀ (d i q : Nat) (out : List Int), i + d = l.length → a < out.length → out.length ≤ i → 1 ≤ q → q ≤ p.length → p.length ≤ 256 → 0 ≤ rd out (a : Int) → rd out (a : Int) + (l.drop i).sum ≤ 1048576 →
    Ev (fun k => missiveref17_step.l0 k p out (q : Int) (a : Int) l (l.length : Int) (i : Int)) (out.set a (rd out (a : Int) + (dropM (i : Int) (l.drop i) (p.drop q)).2) ++ (dropM (i : Int) (l.drop i) (p.drop q)).1) := by
  intro d
  induction d with
  | zero =>
    intro i q out hi ha ho hq hq' hp h0 h1
    rw [List.drop_of_length_le (by omega : l.length ≤ i)]
    unfold dropM
    rw [set_rd_self, List.append_nil]
    refine Ev.step (fun k => ?_) (Ev.now _)
    simp only [missiveref17_step.l0]
    rw [if_neg (by omega)]
  | succ d ih =>
    intro i q out hi ha ho hq hq' hp h0 h1
    have hd : l.drop i = rd l (i : Int) :: l.drop (i + 1) := by
      rw [List.drop_eq_getElem_cons (by omega), rd_get l i (by omega)]
    have hx : 1 ≤ rd l (i : Int) := by
      rw [rd_get l i (by omega)]
      exact hg.pos _ (List.getElem_mem _)
    rw [hd, List.sum_cons] at h1
    have hsr := dropM_le (l.drop (i + 1)) 0 [] (fun x hx => hg.pos x (List.mem_of_mem_drop hx))
    rw [hd]
    by_cases hqp : q < p.length
    · have hpq : p.drop q = rd p (q : Int) :: p.drop (q + 1) := by
        rw [List.drop_eq_getElem_cons hqp, rd_get p q hqp]
      by_cases hh : rd p (q : Int) = (i : Int)
      · rw [hpq, hh, dropM_hit]
        have hr1 : rd (out.set a (rd out (a : Int) + rd l (i : Int))) (a : Int) = rd out (a : Int) + rd l (i : Int) := by
          rw [rd_get _ a (by simpa using ha), List.getElem_set_self]
        have ih' := ih (i + 1) (q + 1) (out.set a (rd out (a : Int) + rd l (i : Int))) (by omega) (by simpa using ha) (by rw [List.length_set]; omega) (by omega) (by omega) hp (by rw [hr1]; omega) (by rw [hr1]; omega)
        rw [hr1, List.set_set, Int.add_assoc] at ih'
        refine Ev.step (fun k => ?_) (Ev.step (f := fun k => missiveref17_step.l0 k p (out.set a (rd out (a : Int) + rd l (i : Int))) ((q + 1 : Nat) : Int) (a : Int) l (l.length : Int) ((i + 1 : Nat) : Int)) (g := fun k => missiveref17_step.j1 k p out (q : Int) (a : Int) (rd l (i : Int)) l (l.length : Int) (i : Int) true) (fun k => ?_) ih')
        · simp only [missiveref17_step.l0]
          rw [if_pos (by omega), if_pos (by omega), if_pos (by omega), if_pos (by omega), if_pos (by omega), hh, beq_self_eq_true]
        · simp only [missiveref17_step.j1]
          rw [if_pos trivial, if_neg (by omega), if_pos (by omega), if_pos (by omega), wrap64_id ((i : Int) + 1) (by omega) (by omega), wrap64_id ((q : Int) + 1) (by omega) (by omega), wrap64_id (rd out (a : Int) + _) (by omega) (by omega), Int.toNat_natCast]
          rfl
      · rw [dropM_miss _ _ _ _ (by rw [hpq]; simpa using hh)]
        have hr1 : rd (out ++ [rd l (i : Int)]) (a : Int) = rd out (a : Int) := by
          rw [rd_get _ a (by simp; omega), rd_get _ a ha, List.getElem_append_left ha]
        have ih' := ih (i + 1) q (out ++ [rd l (i : Int)]) (by omega) (by simp; omega) (by simp; omega) (by omega) (by omega) hp (by rw [hr1]; omega) (by rw [hr1]; omega)
        rw [hr1, List.set_append_left _ _ ha, List.append_assoc, List.singleton_append] at ih'
        refine Ev.step (fun k => ?_) (Ev.step (f := fun k => missiveref17_step.l0 k p (out ++ [rd l (i : Int)]) (q : Int) (a : Int) l (l.length : Int) ((i + 1 : Nat) : Int)) (g := fun k => missiveref17_step.j1 k p out (q : Int) (a : Int) (rd l (i : Int)) l (l.length : Int) (i : Int) false) (fun k => ?_) ih')
        · simp only [missiveref17_step.l0]
          rw [if_pos (by omega), if_pos (by omega), if_pos (by omega), if_pos (by omega), if_pos (by omega), beq_false_of_ne hh]
        · simp only [missiveref17_step.j1]
          rw [if_neg (by decide), if_pos (by omega), wrap64_id ((i : Int) + 1) (by omega) (by omega)]
          rfl
    · rw [dropM_miss _ _ _ _ (by rw [List.drop_of_length_le (by omega)]; simp)]
      have hr1 : rd (out ++ [rd l (i : Int)]) (a : Int) = rd out (a : Int) := by
        rw [rd_get _ a (by simp; omega), rd_get _ a ha, List.getElem_append_left ha]
      have ih' := ih (i + 1) q (out ++ [rd l (i : Int)]) (by omega) (by simp; omega) (by simp; omega) (by omega) (by omega) hp (by rw [hr1]; omega) (by rw [hr1]; omega)
      rw [hr1, List.set_append_left _ _ ha, List.append_assoc, List.singleton_append] at ih'
      refine Ev.step (fun k => ?_) (Ev.step (f := fun k => missiveref17_step.l0 k p (out ++ [rd l (i : Int)]) (q : Int) (a : Int) l (l.length : Int) ((i + 1 : Nat) : Int)) (g := fun k => missiveref17_step.j1 k p out (q : Int) (a : Int) (rd l (i : Int)) l (l.length : Int) (i : Int) false) (fun k => ?_) ih')
      · simp only [missiveref17_step.l0]
        rw [if_pos (by omega), if_pos (by omega), if_pos (by omega), if_neg (by omega)]
      · simp only [missiveref17_step.j1]
        rw [if_neg (by decide), if_pos (by omega), wrap64_id ((i : Int) + 1) (by omega) (by omega)]
        rfl

/-- The step by the front, whole. -/
theorem ev_rstep (l : List Int) (a : Nat) (zs : List Int) (hl : l.length ≤ 256) (hg : Good l) (ha : a < l.length) (hz : zs.length < 256) : Ev (fun k => missiveref17_step.f k l ((a : Int) :: zs)) (frontF l a zs) := by
  have main : ∀ (d i : Nat), i + d = a → Ev (fun k => missiveref17_step.l0 k ((a : Int) :: zs) (l.take i) 0 0 l (l.length : Int) (i : Int)) (frontF l a zs) := by
    intro d
    induction d with
    | zero =>
      intro i hi
      have e : i = a := by omega
      subst e
      have hsum : (l.take (i + 1)).sum + (l.drop (i + 1)).sum = l.sum := by rw [← List.sum_append, List.take_append_drop]
      have h6 : 1 ≤ rd l (i : Int) := by
        rw [rd_get l i ha]
        exact hg.pos _ (List.getElem_mem _)
      have h7 := sum_pos_le l hg.pos (rd l (i : Int)) (by rw [rd_get l i ha]; exact List.getElem_mem _)
      have h8 := hg.sum
      have et : l.take (i + 1) = l.take i ++ [rd l (i : Int)] := by
        rw [List.take_succ_eq_append_getElem ha, rd_get l i ha]
      have hlt : (l.take i).length = i := by rw [List.length_take]; omega
      have e1 : rd (l.take (i + 1)) (i : Int) = rd l (i : Int) := by
        rw [rd_get _ i (by simp; omega), rd_get _ i ha, List.getElem_take]
      have h9 : 0 ≤ (l.take i).sum := by
        have h3 : ∀ m : List Int, (∀ x ∈ m, 1 ≤ x) → 0 ≤ m.sum := by
          intro m
          induction m with
          | nil => intro _; simp
          | cons x m ih =>
            intro h
            have := ih fun y hy => h y (List.mem_cons_of_mem _ hy)
            have := h x List.mem_cons_self
            rw [List.sum_cons]; omega
        exact h3 _ fun x hx => hg.pos x (List.mem_of_mem_take hx)
      have hs2 : (l.take (i + 1)).sum = (l.take i).sum + rd l (i : Int) := by rw [et, List.sum_append]; simp
      have h := ev_rstep_l l ((i : Int) :: zs) i hl hg (l.length - (i + 1)) (i + 1) 1 (l.take (i + 1)) (by omega) (by rw [List.length_take]; omega) (by rw [List.length_take]; omega) (by omega) (by simp) (by simp; omega) (by rw [e1]; omega) (by rw [e1]; omega)
      rw [e1] at h
      have hfin : Ev (fun k => missiveref17_step.l0 k ((i : Int) :: zs) (l.take (i + 1)) ((1 : Nat) : Int) (i : Int) l (l.length : Int) ((i + 1 : Nat) : Int)) (frontF l i zs) := h
      refine Ev.step (fun k => ?_) (Ev.step (g := fun k => missiveref17_step.j1 k ((i : Int) :: zs) (l.take i) 0 0 (rd l (i : Int)) l (l.length : Int) (i : Int) true) (fun k => ?_) hfin)
      · simp only [missiveref17_step.l0]
        rw [if_pos (by omega), if_pos (by omega), if_pos (by omega), if_pos (by simp), if_pos (by omega), show rd ((i : Int) :: zs) 0 = (i : Int) from rfl, beq_self_eq_true]
      · simp only [missiveref17_step.j1]
        have e5 : rd (l.take i ++ [0]) ((l.take i).length : Int) = 0 := by
          rw [rd_get _ _ (by simp), List.getElem_append_right (by simp)]
          simp
        have e6 : (l.take i ++ [0]).set (((l.take i).length : Int)).toNat (rd l (i : Int)) = l.take (i + 1) := by
          rw [et, Int.toNat_natCast, List.set_append_right _ _ (by simp)]
          simp
        rw [if_pos trivial, if_pos trivial, if_pos (by omega)]
        simp only [Option.bind_some]
        rw [if_pos (by omega), if_pos (by rw [List.length_append]; simp; omega), e5, Int.zero_add, wrap64_id (rd l (i : Int)) (by omega) (by omega), e6, wrap64_id ((i : Int) + 1) (by omega) (by omega), wrap64_id (0 + 1) (by omega) (by omega), hlt]
        rfl
    | succ d ih =>
      intro i hi
      have et : l.take (i + 1) = l.take i ++ [rd l (i : Int)] := by
        rw [List.take_succ_eq_append_getElem (by omega), rd_get l i (by omega)]
      have ih' := ih (i + 1) (by omega)
      rw [et] at ih'
      have hlt : (l.take i).length = i := by rw [List.length_take]; omega
      refine Ev.step (fun k => ?_) (Ev.step (g := fun k => missiveref17_step.j1 k ((a : Int) :: zs) (l.take i) 0 0 (rd l (i : Int)) l (l.length : Int) (i : Int) false) (fun k => ?_) ih')
      · simp only [missiveref17_step.l0]
        rw [if_pos (by omega), if_pos (by omega), if_pos (by omega), if_pos (by simp), if_pos (by omega), show rd ((a : Int) :: zs) 0 = (a : Int) from rfl, beq_false_of_ne (by omega)]
      · simp only [missiveref17_step.j1]
        rw [if_neg (by decide), if_pos (by omega), wrap64_id ((i : Int) + 1) (by omega) (by omega)]
        rfl
  exact main a 0 (by omega)
end Go.Proofs.Ytfkckhliffbcjaa.Tier
