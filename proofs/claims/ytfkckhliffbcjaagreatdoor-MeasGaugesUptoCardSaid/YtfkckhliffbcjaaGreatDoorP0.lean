/- What the printed forms of a pick come to. -/
import Derived.Test.YtfkckhliffbcjaaGreatDoorQ1
import Derived.Test.YtfkckhliffbcjaaGreatDoorV4
namespace Go.Proofs.YtfkckhliffbcjaaGreatDoor.Tier
open Go.RowKit Go.Proofs.YtfkckhliffbcjaaGreatDoor.V Go.Proofs.YtfkckhliffbcjaaGreatDoorW.PrintWords Go.Proofs.YtfkckhliffbcjaaGreatDoorW.PrintLast

theorem check_ok (l : List Int) (fan : Int) (h : checkE l fan = 0) : (2 ≤ fan ∧ fan ≤ 16) ∧ l.length ≤ 256 ∧ ∀ x ∈ l, 1 ≤ x ∧ x ≤ 4096 := by
  unfold checkE at h
  split at h
  · cases h
  · rename_i hf
    split at h
    · cases h
    · rename_i hb
      split at h
      · cases h
      · refine ⟨?_, by omega, ?_⟩
        · simpa [fansB] using hf
        · intro x hx
          have h2 : l.any badB = false := by simpa using hb
          rw [List.any_eq_false] at h2
          have h3 := h2 x hx
          simp only [badB, Bool.or_eq_true, decide_eq_true_eq, not_or] at h3
          omega

theorem rd_get (l : List Int) (i : Nat) (h : i < l.length) : rd l (i : Int) = l[i] := by simp [rd, List.getD_eq_getElem?_getD, List.getElem?_eq_getElem h]

theorem wrap64_id (n : Int) (h1 : -9223372036854775808 ≤ n) (h2 : n ≤ 9223372036854775807) : wrap64 n = n := by unfold wrap64; omega

def pickR (l : List Int) (fan : Int) : List Int × Int := if checkE l fan = 0 then (pickF l fan, 0) else ([], checkE l fan)

theorem fans_lo {fan : Int} (h : fansB fan = true) : 2 ≤ fan ∧ fan ≤ 16 := by simpa [fansB] using h

theorem pick_f (l : List Int) (fan : Int) : tier_Pick.f l fan = some (pickR l fan) := by
  unfold tier_Pick.f pickR tier_check.f
  simp only [Option.bind_some]
  by_cases h : checkE l fan = 0
  · rw [if_pos h, if_pos h]
    obtain ⟨h1, h2, h3⟩ := check_ok l fan h
    unfold tier_pick.f
    rw [if_pos ⟨h1.1, h1.2, h2, List.all_eq_true.2 fun x hx => decide_eq_true (by have := (h3 x hx).2; omega)⟩]
    rfl
  · rw [if_neg h, if_neg h]

theorem ev_rtier_l (fan : Int) (hf : 2 ≤ fan) : ∀ (j : Nat) (s : Int) (n : Nat), n + j ≤ 63 → s < 2 ^ j → s ≤ 9223372036854775807 → Ev (fun k => missiveref17_tier.l0 k s fan n) ((n + tierF fan j s : Nat) : Int) := by
  intro j
  induction j with
  | zero =>
    intro s n hn hs _
    refine Ev.step (fun k => ?_) (Ev.now _)
    simp only [missiveref17_tier.l0]
    rw [if_neg (by simp at hs; omega)]
    rfl
  | succ j ih =>
    intro s n hn hs hs2
    by_cases h : s < fan
    · have e : n + tierF fan (j + 1) s = n := by unfold tierF; rw [if_pos h, Nat.add_zero]
      rw [e]
      refine Ev.step (fun k => ?_) (Ev.now _)
      simp only [missiveref17_tier.l0]
      rw [if_neg (by omega)]
    · have hd := div_lt_pow (k := j) hf hs
      have h0 : 0 ≤ s / fan := Int.ediv_nonneg (by omega) (by omega)
      have h1 : s / fan ≤ s := Int.ediv_le_self _ (by omega)
      have ih' := ih (s / fan) (n + 1) (by omega) hd (by omega)
      have e : n + tierF fan (j + 1) s = n + 1 + tierF fan j (s / fan) := by conv => lhs; unfold tierF; rw [if_neg h]
                                                                             omega
      rw [e]
      refine Ev.step (fun k => ?_) ih'
      simp only [missiveref17_tier.l0]
      rw [if_pos (by omega), if_neg (by omega), Int.tdiv_eq_ediv_of_nonneg (by omega), wrap64_id (s / fan) (by omega) (by omega), wrap64_id ((n : Int) + 1) (by omega) (by omega)]
      rfl

theorem ev_rtier (fan s : Int) (hf : 2 ≤ fan) (hs : s ≤ 9223372036854775807) : Ev (fun k => missiveref17_tier.f k s fan) ((tierF fan 63 s : Nat) : Int) := by
  have h := ev_rtier_l fan hf 63 s 0 (by omega) (by omega) hs
  rw [Nat.zero_add] at h
  exact h

theorem rfan_f (fan : Int) : missiveref17_fan.f fan = some (fansB fan) := by
  unfold missiveref17_fan.f fansB
  by_cases h : 2 ≤ fan
  · rw [if_pos h, decide_eq_true h]; simp
  · rw [if_neg h, decide_eq_false h]; simp

theorem ev_rcheck_l (l : List Int) (hb : l.length ≤ 9223372036854775806) : ∀ (d i : Nat), i + d = l.length →
    Ev (fun k => missiveref17_check.l0 k l l (l.length : Int) (i : Int)) (if (l.drop i).any badB = true then 1 else if l.length > 256 then 15 else 0) := by
  intro d
  induction d with
  | zero =>
    intro i hi
    rw [List.drop_of_length_le (by omega)]
    refine Ev.step (fun k => ?_) (Ev.now _)
    simp only [missiveref17_check.l0]
    rw [if_neg (by omega), List.any_nil, if_neg Bool.false_ne_true]
    by_cases h : l.length > 256
    · rw [if_pos h, if_pos (show (l.length : Int) > 256 by omega)]
    · rw [if_neg h, if_neg (show ¬ (l.length : Int) > 256 by omega)]
  | succ d ih =>
    intro i hi
    have hd : l.drop i = rd l (i : Int) :: l.drop (i + 1) := by
      rw [List.drop_eq_getElem_cons (by omega), rd_get l i (by omega)]
    rw [hd, List.any_cons]
    by_cases h : badB (rd l (i : Int)) = true
    · rw [h, Bool.true_or, if_pos rfl]
      refine Ev.step (fun k => ?_) (Ev.now _)
      simp only [missiveref17_check.l0]
      rw [if_pos (by omega), if_pos (by omega), if_pos (by omega)]
      by_cases h1 : rd l (i : Int) < 1
      · rw [if_pos h1]
      · rw [if_neg h1, if_pos]
        simp [badB] at h
        omega
    · have h' : badB (rd l (i : Int)) = false := by simpa using h
      rw [h', Bool.false_or]
      refine Ev.step (fun k => ?_) (ih (i + 1) (by omega))
      simp only [missiveref17_check.l0]
      simp [badB] at h'
      rw [if_pos (by omega), if_pos (by omega), if_pos (by omega), if_neg (by omega), if_neg (by omega), wrap64_id ((i : Int) + 1) (by omega) (by omega)]
      rfl

theorem ev_rcheck (l : List Int) (fan : Int) (hb : l.length ≤ 9223372036854775806) : Ev (fun k => missiveref17_check.f k l fan) (checkE l fan) := by
  unfold checkE
  cases h : fansB fan with
  | false =>
    rw [if_pos rfl]
    refine Ev.congr (fun k => ?_) (Ev.now _)
    unfold missiveref17_check.f
    rw [rfan_f, h]
    rfl
  | true =>
    rw [if_neg (by decide)]
    have h1 := ev_rcheck_l l hb l.length 0 (by omega)
    rw [List.drop_zero] at h1
    refine Ev.congr (fun k => ?_) h1
    unfold missiveref17_check.f
    rw [rfan_f, h]
    rfl

def upT (fan : Int) (l : List Int) (t i : Nat) : List Int := ((List.range i).filter fun j => tierI fan l j == t).map fun j => ((j : Nat) : Int)

theorem upT_hit (fan : Int) (l : List Int) (t i : Nat) (h : tierI fan l i = t) : upT fan l t (i + 1) = upT fan l t i ++ [(i : Int)] := by
  unfold upT
  rw [List.range_succ, List.filter_append, List.map_append]
  simp [h]

theorem upT_miss (fan : Int) (l : List Int) (t i : Nat) (h : tierI fan l i ≠ t) : upT fan l t (i + 1) = upT fan l t i := by
  unfold upT
  rw [List.range_succ, List.filter_append, List.map_append]
  simp [h]

theorem upT_le (fan : Int) (l : List Int) (t i : Nat) : (upT fan l t i).length ≤ i := by
  unfold upT
  rw [List.length_map]
  have := List.length_filter_le (fun j => tierI fan l j == t) (List.range i)
  rwa [List.length_range] at this

theorem ev_rpick (f : Nat) (h2 : 2 ≤ f) (hf : f ≤ 16) (l : List Int) (hl : l.length ≤ 256) (hs : ∀ i, i < l.length → rd l (i : Int) ≤ 9223372036854775807) :
    ∀ (m t : Nat), t + m = 64 → Ev (fun k => missiveref17_pick.l0 k l f (t : Int)) (refPick f l f m t) := by
  intro m
  induction m with
  | zero =>
    intro t ht
    refine Ev.step (fun k => ?_) (Ev.now _)
    simp only [missiveref17_pick.l0]
    rw [if_neg (by omega)]
    rfl
  | succ m ihm =>
    intro t ht
    have inner : ∀ (d i : Nat), i + d = l.length → Ev (fun k => missiveref17_pick.l1 k l f (t : Int) (upT f l t i) l (l.length : Int) (i : Int)) (refPick f l f (m + 1) t) := by
      intro d
      induction d with
      | zero =>
        intro i hi
        have e : i = l.length := by omega
        subst e
        have hu : upT f l t l.length = (posT f l t).map fun j => ((j : Nat) : Int) := rfl
        have hlu : (upT f l t l.length).length = (posT f l t).length := by rw [hu, List.length_map]
        by_cases h : f ≤ (posT f l t).length
        · have e : refPick f l f (m + 1) t = (upT f l t l.length).take f := by
            conv => lhs; unfold refPick
            rw [if_pos h, hu, List.map_take]
          rw [e]
          refine Ev.step (fun k => ?_) (Ev.now _)
          simp only [missiveref17_pick.l1]
          rw [if_neg (by omega), if_pos (by omega), if_pos (by omega), if_pos (by omega), Int.toNat_natCast]
        · have e : refPick f l f (m + 1) t = refPick f l f m (t + 1) := by
            conv => lhs; unfold refPick
            rw [if_neg h]
          rw [e]
          refine Ev.step (fun k => ?_) (ihm (t + 1) (by omega))
          simp only [missiveref17_pick.l1]
          rw [if_neg (by omega), if_neg (by omega), wrap64_id ((t : Int) + 1) (by omega) (by omega)]
          rfl
      | succ d ih =>
        intro i hi
        have ht := ev_rtier f (rd l (i : Int)) (by omega) (hs i (by omega))
        have hu := upT_le f l t i
        refine Ev.step (f := fun k => (missiveref17_tier.f k (rd l (i : Int)) f).bind fun t108 => if t108 = (t : Int) then missiveref17_pick.l1 k l f (t : Int) (upT f l t i ++ [(i : Int)]) l (l.length : Int) ((i + 1 : Nat) : Int) else missiveref17_pick.l1 k l f (t : Int) (upT f l t i) l (l.length : Int) ((i + 1 : Nat) : Int)) (fun k => ?_) (Ev.bind ht ?_)
        · simp only [missiveref17_pick.l1]
          rw [if_pos (by omega), if_pos (by omega), if_pos (by omega), wrap64_id ((i : Int) + 1) (by omega) (by omega)]
          simp only [show (upT f l t i).length < 17592186044416 from by omega, if_true]
          rfl
        · have ih' := ih (i + 1) (by omega)
          by_cases h : tierI f l i = t
          · rw [upT_hit f l t i h] at ih'
            refine Ev.congr (fun k => ?_) ih'
            rw [if_pos]
            unfold tierI at h
            omega
          · rw [upT_miss f l t i h] at ih'
            refine Ev.congr (fun k => ?_) ih'
            rw [if_neg]
            unfold tierI at h
            omega
    refine Ev.step (fun k => ?_) (inner l.length 0 (by omega))
    simp only [missiveref17_pick.l0]
    rw [if_pos (by omega)]
    rfl

theorem ev_rpick_f (f : Nat) (h2 : 2 ≤ f) (hf : f ≤ 16) (l : List Int) (hl : l.length ≤ 256) (hs : ∀ i, i < l.length → rd l (i : Int) ≤ 9223372036854775807) : Ev (fun k => missiveref17_pick.f k l f) (pickF l f) := by
  rw [pickF_eq f l hl h2]
  exact ev_rpick f h2 hf l hl hs 64 0 (by omega)

theorem ev_rPick (l : List Int) (fan : Int) (hb : l.length ≤ 9223372036854775806) : Ev (fun k => missiveref17_Pick.f k l fan) (pickR l fan) := by
  have hc := ev_rcheck l fan hb
  unfold pickR
  by_cases h : checkE l fan = 0
  · rw [if_pos h]
    rw [h] at hc
    obtain ⟨h1, h2, h3⟩ := check_ok l fan h
    obtain ⟨f, rfl⟩ := Int.eq_ofNat_of_zero_le (show 0 ≤ fan by omega)
    have hp := ev_rpick_f f (by omega) (by omega) l h2 (fun i hi => by have := (h3 _ (List.getElem_mem hi)).2; rw [rd_get l i hi]; omega)
    exact Ev.bind hc (Ev.bind hp (Ev.now _))
  · rw [if_neg h]
    refine Ev.bind hc ?_
    refine Ev.congr (fun k => ?_) (Ev.now _)
    rw [if_neg h]
end Go.Proofs.YtfkckhliffbcjaaGreatDoor.Tier
