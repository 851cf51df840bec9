/- The tiers by the reference: the plain law behind the statement TierPicks. -/
import Derived.Test.YtfkckhliffbcjaaQ6
import Derived.DataShut
namespace Go.Proofs.Ytfkckhliffbcjaa.Pure
open Go.RowKit Go.Proofs.Ytfkckhliffbcjaa.X Go.Proofs.YtfkckhliffbcjaaW.PrintWords Go.Proofs.YtfkckhliffbcjaaW.PrintLast Go.Proofs.Ytfkckhliffbcjaa.Tier

theorem good_rd (l : List Int) (hg : Tier.Good l) (i : Nat) (hi : i < l.length) : rd l (i : Int) ≤ 9223372036854775807 := by
  have h1 := sum_pos_le l hg.pos (rd l (i : Int)) (by rw [rd_get l i hi]; exact List.getElem_mem _)
  have h2 := hg.sum
  omega

/-- A step, by the reference. -/
theorem ev_rstep_p (f : Nat) (h2 : 2 ≤ f) (hf : f ≤ 16) (l : List Int) (hl : l.length ≤ 256) (hg : Tier.Good l) (hp : pickF l f ≠ []) : Ev (fun k => missiveref17_step.f k l (pickF l f)) (stepF l (pickF l f)) := by
  have hlen := (pick_rises f l hl h2 hp).2
  rw [pickF_eq f l hl h2] at hp hlen ⊢
  rcases refPick_some f l f 64 0 with h' | ⟨t, ht, e⟩
  · exact absurd h' hp
  · rw [e] at hp hlen ⊢
    have hpw := (posT_pairwise f l t).sublist (List.take_sublist f (posT f l t))
    have hb : ∀ x ∈ (posT f l t).take f, x < l.length := fun x hx => (mem_posT.1 (List.mem_of_mem_take hx)).1
    revert hp hlen hpw hb
    generalize (posT f l t).take f = q
    intro hlen hp hpw hb
    cases q with
    | nil => exact absurd rfl hp
    | cons a q =>
      rw [List.map_cons] at hlen ⊢
      have hpw' : ((a : Int) :: q.map fun i => ((i : Nat) : Int)).Pairwise (· < ·) := by
        rw [show ((a : Int) :: q.map fun i => ((i : Nat) : Int)) = (a :: q).map fun i => ((i : Nat) : Int) from rfl, List.pairwise_map]
        exact hpw.imp fun h => by omega
      have ha := hb a List.mem_cons_self
      rw [stepF_front l a _ hg ha hpw' (by
        intro z hz
        obtain ⟨y, hy, rfl⟩ := List.mem_map.1 hz
        have := hb y (List.mem_cons_of_mem _ hy)
        omega)]
      refine ev_rstep l a _ hl hg ha ?_
      rw [List.length_cons] at hlen
      omega

theorem ev_rsettle_l (f : Nat) (h2 : 2 ≤ f) (hf : f ≤ 16) : ∀ (k : Nat) (l : List Int) (n : Nat), Tier.Good l → l.length ≤ 256 → l.length ≤ k → n + k ≤ 256 →
    Ev (fun j => missiveref17_Settle.l0 j f l (n : Int)) ((settleF f k l n).1, ((settleF f k l n).2 : Nat), 0)
  | 0, l, n, hg, hl, hk, hn => by
    have hp : pickF l f = [] := pickF_short l f hl h2 (by omega)
    have e := ev_rpick_f f h2 hf l hl fun i hi => good_rd l hg i hi
    rw [hp] at e
    refine Ev.step (f := fun k => (missiveref17_pick.f k l f).bind fun t138 => (if (t138.length : Int) = 0 then (some (l, (n : Int), 0)) else ((missiveref17_step.f k l t138).bind fun t141 => (missiveref17_Settle.l0 k f t141 (wrap64 ((n : Int) + 1)))))) (fun k => ?_) (Ev.bind e ?_)
    · simp only [missiveref17_Settle.l0]
    · exact Ev.congr (fun k => rfl) (Ev.now _)
  | k + 1, l, n, hg, hl, hk, hn => by
    have e := ev_rpick_f f h2 hf l hl fun i hi => good_rd l hg i hi
    refine Ev.step (f := fun k => (missiveref17_pick.f k l f).bind fun t138 => (if (t138.length : Int) = 0 then (some (l, (n : Int), 0)) else ((missiveref17_step.f k l t138).bind fun t141 => (missiveref17_Settle.l0 k f t141 (wrap64 ((n : Int) + 1)))))) (fun k => ?_) (Ev.bind e ?_)
    · simp only [missiveref17_Settle.l0]
    · unfold settleF
      by_cases hp : pickF l f = []
      · rw [if_pos hp]
        refine Ev.congr (fun k => ?_) (Ev.now _)
        rw [hp]
        rfl
      · rw [if_neg hp]
        obtain ⟨hri, hpl⟩ := pick_rises f l hl h2 hp
        obtain ⟨h3, h4, h5⟩ := stepF_good l (pickF l f) hg hri
        have es := ev_rstep_p f h2 hf l hl hg hp
        have ih := ev_rsettle_l f h2 hf k (stepF l (pickF l f)) (n + 1) h3 (by omega) (by omega) (by omega)
        refine Ev.congr (f := fun k => (missiveref17_step.f k l (pickF l f)).bind fun t141 => (missiveref17_Settle.l0 k f t141 ((n + 1 : Nat) : Int))) (fun k => ?_) (Ev.bind es ih)
        rw [if_neg (by omega), wrap64_id ((n : Int) + 1) (by omega) (by omega)]
        rfl

theorem ev_rPick (l : List Int) (a : Int) (hb : l.length ≤ 9223372036854775806) : Ev (fun k => missiveref17_Pick.f k l a) (pickR l a) := by
  refine Ev.congr (f := fun k => (missiveref17_check.f k l a).bind fun t115 => (if t115 = 0 then ((missiveref17_pick.f k l a).bind fun t116 => (some (t116, 0))) else (some (([] : List Int), t115)))) (fun k => rfl) (Ev.bind (ev_rcheck l a hb) ?_)
  unfold pickR
  by_cases hc : checkE l a = 0
  · obtain ⟨⟨h1, h1'⟩, h2, h3⟩ := check_ok l a hc
    have hg := check_good l a hc
    obtain ⟨f, rfl⟩ : ∃ f : Nat, a = (f : Int) := ⟨a.toNat, by omega⟩
    rw [if_pos hc]
    refine Ev.congr (f := fun k => (missiveref17_pick.f k l f).bind fun t116 => (some (t116, 0))) (fun k => ?_) (Ev.bind (ev_rpick_f f (by omega) (by omega) l h2 fun i hi => good_rd l hg i hi) (Ev.now _))
    rw [if_pos hc]
  · rw [if_neg hc]
    refine Ev.congr (fun k => ?_) (Ev.now _)
    rw [if_neg hc]

theorem ev_rSettle (l : List Int) (a : Int) (hb : l.length ≤ 9223372036854775806) : Ev (fun k => missiveref17_Settle.f k l a) (settleR l a) := by
  refine Ev.congr (f := fun k => (missiveref17_check.f k l a).bind fun t131 => (if t131 = 0 then ((some (([] : List Int) : List Int)).bind fun y132 => (if y132.length + l.length < 17592186044416 then (missiveref17_Settle.l0 k a (y132 ++ l) 0) else (none))) else (some (([] : List Int), 0, t131)))) (fun k => rfl) (Ev.bind (ev_rcheck l a hb) ?_)
  unfold settleR
  by_cases hc : checkE l a = 0
  · obtain ⟨⟨h1, h1'⟩, h2, h3⟩ := check_ok l a hc
    have hg := check_good l a hc
    obtain ⟨f, rfl⟩ : ∃ f : Nat, a = (f : Int) := ⟨a.toNat, by omega⟩
    rw [if_pos hc]
    refine Ev.congr (fun k => ?_) (ev_rsettle_l f (by omega) (by omega) l.length l 0 hg h2 (Nat.le_refl _) (by omega))
    rw [if_pos hc]
    simp only [Option.bind_some]
    rw [if_pos (by simp only [List.length_nil]; omega), List.nil_append]
    rfl
  · rw [if_neg hc]
    refine Ev.congr (fun k => ?_) (Ev.now _)
    rw [if_neg hc]

theorem pickR_short (l : List Int) (a : Int) : (pickR l a).1.length ≤ 9223372036854775806 := by
  unfold pickR
  by_cases hc : checkE l a = 0
  · obtain ⟨⟨h1, h1'⟩, h2, h3⟩ := check_ok l a hc
    obtain ⟨f, rfl⟩ : ∃ f : Nat, a = (f : Int) := ⟨a.toNat, by omega⟩
    rw [if_pos hc]
    by_cases hp : pickF l f = []
    · rw [hp]; decide
    · rw [(pick_rises f l h2 (by omega) hp).2]; omega
  · rw [if_neg hc]; exact Nat.zero_le _

theorem settleR_short (l : List Int) (a : Int) : (settleR l a).1.length ≤ 9223372036854775806 := by
  unfold settleR
  by_cases hc : checkE l a = 0
  · obtain ⟨⟨h1, h1'⟩, h2, h3⟩ := check_ok l a hc
    have hg := check_good l a hc
    obtain ⟨f, rfl⟩ : ∃ f : Nat, a = (f : Int) := ⟨a.toNat, by omega⟩
    rw [if_pos hc]
    obtain ⟨_, _, g3, _⟩ := settle_facts f (by omega) l.length l 0 hg h2 (Nat.le_refl _)
    simp only
    omega
  · rw [if_neg hc]; exact Nat.zero_le _

theorem TierPicks : missivelaw17_TierPicks.Pure := by
  intro l a n _ hlen _ hwa hwn
  have hb : l.length ≤ 9223372036854775806 := by omega
  have hn : n ≤ 9223372036854775807 := by
    have h := ((Lit.wf_int_iff _ _).1 hwn).2
    have e : IntKind.i64.max = 9223372036854775807 := by decide +kernel
    omega
  obtain ⟨k1, h1⟩ := ev_rPick l a hb
  obtain ⟨k2, h2⟩ := ev_rSettle l a hb
  obtain ⟨k3, h3⟩ := ev_Tier n a hn
  obtain ⟨k4, h4⟩ := ev_rTier n a hn
  obtain ⟨k5, h5⟩ := ev_Most n a hn
  obtain ⟨k6, h6⟩ := ev_rMost n a hn
  obtain ⟨k7, h7⟩ := ev_sizes
  obtain ⟨k8, h8⟩ := ev_same (pickR l a).1 (pickR_short l a)
  obtain ⟨k9, h9⟩ := ev_same (settleR l a).1 (settleR_short l a)
  refine ⟨k1 + k2 + k3 + k4 + k5 + k6 + k7 + k8 + k9, ?_⟩
  generalize hk : k1 + k2 + k3 + k4 + k5 + k6 + k7 + k8 + k9 = k
  have h1 := h1 k (by omega)
  have h2 := h2 k (by omega)
  have h3 := h3 k (by omega)
  have h4 := h4 k (by omega)
  have h5 := h5 k (by omega)
  have h6 := h6 k (by omega)
  have h7 := h7 k (by omega)
  have h8 := h8 k (by omega)
  have h9 := h9 k (by omega)
  simp only at h1 h2 h3 h4 h5 h6 h7 h8 h9
  unfold missivelaw17_TierPicks.f
  simp only [pick_f, settle_f, h1, h2, h3, h4, h5, h6, h7, h8, h9, Option.bind_some, if_true, beq_self_eq_true]
end Go.Proofs.Ytfkckhliffbcjaa.Pure
