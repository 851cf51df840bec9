/- What the printed functions of sizes come to. -/
import Derived.Test.YtfkckhliffbcjaaX4
import Derived.Test.YtfkckhliffbcjaaQ3
namespace Go.Proofs.Ytfkckhliffbcjaa.Tier
open Go.RowKit Go.Proofs.Ytfkckhliffbcjaa.X Go.Proofs.YtfkckhliffbcjaaW.PrintWords Go.Proofs.YtfkckhliffbcjaaW.PrintLast

theorem wrap64_id (n : Int) (h1 : -9223372036854775808 ≤ n) (h2 : n ≤ 9223372036854775807) : wrap64 n = n := by unfold wrap64; omega

theorem ev_tier_l (fan : Int) (hf : 2 ≤ fan) : ∀ (j : Nat) (s : Int) (n : Nat), n + j ≤ 63 → s < 2 ^ j → s ≤ 9223372036854775807 → Ev (fun k => tier_tier.l0 k s fan n) ((n + tierF fan j s : Nat) : Int) := by
  intro j
  induction j with
  | zero =>
    intro s n hn hs _
    refine Ev.step (fun k => ?_) (Ev.now _)
    simp only [tier_tier.l0]
    rw [if_neg (by simp at hs; omega)]
    rfl
  | succ j ih =>
    intro s n hn hs hs2
    by_cases h : s < fan
    · have e : n + tierF fan (j + 1) s = n := by unfold tierF; rw [if_pos h, Nat.add_zero]
      rw [e]
      refine Ev.step (fun k => ?_) (Ev.now _)
      simp only [tier_tier.l0]
      rw [if_neg (by omega)]
    · have hd := div_lt_pow (k := j) hf hs
      have h0 : 0 ≤ s / fan := Int.ediv_nonneg (by omega) (by omega)
      have h1 : s / fan ≤ s := Int.ediv_le_self _ (by omega)
      have ih' := ih (s / fan) (n + 1) (by omega) hd (by omega)
      have e : n + tierF fan (j + 1) s = n + 1 + tierF fan j (s / fan) := by conv => lhs; unfold tierF; rw [if_neg h]
                                                                             omega
      rw [e]
      refine Ev.step (fun k => ?_) ih'
      simp only [tier_tier.l0]
      rw [if_pos (by omega), if_neg (by omega), Int.tdiv_eq_ediv_of_nonneg (by omega), wrap64_id (s / fan) (by omega) (by omega), wrap64_id ((n : Int) + 1) (by omega) (by omega)]
      rfl

theorem ev_tier (fan s : Int) (hf : 2 ≤ fan) (hs : s ≤ 9223372036854775807) : Ev (fun k => tier_tier.f k s fan) ((tierF fan 63 s : Nat) : Int) := by
  have h := ev_tier_l fan hf 63 s 0 (by omega) (by omega) hs
  rw [Nat.zero_add] at h
  exact h

theorem ev_same_l (l m : List Int) (hl : l.length = m.length) (hb : l.length ≤ 9223372036854775806) (h : l = m) : ∀ (d i : Nat), i + d = l.length → Ev (fun k => missivelaw17_same.l0 k l m (l.length : Int) (i : Int)) true := by
  intro d
  induction d with
  | zero =>
    intro i hi
    refine Ev.step (fun k => ?_) (Ev.now _)
    simp only [missivelaw17_same.l0]
    rw [if_neg (by omega)]
  | succ d ih =>
    intro i hi
    have ih' := ih (i + 1) (by omega)
    refine Ev.step (fun k => ?_) ih'
    simp only [missivelaw17_same.l0]
    rw [if_pos (by omega), if_pos (by omega), if_pos (by omega), if_pos (by omega), if_pos (by rw [h]), wrap64_id ((i : Int) + 1) (by omega) (by omega)]
    rfl

theorem ev_same (l : List Int) (hb : l.length ≤ 9223372036854775806) : Ev (fun k => missivelaw17_same.f k l l) true := by
  have h := ev_same_l l l rfl hb rfl l.length 0 (by omega)
  refine Ev.congr (fun k => ?_) h
  unfold missivelaw17_same.f
  rw [if_pos rfl]
  rfl

theorem fans_f (fan : Int) : tier_fans.f fan = some (fansB fan) := by
  unfold tier_fans.f fansB
  by_cases h : 2 ≤ fan
  · rw [if_pos h, decide_eq_true h]; simp
  · rw [if_neg h, decide_eq_false h]; simp

/-- The tier of a size, or why there is none. -/
def tierR (s fan : Int) : Int × Int := if fansB fan = true then (((tierF fan 63 s : Nat) : Int), 0) else (0, 1)
def mostR (s fan : Int) : Int × Int := if fansB fan = true then (if s < 0 then (0, 1) else (wrap64 (wrap64 (fan * wrap64 (1 + ((tierF fan 63 s : Nat) : Int))) + 1), 0)) else (0, 1)
def pickR (l : List Int) (fan : Int) : List Int × Int := if checkE l fan = 0 then (pickF l fan, 0) else ([], checkE l fan)
def settleR (l : List Int) (fan : Int) : List Int × Int × Int := if checkE l fan = 0 then ((settleF fan l.length l 0).1, ((settleF fan l.length l 0).2 : Nat), 0) else ([], 0, checkE l fan)

theorem fans_lo {fan : Int} (h : fansB fan = true) : 2 ≤ fan ∧ fan ≤ 16 := by simpa [fansB] using h

theorem ev_Tier (s fan : Int) (hs : s ≤ 9223372036854775807) : Ev (fun k => tier_Tier.f k s fan) (tierR s fan) := by
  unfold tierR
  cases h : fansB fan with
  | true =>
    refine Ev.congr (fun k => ?_) (Ev.bind (f := fun _ t => some (t, (0 : Int))) (ev_tier fan s (fans_lo h).1 hs) (Ev.now _))
    unfold tier_Tier.f
    rw [fans_f, h]
    rfl
  | false =>
    refine Ev.congr (fun k => ?_) (Ev.now _)
    unfold tier_Tier.f
    rw [fans_f, h]
    rfl

theorem ev_Most (s fan : Int) (hs : s ≤ 9223372036854775807) : Ev (fun k => tier_Most.f k s fan) (mostR s fan) := by
  unfold mostR
  cases h : fansB fan with
  | true =>
    by_cases h0 : s < 0
    · refine Ev.congr (fun k => ?_) (Ev.now _)
      unfold tier_Most.f
      rw [fans_f, h]
      simp only [Option.bind_some, if_true]
      rw [if_pos h0, if_pos h0]
    · rw [if_pos rfl, if_neg h0]
      refine Ev.congr (fun k => ?_) (Ev.bind (f := fun _ t => some (wrap64 (wrap64 (fan * wrap64 (1 + t)) + 1), (0 : Int))) (ev_tier fan s (fans_lo h).1 hs) (Ev.now _))
      unfold tier_Most.f
      rw [fans_f, h]
      simp only [Option.bind_some, if_true]
      rw [if_neg h0]
  | false =>
    refine Ev.congr (fun k => ?_) (Ev.now _)
    unfold tier_Most.f
    rw [fans_f, h]
    rfl

theorem pick_f (l : List Int) (fan : Int) : tier_Pick.f l fan = some (pickR l fan) := by
  unfold tier_Pick.f pickR tier_check.f
  simp only [Option.bind_some]
  by_cases h : checkE l fan = 0
  · rw [if_pos h, if_pos h]
    obtain ⟨h1, h2, h3⟩ := check_ok l fan h
    unfold tier_pick.f
    rw [if_pos ⟨h1.1, h1.2, h2, List.all_eq_true.2 fun x hx => decide_eq_true (by have := (h3 x hx).2; omega)⟩]
    rfl
  · rw [if_neg h, if_neg h]

theorem settle_f (l : List Int) (fan : Int) : tier_Settle.f l fan = some (settleR l fan) := by
  unfold tier_Settle.f settleR
  split <;> rfl

/-- Steps by the plain pick, for numbers at hand. -/
def settleP (f : Nat) : Nat → List Int → Nat → List Int × Nat
  | 0, l, n => (l, n)
  | k + 1, l, n => if refPick f l f 64 0 = [] then (l, n) else settleP f k (stepF l (refPick f l f 64 0)) (n + 1)

theorem settleP_eq (f : Nat) (h2 : 2 ≤ f) : ∀ (k : Nat) (l : List Int) (n : Nat), Good l → l.length ≤ 256 → settleF f k l n = settleP f k l n
  | 0, _, _, _, _ => rfl
  | k + 1, l, n, hg, hl => by
    unfold settleF settleP
    rw [← pickF_eq f l hl h2]
    by_cases hp : pickF l f = []
    · rw [if_pos hp, if_pos hp]
    · rw [if_neg hp, if_neg hp]
      obtain ⟨hri, hpl⟩ := pick_rises f l hl h2 hp
      obtain ⟨h3, h4, h5⟩ := stepF_good l (pickF l f) hg hri
      exact settleP_eq f h2 k _ _ h3 (by omega)

theorem pick_2111 : pickR [2, 1, 1, 1] 2 = ([1, 2], 0) := by
  unfold pickR
  rw [if_pos (by decide +kernel), show (2 : Int) = ((2 : Nat) : Int) from rfl, pickF_eq 2 _ (by decide) (by decide)]
  decide +kernel

theorem settle_1112 : settleR [1, 1, 1, 2] 2 = ([4, 1], 2, 0) := by
  unfold settleR
  rw [if_pos (by decide +kernel), show (2 : Int) = ((2 : Nat) : Int) from rfl, settleP_eq 2 (by decide) _ _ _ ⟨by decide, by decide⟩ (by decide)]
  decide +kernel

theorem ev_sizes : Ev (fun k => missivelaw17_sizes.f k) true := by
  have t1 : tierR 9 2 = (3, 0) := by decide +kernel
  have t2 : tierR 1 1 = (0, 1) := by decide +kernel
  have t3 : mostR 5 2 = (7, 0) := by decide +kernel
  have e1 := ev_Tier 9 2 (by omega)
  have e2 := ev_Tier 1 1 (by omega)
  have e3 := ev_Most 5 2 (by omega)
  have s1 := ev_same [1, 2] (by decide)
  have s2 := ev_same [4, 1] (by decide)
  rw [t1] at e1
  rw [t2] at e2
  rw [t3] at e3
  obtain ⟨k1, h1⟩ := e1
  obtain ⟨k2, h2⟩ := e2
  obtain ⟨k3, h3⟩ := e3
  obtain ⟨k4, h4⟩ := s1
  obtain ⟨k5, h5⟩ := s2
  refine ⟨k1 + k2 + k3 + k4 + k5, fun k hk => ?_⟩
  have h1 := h1 k (by omega)
  have h2 := h2 k (by omega)
  have h3 := h3 k (by omega)
  have h4 := h4 k (by omega)
  have h5 := h5 k (by omega)
  simp only at h1 h2 h3 h4 h5
  unfold missivelaw17_sizes.f
  simp only [pick_f, settle_f, pick_2111, settle_1112, h1, h2, h3, Option.bind_some, if_true, h4, h5]
  rfl
end Go.Proofs.Ytfkckhliffbcjaa.Tier
