/- Sizes are settled, or not: the code's walk, whole. -/
import Derived.Test.YtfkckhliffbcjaaT7
namespace Go.Proofs.Ytfkckhliffbcjaa.Tier
open Go.RowKit Go.Proofs.YtfkckhliffbcjaaW.PrintWords

theorem check_ok (l : List Int) (fan : Int) (h : checkE l fan = 0) : (2 ≤ fan ∧ fan ≤ 16) ∧ l.length ≤ 256 ∧ ∀ x ∈ l, 1 ≤ x ∧ x ≤ 4096 := by
  unfold checkE at h
  split at h
  · cases h
  · rename_i hf
    split at h
    · cases h
    · rename_i hb
      split at h
      · cases h
      · refine ⟨?_, by omega, ?_⟩
        · simpa [fansB] using hf
        · intro x hx
          have h2 : l.any badB = false := by simpa using hb
          rw [List.any_eq_false] at h2
          have h3 := h2 x hx
          simp only [badB, Bool.or_eq_true, decide_eq_true_eq, not_or] at h3
          omega

theorem sum_le (l : List Int) (c : Int) (h : ∀ x ∈ l, x ≤ c) : l.sum ≤ l.length * c := by
  induction l with
  | nil => simp
  | cons a l ih =>
    rw [List.sum_cons, List.length_cons]
    have h1 := h a List.mem_cons_self
    have h2 := ih (fun x hx => h x (List.mem_cons_of_mem _ hx))
    rw [show (((l.length + 1 : Nat)) : Int) = (l.length : Int) + 1 from by omega, Int.add_mul]
    omega

theorem check_good (l : List Int) (fan : Int) (h : checkE l fan = 0) : Good l := by
  obtain ⟨_, h2, h3⟩ := check_ok l fan h
  refine ⟨fun x hx => (h3 x hx).1, ?_⟩
  have := sum_le l 4096 (fun x hx => (h3 x hx).2)
  omega

set_option maxHeartbeats 1000000 in
theorem Settle_no (A : Option Addr) (c : Nat) (l : List Int) (fan : Int) (w : World) (hr : (Kd.int .i64).C w A l.length l) (hc : checkE l fan ≠ 0) :
    Calls Try.prog 7 #[.slice A l.length c, .int .i64 fan] w fun e w' => e = .returned (.tuple #[.slice none 0 0, .int .i64 0, .int .i64 (checkE l fan)]) ∧ w = w' := by
  have HR := Lib.hid hr
  clear hr
  have hne : (checkE l fan != 0) = true := bne_iff_ne.2 hc
  generalize hq : checkE l fan = q at *
  have HQ := Lib.hid hq
  clear hq hc
  go_enter Try.func7, Try.ntmps7
  go_wp2
  go_step3
  go_wp2_with (first | (go_at_call 15; refine (check_calls _ _ _ _ _ HR.out).mono ?_; rintro e w' ⟨rfl, rfl⟩; rw [HQ.out]))
  try rw [Exit.noGoto_ret]
  go_ret3
  exact ⟨rfl, rfl⟩

theorem Settle_calls (A0 : Option Addr) (c0 : Nat) (l0 : List Int) (a1 : Int) (r1 : List Int) (r2 : Int) (r3 : Int) (w : World) (hr0 : Kd.C (Kd.int .i64) w A0 l0.length l0)
    (h : (if checkE l0 a1 = 0 then some ((settleF a1 l0.length l0 0).1, (((settleF a1 l0.length l0 0).2 : Nat) : Int), (0 : Int)) else some ([], 0, checkE l0 a1)) = some (r1, r2, r3)) :
    Calls Try.prog 7 #[.slice A0 l0.length c0, .int .i64 a1] w fun e w' => ∃ v0_ : Value, e = .returned (.tuple #[v0_, .int .i64 r2, .int .i64 r3]) ∧ Kd.R (Kd.int .i64) 3 w' w.heap.size (fun _ => True) v0_ r1 ∧ Below w.heap.size w w' := by
  by_cases hc : checkE l0 a1 = 0
  · rw [if_pos hc] at h
    obtain ⟨⟨h2, h16⟩, hn, _⟩ := check_ok l0 a1 hc
    have hg := check_good l0 a1 hc
    obtain ⟨f, rfl⟩ := Int.eq_ofNat_of_zero_le (show 0 ≤ a1 by omega)
    cases h
    exact Settle_walk A0 c0 l0 f w hr0 (by omega) (by omega) hn hg hc
  · rw [if_neg hc] at h
    cases h
    refine (Settle_no A0 c0 l0 a1 w hr0 hc).mono ?_
    rintro e w' ⟨rfl, rfl⟩
    exact ⟨_, rfl, Kd.R_nil _ _ _ _ _, Below.refl _ _⟩
end Go.Proofs.Ytfkckhliffbcjaa.Tier
