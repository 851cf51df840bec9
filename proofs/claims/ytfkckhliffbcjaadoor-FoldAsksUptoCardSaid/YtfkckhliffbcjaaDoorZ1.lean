-- Printed by this session's own turn (xprint) of the kit's print; Lean checks it.
import Derived.Test.YtfkckhliffbcjaaDoorZ0
namespace Go.Proofs.YtfkckhliffbcjaaDoor.Z
open Go.RowKit Go.Proofs.YtfkckhliffbcjaaDoorW.PrintWords Go.Proofs.YtfkckhliffbcjaaDoorW.PrintLast Go.Proofs.YtfkckhliffbcjaaDoorW.PrintMore
attribute [local go_sem] max2_int min2_int max_two min_two max_three min_three max_four min_four   -- for this text's walks alone
set_option linter.unusedVariables false
set_option linter.unusedSimpArgs false

/-! ### fold_pairs: function 25 -/
mutual
def fold_pairs.j0 : Nat → Int → Bool → Option (Int)
  | 0, _, _ => none
  | k + 1, x0, x3 => if x3 = true then (fold_pairs.j1 k x0 x3) else (if x0 ≥ 306 then (if x0 ≤ 311 then (fold_pairs.j1 k x0 (decide (x0 ≤ 311))) else (if x0 ≥ 330 then (fold_pairs.j1 k x0 (decide (x0 ≤ 375))) else (fold_pairs.j1 k x0 false))) else (if x0 ≥ 330 then (fold_pairs.j1 k x0 (decide (x0 ≤ 375))) else (fold_pairs.j1 k x0 false)))
def fold_pairs.j1 : Nat → Int → Bool → Option (Int)
  | 0, _, _ => none
  | k + 1, x0, x3 => if x3 = true then (some 0) else (if x0 ≥ 313 then (fold_pairs.j2 k x0 (decide (x0 ≤ 328))) else (fold_pairs.j2 k x0 false))
def fold_pairs.j2 : Nat → Int → Bool → Option (Int)
  | 0, _, _ => none
  | k + 1, x0, x22 => if x22 = true then (some 1) else (if x0 ≥ 377 then (if x0 ≤ 382 then (some 1) else (some (-1))) else (some (-1)))
end
def fold_pairs.f (k : Nat) (a0 : Int) : Option (Int) := if a0 ≥ 256 then (fold_pairs.j0 k a0 (decide (a0 ≤ 303))) else (fold_pairs.j0 k a0 false)
theorem fold_pairs.mono_l : ∀ k, (∀ y0 y1, LeO (fold_pairs.j0 k y0 y1) (fold_pairs.j0 (k + 1) y0 y1)) ∧ (∀ y0 y1, LeO (fold_pairs.j1 k y0 y1) (fold_pairs.j1 (k + 1) y0 y1)) ∧ (∀ y0 y1, LeO (fold_pairs.j2 k y0 y1) (fold_pairs.j2 (k + 1) y0 y1))
  | 0 => ⟨fun _ _ r h => by simp [fold_pairs.j0] at h, fun _ _ r h => by simp [fold_pairs.j1] at h, fun _ _ r h => by simp [fold_pairs.j2] at h⟩
  | k + 1 => by
    obtain ⟨ih0, ih1, ih2⟩ := fold_pairs.mono_l k
    refine ⟨?_, ?_, ?_⟩
    · intro y0 y1
      unfold fold_pairs.j0
      repeat' first
      | (with_reducible exact ih0 _ _)
      | (with_reducible exact ih1 _ _)
      | (with_reducible exact ih2 _ _)
      | (with_reducible exact LeO.refl _)
      | (with_reducible exact LeO.none _)
      | (with_reducible refine LeO.ite ?_ ?_)
      | (with_reducible refine LeO.bind ?_ (fun _ => ?_))
      | exact ih0 _ _
      | exact ih1 _ _
      | exact ih2 _ _
      | exact LeO.none _
      | refine LeO.ite ?_ ?_
      | refine LeO.bind ?_ (fun _ => ?_)
    · intro y0 y1
      unfold fold_pairs.j1
      repeat' first
      | (with_reducible exact ih0 _ _)
      | (with_reducible exact ih1 _ _)
      | (with_reducible exact ih2 _ _)
      | (with_reducible exact LeO.refl _)
      | (with_reducible exact LeO.none _)
      | (with_reducible refine LeO.ite ?_ ?_)
      | (with_reducible refine LeO.bind ?_ (fun _ => ?_))
      | exact ih0 _ _
      | exact ih1 _ _
      | exact ih2 _ _
      | exact LeO.none _
      | refine LeO.ite ?_ ?_
      | refine LeO.bind ?_ (fun _ => ?_)
    · intro y0 y1
      unfold fold_pairs.j2
      repeat' first
      | (with_reducible exact ih0 _ _)
      | (with_reducible exact ih1 _ _)
      | (with_reducible exact ih2 _ _)
      | (with_reducible exact LeO.refl _)
      | (with_reducible exact LeO.none _)
      | (with_reducible refine LeO.ite ?_ ?_)
      | (with_reducible refine LeO.bind ?_ (fun _ => ?_))
      | exact ih0 _ _
      | exact ih1 _ _
      | exact ih2 _ _
      | exact LeO.none _
      | refine LeO.ite ?_ ?_
      | refine LeO.bind ?_ (fun _ => ?_)
theorem fold_pairs.mono : ∀ a0 k, LeO (fold_pairs.f k a0) (fold_pairs.f (k + 1) a0) := by
  intro a0 k
  obtain ⟨ih0, ih1, ih2⟩ := fold_pairs.mono_l k
  unfold fold_pairs.f
  repeat' first
      | (with_reducible exact ih0 _ _)
      | (with_reducible exact ih1 _ _)
      | (with_reducible exact ih2 _ _)
      | (with_reducible exact LeO.refl _)
      | (with_reducible exact LeO.none _)
      | (with_reducible refine LeO.ite ?_ ?_)
      | (with_reducible refine LeO.bind ?_ (fun _ => ?_))
      | exact ih0 _ _
      | exact ih1 _ _
      | exact ih2 _ _
      | exact LeO.none _
      | refine LeO.ite ?_ ?_
      | refine LeO.bind ?_ (fun _ => ?_)
set_option maxHeartbeats 8000000 in
set_option maxRecDepth 100000 in
theorem fold_pairs.calls (k : Nat) (a0 : Int) (r : Int) (w : World) (h : fold_pairs.f k a0 = some r) :
    Calls Tryd.prog 25 #[.int .i32 a0] w fun e w' => e = .returned (.int .i32 r) ∧ Drawn0 w w' := by
  have H : (if a0 ≥ 256 then (fold_pairs.j0 k a0 (decide (a0 ≤ 303))) else (fold_pairs.j0 k a0 false)) = some r := h
  clear h
  have HC2 := Aside0.mk H
  clear H
  go_enter Tryd.func25, Tryd.ntmps25
  go_upto_region 1 with (fail)
  go_cut [3] (fun v3 wc => ∃ (kq : Nat) (x3_1 : Bool), v3 = .bool x3_1 ∧ Aside0 (fold_pairs.j0 kq a0 x3_1 = some r) ∧ Aside0 (kq ≤ k) ∧ Drawn0 w wc)
  case first =>
    have H := HC2.out
    clear HC2
    by_cases c3 : a0 ≥ 256
    · rw [if_pos c3] at H
      have c3b0 : decide (256 ≤ a0) = true := decide_eq_true c3
      clear c3
      (first | rw [c3b0] | (simp only [i64_w, i32_w]; rw [c3b0]) | skip)
      have H' := Aside0.mk H
      clear H
      go_wp2
      go_meet
      case rel => exact ⟨_, (decide (a0 ≤ 303)), (by first | rfl | (simp; done) | (simp [*]; done)), H', ⟨by first | omega | exact Nat.le_refl _⟩, by repeat (first | exact Drawn0.refl _ | apply Drawn0.step)⟩
    · rw [if_neg c3] at H
      have c3b0 : decide (256 ≤ a0) = false := decide_eq_false c3
      clear c3
      (first | rw [c3b0] | (simp only [i64_w, i32_w]; rw [c3b0]) | skip)
      have H' := Aside0.mk H
      clear H
      go_wp2
      go_meet
      case rel => exact ⟨_, (false), (by first | rfl | (simp; done) | (simp [*]; done)), H', ⟨by first | omega | exact Nat.le_refl _⟩, by repeat (first | exact Drawn0.refl _ | apply Drawn0.step)⟩
  case rest =>
    clear HC2
    try clear c2
    try clear p2
    try clear c3
    try clear c3b0
    obtain ⟨kq, x3_1, rfl, HA, HJ1, ⟨mc1, rfl⟩⟩ := hcut
    cases kq with
    | zero => exact absurd HA.out (by simp [fold_pairs.j0])
    | succ kj1 =>
      have H := HA.out
      clear HA
      simp only [fold_pairs.j0] at H
      have HC4 := Aside0.mk H
      clear H
      go_upto_if 3 with (fail)
      go_cut [3] (fun v3 wc => ∃ (kq : Nat) (x3_3 : Bool), v3 = .bool x3_3 ∧ Aside0 (fold_pairs.j1 kq a0 x3_3 = some r) ∧ Aside0 (kq ≤ kj1) ∧ Drawn0 w wc)
      case first =>
        have H := HC4.out
        clear HC4
        by_cases c5 : x3_1 = true
        · subst c5
          have H1 : (fold_pairs.j1 kj1 a0 true) = some r := by rw [if_pos rfl] at H; exact H
          clear H
          have H := H1
          clear H1
          have H' := Aside0.mk H
          clear H
          go_wp2
          go_meet
          case rel => exact ⟨_, (true), (by first | rfl | (simp; done) | (simp [*]; done)), H', ⟨by have := HJ1.out; first | omega | exact Nat.le_refl _⟩, by repeat (first | exact Drawn0.refl _ | apply Drawn0.step)⟩
        · replace c5 := Bool.eq_false_iff.mpr c5
          subst c5
          have H1 : (if a0 ≥ 306 then (if a0 ≤ 311 then (fold_pairs.j1 kj1 a0 (decide (a0 ≤ 311))) else (if a0 ≥ 330 then (fold_pairs.j1 kj1 a0 (decide (a0 ≤ 375))) else (fold_pairs.j1 kj1 a0 false))) else (if a0 ≥ 330 then (fold_pairs.j1 kj1 a0 (decide (a0 ≤ 375))) else (fold_pairs.j1 kj1 a0 false))) = some r := by rw [if_neg (show ¬ (false = true) by decide)] at H; exact H
          clear H
          have H := H1
          clear H1
          by_cases c6 : a0 ≥ 306
          · rw [if_pos c6] at H
            have c6b0 : decide (306 ≤ a0) = true := decide_eq_true c6
            clear c6
            (first | rw [c6b0] | (simp only [i64_w, i32_w]; rw [c6b0]) | skip)
            by_cases c7 : a0 ≤ 311
            · rw [if_pos c7] at H
              have c7b0 : decide (a0 ≤ 311) = true := decide_eq_true c7
              clear c7
              have H' := Aside0.mk H
              clear H
              go_wp2
              go_meet
              case rel => exact ⟨_, (decide (a0 ≤ 311)), (by first | rfl | (simp; done) | (simp [*]; done)), H', ⟨by have := HJ1.out; first | omega | exact Nat.le_refl _⟩, by repeat (first | exact Drawn0.refl _ | apply Drawn0.step)⟩
            · rw [if_neg c7] at H
              have c7b0 : decide (a0 ≤ 311) = false := decide_eq_false c7
              clear c7
              by_cases c8 : a0 ≥ 330
              · rw [if_pos c8] at H
                have c8b0 : decide (330 ≤ a0) = true := decide_eq_true c8
                clear c8
                have H' := Aside0.mk H
                clear H
                go_wp2
                go_meet
                case rel => exact ⟨_, (decide (a0 ≤ 375)), (by first | rfl | (simp; done) | (simp [*]; done)), H', ⟨by have := HJ1.out; first | omega | exact Nat.le_refl _⟩, by repeat (first | exact Drawn0.refl _ | apply Drawn0.step)⟩
              · rw [if_neg c8] at H
                have c8b0 : decide (330 ≤ a0) = false := decide_eq_false c8
                clear c8
                have H' := Aside0.mk H
                clear H
                go_wp2
                go_meet
                case rel => exact ⟨_, (false), (by first | rfl | (simp; done) | (simp [*]; done)), H', ⟨by have := HJ1.out; first | omega | exact Nat.le_refl _⟩, by repeat (first | exact Drawn0.refl _ | apply Drawn0.step)⟩
          · rw [if_neg c6] at H
            have c6b0 : decide (306 ≤ a0) = false := decide_eq_false c6
            clear c6
            (first | rw [c6b0] | (simp only [i64_w, i32_w]; rw [c6b0]) | skip)
            by_cases c9 : a0 ≥ 330
            · rw [if_pos c9] at H
              have c9b0 : decide (330 ≤ a0) = true := decide_eq_true c9
              clear c9
              have H' := Aside0.mk H
              clear H
              go_wp2
              go_meet
              case rel => exact ⟨_, (decide (a0 ≤ 375)), (by first | rfl | (simp; done) | (simp [*]; done)), H', ⟨by have := HJ1.out; first | omega | exact Nat.le_refl _⟩, by repeat (first | exact Drawn0.refl _ | apply Drawn0.step)⟩
            · rw [if_neg c9] at H
              have c9b0 : decide (330 ≤ a0) = false := decide_eq_false c9
              clear c9
              have H' := Aside0.mk H
              clear H
              go_wp2
              go_meet
              case rel => exact ⟨_, (false), (by first | rfl | (simp; done) | (simp [*]; done)), H', ⟨by have := HJ1.out; first | omega | exact Nat.le_refl _⟩, by repeat (first | exact Drawn0.refl _ | apply Drawn0.step)⟩
      case rest =>
        clear HC4
        try clear c1
        try clear c2
        try clear p2
        try clear c3
        try clear c3b0
        try clear c5
        try clear c6
        try clear c6b0
        try clear c7
        try clear c7b0
        try clear c8
        try clear c8b0
        try clear c9
        try clear c9b0
        try clear p2
        obtain ⟨kq, x3_3, rfl, HA, HJ3, ⟨mc3, rfl⟩⟩ := hcut
        cases kq with
        | zero => exact absurd HA.out (by simp [fold_pairs.j1])
        | succ kj3 =>
          have H := HA.out
          clear HA
          simp only [fold_pairs.j1] at H
          by_cases c10 : x3_3 = true
          · subst c10
            have H1 : (some 0) = some r := by rw [if_pos rfl] at H; exact H
            clear H
            have H := H1
            clear H1
            obtain rfl := Option.some.inj H
            go_wp2
            go_ret
            exact ⟨by first | rfl | (simp; done) | (simp [*]; done), by repeat (first | exact Drawn0.refl _ | apply Drawn0.step)⟩
          · replace c10 := Bool.eq_false_iff.mpr c10
            subst c10
            have H1 : (if a0 ≥ 313 then (fold_pairs.j2 kj3 a0 (decide (a0 ≤ 328))) else (fold_pairs.j2 kj3 a0 false)) = some r := by rw [if_neg (show ¬ (false = true) by decide)] at H; exact H
            clear H
            have H := H1
            clear H1
            have HC11 := Aside0.mk H
            clear H
            go_upto_region 5 with (fail)
            go_cut [22] (fun v22 wc => ∃ (kq : Nat) (x22_10 : Bool), v22 = .bool x22_10 ∧ Aside0 (fold_pairs.j2 kq a0 x22_10 = some r) ∧ Aside0 (kq ≤ kj3) ∧ Drawn0 w wc)
            case first =>
              have H := HC11.out
              clear HC11
              by_cases c12 : a0 ≥ 313
              · rw [if_pos c12] at H
                have c12b0 : decide (313 ≤ a0) = true := decide_eq_true c12
                clear c12
                (first | rw [c12b0] | (simp only [i64_w, i32_w]; rw [c12b0]) | skip)
                have H' := Aside0.mk H
                clear H
                go_wp2
                go_meet
                case rel => exact ⟨_, (decide (a0 ≤ 328)), (by first | rfl | (simp; done) | (simp [*]; done)), H', ⟨by have := HJ1.out; have := HJ3.out; first | omega | exact Nat.le_refl _⟩, by repeat (first | exact Drawn0.refl _ | apply Drawn0.step)⟩
              · rw [if_neg c12] at H
                have c12b0 : decide (313 ≤ a0) = false := decide_eq_false c12
                clear c12
                (first | rw [c12b0] | (simp only [i64_w, i32_w]; rw [c12b0]) | skip)
                have H' := Aside0.mk H
                clear H
                go_wp2
                go_meet
                case rel => exact ⟨_, (false), (by first | rfl | (simp; done) | (simp [*]; done)), H', ⟨by have := HJ1.out; have := HJ3.out; first | omega | exact Nat.le_refl _⟩, by repeat (first | exact Drawn0.refl _ | apply Drawn0.step)⟩
            case rest =>
              clear HC11
              try clear c1
              try clear c2
              try clear p2
              try clear c3
              try clear c3b0
              try clear c5
              try clear c6
              try clear c6b0
              try clear c7
              try clear c7b0
              try clear c8
              try clear c8b0
              try clear c9
              try clear c9b0
              try clear c10
              try clear c12
              try clear c12b0
              try clear p2
              obtain ⟨kq, x22_10, rfl, HA, HJ10, ⟨mc10, rfl⟩⟩ := hcut
              cases kq with
              | zero => exact absurd HA.out (by simp [fold_pairs.j2])
              | succ kj10 =>
                have H := HA.out
                clear HA
                simp only [fold_pairs.j2] at H
                by_cases c13 : x22_10 = true
                · subst c13
                  have H1 : (some 1) = some r := by rw [if_pos rfl] at H; exact H
                  clear H
                  have H := H1
                  clear H1
                  obtain rfl := Option.some.inj H
                  go_wp2
                  go_ret
                  exact ⟨by first | rfl | (simp; done) | (simp [*]; done), by repeat (first | exact Drawn0.refl _ | apply Drawn0.step)⟩
                · replace c13 := Bool.eq_false_iff.mpr c13
                  subst c13
                  have H1 : (if a0 ≥ 377 then (if a0 ≤ 382 then (some 1) else (some (-1))) else (some (-1))) = some r := by rw [if_neg (show ¬ (false = true) by decide)] at H; exact H
                  clear H
                  have H := H1
                  clear H1
                  by_cases c14 : a0 ≥ 377
                  · rw [if_pos c14] at H
                    have c14b0 : decide (377 ≤ a0) = true := decide_eq_true c14
                    clear c14
                    by_cases c15 : a0 ≤ 382
                    · rw [if_pos c15] at H
                      have c15b0 : decide (a0 ≤ 382) = true := decide_eq_true c15
                      clear c15
                      obtain rfl := Option.some.inj H
                      go_wp2
                      go_ret
                      exact ⟨by first | rfl | (simp; done) | (simp [*]; done), by repeat (first | exact Drawn0.refl _ | apply Drawn0.step)⟩
                    · rw [if_neg c15] at H
                      have c15b0 : decide (a0 ≤ 382) = false := decide_eq_false c15
                      clear c15
                      obtain rfl := Option.some.inj H
                      go_wp2
                      go_ret
                      exact ⟨by first | rfl | (simp; done) | (simp [*]; done), by repeat (first | exact Drawn0.refl _ | apply Drawn0.step)⟩
                  · rw [if_neg c14] at H
                    have c14b0 : decide (377 ≤ a0) = false := decide_eq_false c14
                    clear c14
                    obtain rfl := Option.some.inj H
                    go_wp2
                    go_ret
                    exact ⟨by first | rfl | (simp; done) | (simp [*]; done), by repeat (first | exact Drawn0.refl _ | apply Drawn0.step)⟩

/-! ### fold_odd: function 26 -/
def fold_odd.f (a0 : Int) : Option (Int) := if a0 = 376 then (some 255) else (if a0 = 383 then (some 115) else (if a0 = 181 then (some 956) else (if a0 = 962 then (some 963) else (if a0 = 7838 then (some 223) else (if a0 = 8486 then (some 969) else (if a0 = 8490 then (some 107) else (if a0 = 8491 then (some 229) else (some a0))))))))
set_option maxHeartbeats 8000000 in
set_option maxRecDepth 100000 in
theorem fold_odd.calls (a0 : Int) (r : Int) (w : World) (h : fold_odd.f a0 = some r) :
    Calls Tryd.prog 26 #[.int .i32 a0] w fun e w' => e = .returned (.int .i32 r) ∧ Drawn0 w w' := by
  have H : (if a0 = 376 then (some 255) else (if a0 = 383 then (some 115) else (if a0 = 181 then (some 956) else (if a0 = 962 then (some 963) else (if a0 = 7838 then (some 223) else (if a0 = 8486 then (some 969) else (if a0 = 8490 then (some 107) else (if a0 = 8491 then (some 229) else (some a0))))))))) = some r := h
  clear h
  by_cases c2 : a0 = 376
  · rw [if_pos c2] at H
    have c2b0 : (a0 == 376) = true := beq_iff_eq.mpr c2
    have c2b1 : (a0 != 376) = false := bne_eq_false_iff_eq.mpr c2
    clear c2
    obtain rfl := Option.some.inj H
    go_enter Tryd.func26, Tryd.ntmps26
    go_wp2
    go_ret
    exact ⟨by first | rfl | (simp; done) | (simp [*]; done), by repeat (first | exact Drawn0.refl _ | apply Drawn0.step)⟩
  · rw [if_neg c2] at H
    have c2b0 : (a0 == 376) = false := beq_eq_false_iff_ne.mpr c2
    have c2b1 : (a0 != 376) = true := bne_iff_ne.mpr c2
    by_cases c3 : a0 = 383
    · rw [if_pos c3] at H
      have c3b0 : (a0 == 383) = true := beq_iff_eq.mpr c3
      have c3b1 : (a0 != 383) = false := bne_eq_false_iff_eq.mpr c3
      clear c3
      obtain rfl := Option.some.inj H
      go_enter Tryd.func26, Tryd.ntmps26
      go_wp2
      go_ret
      exact ⟨by first | rfl | (simp; done) | (simp [*]; done), by repeat (first | exact Drawn0.refl _ | apply Drawn0.step)⟩
    · rw [if_neg c3] at H
      have c3b0 : (a0 == 383) = false := beq_eq_false_iff_ne.mpr c3
      have c3b1 : (a0 != 383) = true := bne_iff_ne.mpr c3
      by_cases c4 : a0 = 181
      · rw [if_pos c4] at H
        have c4b0 : (a0 == 181) = true := beq_iff_eq.mpr c4
        have c4b1 : (a0 != 181) = false := bne_eq_false_iff_eq.mpr c4
        clear c4
        obtain rfl := Option.some.inj H
        go_enter Tryd.func26, Tryd.ntmps26
        go_wp2
        go_ret
        exact ⟨by first | rfl | (simp; done) | (simp [*]; done), by repeat (first | exact Drawn0.refl _ | apply Drawn0.step)⟩
      · rw [if_neg c4] at H
        have c4b0 : (a0 == 181) = false := beq_eq_false_iff_ne.mpr c4
        have c4b1 : (a0 != 181) = true := bne_iff_ne.mpr c4
        by_cases c5 : a0 = 962
        · rw [if_pos c5] at H
          have c5b0 : (a0 == 962) = true := beq_iff_eq.mpr c5
          have c5b1 : (a0 != 962) = false := bne_eq_false_iff_eq.mpr c5
          clear c5
          obtain rfl := Option.some.inj H
          go_enter Tryd.func26, Tryd.ntmps26
          go_wp2
          go_ret
          exact ⟨by first | rfl | (simp; done) | (simp [*]; done), by repeat (first | exact Drawn0.refl _ | apply Drawn0.step)⟩
        · rw [if_neg c5] at H
          have c5b0 : (a0 == 962) = false := beq_eq_false_iff_ne.mpr c5
          have c5b1 : (a0 != 962) = true := bne_iff_ne.mpr c5
          by_cases c6 : a0 = 7838
          · rw [if_pos c6] at H
            have c6b0 : (a0 == 7838) = true := beq_iff_eq.mpr c6
            have c6b1 : (a0 != 7838) = false := bne_eq_false_iff_eq.mpr c6
            clear c6
            obtain rfl := Option.some.inj H
            go_enter Tryd.func26, Tryd.ntmps26
            go_wp2
            go_ret
            exact ⟨by first | rfl | (simp; done) | (simp [*]; done), by repeat (first | exact Drawn0.refl _ | apply Drawn0.step)⟩
          · rw [if_neg c6] at H
            have c6b0 : (a0 == 7838) = false := beq_eq_false_iff_ne.mpr c6
            have c6b1 : (a0 != 7838) = true := bne_iff_ne.mpr c6
            by_cases c7 : a0 = 8486
            · rw [if_pos c7] at H
              have c7b0 : (a0 == 8486) = true := beq_iff_eq.mpr c7
              have c7b1 : (a0 != 8486) = false := bne_eq_false_iff_eq.mpr c7
              clear c7
              obtain rfl := Option.some.inj H
              go_enter Tryd.func26, Tryd.ntmps26
              go_wp2
              go_ret
              exact ⟨by first | rfl | (simp; done) | (simp [*]; done), by repeat (first | exact Drawn0.refl _ | apply Drawn0.step)⟩
            · rw [if_neg c7] at H
              have c7b0 : (a0 == 8486) = false := beq_eq_false_iff_ne.mpr c7
              have c7b1 : (a0 != 8486) = true := bne_iff_ne.mpr c7
              by_cases c8 : a0 = 8490
              · rw [if_pos c8] at H
                have c8b0 : (a0 == 8490) = true := beq_iff_eq.mpr c8
                have c8b1 : (a0 != 8490) = false := bne_eq_false_iff_eq.mpr c8
                clear c8
                obtain rfl := Option.some.inj H
                go_enter Tryd.func26, Tryd.ntmps26
                go_wp2
                go_ret
                exact ⟨by first | rfl | (simp; done) | (simp [*]; done), by repeat (first | exact Drawn0.refl _ | apply Drawn0.step)⟩
              · rw [if_neg c8] at H
                have c8b0 : (a0 == 8490) = false := beq_eq_false_iff_ne.mpr c8
                have c8b1 : (a0 != 8490) = true := bne_iff_ne.mpr c8
                by_cases c9 : a0 = 8491
                · rw [if_pos c9] at H
                  have c9b0 : (a0 == 8491) = true := beq_iff_eq.mpr c9
                  have c9b1 : (a0 != 8491) = false := bne_eq_false_iff_eq.mpr c9
                  clear c9
                  obtain rfl := Option.some.inj H
                  go_enter Tryd.func26, Tryd.ntmps26
                  go_wp2
                  go_ret
                  exact ⟨by first | rfl | (simp; done) | (simp [*]; done), by repeat (first | exact Drawn0.refl _ | apply Drawn0.step)⟩
                · rw [if_neg c9] at H
                  have c9b0 : (a0 == 8491) = false := beq_eq_false_iff_ne.mpr c9
                  have c9b1 : (a0 != 8491) = true := bne_iff_ne.mpr c9
                  obtain rfl := Option.some.inj H
                  go_enter Tryd.func26, Tryd.ntmps26
                  go_wp2
                  go_ret
                  exact ⟨by first | rfl | (simp; done) | (simp [*]; done), by repeat (first | exact Drawn0.refl _ | apply Drawn0.step)⟩

end Go.Proofs.YtfkckhliffbcjaaDoor.Z
