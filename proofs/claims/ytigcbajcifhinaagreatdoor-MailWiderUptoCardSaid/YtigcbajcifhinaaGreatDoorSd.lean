/- What the proof of LawMailWider builds upon, part 4: contracts of the program's functions, by walks through their code. -/
import Derived.RangeFuncNested
import Derived.RangeFuncCalls
import Derived.RangeFuncLeaves
import Derived.Shelf.Abstract
import Derived.OwnWalkIn
import Derived.TacticsInMore
import Derived.LoopNIn
import Derived.LoopIn
import Derived.Test.YtigcbajcifhinaaGreatDoorSc
set_option maxRecDepth 100000
set_option maxHeartbeats 8000000
set_option linter.unusedVariables false
set_option linter.unusedSimpArgs false
namespace Go.Proofs.YtigcbajcifhinaaGreatDoor.V
open Go.RowKit Go.Proofs.YtigcbajcifhinaaGreatDoorW.PrintWords Go.Proofs.YtigcbajcifhinaaGreatDoorW.PrintLast Go.Proofs.YtigcbajcifhinaaGreatDoorW.PrintMore
attribute [local go_sem] max2_int min2_int max_two min_two max_three min_three max_four min_four
mutual
def fold_One.j0 : Nat → Int → Bool → Option (Int)
 | 0, _, _ => none
 | k + 1, x0, x3 => if x3 = true then (some x0) else (if x0 ≥ 65 then (fold_One.j1 k x0 (decide (x0 ≤ 90))) else (fold_One.j1 k x0 false))
def fold_One.j1 : Nat → Int → Bool → Option (Int)
 | 0, _, _ => none
 | k + 1, x0, x11 => if x11 = true then (fold_One.j3 k x0 x11) else (if x0 ≥ 192 then (fold_One.j2 k x0 (decide (x0 ≤ 222))) else (fold_One.j2 k x0 false))
def fold_One.j3 : Nat → Int → Bool → Option (Int)
 | 0, _, _ => none
 | k + 1, x0, x11 => if x11 = true then (some (wrap32 (x0 + 32))) else (if x0 ≥ 1024 then (fold_One.j4 k x0 (decide (x0 ≤ 1039))) else (fold_One.j4 k x0 false))
def fold_One.j4 : Nat → Int → Bool → Option (Int)
 | 0, _, _ => none
 | k + 1, x0, x38 => if x38 = true then (some (wrap32 (x0 + 80))) else ((fold_pairs.f k x0).bind fun t101 => (if t101 = (Go.bits .and .i32 x0 1) then (some (wrap32 (x0 + 1))) else ((fold_odd.f x0).bind fun t102 => (some t102))))
def fold_One.j2 : Nat → Int → Bool → Option (Int)
 | 0, _, _ => none
 | k + 1, x0, x11 => if x11 = true then (fold_One.j3 k x0 x11) else (if x0 ≥ 913 then (if x0 ≤ 937 then (fold_One.j3 k x0 (decide (x0 ≤ 937))) else (if x0 ≥ 1040 then (fold_One.j3 k x0 (decide (x0 ≤ 1071))) else (fold_One.j3 k x0 false))) else (if x0 ≥ 1040 then (fold_One.j3 k x0 (decide (x0 ≤ 1071))) else (fold_One.j3 k x0 false)))
end
def fold_One.f (k : Nat) (a0 : Int) : Option (Int) := if a0 = 215 then (fold_One.j0 k a0 true) else (fold_One.j0 k a0 (a0 == 930))
theorem fold_One.mono_l : ∀ k, (∀ y0 y1, LeO (fold_One.j0 k y0 y1) (fold_One.j0 (k + 1) y0 y1)) ∧ (∀ y0 y1, LeO (fold_One.j1 k y0 y1) (fold_One.j1 (k + 1) y0 y1)) ∧ (∀ y0 y1, LeO (fold_One.j3 k y0 y1) (fold_One.j3 (k + 1) y0 y1)) ∧ (∀ y0 y1, LeO (fold_One.j4 k y0 y1) (fold_One.j4 (k + 1) y0 y1)) ∧ (∀ y0 y1, LeO (fold_One.j2 k y0 y1) (fold_One.j2 (k + 1) y0 y1))
 | 0 => ⟨fun _ _ r h => by simp [fold_One.j0] at h, fun _ _ r h => by simp [fold_One.j1] at h, fun _ _ r h => by simp [fold_One.j3] at h, fun _ _ r h => by simp [fold_One.j4] at h, fun _ _ r h => by simp [fold_One.j2] at h⟩
 | k + 1 => by
  obtain ⟨ih0, ih1, ih2, ih3, ih4⟩ := fold_One.mono_l k
  refine ⟨?_, ?_, ?_, ?_, ?_⟩
  ·
   intro y0 y1
   unfold fold_One.j0
   repeat' (with_reducible first | apply ih0 | apply ih1 | apply ih2 | apply ih3 | apply ih4 | apply fold_pairs.mono | apply LeO.refl | exact LeO.none _ | apply LeO.ite | refine LeO.bind ?_ fun _ => ?_)
  ·
   intro y0 y1
   unfold fold_One.j1
   repeat' (with_reducible first | apply ih0 | apply ih1 | apply ih2 | apply ih3 | apply ih4 | apply fold_pairs.mono | apply LeO.refl | exact LeO.none _ | apply LeO.ite | refine LeO.bind ?_ fun _ => ?_)
  ·
   intro y0 y1
   unfold fold_One.j3
   repeat' (with_reducible first | apply ih0 | apply ih1 | apply ih2 | apply ih3 | apply ih4 | apply fold_pairs.mono | apply LeO.refl | exact LeO.none _ | apply LeO.ite | refine LeO.bind ?_ fun _ => ?_)
  ·
   intro y0 y1
   unfold fold_One.j4
   repeat' (with_reducible first | apply ih0 | apply ih1 | apply ih2 | apply ih3 | apply ih4 | apply fold_pairs.mono | apply LeO.refl | exact LeO.none _ | apply LeO.ite | refine LeO.bind ?_ fun _ => ?_)
  ·
   intro y0 y1
   unfold fold_One.j2
   repeat' (with_reducible first | apply ih0 | apply ih1 | apply ih2 | apply ih3 | apply ih4 | apply fold_pairs.mono | apply LeO.refl | exact LeO.none _ | apply LeO.ite | refine LeO.bind ?_ fun _ => ?_)
theorem fold_One.mono : ∀ a0 k, LeO (fold_One.f k a0) (fold_One.f (k + 1) a0) := by
 intro a0 k
 obtain ⟨ih0, ih1, ih2, ih3, ih4⟩ := fold_One.mono_l k
 unfold fold_One.f
 repeat' (with_reducible first | apply ih0 | apply ih1 | apply ih2 | apply ih3 | apply ih4 | apply fold_pairs.mono | apply LeO.refl | exact LeO.none _ | apply LeO.ite | refine LeO.bind ?_ fun _ => ?_)
theorem fold_One.calls (k : Nat) (a0 : Int) (r : Int) (w : World) (h : fold_One.f k a0 = some r) :
  Calls Tryz.prog 33 #[.int .i32 a0] w fun e w' => e = .returned (.int .i32 r) ∧ Drawn0 w w' := by
 have H : (if a0 = 215 then (fold_One.j0 k a0 true) else (fold_One.j0 k a0 (a0 == 930))) = some r := h
 clear h
 have HC2 := Aside0.mk H
 clear H
 go_enter Tryz.func33, Tryz.ntmps33
 go_upto_region 1 with (fail)
 go_cut [3] (fun v3 wc => ∃ (kq : Nat) (x3_1 : Bool), v3 = .bool x3_1 ∧ Aside0 (fold_One.j0 kq a0 x3_1 = some r) ∧ Aside0 (kq ≤ k) ∧ Drawn0 w wc)
 case first =>
  have H := HC2.out
  clear HC2
  by_cases c3 : a0 = 215
  ·
   rw [if_pos c3] at H
   have c3b0 : (a0 == 215) = true := beq_iff_eq.mpr c3
   have c3b1 : (a0 != 215) = false := bne_eq_false_iff_eq.mpr c3
   clear c3
   (first | rw [c3b0] | (simp only [i64_w, i32_w]; rw [c3b0]) | skip)
   have H' := Aside0.mk H
   clear H
   go_wp2
   go_meet
   case rel => exact ⟨_, (true), (by first | rfl | (simp [*]; done)), H', ⟨by first | omega | exact Nat.le_refl _⟩, by repeat (first | exact Drawn0.refl _ | apply Drawn0.step)⟩
  ·
   rw [if_neg c3] at H
   have c3b0 : (a0 == 215) = false := beq_eq_false_iff_ne.mpr c3
   have c3b1 : (a0 != 215) = true := bne_iff_ne.mpr c3
   (first | rw [c3b0] | (simp only [i64_w, i32_w]; rw [c3b0]) | skip)
   have H' := Aside0.mk H
   clear H
   go_wp2
   go_meet
   case rel => exact ⟨_, ((a0 == 930)), (by first | rfl | (simp [*]; done)), H', ⟨by first | omega | exact Nat.le_refl _⟩, by repeat (first | exact Drawn0.refl _ | apply Drawn0.step)⟩
 case rest =>
  clear HC2
  obtain ⟨kq, x3_1, rfl, HA, HJ1, ⟨mc1, rfl⟩⟩ := hcut
  cases kq with
  | zero => exact absurd HA.out (by simp [fold_One.j0])
  | succ kj1 =>
   have H := HA.out
   clear HA
   simp only [fold_One.j0] at H
   by_cases c4 : x3_1 = true
   ·
    subst c4
    have H1 : (some a0) = some r := by rw [if_pos rfl] at H; exact H
    clear H
    have H := H1
    clear H1
    obtain rfl := Option.some.inj H
    go_wp2
    go_ret
    exact drwQ
   ·
    replace c4 := Bool.eq_false_iff.mpr c4
    subst c4
    have H1 : (if a0 ≥ 65 then (fold_One.j1 kj1 a0 (decide (a0 ≤ 90))) else (fold_One.j1 kj1 a0 false)) = some r := by rw [if_neg (show ¬ (false = true) by decide)] at H; exact H
    clear H
    have H := H1
    clear H1
    have HC5 := Aside0.mk H
    clear H
    go_upto_region 3 with (fail)
    go_cut [11] (fun v11 wc => ∃ (kq : Nat) (x11_4 : Bool), v11 = .bool x11_4 ∧ Aside0 (fold_One.j1 kq a0 x11_4 = some r) ∧ Aside0 (kq ≤ kj1) ∧ Drawn0 w wc)
    case first =>
     have H := HC5.out
     clear HC5
     by_cases c6 : a0 ≥ 65
     ·
      rw [if_pos c6] at H
      have c6b0 : decide (65 ≤ a0) = true := decide_eq_true c6
      clear c6
      (first | rw [c6b0] | (simp only [i64_w, i32_w]; rw [c6b0]) | skip)
      have H' := Aside0.mk H
      clear H
      go_wp2
      go_meet
      case rel => exact ⟨_, (decide (a0 ≤ 90)), (by first | rfl | (simp [*]; done)), H', ⟨by have := HJ1.out; first | omega | exact Nat.le_refl _⟩, by repeat (first | exact Drawn0.refl _ | apply Drawn0.step)⟩
     ·
      rw [if_neg c6] at H
      have c6b0 : decide (65 ≤ a0) = false := decide_eq_false c6
      clear c6
      (first | rw [c6b0] | (simp only [i64_w, i32_w]; rw [c6b0]) | skip)
      have H' := Aside0.mk H
      clear H
      go_wp2
      go_meet
      case rel => exact ⟨_, (false), (by first | rfl | (simp [*]; done)), H', ⟨by have := HJ1.out; first | omega | exact Nat.le_refl _⟩, by repeat (first | exact Drawn0.refl _ | apply Drawn0.step)⟩
    case rest =>
     clear HC5
     obtain ⟨kq, x11_4, rfl, HA, HJ4, ⟨mc4, rfl⟩⟩ := hcut
     cases kq with
     | zero => exact absurd HA.out (by simp [fold_One.j1])
     | succ kj4 =>
      have H := HA.out
      clear HA
      simp only [fold_One.j1] at H
      have HC7 := Aside0.mk H
      clear H
      go_upto_if 11 with (fail)
      go_cut [11] (fun v11 wc => ∃ (kq : Nat) (x11_6 : Bool), v11 = .bool x11_6 ∧ Aside0 (fold_One.j3 kq a0 x11_6 = some r) ∧ Aside0 (kq ≤ kj4) ∧ Drawn0 w wc)
      case first =>
       have H := HC7.out
       clear HC7
       by_cases c8 : x11_4 = true
       ·
        subst c8
        have H1 : (fold_One.j3 kj4 a0 true) = some r := by rw [if_pos rfl] at H; exact H
        clear H
        have H := H1
        clear H1
        have H' := Aside0.mk H
        clear H
        go_wp2
        go_meet
        case rel => exact ⟨_, (true), (by first | rfl | (simp [*]; done)), H', ⟨by have := HJ1.out; have := HJ4.out; first | omega | exact Nat.le_refl _⟩, by repeat (first | exact Drawn0.refl _ | apply Drawn0.step)⟩
       ·
        replace c8 := Bool.eq_false_iff.mpr c8
        subst c8
        have H1 : (if a0 ≥ 192 then (fold_One.j2 kj4 a0 (decide (a0 ≤ 222))) else (fold_One.j2 kj4 a0 false)) = some r := by rw [if_neg (show ¬ (false = true) by decide)] at H; exact H
        clear H
        have H := H1
        clear H1
        have HC9 := Aside0.mk H
        clear H
        go_upto_region 4 with (fail)
        go_cut [11] (fun v11 wc => ∃ (kq : Nat) (x11_8 : Bool), v11 = .bool x11_8 ∧ Aside0 (fold_One.j2 kq a0 x11_8 = some r) ∧ Aside0 (kq ≤ kj4) ∧ Drawn0 w wc)
        case first =>
         have H := HC9.out
         clear HC9
         by_cases c10 : a0 ≥ 192
         ·
          rw [if_pos c10] at H
          have c10b0 : decide (192 ≤ a0) = true := decide_eq_true c10
          clear c10
          (first | rw [c10b0] | (simp only [i64_w, i32_w]; rw [c10b0]) | skip)
          have H' := Aside0.mk H
          clear H
          go_wp2
          go_meet
          case rel => exact ⟨_, (decide (a0 ≤ 222)), (by first | rfl | (simp [*]; done)), H', ⟨by have := HJ1.out; have := HJ4.out; first | omega | exact Nat.le_refl _⟩, by repeat (first | exact Drawn0.refl _ | apply Drawn0.step)⟩
         ·
          rw [if_neg c10] at H
          have c10b0 : decide (192 ≤ a0) = false := decide_eq_false c10
          clear c10
          (first | rw [c10b0] | (simp only [i64_w, i32_w]; rw [c10b0]) | skip)
          have H' := Aside0.mk H
          clear H
          go_wp2
          go_meet
          case rel => exact ⟨_, (false), (by first | rfl | (simp [*]; done)), H', ⟨by have := HJ1.out; have := HJ4.out; first | omega | exact Nat.le_refl _⟩, by repeat (first | exact Drawn0.refl _ | apply Drawn0.step)⟩
        case rest =>
         clear HC9
         obtain ⟨kq, x11_8, rfl, HA, HJ8, ⟨mc8, rfl⟩⟩ := hcut
         cases kq with
         | zero => exact absurd HA.out (by simp [fold_One.j2])
         | succ kj8 =>
          have H := HA.out
          clear HA
          simp only [fold_One.j2] at H
          by_cases c11 : x11_8 = true
          ·
           subst c11
           have H1 : (fold_One.j3 kj8 a0 true) = some r := by rw [if_pos rfl] at H; exact H
           clear H
           have H := H1
           clear H1
           have H' := Aside0.mk H
           clear H
           go_wp2
           go_meet
           case rel => exact ⟨_, (true), (by first | rfl | (simp [*]; done)), H', ⟨by have := HJ1.out; have := HJ4.out; have := HJ8.out; first | omega | exact Nat.le_refl _⟩, by repeat (first | exact Drawn0.refl _ | apply Drawn0.step)⟩
          ·
           replace c11 := Bool.eq_false_iff.mpr c11
           subst c11
           have H1 : (if a0 ≥ 913 then (if a0 ≤ 937 then (fold_One.j3 kj8 a0 (decide (a0 ≤ 937))) else (if a0 ≥ 1040 then (fold_One.j3 kj8 a0 (decide (a0 ≤ 1071))) else (fold_One.j3 kj8 a0 false))) else (if a0 ≥ 1040 then (fold_One.j3 kj8 a0 (decide (a0 ≤ 1071))) else (fold_One.j3 kj8 a0 false))) = some r := by rw [if_neg (show ¬ (false = true) by decide)] at H; exact H
           clear H
           have H := H1
           clear H1
           by_cases c12 : a0 ≥ 913
           ·
            rw [if_pos c12] at H
            have c12b0 : decide (913 ≤ a0) = true := decide_eq_true c12
            clear c12
            by_cases c13 : a0 ≤ 937
            ·
             rw [if_pos c13] at H
             have c13b0 : decide (a0 ≤ 937) = true := decide_eq_true c13
             clear c13
             have H' := Aside0.mk H
             clear H
             go_wp2
             go_meet
             case rel => exact ⟨_, (decide (a0 ≤ 937)), (by first | rfl | (simp [*]; done)), H', ⟨by have := HJ1.out; have := HJ4.out; have := HJ8.out; first | omega | exact Nat.le_refl _⟩, by repeat (first | exact Drawn0.refl _ | apply Drawn0.step)⟩
            ·
             rw [if_neg c13] at H
             have c13b0 : decide (a0 ≤ 937) = false := decide_eq_false c13
             clear c13
             by_cases c14 : a0 ≥ 1040
             ·
              rw [if_pos c14] at H
              have c14b0 : decide (1040 ≤ a0) = true := decide_eq_true c14
              clear c14
              have H' := Aside0.mk H
              clear H
              go_wp2
              go_meet
              case rel => exact ⟨_, (decide (a0 ≤ 1071)), (by first | rfl | (simp [*]; done)), H', ⟨by have := HJ1.out; have := HJ4.out; have := HJ8.out; first | omega | exact Nat.le_refl _⟩, by repeat (first | exact Drawn0.refl _ | apply Drawn0.step)⟩
             ·
              rw [if_neg c14] at H
              have c14b0 : decide (1040 ≤ a0) = false := decide_eq_false c14
              clear c14
              have H' := Aside0.mk H
              clear H
              go_wp2
              go_meet
              case rel => exact ⟨_, (false), (by first | rfl | (simp [*]; done)), H', ⟨by have := HJ1.out; have := HJ4.out; have := HJ8.out; first | omega | exact Nat.le_refl _⟩, by repeat (first | exact Drawn0.refl _ | apply Drawn0.step)⟩
           ·
            rw [if_neg c12] at H
            have c12b0 : decide (913 ≤ a0) = false := decide_eq_false c12
            clear c12
            by_cases c15 : a0 ≥ 1040
            ·
             rw [if_pos c15] at H
             have c15b0 : decide (1040 ≤ a0) = true := decide_eq_true c15
             clear c15
             have H' := Aside0.mk H
             clear H
             go_wp2
             go_meet
             case rel => exact ⟨_, (decide (a0 ≤ 1071)), (by first | rfl | (simp [*]; done)), H', ⟨by have := HJ1.out; have := HJ4.out; have := HJ8.out; first | omega | exact Nat.le_refl _⟩, by repeat (first | exact Drawn0.refl _ | apply Drawn0.step)⟩
            ·
             rw [if_neg c15] at H
             have c15b0 : decide (1040 ≤ a0) = false := decide_eq_false c15
             clear c15
             have H' := Aside0.mk H
             clear H
             go_wp2
             go_meet
             case rel => exact ⟨_, (false), (by first | rfl | (simp [*]; done)), H', ⟨by have := HJ1.out; have := HJ4.out; have := HJ8.out; first | omega | exact Nat.le_refl _⟩, by repeat (first | exact Drawn0.refl _ | apply Drawn0.step)⟩
      case rest =>
       clear HC7
       obtain ⟨kq, x11_6, rfl, HA, HJ6, ⟨mc6, rfl⟩⟩ := hcut
       cases kq with
       | zero => exact absurd HA.out (by simp [fold_One.j3])
       | succ kj6 =>
        have H := HA.out
        clear HA
        simp only [fold_One.j3] at H
        by_cases c16 : x11_6 = true
        ·
         subst c16
         have H1 : (some (wrap32 (a0 + 32))) = some r := by rw [if_pos rfl] at H; exact H
         clear H
         have H := H1
         clear H1
         obtain rfl := Option.some.inj H
         go_wp2
         go_ret
         exact drwQ
        ·
         replace c16 := Bool.eq_false_iff.mpr c16
         subst c16
         have H1 : (if a0 ≥ 1024 then (fold_One.j4 kj6 a0 (decide (a0 ≤ 1039))) else (fold_One.j4 kj6 a0 false)) = some r := by rw [if_neg (show ¬ (false = true) by decide)] at H; exact H
         clear H
         have H := H1
         clear H1
         have HC17 := Aside0.mk H
         clear H
         go_upto_region 8 with (fail)
         go_cut [38] (fun v38 wc => ∃ (kq : Nat) (x38_16 : Bool), v38 = .bool x38_16 ∧ Aside0 (fold_One.j4 kq a0 x38_16 = some r) ∧ Aside0 (kq ≤ kj6) ∧ Drawn0 w wc)
         case first =>
          have H := HC17.out
          clear HC17
          by_cases c18 : a0 ≥ 1024
          ·
           rw [if_pos c18] at H
           have c18b0 : decide (1024 ≤ a0) = true := decide_eq_true c18
           clear c18
           (first | rw [c18b0] | (simp only [i64_w, i32_w]; rw [c18b0]) | skip)
           have H' := Aside0.mk H
           clear H
           go_wp2
           go_meet
           case rel => exact ⟨_, (decide (a0 ≤ 1039)), (by first | rfl | (simp [*]; done)), H', ⟨by have := HJ1.out; have := HJ4.out; have := HJ6.out; first | omega | exact Nat.le_refl _⟩, by repeat (first | exact Drawn0.refl _ | apply Drawn0.step)⟩
          ·
           rw [if_neg c18] at H
           have c18b0 : decide (1024 ≤ a0) = false := decide_eq_false c18
           clear c18
           (first | rw [c18b0] | (simp only [i64_w, i32_w]; rw [c18b0]) | skip)
           have H' := Aside0.mk H
           clear H
           go_wp2
           go_meet
           case rel => exact ⟨_, (false), (by first | rfl | (simp [*]; done)), H', ⟨by have := HJ1.out; have := HJ4.out; have := HJ6.out; first | omega | exact Nat.le_refl _⟩, by repeat (first | exact Drawn0.refl _ | apply Drawn0.step)⟩
         case rest =>
          clear HC17
          obtain ⟨kq, x38_16, rfl, HA, HJ16, ⟨mc16, rfl⟩⟩ := hcut
          cases kq with
          | zero => exact absurd HA.out (by simp [fold_One.j4])
          | succ kj16 =>
           have H := HA.out
           clear HA
           simp only [fold_One.j4] at H
           by_cases c19 : x38_16 = true
           ·
            subst c19
            have H1 : (some (wrap32 (a0 + 80))) = some r := by rw [if_pos rfl] at H; exact H
            clear H
            have H := H1
            clear H1
            obtain rfl := Option.some.inj H
            go_wp2
            go_ret
            exact drwQ
           ·
            replace c19 := Bool.eq_false_iff.mpr c19
            subst c19
            have H1 : ((fold_pairs.f kj16 a0).bind fun t101 => (if t101 = (Go.bits .and .i32 a0 1) then (some (wrap32 (a0 + 1))) else ((fold_odd.f a0).bind fun t102 => (some t102)))) = some r := by rw [if_neg (show ¬ (false = true) by decide)] at H; exact H
            clear H
            have H := H1
            clear H1
            obtain ⟨t101, A20, H⟩ := bindQ H
            replace H : (if t101 = (Go.bits .and .i32 a0 1) then (some (wrap32 (a0 + 1))) else ((fold_odd.f a0).bind fun t102 => (some t102))) = some r := H
            by_cases c21 : t101 = (Go.bits .and .i32 a0 1)
            ·
             rw [if_pos c21] at H
             have c21b0 : (t101 == (Go.bits .and .i32 a0 1)) = true := beq_iff_eq.mpr c21
             have c21b1 : (t101 != (Go.bits .and .i32 a0 1)) = false := bne_eq_false_iff_eq.mpr c21
             clear c21
             obtain rfl := Option.some.inj H
             go_wp2_with (first | ((with_reducible refine gate_callee (f := 66) rfl ?_); refine goesLQ (some 49) Tryz.func66 #[.int .i32 a0] ?_; (with_reducible refine (fold_pairs.calls kj16 a0 t101 _ A20.out).mono ?_); rintro e w' ⟨rfl, ⟨nd, rfl⟩⟩; refine ⟨_, rfl, ?_⟩))
             go_ret
             exact drwQ
            ·
             rw [if_neg c21] at H
             have c21b0 : (t101 == (Go.bits .and .i32 a0 1)) = false := beq_eq_false_iff_ne.mpr c21
             have c21b1 : (t101 != (Go.bits .and .i32 a0 1)) = true := bne_iff_ne.mpr c21
             obtain ⟨t102, A22, H⟩ := bindQ H
             replace H : (some t102) = some r := H
             obtain rfl := Option.some.inj H
             go_wp2_with (first | ((with_reducible refine gate_callee (f := 66) rfl ?_); refine goesLQ (some 49) Tryz.func66 #[.int .i32 a0] ?_; (with_reducible refine (fold_pairs.calls kj16 a0 t101 _ A20.out).mono ?_); rintro e w' ⟨rfl, ⟨nd, rfl⟩⟩; refine ⟨_, rfl, ?_⟩) | ((with_reducible refine gate_callee (f := 67) rfl ?_); refine goesLQ (some 56) Tryz.func67 #[.int .i32 a0] ?_; (with_reducible refine (fold_odd.calls a0 t102 _ A22.out).mono ?_); rintro e w' ⟨rfl, ⟨nd, rfl⟩⟩; refine ⟨_, rfl, ?_⟩))
             go_ret
             exact drwQ
def fold_Fold.l0 : Nat → List Int → List Int → Int → Int → Option (List Int)
 | 0, _, _, _, _ => none
 | k + 1, x3, x9, x10, x11 => if x11 < x10 then (if 0 ≤ x11 then (if x11 < (x9.length : Int) then ((fold_One.f k (rd x9 x11)).bind fun t107 => (if x11 < (x3.length : Int) then (fold_Fold.l0 k (x3.set (x11 : Int).toNat t107) x9 x10 (wrap64 (x11 + 1))) else (none))) else (none)) else (none)) else (some x3)
def fold_Fold.f (k : Nat) (l0 : List Int) : Option (List Int) := if 0 ≤ (l0.length : Int) then (if ((l0.length : Int) : Int).toNat ≤ 70368744177664 then (fold_Fold.l0 k (List.replicate ((l0.length : Int) : Int).toNat 0) l0 (l0.length : Int) 0) else (none)) else (none)
theorem fold_Fold.mono_l : ∀ k, (∀ y0 y1 y2 y3, LeO (fold_Fold.l0 k y0 y1 y2 y3) (fold_Fold.l0 (k + 1) y0 y1 y2 y3))
 | 0 => fun _ _ _ _ r h => by simp [fold_Fold.l0] at h
 | k + 1 => by
  have ih0 := fold_Fold.mono_l k
  ·
   intro y0 y1 y2 y3
   unfold fold_Fold.l0
   repeat' (with_reducible first | apply ih0 | apply fold_One.mono | apply LeO.refl | exact LeO.none _ | apply LeO.ite | refine LeO.bind ?_ fun _ => ?_)
theorem fold_Fold.mono : ∀ a0 k, LeO (fold_Fold.f k a0) (fold_Fold.f (k + 1) a0) := by
 intro a0 k
 have ih0 := fold_Fold.mono_l k
 unfold fold_Fold.f
 repeat' (with_reducible first | apply ih0 | apply fold_One.mono | apply LeO.refl | exact LeO.none _ | apply LeO.ite | refine LeO.bind ?_ fun _ => ?_)
theorem fold_Fold.calls (k : Nat) (A0 : Option Addr) (c0 : Nat) (l0 : List Int) (r : List Int) (w : World) (hr0 : Kd.C (Kd.int .i32) w A0 l0.length l0) (hc0 : l0.length ≤ c0) (h : fold_Fold.f k l0 = some r) :
  Calls Tryz.prog 15 #[.slice A0 l0.length c0] w fun e w' => ∃ v0_ : Value, e = .returned (v0_) ∧ Kd.R (Kd.int .i32) 21 w' w.heap.size (fun _ => True) v0_ r ∧ Below w.heap.size w w' := by
 have HR0 := Aside0.mk hr0
 have HC0 := Aside0.mk hc0
 clear hr0 hc0
 have HB := Aside0.mk (Below.refl w.heap.size w)
 have H : (if 0 ≤ (l0.length : Int) then (if ((l0.length : Int) : Int).toNat ≤ 70368744177664 then (fold_Fold.l0 k (List.replicate ((l0.length : Int) : Int).toNat 0) l0 (l0.length : Int) 0) else (none)) else (none)) = some r := h
 clear h
 by_cases c2 : 0 ≤ (l0.length : Int)
 ·
  rw [if_pos c2] at H
  have c2b0 := eq_true c2
  have c2b1 : decide (0 ≤ (l0.length : Int)) = true := decide_eq_true c2
  clear c2
  by_cases c3 : ((l0.length : Int) : Int).toNat ≤ 70368744177664
  ·
   rw [if_pos c3] at H
   have c3b0 := eq_true c3
   have c3b1 : decide (((l0.length : Int) : Int).toNat ≤ 70368744177664) = true := decide_eq_true c3
   clear c3
   obtain ⟨y103, hy103⟩ : ∃ y_ : List Int, y_ = (List.replicate ((l0.length : Int) : Int).toNat 0) := ⟨_, rfl⟩
   replace H : (fold_Fold.l0 k y103 l0 (l0.length : Int) 0) = some r := by first | (rw [hy103]; with_reducible exact H) | (have H2_ := (Option.bind_some _ _).symm.trans H; rw [hy103]; with_reducible exact H2_) | (have H2_ := (Option.bind_some _ _).symm.trans H; with_reducible exact H2_) | with_reducible exact H | (rw [hy103]; exact H) | exact H
   have Ny103 := Aside0.mk hy103
   clear hy103
   have H' := Aside0.mk H
   clear H
   go_enter Tryz.func15, Tryz.ntmps15
   go_wp2_with (first | ((with_reducible refine gate_dst (N := 8) rfl ?_); refine Kd.R_make (Kd.int .i32) _ 21 rfl (N := 8) rfl 22 _ _ rfl (l0.length : Int) rfl rfl Tryz.underlying22 (.int .i32 0) 4 info21 rfl (by decide) (by omega) 0 (ok := fun _ => True) (okp := fun _ => True) rfl (fun _ hk => hk) trivial (ofD) (Nat.le_trans (Nat.mul_le_mul_right _ (ofD : (l0.length : Int).toNat ≤ 70368744177664)) (by omega)) (Below.refl _ _) (Nat.le_refl _) ?_; intro v104 w4 ho5 hb hg_ hnew_; clear hg_ hnew_; (first | rw [← Ny103.out] at ho5 | (simp only [Int.reduceToNat] at ho5; rw [← Ny103.out] at ho5)); have HO105 := Aside0.mk (Kd.R_lower ho5 (below_size (LX HB))); replace HB := LB HB hb; clear hb ho5))
   go_loopg [11] k (fun kq v11 w' => ∃ (x3_1 : List Int) (x11_1 : Int), v11 = .int .i64 x11_1 ∧ Aside0 (fold_Fold.l0 kq x3_1 l0 (l0.length : Int) x11_1 = some r) ∧ Aside0 (kq ≤ k) ∧ Aside0 (Kd.R (Kd.int .i32) 21 w' w.heap.size (fun _ => True) v104 x3_1) ∧ Aside0 (Below w.heap.size w w'))
   case atStart => exact ⟨(y103), (0), (by first | rfl | (simp [*]; done)), H', ⟨Nat.le_refl _⟩, ⟨RX HO105⟩, ⟨LX HB⟩⟩
   case round =>
    clear H'
    obtain ⟨x3_1, x11_1, rfl, HA, HK1, HO_3, HB⟩ := hrel
    cases gk with
    | zero => exact absurd HA.out (by simp [fold_Fold.l0])
    | succ k1 =>
     have H := HA.out
     clear HA
     simp only [fold_Fold.l0] at H
     by_cases c6 : x11_1 < (l0.length : Int)
     ·
      rw [if_pos c6] at H
      have c6b0 : decide (x11_1 < (l0.length : Int)) = true := decide_eq_true c6
      clear c6
      by_cases c7 : 0 ≤ x11_1
      ·
       rw [if_pos c7] at H
       have c7b0 : decide (0 ≤ x11_1) = true := decide_eq_true c7
       clear c7
       by_cases c8 : x11_1 < (l0.length : Int)
       ·
        rw [if_pos c8] at H
        have c8b0 : decide (x11_1 < (l0.length : Int)) = true := decide_eq_true c8
        clear c8
        obtain ⟨t107, A9, H⟩ := bindQ H
        replace H : (if x11_1 < (x3_1.length : Int) then (fold_Fold.l0 k1 (x3_1.set (x11_1 : Int).toNat t107) l0 (l0.length : Int) (wrap64 (x11_1 + 1))) else (none)) = some r := H
        by_cases c10 : x11_1 < (x3_1.length : Int)
        ·
         rw [if_pos c10] at H
         have c10b0 : decide (x11_1 < (x3_1.length : Int)) = true := decide_eq_true c10
         clear c10
         obtain ⟨y108, hy108⟩ : ∃ y_ : List Int, y_ = (x3_1.set (x11_1 : Int).toNat t107) := ⟨_, rfl⟩
         replace H : (fold_Fold.l0 k1 y108 l0 (l0.length : Int) (wrap64 (x11_1 + 1))) = some r := by first | (rw [hy108]; with_reducible exact H) | (have H2_ := (Option.bind_some _ _).symm.trans H; rw [hy108]; with_reducible exact H2_) | (have H2_ := (Option.bind_some _ _).symm.trans H; with_reducible exact H2_) | with_reducible exact H | (rw [hy108]; exact H) | exact H
         have Ny108 := Aside0.mk hy108
         clear hy108
         have H' := Aside0.mk H
         clear H
         have p106 : 0 ≤ (x11_1 : Int) := ofD
         have q106 : x11_1 < (l0.length : Int) := ofD
         obtain ⟨ad106, e106, hx106_0⟩ := Kd.at_int HR0.out x11_1 p106 q106
         cases e106
         replace hx106_0 := (HB.out.cell (World.block_lt_of_cell? w _ hx106_0)).trans hx106_0
         replace p106 := eq_true p106
         replace q106 := eq_true q106
         go_wp2_with (first | ((with_reducible refine gate_callee (f := 33) rfl ?_); refine goesLQ (some 19) Tryz.func33 #[.int .i32 (rd l0 x11_1)] ?_; (with_reducible refine (fold_One.calls k1 (rd l0 x11_1) t107 _ A9.out).mono ?_); rintro e w' ⟨rfl, ⟨nd, rfl⟩⟩; refine ⟨_, rfl, ?_⟩; (try (rw [drewN_self wr]; generalize hq_ : World.drewN wr _ = wr; have n0_ : Aside0 (Kd.R (Kd.int .i32) 21 wr w.heap.size (fun _ => True) v104 x3_1) := ⟨by rw [← hq_]; exact (RX HO_3)⟩; have n1_ : Aside0 (Below w.heap.size w wr) := ⟨by rw [← hq_]; exact (LX HB)⟩; clear HO_3 HB hq_; have HO_3 := n0_; have HB := n1_; clear n0_ n1_)); have p11 : 0 ≤ (x11_1 : Int) := ofD; have q11 : (x11_1 : Int) < ((x3_1.length : Int) : Int) := ofD; obtain ⟨go11, co11, eo11, gb11, gl11, cl11, HG11⟩ := Kd.R_form HO_3.out (by omega); (first | cases eo11 | (injection eo11 with ea_ en_ ec_; (first | subst ea_ | (injection ea_ with ea_; subst ea_)); subst ec_; clear en_)); have GB11 := Aside0.mk gb11; have GG11 := Aside0.mk HG11; clear gb11 gl11 HG11; obtain ⟨hx11_0, hf11_0⟩ := Kd.R_celln 0 HO_3.out (x11_1 : Int) p11 q11; replace p11 := eq_true p11; replace q11 := eq_true q11; obtain ⟨hy12_, hz12_⟩ := Kd.R_celln 0 HO_3.out (x11_1 : Int) (ofD) (ofD); have HP12 := Kd.R_putg HO_3.out (x11_1 : Int) t107) | ((with_reducible refine gate_store (t := 21) (p := 20) rfl ?_); refine store_event (t := 21) (p := 20) (v := ?vo_w13) (w1 := (wr.setCell ⟨go11, (x11_1 : Int).toNat, none⟩ (.int .i32 t107))) ?hg ?ho ?hn ?hr ?_; (case ho => rfl); (case hg => rfl); (case hn => rfl); (case hr => first | (go_simp; done) | (go_simp; rfl)); intro w13 hw; have hg : wr.grownBy w13 (some go11) := (by rw [hw]; exact HP12.2); have hp_ : Kd.R (Kd.int .i32) 21 w13 w.heap.size (fun _ => True) (.slice (some ⟨go11, 0, none⟩) x3_1.length co11) y108 := (by rw [hw, Ny108.out]; exact HP12.1); clear HP12; replace HO_3 := Aside0.mk (hp_); replace HB := Aside0.mk ((by rw [hw]; exact below_set (HB.out) GB11.out : Below w.heap.size w w13)); clear hg hw hp_))
         go_roundg k1
         case measure => have := HK1.out; omega
         case rel => exact ⟨(y108), (wrap64 (x11_1 + 1)), (by first | rfl | (simp [*]; done)), H', ⟨by have := HK1.out; omega⟩, ⟨RX HO_3⟩, ⟨LX HB⟩⟩
        ·
         rw [if_neg c10] at H
         exact absurd H (by simp)
       ·
        rw [if_neg c8] at H
        exact absurd H (by simp)
      ·
       rw [if_neg c7] at H
       exact absurd H (by simp)
     ·
      rw [if_neg c6] at H
      have c6b0 : decide (x11_1 < (l0.length : Int)) = false := decide_eq_false c6
      clear c6
      obtain rfl := Option.some.inj H
      go_wp2
      go_ret
      exact ⟨_, by first | rfl | (simp [errW_none, errW_some] <;> rfl) | (simp [*, errW_none, errW_some] <;> rfl), by (with_reducible repeat (first | apply Kd.R_alloc | apply Kd.R_drewN | apply Kd.R_drew)); exact HO_3.out, LX HB⟩
  ·
   rw [if_neg c3] at H
   exact absurd H (by simp)
 ·
  rw [if_neg c2] at H
  exact absurd H (by simp)
def runes_Utf8.f (l0 : List Int) : Option ByteArray := if l0.length ≤ 17592186044416 then some (Go.Proofs.YtigcbajcifhinaaGreatDoor.Txt.utf8F l0) else none
theorem runes_Utf8.calls (A0 : Option Addr) (c0 : Nat) (l0 : List Int) (r : ByteArray) (w : World) (hr0 : Kd.C (Kd.int .i32) w A0 l0.length l0) (hc0 : l0.length ≤ c0) (h : runes_Utf8.f l0 = some r) :
  Calls Tryz.prog 23 #[.slice A0 l0.length c0] w fun e w' => e = .returned (.string r) ∧ Below w.heap.size w w' := by
 unfold runes_Utf8.f at h
 split at h
 ·
  rename_i hc
  cases h
  exact Go.Proofs.YtigcbajcifhinaaGreatDoor.Txt.Utf8_any A0 c0 l0 w hr0 hc
 · cases h
def mail_What.f (k : Nat) (l0 : List Int) : Option (ByteArray) := (fold_Fold.f k l0).bind fun t109 => ((runes_Utf8.f t109).bind fun t112 => (some t112))
theorem mail_What.mono : ∀ a0 k, LeO (mail_What.f k a0) (mail_What.f (k + 1) a0) := by
 intro a0 k
 unfold mail_What.f
 repeat' (with_reducible first | apply fold_Fold.mono | apply LeO.refl | exact LeO.none _ | apply LeO.ite | refine LeO.bind ?_ fun _ => ?_)
theorem mail_What.calls (k : Nat) (A0 : Option Addr) (c0 : Nat) (l0 : List Int) (r : ByteArray) (w : World) (hr0 : Kd.C (Kd.int .i32) w A0 l0.length l0) (hc0 : l0.length ≤ c0) (h : mail_What.f k l0 = some r) :
  Calls Tryz.prog 8 #[.slice A0 l0.length c0] w fun e w' => e = .returned (.string r) ∧ Below w.heap.size w w' := by
 have HR0 := Aside0.mk hr0
 have HC0 := Aside0.mk hc0
 clear hr0 hc0
 have HB := Aside0.mk (Below.refl w.heap.size w)
 have H : ((fold_Fold.f k l0).bind fun t109 => ((runes_Utf8.f t109).bind fun t112 => (some t112))) = some r := h
 clear h
 obtain ⟨t109, A2, H⟩ := bindQ H
 replace H : ((runes_Utf8.f t109).bind fun t112 => (some t112)) = some r := H
 obtain ⟨t112, A3, H⟩ := bindQ H
 replace H : (some t112) = some r := H
 obtain rfl := Option.some.inj H
 go_enter Tryz.func8, Tryz.ntmps8
 go_wp2_with (first | ((with_reducible refine gate_callee (f := 15) rfl ?_); refine goesLQ (some 4) Tryz.func15 #[.slice A0 l0.length c0] ?_; (with_reducible refine (fold_Fold.calls k _ _ l0 t109 _ ?side1 ?side2 A2.out).mono ?_); (case side1 => repeat (first | exact HR0.out | (with_reducible refine Kd.C_alloc ?_ _) | (with_reducible refine Kd.C_drewN ?_ _) | (with_reducible refine Kd.C_drew ?_))); (case side2 => exact HC0.out); rintro e w4 ⟨v110, rfl, ho0, hb⟩; refine ⟨_, rfl, ?_⟩; have HO111 := Aside0.mk (Kd.R_lower ho0 (below_size (LX HB))); replace HB := LB HB hb; obtain ⟨Ao5, co5, eo5⟩ := Kd.R_slice HO111.out; subst eo5) | ((with_reducible refine gate_callee (f := 23) rfl ?_); refine goesLQ (some 5) Tryz.func23 #[.slice Ao5 t109.length co5] ?_; (with_reducible refine (runes_Utf8.calls _ _ t109 t112 _ ?side1 ?side2 A3.out).mono ?_); (case side1 => exact CX HO111); (case side2 => exact (cyQ HO111)); rintro e w6 ⟨rfl, hb⟩; refine ⟨_, rfl, ?_⟩; replace HO111 := RB HO111 hb; replace HB := LB HB hb))
 go_ret
 exact retQ HB
def head_Parse.f (s0 : ByteArray) : Option (List S43 × Int) := if s0.size ≤ 1073741824 then some ((Go.Proofs.YtigcbajcifhinaaGreatDoor.Txt.parseF s0).1, ((s0.size - (Go.Proofs.YtigcbajcifhinaaGreatDoor.Txt.parseF s0).2.size : Nat) : Int)) else none
theorem head_Parse.calls (s0 : ByteArray) (r1 : List S43) (r2 : Int) (w : World) (hT : Tabs w) (h : head_Parse.f s0 = some (r1, r2)) :
  Calls Tryz.prog 16 #[.string s0] w fun e w' => ∃ v0_ : Value, e = .returned (.tuple #[v0_, .int .i64 r2]) ∧ Kd.R k43 43 w' w.heap.size (fun _ => True) v0_ r1 ∧ Below w.heap.size w w' := by
 unfold head_Parse.f at h
 split at h
 ·
  rename_i hc
  cases h
  exact Go.Proofs.YtigcbajcifhinaaGreatDoor.Txt.parse_any s0 w hT hc
 · cases h
def runes_Letters.f (s0 : ByteArray) : Option (List Int) := if s0.size ≤ 17592186044416 then some (Go.Proofs.YtigcbajcifhinaaGreatDoor.Fold.lettersF s0.size s0) else none
theorem runes_Letters.calls (s0 : ByteArray) (r : List Int) (w : World) (hT : Tabs w) (h : runes_Letters.f s0 = some r) :
  Calls Tryz.prog 12 #[.string s0] w fun e w' => ∃ v0_ : Value, e = .returned (v0_) ∧ Kd.R (Kd.int .i32) 21 w' w.heap.size (fun _ => True) v0_ r ∧ Below w.heap.size w w' := by
 unfold runes_Letters.f at h
 split at h
 ·
  rename_i hc
  cases h
  exact Go.Proofs.YtigcbajcifhinaaGreatDoor.Fold.Letters_any s0 w hT.1 hc
 · cases h
def mail_name.f (k : Nat) (a0 : ByteArray) : Option (ByteArray) := (runes_Letters.f a0).bind fun t113 => ((mail_What.f k t113).bind fun t116 => (some t116))
theorem mail_name.mono : ∀ a0 k, LeO (mail_name.f k a0) (mail_name.f (k + 1) a0) := by
 intro a0 k
 unfold mail_name.f
 repeat' (with_reducible first | apply mail_What.mono | apply LeO.refl | exact LeO.none _ | apply LeO.ite | refine LeO.bind ?_ fun _ => ?_)
theorem mail_name.calls (k : Nat) (a0 : ByteArray) (r : ByteArray) (w : World) (hT : Tabs w) (h : mail_name.f k a0 = some r) :
  Calls Tryz.prog 17 #[.string a0] w fun e w' => e = .returned (.string r) ∧ Below w.heap.size w w' := by
 have HTAB := Aside0.mk hT
 clear hT
 have HB := Aside0.mk (Below.refl w.heap.size w)
 have H : ((runes_Letters.f a0).bind fun t113 => ((mail_What.f k t113).bind fun t116 => (some t116))) = some r := h
 clear h
 obtain ⟨t113, A2, H⟩ := bindQ H
 replace H : ((mail_What.f k t113).bind fun t116 => (some t116)) = some r := H
 obtain ⟨t116, A3, H⟩ := bindQ H
 replace H : (some t116) = some r := H
 obtain rfl := Option.some.inj H
 go_enter Tryz.func17, Tryz.ntmps17
 go_wp2_with (first | ((with_reducible refine gate_callee (f := 12) rfl ?_); refine goesLQ (some 4) Tryz.func12 #[.string a0] ?_; (with_reducible refine (runes_Letters.calls a0 t113 _ ?side1 A2.out).mono ?_); (case side1 => first | exact TX HTAB HB | exact TD HTAB); rintro e w4 ⟨v114, rfl, ho0, hb⟩; refine ⟨_, rfl, ?_⟩; have HO115 := Aside0.mk (Kd.R_lower ho0 (below_size (LX HB))); replace HB := LB HB hb; obtain ⟨Ao5, co5, eo5⟩ := Kd.R_slice HO115.out; subst eo5) | ((with_reducible refine gate_callee (f := 8) rfl ?_); refine goesLQ (some 5) Tryz.func8 #[.slice Ao5 t113.length co5] ?_; (with_reducible refine (mail_What.calls k _ _ t113 t116 _ ?side1 ?side2 A3.out).mono ?_); (case side1 => exact CX HO115); (case side2 => exact (cyQ HO115)); rintro e w6 ⟨rfl, hb⟩; refine ⟨_, rfl, ?_⟩; replace HO115 := RB HO115 hb; replace HB := LB HB hb))
 go_ret
 exact retQ HB
def strings_Cut.f (s0 s1 : ByteArray) : Option (ByteArray × ByteArray × Bool) := if s0.size < 4294967281 then some (⟨(Lib.cut s0.data.toList s1.data.toList).1.toArray⟩, ⟨(Lib.cut s0.data.toList s1.data.toList).2.1.toArray⟩, (Lib.cut s0.data.toList s1.data.toList).2.2) else none
theorem strings_Cut.calls (s0 s1 : ByteArray) (r1 r2 : ByteArray) (r3 : Bool) (w : World) (hT : Tabs w) (h : strings_Cut.f s0 s1 = some (r1, r2, r3)) :
  Calls Tryz.prog 44 #[.string s0, .string s1] w fun e w' => e = .returned (.tuple #[.string r1, .string r2, .bool r3]) ∧ Drawn0 w w' := by
 unfold strings_Cut.f at h
 split at h
 ·
  rename_i hc
  cases h
  obtain ⟨m, hm⟩ := hT.2.1
  exact (Go.Proofs.Tryz.strings_Cut s0 s1 m w hc hm).mono fun e w' ⟨he, hw⟩ => ⟨he, ⟨hw⟩⟩
 · cases h
def strings_HasPrefix.f (s0 s1 : ByteArray) : Option Bool := some (Lib.hasPrefix s0.data.toList s1.data.toList)
theorem strings_HasPrefix.calls (s0 s1 : ByteArray) (r : Bool) (w : World) (h : strings_HasPrefix.f s0 s1 = some r) :
  Calls Tryz.prog 52 #[.string s0, .string s1] w fun e w' => e = .returned (.bool r) ∧ Drawn0 w w' := by
 cases h
 exact (Go.Proofs.Tryz.strings_HasPrefix s0 s1 w).mono fun e w' ⟨he, hw⟩ => ⟨he, by subst hw; exact Drawn0.refl _⟩
def runes_great.f (s0 : ByteArray) : Option ByteArray := if s0.size ≤ 17592186044416 then some (Go.Proofs.YtigcbajcifhinaaGreatDoor.Txt.greatF s0) else none
theorem runes_great.calls (s0 : ByteArray) (r : ByteArray) (w : World) (h : runes_great.f s0 = some r) :
  Calls Tryz.prog 90 #[.string s0] w fun e w' => e = .returned (.string r) ∧ Below w.heap.size w w' := by
 unfold runes_great.f at h
 split at h
 ·
  rename_i hc
  cases h
  exact Go.Proofs.YtigcbajcifhinaaGreatDoor.Txt.great_any s0 w hc
 · cases h
def runes_names.f (a0 : Int) : Option (ByteArray × ByteArray) := if a0 = 1 then (some ((⟨#[85, 83, 45, 65, 83, 67, 73, 73]⟩ : ByteArray), (⟨#[65, 83, 67, 73, 73]⟩ : ByteArray))) else (if a0 = 2 then (some ((⟨#[85, 84, 70, 45, 56]⟩ : ByteArray), (⟨#[85, 84, 70, 56]⟩ : ByteArray))) else (if a0 = 3 then (some ((⟨#[73, 83, 79, 45, 56, 56, 53, 57, 45, 49]⟩ : ByteArray), (⟨#[76, 65, 84, 73, 78, 49]⟩ : ByteArray))) else (if a0 = 4 then (some ((⟨#[73, 83, 79, 45, 56, 56, 53, 57, 45, 49, 53]⟩ : ByteArray), (⟨#[76, 65, 84, 73, 78, 57]⟩ : ByteArray))) else (if a0 = 5 then (some ((⟨#[87, 73, 78, 68, 79, 87, 83, 45, 49, 50, 53, 50]⟩ : ByteArray), (⟨#[67, 80, 49, 50, 53, 50]⟩ : ByteArray))) else (some ((⟨#[]⟩ : ByteArray), (⟨#[]⟩ : ByteArray)))))))
theorem runes_names.calls (a0 : Int) (r1 : ByteArray) (r2 : ByteArray) (w : World) (h : runes_names.f a0 = some (r1, r2)) :
  Calls Tryz.prog 91 #[.int .u8 a0] w fun e w' => e = .returned (.tuple #[.string r1, .string r2]) ∧ Drawn0 w w' := by
 have H : (if a0 = 1 then (some ((⟨#[85, 83, 45, 65, 83, 67, 73, 73]⟩ : ByteArray), (⟨#[65, 83, 67, 73, 73]⟩ : ByteArray))) else (if a0 = 2 then (some ((⟨#[85, 84, 70, 45, 56]⟩ : ByteArray), (⟨#[85, 84, 70, 56]⟩ : ByteArray))) else (if a0 = 3 then (some ((⟨#[73, 83, 79, 45, 56, 56, 53, 57, 45, 49]⟩ : ByteArray), (⟨#[76, 65, 84, 73, 78, 49]⟩ : ByteArray))) else (if a0 = 4 then (some ((⟨#[73, 83, 79, 45, 56, 56, 53, 57, 45, 49, 53]⟩ : ByteArray), (⟨#[76, 65, 84, 73, 78, 57]⟩ : ByteArray))) else (if a0 = 5 then (some ((⟨#[87, 73, 78, 68, 79, 87, 83, 45, 49, 50, 53, 50]⟩ : ByteArray), (⟨#[67, 80, 49, 50, 53, 50]⟩ : ByteArray))) else (some ((⟨#[]⟩ : ByteArray), (⟨#[]⟩ : ByteArray)))))))) = some (r1, r2) := h
 clear h
 by_cases c2 : a0 = 1
 ·
  rw [if_pos c2] at H
  have c2b0 : (a0 == 1) = true := beq_iff_eq.mpr c2
  have c2b1 : (a0 != 1) = false := bne_eq_false_iff_eq.mpr c2
  clear c2
  simp only [Option.some.injEq, Prod.mk.injEq] at H
  obtain ⟨rfl, rfl⟩ := H
  go_enter Tryz.func91, Tryz.ntmps91
  go_wp2
  go_ret2
  exact drwQ
 ·
  rw [if_neg c2] at H
  have c2b0 : (a0 == 1) = false := beq_eq_false_iff_ne.mpr c2
  have c2b1 : (a0 != 1) = true := bne_iff_ne.mpr c2
  by_cases c3 : a0 = 2
  ·
   rw [if_pos c3] at H
   have c3b0 : (a0 == 2) = true := beq_iff_eq.mpr c3
   have c3b1 : (a0 != 2) = false := bne_eq_false_iff_eq.mpr c3
   clear c3
   simp only [Option.some.injEq, Prod.mk.injEq] at H
   obtain ⟨rfl, rfl⟩ := H
   go_enter Tryz.func91, Tryz.ntmps91
   go_wp2
   go_ret2
   exact drwQ
  ·
   rw [if_neg c3] at H
   have c3b0 : (a0 == 2) = false := beq_eq_false_iff_ne.mpr c3
   have c3b1 : (a0 != 2) = true := bne_iff_ne.mpr c3
   by_cases c4 : a0 = 3
   ·
    rw [if_pos c4] at H
    have c4b0 : (a0 == 3) = true := beq_iff_eq.mpr c4
    have c4b1 : (a0 != 3) = false := bne_eq_false_iff_eq.mpr c4
    clear c4
    simp only [Option.some.injEq, Prod.mk.injEq] at H
    obtain ⟨rfl, rfl⟩ := H
    go_enter Tryz.func91, Tryz.ntmps91
    go_wp2
    go_ret2
    exact drwQ
   ·
    rw [if_neg c4] at H
    have c4b0 : (a0 == 3) = false := beq_eq_false_iff_ne.mpr c4
    have c4b1 : (a0 != 3) = true := bne_iff_ne.mpr c4
    by_cases c5 : a0 = 4
    ·
     rw [if_pos c5] at H
     have c5b0 : (a0 == 4) = true := beq_iff_eq.mpr c5
     have c5b1 : (a0 != 4) = false := bne_eq_false_iff_eq.mpr c5
     clear c5
     simp only [Option.some.injEq, Prod.mk.injEq] at H
     obtain ⟨rfl, rfl⟩ := H
     go_enter Tryz.func91, Tryz.ntmps91
     go_wp2
     go_ret2
     exact drwQ
    ·
     rw [if_neg c5] at H
     have c5b0 : (a0 == 4) = false := beq_eq_false_iff_ne.mpr c5
     have c5b1 : (a0 != 4) = true := bne_iff_ne.mpr c5
     by_cases c6 : a0 = 5
     ·
      rw [if_pos c6] at H
      have c6b0 : (a0 == 5) = true := beq_iff_eq.mpr c6
      have c6b1 : (a0 != 5) = false := bne_eq_false_iff_eq.mpr c6
      clear c6
      simp only [Option.some.injEq, Prod.mk.injEq] at H
      obtain ⟨rfl, rfl⟩ := H
      go_enter Tryz.func91, Tryz.ntmps91
      go_wp2
      go_ret2
      exact drwQ
     ·
      rw [if_neg c6] at H
      have c6b0 : (a0 == 5) = false := beq_eq_false_iff_ne.mpr c6
      have c6b1 : (a0 != 5) = true := bne_iff_ne.mpr c6
      simp only [Option.some.injEq, Prod.mk.injEq] at H
      obtain ⟨rfl, rfl⟩ := H
      go_enter Tryz.func91, Tryz.ntmps91
      go_wp2
      go_ret2
      exact drwQ
def runes_Named.l0 : Nat → ByteArray → Int → Option (Int × Int)
 | 0, _, _ => none
 | k + 1, x4, x5 => if x5 < 6 then ((runes_names.f x5).bind fun bt118 => (if x4.toList = bt118.1.toList then (some (x5, 0)) else (if x4.toList = bt118.2.toList then (some (x5, 0)) else (runes_Named.l0 k x4 ((x5 + 1) % 256))))) else (some (0, 14))
def runes_Named.f (k : Nat) (a0 : ByteArray) : Option (Int × Int) := (runes_great.f a0).bind fun t117 => (runes_Named.l0 k t117 1)
theorem runes_Named.mono_l : ∀ k, (∀ y0 y1, LeO (runes_Named.l0 k y0 y1) (runes_Named.l0 (k + 1) y0 y1))
 | 0 => fun _ _ r h => by simp [runes_Named.l0] at h
 | k + 1 => by
  have ih0 := runes_Named.mono_l k
  ·
   intro y0 y1
   unfold runes_Named.l0
   repeat' (with_reducible first | apply ih0 | apply LeO.refl | exact LeO.none _ | apply LeO.ite | refine LeO.bind ?_ fun _ => ?_)
theorem runes_Named.mono : ∀ a0 k, LeO (runes_Named.f k a0) (runes_Named.f (k + 1) a0) := by
 intro a0 k
 have ih0 := runes_Named.mono_l k
 unfold runes_Named.f
 repeat' (with_reducible first | apply ih0 | apply LeO.refl | exact LeO.none _ | apply LeO.ite | refine LeO.bind ?_ fun _ => ?_)
theorem runes_Named.calls (k : Nat) (a0 : ByteArray) (r1 : Int) (r2 : Int) (w : World) (h : runes_Named.f k a0 = some (r1, r2)) :
  Calls Tryz.prog 53 #[.string a0] w fun e w' => e = .returned (.tuple #[.int .u8 r1, .int .i64 r2]) ∧ Below w.heap.size w w' := by
 have HB := Aside0.mk (Below.refl w.heap.size w)
 have H : ((runes_great.f a0).bind fun t117 => (runes_Named.l0 k t117 1)) = some (r1, r2) := h
 clear h
 obtain ⟨t117, A2, H⟩ := bindQ H
 replace H : (runes_Named.l0 k t117 1) = some (r1, r2) := H
 have H' := Aside0.mk H
 clear H
 go_enter Tryz.func53, Tryz.ntmps53
 go_wp2_with (first | ((with_reducible refine gate_callee (f := 90) rfl ?_); refine goesLQ (some 9) Tryz.func90 #[.string a0] ?_; (with_reducible refine (runes_great.calls a0 t117 _ A2.out).mono ?_); rintro e w3 ⟨rfl, hb⟩; refine ⟨_, rfl, ?_⟩; replace HB := LB HB hb))
 go_loopg [5] k (fun kq v5 w' => ∃ (x5_1 : Int), v5 = .int .u8 x5_1 ∧ Aside0 (runes_Named.l0 kq t117 x5_1 = some (r1, r2)) ∧ Aside0 (kq ≤ k) ∧ Aside0 (Below w.heap.size w w'))
 case atStart => exact ⟨(1), (by first | rfl | (simp [*]; done)), H', ⟨Nat.le_refl _⟩, ⟨LX HB⟩⟩
 case round =>
  clear H'
  obtain ⟨x5_1, rfl, HA, HK1, HB⟩ := hrel
  cases gk with
  | zero => exact absurd HA.out (by simp [runes_Named.l0])
  | succ k1 =>
   have H := HA.out
   clear HA
   simp only [runes_Named.l0] at H
   by_cases c4 : x5_1 < 6
   ·
    rw [if_pos c4] at H
    have c4b0 : decide (x5_1 < 6) = true := decide_eq_true c4
    clear c4
    obtain ⟨⟨t118, t119⟩, A5, H⟩ := bindQ H
    replace H : (if t117.toList = t118.toList then (some (x5_1, 0)) else (if t117.toList = t119.toList then (some (x5_1, 0)) else (runes_Named.l0 k1 t117 ((x5_1 + 1) % 256)))) = some (r1, r2) := H
    by_cases c6 : t117.toList = t118.toList
    ·
     rw [if_pos c6] at H
     have c6b0 : (t117.toList == t118.toList) = true := beq_iff_eq.mpr c6
     have c6b1 : (t117.toList != t118.toList) = false := bne_eq_false_iff_eq.mpr c6
     clear c6
     simp only [Option.some.injEq, Prod.mk.injEq] at H
     obtain ⟨rfl, rfl⟩ := H
     go_wp2_with (first | ((with_reducible refine gate_callee (f := 91) rfl ?_); refine goesLQ (some 16) Tryz.func91 #[.int .u8 x5_1] ?_; (with_reducible refine (runes_names.calls x5_1 t118 t119 _ A5.out).mono ?_); rintro e w' ⟨rfl, ⟨nd, rfl⟩⟩; refine ⟨_, rfl, ?_⟩))
     go_ret2
     exact retQ HB
    ·
     rw [if_neg c6] at H
     have c6b0 : (t117.toList == t118.toList) = false := beq_eq_false_iff_ne.mpr c6
     have c6b1 : (t117.toList != t118.toList) = true := bne_iff_ne.mpr c6
     by_cases c7 : t117.toList = t119.toList
     ·
      rw [if_pos c7] at H
      have c7b0 : (t117.toList == t119.toList) = true := beq_iff_eq.mpr c7
      have c7b1 : (t117.toList != t119.toList) = false := bne_eq_false_iff_eq.mpr c7
      clear c7
      simp only [Option.some.injEq, Prod.mk.injEq] at H
      obtain ⟨rfl, rfl⟩ := H
      go_wp2_with (first | ((with_reducible refine gate_callee (f := 91) rfl ?_); refine goesLQ (some 16) Tryz.func91 #[.int .u8 x5_1] ?_; (with_reducible refine (runes_names.calls x5_1 t118 t119 _ A5.out).mono ?_); rintro e w' ⟨rfl, ⟨nd, rfl⟩⟩; refine ⟨_, rfl, ?_⟩))
      go_ret2
      exact retQ HB
     ·
      rw [if_neg c7] at H
      have c7b0 : (t117.toList == t119.toList) = false := beq_eq_false_iff_ne.mpr c7
      have c7b1 : (t117.toList != t119.toList) = true := bne_iff_ne.mpr c7
      have H' := Aside0.mk H
      clear H
      go_wp2_with (first | ((with_reducible refine gate_callee (f := 91) rfl ?_); refine goesLQ (some 16) Tryz.func91 #[.int .u8 x5_1] ?_; (with_reducible refine (runes_names.calls x5_1 t118 t119 _ A5.out).mono ?_); rintro e w' ⟨rfl, ⟨nd, rfl⟩⟩; refine ⟨_, rfl, ?_⟩))
      go_roundg k1
      case measure => have := HK1.out; omega
      case rel => exact ⟨((x5_1 + 1) % 256), (by first | rfl | (simp [*]; done)), H', ⟨by have := HK1.out; omega⟩, ⟨LX HB⟩⟩
   ·
    rw [if_neg c4] at H
    have c4b0 : decide (x5_1 < 6) = false := decide_eq_false c4
    clear c4
    simp only [Option.some.injEq, Prod.mk.injEq] at H
    obtain ⟨rfl, rfl⟩ := H
    go_wp2
    go_ret2
    exact retQ HB
def runes_Name.f (a0 : Int) : Option (ByteArray × Int) := (runes_names.f a0).bind fun bt120 => (if bt120.1.toList = ([] : List UInt8) then (some ((⟨#[]⟩ : ByteArray), 14)) else (some (bt120.1, 0)))
theorem runes_Name.calls (a0 : Int) (r1 : ByteArray) (r2 : Int) (w : World) (h : runes_Name.f a0 = some (r1, r2)) :
  Calls Tryz.prog 94 #[.int .u8 a0] w fun e w' => e = .returned (.tuple #[.string r1, .int .i64 r2]) ∧ Drawn0 w w' := by
 have H : ((runes_names.f a0).bind fun bt120 => (if bt120.1.toList = ([] : List UInt8) then (some ((⟨#[]⟩ : ByteArray), 14)) else (some (bt120.1, 0)))) = some (r1, r2) := h
 clear h
 obtain ⟨⟨t120, t121⟩, A2, H⟩ := bindQ H
 replace H : (if t120.toList = ([] : List UInt8) then (some ((⟨#[]⟩ : ByteArray), 14)) else (some (t120, 0))) = some (r1, r2) := H
 by_cases c3 : t120.toList = ([] : List UInt8)
 ·
  rw [if_pos c3] at H
  have c3b0 : (t120.toList == ([] : List UInt8)) = true := beq_iff_eq.mpr c3
  have c3b1 : (t120.toList != ([] : List UInt8)) = false := bne_eq_false_iff_eq.mpr c3
  clear c3
  simp only [Option.some.injEq, Prod.mk.injEq] at H
  obtain ⟨rfl, rfl⟩ := H
  go_enter Tryz.func94, Tryz.ntmps94
  go_wp2_with (first | ((with_reducible refine gate_callee (f := 91) rfl ?_); refine goesLQ (some 8) Tryz.func91 #[.int .u8 a0] ?_; (with_reducible refine (runes_names.calls a0 t120 t121 _ A2.out).mono ?_); rintro e w' ⟨rfl, ⟨nd, rfl⟩⟩; refine ⟨_, rfl, ?_⟩))
  go_ret2
  exact drwQ
 ·
  rw [if_neg c3] at H
  have c3b0 : (t120.toList == ([] : List UInt8)) = false := beq_eq_false_iff_ne.mpr c3
  have c3b1 : (t120.toList != ([] : List UInt8)) = true := bne_iff_ne.mpr c3
  simp only [Option.some.injEq, Prod.mk.injEq] at H
  obtain ⟨rfl, rfl⟩ := H
  go_enter Tryz.func94, Tryz.ntmps94
  go_wp2_with (first | ((with_reducible refine gate_callee (f := 91) rfl ?_); refine goesLQ (some 8) Tryz.func91 #[.int .u8 a0] ?_; (with_reducible refine (runes_names.calls a0 t120 t121 _ A2.out).mono ?_); rintro e w' ⟨rfl, ⟨nd, rfl⟩⟩; refine ⟨_, rfl, ?_⟩))
  go_ret2
  exact drwQ
def runes_letter.f (a0 a1 : Int) : Option (Int) := if 0 ≤ a1 ∧ a1 < 256 then some (Go.Proofs.YtigcbajcifhinaaGreatDoor.Txt.letterF a0 a1) else none
theorem runes_letter.calls (a0 a1 : Int) (r : Int) (w : World) (hT : Tabs w) (h : runes_letter.f a0 a1 = some r) :
  Calls Tryz.prog 95 #[.int .u8 a0, .int .u8 a1] w fun e w' => e = .returned (.int .i32 r) ∧ Drawn0 w w' := by
 unfold runes_letter.f at h
 split at h
 ·
  rename_i hc
  cases h
  exact (Go.Proofs.YtigcbajcifhinaaGreatDoor.Txt.letter_any a0 a1 hc.1 hc.2 w hT).mono fun e w' ⟨he, hw⟩ => ⟨he, by subst hw; exact Drawn0.refl _⟩
 · cases h
def runes_Decode.l0 : Nat → Int → ByteArray → List Int → Int → Int → Option (List Int × Int)
 | 0, _, _, _, _, _ => none
 | k + 1, x0, x1, x8, x26, x27 => if x27 < x26 then (if 0 ≤ x27 then (if x27 < (x1.size : Int) then ((runes_letter.f x0 (bt x1 x27)).bind fun t130 => (if x27 < (x8.length : Int) then (runes_Decode.l0 k x0 x1 (x8.set (x27 : Int).toNat t130) x26 (wrap64 (x27 + 1))) else (none))) else (none)) else (none)) else (some (x8, 0))
def runes_Decode.f (k : Nat) (a0 : Int) (a1 : ByteArray) : Option (List Int × Int) := (runes_Name.f a0).bind fun bt122 => (if bt122.2 = 0 then (if a0 = 2 then ((runes_Letters.f a1).bind fun t124 => (some (t124, 0))) else (if 0 ≤ (a1.size : Int) then (if ((a1.size : Int) : Int).toNat ≤ 70368744177664 then (runes_Decode.l0 k a0 a1 (List.replicate ((a1.size : Int) : Int).toNat 0) (a1.size : Int) 0) else (none)) else (none))) else (some (([] : List Int), bt122.2)))
theorem runes_Decode.mono_l : ∀ k, (∀ y0 y1 y2 y3 y4, LeO (runes_Decode.l0 k y0 y1 y2 y3 y4) (runes_Decode.l0 (k + 1) y0 y1 y2 y3 y4))
 | 0 => fun _ _ _ _ _ r h => by simp [runes_Decode.l0] at h
 | k + 1 => by
  have ih0 := runes_Decode.mono_l k
  ·
   intro y0 y1 y2 y3 y4
   unfold runes_Decode.l0
   repeat' (with_reducible first | apply ih0 | apply LeO.refl | exact LeO.none _ | apply LeO.ite | refine LeO.bind ?_ fun _ => ?_)
theorem runes_Decode.mono : ∀ a0 a1 k, LeO (runes_Decode.f k a0 a1) (runes_Decode.f (k + 1) a0 a1) := by
 intro a0 a1 k
 have ih0 := runes_Decode.mono_l k
 unfold runes_Decode.f
 repeat' (with_reducible first | apply ih0 | apply LeO.refl | exact LeO.none _ | apply LeO.ite | refine LeO.bind ?_ fun _ => ?_)
theorem runes_Decode.calls (k : Nat) (a0 : Int) (a1 : ByteArray) (r1 : List Int) (r2 : Int) (w : World) (hT : Tabs w) (h : runes_Decode.f k a0 a1 = some (r1, r2)) :
  Calls Tryz.prog 55 #[.int .u8 a0, .string a1] w fun e w' => ∃ v0_ : Value, e = .returned (.tuple #[v0_, .int .i64 r2]) ∧ Kd.R (Kd.int .i32) 21 w' w.heap.size (fun _ => True) v0_ r1 ∧ Below w.heap.size w w' := by
 have HTAB := Aside0.mk hT
 clear hT
 have HB := Aside0.mk (Below.refl w.heap.size w)
 have H : ((runes_Name.f a0).bind fun bt122 => (if bt122.2 = 0 then (if a0 = 2 then ((runes_Letters.f a1).bind fun t124 => (some (t124, 0))) else (if 0 ≤ (a1.size : Int) then (if ((a1.size : Int) : Int).toNat ≤ 70368744177664 then (runes_Decode.l0 k a0 a1 (List.replicate ((a1.size : Int) : Int).toNat 0) (a1.size : Int) 0) else (none)) else (none))) else (some (([] : List Int), bt122.2)))) = some (r1, r2) := h
 clear h
 obtain ⟨⟨t122, t123⟩, A3, H⟩ := bindQ H
 replace H : (if t123 = 0 then (if a0 = 2 then ((runes_Letters.f a1).bind fun t124 => (some (t124, 0))) else (if 0 ≤ (a1.size : Int) then (if ((a1.size : Int) : Int).toNat ≤ 70368744177664 then (runes_Decode.l0 k a0 a1 (List.replicate ((a1.size : Int) : Int).toNat 0) (a1.size : Int) 0) else (none)) else (none))) else (some (([] : List Int), t123))) = some (r1, r2) := H
 by_cases c4 : t123 = 0
 ·
  rw [if_pos c4] at H
  have c4b0 : (t123 == 0) = true := beq_iff_eq.mpr c4
  have c4b1 : (t123 != 0) = false := bne_eq_false_iff_eq.mpr c4
  clear c4
  by_cases c5 : a0 = 2
  ·
   rw [if_pos c5] at H
   have c5b0 : (a0 == 2) = true := beq_iff_eq.mpr c5
   have c5b1 : (a0 != 2) = false := bne_eq_false_iff_eq.mpr c5
   clear c5
   obtain ⟨t124, A6, H⟩ := bindQ H
   replace H : (some (t124, 0)) = some (r1, r2) := H
   simp only [Option.some.injEq, Prod.mk.injEq] at H
   obtain ⟨rfl, rfl⟩ := H
   go_enter Tryz.func55, Tryz.ntmps55
   go_wp2_with (first | ((with_reducible refine gate_callee (f := 94) rfl ?_); refine goesLQ (some 12) Tryz.func94 #[.int .u8 a0] ?_; (with_reducible refine (runes_Name.calls a0 t122 t123 _ A3.out).mono ?_); rintro e w' ⟨rfl, ⟨nd, rfl⟩⟩; refine ⟨_, rfl, ?_⟩) | ((with_reducible refine gate_callee (f := 12) rfl ?_); refine goesLQ (some 21) Tryz.func12 #[.string a1] ?_; (with_reducible refine (runes_Letters.calls a1 t124 _ ?side1 A6.out).mono ?_); (case side1 => first | exact TX HTAB HB | exact TD HTAB); rintro e w7 ⟨v125, rfl, ho0, hb⟩; refine ⟨_, rfl, ?_⟩; have HO126 := Aside0.mk (Kd.R_lower ho0 (below_size (LX HB))); replace HB := LB HB hb))
   go_ret2
   exact ⟨_, by first | rfl | (simp [errW_none, errW_some] <;> rfl) | (simp [*, errW_none, errW_some] <;> rfl), by (with_reducible repeat (first | apply Kd.R_alloc | apply Kd.R_drewN | apply Kd.R_drew)); exact HO126.out, LX HB⟩
  ·
   rw [if_neg c5] at H
   have c5b0 : (a0 == 2) = false := beq_eq_false_iff_ne.mpr c5
   have c5b1 : (a0 != 2) = true := bne_iff_ne.mpr c5
   by_cases c8 : 0 ≤ (a1.size : Int)
   ·
    rw [if_pos c8] at H
    have c8b0 := eq_true c8
    have c8b1 : decide (0 ≤ (a1.size : Int)) = true := decide_eq_true c8
    clear c8
    by_cases c9 : ((a1.size : Int) : Int).toNat ≤ 70368744177664
    ·
     rw [if_pos c9] at H
     have c9b0 := eq_true c9
     have c9b1 : decide (((a1.size : Int) : Int).toNat ≤ 70368744177664) = true := decide_eq_true c9
     clear c9
     obtain ⟨y127, hy127⟩ : ∃ y_ : List Int, y_ = (List.replicate ((a1.size : Int) : Int).toNat 0) := ⟨_, rfl⟩
     replace H : (runes_Decode.l0 k a0 a1 y127 (a1.size : Int) 0) = some (r1, r2) := by first | (rw [hy127]; with_reducible exact H) | (have H2_ := (Option.bind_some _ _).symm.trans H; rw [hy127]; with_reducible exact H2_) | (have H2_ := (Option.bind_some _ _).symm.trans H; with_reducible exact H2_) | with_reducible exact H | (rw [hy127]; exact H) | exact H
     have Ny127 := Aside0.mk hy127
     clear hy127
     have H' := Aside0.mk H
     clear H
     go_enter Tryz.func55, Tryz.ntmps55
     go_wp2_with (first | ((with_reducible refine gate_callee (f := 94) rfl ?_); refine goesLQ (some 12) Tryz.func94 #[.int .u8 a0] ?_; (with_reducible refine (runes_Name.calls a0 t122 t123 _ A3.out).mono ?_); rintro e w' ⟨rfl, ⟨nd, rfl⟩⟩; refine ⟨_, rfl, ?_⟩) | ((with_reducible refine gate_dst (N := 24) rfl ?_); refine Kd.R_make (Kd.int .i32) _ 21 rfl (N := 24) rfl 22 _ _ rfl (a1.size : Int) rfl rfl Tryz.underlying22 (.int .i32 0) 4 info21 rfl (by decide) (by omega) 0 (ok := fun _ => True) (okp := fun _ => True) rfl (fun _ hk => hk) trivial (ofD) (Nat.le_trans (Nat.mul_le_mul_right _ (ofD : (a1.size : Int).toNat ≤ 70368744177664)) (by omega)) (Below.refl _ _) (Nat.le_refl _) ?_; intro v128 w10 ho11 hb hg_ hnew_; clear hg_ hnew_; (first | rw [← Ny127.out] at ho11 | (simp only [Int.reduceToNat] at ho11; rw [← Ny127.out] at ho11)); have HO129 := Aside0.mk (Kd.R_lower ho11 (below_size (LX HB))); replace HB := LB HB hb; clear hb ho11))
     go_loopg [27] k (fun kq v27 w' => ∃ (x8_1 : List Int) (x27_1 : Int), v27 = .int .i64 x27_1 ∧ Aside0 (runes_Decode.l0 kq a0 a1 x8_1 (a1.size : Int) x27_1 = some (r1, r2)) ∧ Aside0 (kq ≤ k) ∧ Aside0 (Kd.R (Kd.int .i32) 21 w' w.heap.size (fun _ => True) v128 x8_1) ∧ Aside0 (Below w.heap.size w w'))
     case atStart => exact ⟨(y127), (0), (by first | rfl | (simp [*]; done)), H', ⟨Nat.le_refl _⟩, ⟨RX HO129⟩, ⟨LX HB⟩⟩
     case round =>
      clear H'
      obtain ⟨x8_1, x27_1, rfl, HA, HK1, HO_8, HB⟩ := hrel
      cases gk with
      | zero => exact absurd HA.out (by simp [runes_Decode.l0])
      | succ k1 =>
       have H := HA.out
       clear HA
       simp only [runes_Decode.l0] at H
       by_cases c12 : x27_1 < (a1.size : Int)
       ·
        rw [if_pos c12] at H
        have c12b0 : decide (x27_1 < (a1.size : Int)) = true := decide_eq_true c12
        clear c12
        by_cases c13 : 0 ≤ x27_1
        ·
         rw [if_pos c13] at H
         have c13b0 : decide (0 ≤ x27_1) = true := decide_eq_true c13
         clear c13
         by_cases c14 : x27_1 < (a1.size : Int)
         ·
          rw [if_pos c14] at H
          have c14b0 : decide (x27_1 < (a1.size : Int)) = true := decide_eq_true c14
          clear c14
          obtain ⟨t130, A16, H⟩ := bindQ H
          replace H : (if x27_1 < (x8_1.length : Int) then (runes_Decode.l0 k1 a0 a1 (x8_1.set (x27_1 : Int).toNat t130) (a1.size : Int) (wrap64 (x27_1 + 1))) else (none)) = some (r1, r2) := H
          by_cases c17 : x27_1 < (x8_1.length : Int)
          ·
           rw [if_pos c17] at H
           have c17b0 : decide (x27_1 < (x8_1.length : Int)) = true := decide_eq_true c17
           clear c17
           obtain ⟨y131, hy131⟩ : ∃ y_ : List Int, y_ = (x8_1.set (x27_1 : Int).toNat t130) := ⟨_, rfl⟩
           replace H : (runes_Decode.l0 k1 a0 a1 y131 (a1.size : Int) (wrap64 (x27_1 + 1))) = some (r1, r2) := by first | (rw [hy131]; with_reducible exact H) | (have H2_ := (Option.bind_some _ _).symm.trans H; rw [hy131]; with_reducible exact H2_) | (have H2_ := (Option.bind_some _ _).symm.trans H; with_reducible exact H2_) | with_reducible exact H | (rw [hy131]; exact H) | exact H
           have Ny131 := Aside0.mk hy131
           clear hy131
           have H' := Aside0.mk H
           clear H
           have p15 : 0 ≤ (x27_1 : Int) := ofD
           have q15 : x27_1 < (a1.size : Int) := ofD
           have hx15 := bt_at a1 x27_1
           replace p15 := eq_true p15
           replace q15 := eq_true q15
           go_wp2_with (first | ((with_reducible refine gate_callee (f := 95) rfl ?_); refine goesLQ (some 36) Tryz.func95 #[.int .u8 a0, .int .u8 (bt a1 x27_1)] ?_; (with_reducible refine (runes_letter.calls a0 (bt a1 x27_1) t130 _ ?side1 A16.out).mono ?_); (case side1 => first | exact TX HTAB HB | exact TD HTAB); rintro e w' ⟨rfl, ⟨nd, rfl⟩⟩; refine ⟨_, rfl, ?_⟩; (try (rw [drewN_self wr]; generalize hq_ : World.drewN wr _ = wr; have n0_ : Aside0 (Kd.R (Kd.int .i32) 21 wr w.heap.size (fun _ => True) v128 x8_1) := ⟨by rw [← hq_]; exact (RX HO_8)⟩; have n1_ : Aside0 (Below w.heap.size w wr) := ⟨by rw [← hq_]; exact (LX HB)⟩; clear HO_8 HB hq_; have HO_8 := n0_; have HB := n1_; clear n0_ n1_)); have p18 : 0 ≤ (x27_1 : Int) := ofD; have q18 : (x27_1 : Int) < ((x8_1.length : Int) : Int) := ofD; obtain ⟨go18, co18, eo18, gb18, gl18, cl18, HG18⟩ := Kd.R_form HO_8.out (by omega); (first | cases eo18 | (injection eo18 with ea_ en_ ec_; (first | subst ea_ | (injection ea_ with ea_; subst ea_)); subst ec_; clear en_)); have GB18 := Aside0.mk gb18; have GG18 := Aside0.mk HG18; clear gb18 gl18 HG18; obtain ⟨hx18_0, hf18_0⟩ := Kd.R_celln 0 HO_8.out (x27_1 : Int) p18 q18; replace p18 := eq_true p18; replace q18 := eq_true q18; obtain ⟨hy19_, hz19_⟩ := Kd.R_celln 0 HO_8.out (x27_1 : Int) (ofD) (ofD); have HP19 := Kd.R_putg HO_8.out (x27_1 : Int) t130) | ((with_reducible refine gate_store (t := 21) (p := 37) rfl ?_); refine store_event (t := 21) (p := 37) (v := ?vo_w20) (w1 := (wr.setCell ⟨go18, (x27_1 : Int).toNat, none⟩ (.int .i32 t130))) ?hg ?ho ?hn ?hr ?_; (case ho => rfl); (case hg => rfl); (case hn => rfl); (case hr => first | (go_simp; done) | (go_simp; rfl)); intro w20 hw; have hg : wr.grownBy w20 (some go18) := (by rw [hw]; exact HP19.2); have hp_ : Kd.R (Kd.int .i32) 21 w20 w.heap.size (fun _ => True) (.slice (some ⟨go18, 0, none⟩) x8_1.length co18) y131 := (by rw [hw, Ny131.out]; exact HP19.1); clear HP19; replace HO_8 := Aside0.mk (hp_); replace HB := Aside0.mk ((by rw [hw]; exact below_set (HB.out) GB18.out : Below w.heap.size w w20)); clear hg hw hp_))
           go_roundg k1
           case measure => have := HK1.out; omega
           case rel => exact ⟨(y131), (wrap64 (x27_1 + 1)), (by first | rfl | (simp [*]; done)), H', ⟨by have := HK1.out; omega⟩, ⟨RX HO_8⟩, ⟨LX HB⟩⟩
          ·
           rw [if_neg c17] at H
           exact absurd H (by simp)
         ·
          rw [if_neg c14] at H
          exact absurd H (by simp)
        ·
         rw [if_neg c13] at H
         exact absurd H (by simp)
       ·
        rw [if_neg c12] at H
        have c12b0 : decide (x27_1 < (a1.size : Int)) = false := decide_eq_false c12
        clear c12
        simp only [Option.some.injEq, Prod.mk.injEq] at H
        obtain ⟨rfl, rfl⟩ := H
        go_wp2
        go_ret2
        exact ⟨_, by first | rfl | (simp [errW_none, errW_some] <;> rfl) | (simp [*, errW_none, errW_some] <;> rfl), by (with_reducible repeat (first | apply Kd.R_alloc | apply Kd.R_drewN | apply Kd.R_drew)); exact HO_8.out, LX HB⟩
    ·
     rw [if_neg c9] at H
     exact absurd H (by simp)
   ·
    rw [if_neg c8] at H
    exact absurd H (by simp)
 ·
  rw [if_neg c4] at H
  have c4b0 : (t123 == 0) = false := beq_eq_false_iff_ne.mpr c4
  have c4b1 : (t123 != 0) = true := bne_iff_ne.mpr c4
  simp only [Option.some.injEq, Prod.mk.injEq] at H
  obtain ⟨rfl, rfl⟩ := H
  go_enter Tryz.func55, Tryz.ntmps55
  go_wp2_with (first | ((with_reducible refine gate_callee (f := 94) rfl ?_); refine goesLQ (some 12) Tryz.func94 #[.int .u8 a0] ?_; (with_reducible refine (runes_Name.calls a0 t122 t123 _ A3.out).mono ?_); rintro e w' ⟨rfl, ⟨nd, rfl⟩⟩; refine ⟨_, rfl, ?_⟩))
  go_ret2
  exact ⟨_, by first | rfl | (simp [errW_none, errW_some] <;> rfl) | (simp [*, errW_none, errW_some] <;> rfl), by first | exact Kd.R_nil _ _ _ _ _ | exact Kd.N_nil _ _ _ _ _ | exact Kd.V_nil _ _ _ _ _ | exact Kd.Q_nil _ _ _ _ _ | exact Kd.S_nil _ _ _ _ _, LX HB⟩
def strings_CutPrefix.f (s0 s1 : ByteArray) : Option (ByteArray × Bool) := some (⟨(Lib.trimPrefix s0.data.toList s1.data.toList).toArray⟩, Lib.hasPrefix s0.data.toList s1.data.toList)
theorem strings_CutPrefix.calls (s0 s1 : ByteArray) (r1 : ByteArray) (r2 : Bool) (w : World) (h : strings_CutPrefix.f s0 s1 = some (r1, r2)) :
  Calls Tryz.prog 109 #[.string s0, .string s1] w fun e w' => e = .returned (.tuple #[.string r1, .bool r2]) ∧ Drawn0 w w' := by
 cases h
 exact (Go.Proofs.Tryz.strings_CutPrefix s0 s1 w).mono fun e w' ⟨he, hw⟩ => ⟨he, by subst hw; exact Drawn0.refl _⟩
def strings_SplitN.f (s0 s1 : ByteArray) (a2 : Int) : Option (List ByteArray) := if s0.size < 4294967281 ∧ 1 ≤ s1.size ∧ 1 ≤ a2 ∧ a2 ≤ 4096 then some (Lib.splitB s1 0 (min a2.toNat (s0.size + 1) - 1) s0) else none
theorem strings_SplitN.calls (s0 s1 : ByteArray) (a2 : Int) (r : List ByteArray) (w : World) (hT : Tabs w) (h : strings_SplitN.f s0 s1 a2 = some r) :
  Calls Tryz.prog 110 #[.string s0, .string s1, .int .i64 a2] w fun e w' => ∃ v0_ : Value, e = .returned (v0_) ∧ Kd.R Kd.string 9 w' w.heap.size (fun _ => True) v0_ r ∧ Below w.heap.size w w' := by
 unfold strings_SplitN.f at h
 split at h
 ·
  rename_i hc
  cases h
  obtain ⟨m, hm⟩ := hT.2.1
  exact Go.Proofs.YtigcbajcifhinaaGreatDoor.Txt.splitN_calls s0 s1 a2 m w hc.1 hm hc.2.1 hc.2.2.1 hc.2.2.2
 · cases h
def word_printable.l0 : Nat → ByteArray → Int → Int → Option (Bool)
 | 0, _, _, _ => none
 | k + 1, x0, x5, x6 => if x6 < x5 then (if 0 ≤ x6 then (if x6 < (x0.size : Int) then (if (bt x0 x6) ≤ 32 then (some false) else (if (bt x0 x6) > 126 then (some false) else (word_printable.l0 k x0 x5 (wrap64 (x6 + 1))))) else (none)) else (none)) else (some true)
def word_printable.f (k : Nat) (a0 : ByteArray) : Option (Bool) := word_printable.l0 k a0 (a0.size : Int) 0
theorem word_printable.mono_l : ∀ k, (∀ y0 y1 y2, LeO (word_printable.l0 k y0 y1 y2) (word_printable.l0 (k + 1) y0 y1 y2))
 | 0 => fun _ _ _ r h => by simp [word_printable.l0] at h
 | k + 1 => by
  have ih0 := word_printable.mono_l k
  ·
   intro y0 y1 y2
   unfold word_printable.l0
   repeat' (with_reducible first | apply ih0 | apply LeO.refl | exact LeO.none _ | apply LeO.ite | refine LeO.bind ?_ fun _ => ?_)
theorem word_printable.mono : ∀ a0 k, LeO (word_printable.f k a0) (word_printable.f (k + 1) a0) := by
 intro a0 k
 have ih0 := word_printable.mono_l k
 unfold word_printable.f
 repeat' (with_reducible first | apply ih0 | apply LeO.refl | exact LeO.none _ | apply LeO.ite | refine LeO.bind ?_ fun _ => ?_)
theorem word_printable.calls (k : Nat) (a0 : ByteArray) (r : Bool) (w : World) (h : word_printable.f k a0 = some r) :
  Calls Tryz.prog 111 #[.string a0] w fun e w' => e = .returned (.bool r) ∧ Drawn0 w w' := by
 have H : (word_printable.l0 k a0 (a0.size : Int) 0) = some r := h
 clear h
 have H' := Aside0.mk H
 clear H
 go_enter Tryz.func111, Tryz.ntmps111
 go_wp2
 go_loopg [6] k (fun kq v6 w' => ∃ (x6_1 : Int), v6 = .int .i64 x6_1 ∧ Aside0 (word_printable.l0 kq a0 (a0.size : Int) x6_1 = some r) ∧ Aside0 (kq ≤ k) ∧ Drawn0 w w')
 case atStart => exact ⟨(0), (by first | rfl | (simp [*]; done)), H', ⟨Nat.le_refl _⟩, by repeat (first | exact Drawn0.refl _ | apply Drawn0.step)⟩
 case round =>
  clear H'
  obtain ⟨x6_1, rfl, HA, HK1, ⟨m1, rfl⟩⟩ := hrel
  cases gk with
  | zero => exact absurd HA.out (by simp [word_printable.l0])
  | succ k1 =>
   have H := HA.out
   clear HA
   simp only [word_printable.l0] at H
   by_cases c2 : x6_1 < (a0.size : Int)
   ·
    rw [if_pos c2] at H
    have c2b0 : decide (x6_1 < (a0.size : Int)) = true := decide_eq_true c2
    clear c2
    by_cases c3 : 0 ≤ x6_1
    ·
     rw [if_pos c3] at H
     have c3b0 : decide (0 ≤ x6_1) = true := decide_eq_true c3
     clear c3
     by_cases c4 : x6_1 < (a0.size : Int)
     ·
      rw [if_pos c4] at H
      have c4b0 : decide (x6_1 < (a0.size : Int)) = true := decide_eq_true c4
      clear c4
      by_cases c6 : (bt a0 x6_1) ≤ 32
      ·
       rw [if_pos c6] at H
       have c6b0 : decide ((bt a0 x6_1) ≤ 32) = true := decide_eq_true c6
       clear c6
       obtain rfl := Option.some.inj H
       have p5 : 0 ≤ (x6_1 : Int) := ofD
       have q5 : x6_1 < (a0.size : Int) := ofD
       have hx5 := bt_at a0 x6_1
       replace p5 := eq_true p5
       replace q5 := eq_true q5
       go_wp2
       go_ret
       exact drwQ
      ·
       rw [if_neg c6] at H
       have c6b0 : decide ((bt a0 x6_1) ≤ 32) = false := decide_eq_false c6
       clear c6
       by_cases c8 : (bt a0 x6_1) > 126
       ·
        rw [if_pos c8] at H
        have c8b0 : decide (126 < (bt a0 x6_1)) = true := decide_eq_true c8
        clear c8
        obtain rfl := Option.some.inj H
        have p5 : 0 ≤ (x6_1 : Int) := ofD
        have q5 : x6_1 < (a0.size : Int) := ofD
        have hx5 := bt_at a0 x6_1
        replace p5 := eq_true p5
        replace q5 := eq_true q5
        have p7 : 0 ≤ (x6_1 : Int) := ofD
        have q7 : x6_1 < (a0.size : Int) := ofD
        have hx7 := bt_at a0 x6_1
        replace p7 := eq_true p7
        replace q7 := eq_true q7
        go_wp2
        go_ret
        exact drwQ
       ·
        rw [if_neg c8] at H
        have c8b0 : decide (126 < (bt a0 x6_1)) = false := decide_eq_false c8
        clear c8
        have H' := Aside0.mk H
        clear H
        have p5 : 0 ≤ (x6_1 : Int) := ofD
        have q5 : x6_1 < (a0.size : Int) := ofD
        have hx5 := bt_at a0 x6_1
        replace p5 := eq_true p5
        replace q5 := eq_true q5
        have p7 : 0 ≤ (x6_1 : Int) := ofD
        have q7 : x6_1 < (a0.size : Int) := ofD
        have hx7 := bt_at a0 x6_1
        replace p7 := eq_true p7
        replace q7 := eq_true q7
        go_wp2
        go_roundg k1
        case measure => have := HK1.out; omega
        case rel => exact ⟨(wrap64 (x6_1 + 1)), (by first | rfl | (simp [*]; done)), H', ⟨by have := HK1.out; omega⟩, by repeat (first | exact Drawn0.refl _ | apply Drawn0.step)⟩
     ·
      rw [if_neg c4] at H
      exact absurd H (by simp)
    ·
     rw [if_neg c3] at H
     exact absurd H (by simp)
   ·
    rw [if_neg c2] at H
    have c2b0 : decide (x6_1 < (a0.size : Int)) = false := decide_eq_false c2
    clear c2
    obtain rfl := Option.some.inj H
    go_wp2
    go_ret
    exact drwQ
def head_small.f (a0 : Int) : Option (Int) := if a0 ≥ 65 then (if a0 ≤ 90 then (some ((a0 + 32) % 256)) else (some a0)) else (some a0)
theorem head_small.calls (a0 : Int) (r : Int) (w : World) (h : head_small.f a0 = some r) :
  Calls Tryz.prog 81 #[.int .u8 a0] w fun e w' => e = .returned (.int .u8 r) ∧ Drawn0 w w' := by
 have H : (if a0 ≥ 65 then (if a0 ≤ 90 then (some ((a0 + 32) % 256)) else (some a0)) else (some a0)) = some r := h
 clear h
 by_cases c2 : a0 ≥ 65
 ·
  rw [if_pos c2] at H
  have c2b0 : decide (65 ≤ a0) = true := decide_eq_true c2
  clear c2
  by_cases c3 : a0 ≤ 90
  ·
   rw [if_pos c3] at H
   have c3b0 : decide (a0 ≤ 90) = true := decide_eq_true c3
   clear c3
   obtain rfl := Option.some.inj H
   go_enter Tryz.func81, Tryz.ntmps81
   go_wp2
   go_ret
   exact drwQ
  ·
   rw [if_neg c3] at H
   have c3b0 : decide (a0 ≤ 90) = false := decide_eq_false c3
   clear c3
   obtain rfl := Option.some.inj H
   go_enter Tryz.func81, Tryz.ntmps81
   go_wp2
   go_ret
   exact drwQ
 ·
  rw [if_neg c2] at H
  have c2b0 : decide (65 ≤ a0) = false := decide_eq_false c2
  clear c2
  obtain rfl := Option.some.inj H
  go_enter Tryz.func81, Tryz.ntmps81
  go_wp2
  go_ret
  exact drwQ
def head_Like.l0 : Nat → ByteArray → ByteArray → Int → Int → Option (Bool)
 | 0, _, _, _, _ => none
 | k + 1, x0, x1, x12, x13 => if x13 < x12 then (if 0 ≤ x13 then (if x13 < (x0.size : Int) then ((head_small.f (bt x0 x13)).bind fun t132 => (if x13 < (x1.size : Int) then ((head_small.f (bt x1 x13)).bind fun t133 => (if t132 = t133 then (head_Like.l0 k x0 x1 x12 (wrap64 (x13 + 1))) else (some false))) else (none))) else (none)) else (none)) else (some true)
def head_Like.f (k : Nat) (a0 : ByteArray) (a1 : ByteArray) : Option (Bool) := if (a0.size : Int) = (a1.size : Int) then (head_Like.l0 k a0 a1 (a0.size : Int) 0) else (some false)
theorem head_Like.mono_l : ∀ k, (∀ y0 y1 y2 y3, LeO (head_Like.l0 k y0 y1 y2 y3) (head_Like.l0 (k + 1) y0 y1 y2 y3))
 | 0 => fun _ _ _ _ r h => by simp [head_Like.l0] at h
 | k + 1 => by
  have ih0 := head_Like.mono_l k
  ·
   intro y0 y1 y2 y3
   unfold head_Like.l0
   repeat' (with_reducible first | apply ih0 | apply LeO.refl | exact LeO.none _ | apply LeO.ite | refine LeO.bind ?_ fun _ => ?_)
theorem head_Like.mono : ∀ a0 a1 k, LeO (head_Like.f k a0 a1) (head_Like.f (k + 1) a0 a1) := by
 intro a0 a1 k
 have ih0 := head_Like.mono_l k
 unfold head_Like.f
 repeat' (with_reducible first | apply ih0 | apply LeO.refl | exact LeO.none _ | apply LeO.ite | refine LeO.bind ?_ fun _ => ?_)
theorem head_Like.calls (k : Nat) (a0 : ByteArray) (a1 : ByteArray) (r : Bool) (w : World) (h : head_Like.f k a0 a1 = some r) :
  Calls Tryz.prog 43 #[.string a0, .string a1] w fun e w' => e = .returned (.bool r) ∧ Drawn0 w w' := by
 have H : (if (a0.size : Int) = (a1.size : Int) then (head_Like.l0 k a0 a1 (a0.size : Int) 0) else (some false)) = some r := h
 clear h
 by_cases c3 : (a0.size : Int) = (a1.size : Int)
 ·
  rw [if_pos c3] at H
  have c3b0 : ((a0.size : Int) == (a1.size : Int)) = true := beq_iff_eq.mpr c3
  have c3b1 : ((a0.size : Int) != (a1.size : Int)) = false := bne_eq_false_iff_eq.mpr c3
  have c3b2 : (a0.size == a1.size) = true := by first | simpa using c3 | (simp at c3 ⊢; omega)
  clear c3
  have H' := Aside0.mk H
  clear H
  go_enter Tryz.func43, Tryz.ntmps43
  go_wp2
  repeat (go_quiet (fail); try go_wp2)
  go_loopg [13] k (fun kq v13 w' => ∃ (x13_1 : Int), v13 = .int .i64 x13_1 ∧ Aside0 (head_Like.l0 kq a0 a1 (a0.size : Int) x13_1 = some r) ∧ Aside0 (kq ≤ k) ∧ Drawn0 w w')
  case atStart => exact ⟨(0), (by first | rfl | (simp [*]; done)), H', ⟨Nat.le_refl _⟩, by repeat (first | exact Drawn0.refl _ | apply Drawn0.step)⟩
  case round =>
   clear H'
   obtain ⟨x13_1, rfl, HA, HK1, ⟨m1, rfl⟩⟩ := hrel
   cases gk with
   | zero => exact absurd HA.out (by simp [head_Like.l0])
   | succ k1 =>
    have H := HA.out
    clear HA
    simp only [head_Like.l0] at H
    by_cases c4 : x13_1 < (a0.size : Int)
    ·
     rw [if_pos c4] at H
     have c4b0 : decide (x13_1 < (a0.size : Int)) = true := decide_eq_true c4
     clear c4
     by_cases c5 : 0 ≤ x13_1
     ·
      rw [if_pos c5] at H
      have c5b0 : decide (0 ≤ x13_1) = true := decide_eq_true c5
      clear c5
      by_cases c6 : x13_1 < (a0.size : Int)
      ·
       rw [if_pos c6] at H
       have c6b0 : decide (x13_1 < (a0.size : Int)) = true := decide_eq_true c6
       clear c6
       obtain ⟨t132, A8, H⟩ := bindQ H
       replace H : (if x13_1 < (a1.size : Int) then ((head_small.f (bt a1 x13_1)).bind fun t133 => (if t132 = t133 then (head_Like.l0 k1 a0 a1 (a0.size : Int) (wrap64 (x13_1 + 1))) else (some false))) else (none)) = some r := H
       by_cases c9 : x13_1 < (a1.size : Int)
       ·
        rw [if_pos c9] at H
        have c9b0 : decide (x13_1 < (a1.size : Int)) = true := decide_eq_true c9
        clear c9
        obtain ⟨t133, A11, H⟩ := bindQ H
        replace H : (if t132 = t133 then (head_Like.l0 k1 a0 a1 (a0.size : Int) (wrap64 (x13_1 + 1))) else (some false)) = some r := H
        by_cases c12 : t132 = t133
        ·
         rw [if_pos c12] at H
         have c12b0 : (t132 == t133) = true := beq_iff_eq.mpr c12
         have c12b1 : (t132 != t133) = false := bne_eq_false_iff_eq.mpr c12
         clear c12
         have H' := Aside0.mk H
         clear H
         have p7 : 0 ≤ (x13_1 : Int) := ofD
         have q7 : x13_1 < (a0.size : Int) := ofD
         have hx7 := bt_at a0 x13_1
         replace p7 := eq_true p7
         replace q7 := eq_true q7
         go_wp2_with (first | (go_at_call 81; (with_reducible refine (head_small.calls (bt a0 x13_1) t132 _ A8.out).mono ?_); rintro e w' ⟨rfl, ⟨nd, rfl⟩⟩; (try first | exact ⟨rfl, _, World.drewN_drewN _ _ _⟩ | exact ⟨rfl, _, Eq.trans (World.drewN_drewN _ _ _) (congrArg (World.drewN _) (Nat.add_assoc _ _ _))⟩); have p10 : 0 ≤ (x13_1 : Int) := ofD; have q10 : x13_1 < (a1.size : Int) := ofD; have hx10 := bt_at a1 x13_1; replace p10 := eq_true p10; replace q10 := eq_true q10) | (go_at_call 81; (with_reducible refine (head_small.calls (bt a1 x13_1) t133 _ A11.out).mono ?_); rintro e w' ⟨rfl, ⟨nd, rfl⟩⟩; (try first | exact ⟨rfl, _, World.drewN_drewN _ _ _⟩ | exact ⟨rfl, _, Eq.trans (World.drewN_drewN _ _ _) (congrArg (World.drewN _) (Nat.add_assoc _ _ _))⟩)))
         repeat (go_quiet (first | (go_at_call 81; (with_reducible refine (head_small.calls (bt a0 x13_1) t132 _ A8.out).mono ?_); rintro e w' ⟨rfl, ⟨nd, rfl⟩⟩; (try first | exact ⟨rfl, _, World.drewN_drewN _ _ _⟩ | exact ⟨rfl, _, Eq.trans (World.drewN_drewN _ _ _) (congrArg (World.drewN _) (Nat.add_assoc _ _ _))⟩); have p10 : 0 ≤ (x13_1 : Int) := ofD; have q10 : x13_1 < (a1.size : Int) := ofD; have hx10 := bt_at a1 x13_1; replace p10 := eq_true p10; replace q10 := eq_true q10) | (go_at_call 81; (with_reducible refine (head_small.calls (bt a1 x13_1) t133 _ A11.out).mono ?_); rintro e w' ⟨rfl, ⟨nd, rfl⟩⟩; (try first | exact ⟨rfl, _, World.drewN_drewN _ _ _⟩ | exact ⟨rfl, _, Eq.trans (World.drewN_drewN _ _ _) (congrArg (World.drewN _) (Nat.add_assoc _ _ _))⟩))); try go_wp2_with (first | (go_at_call 81; (with_reducible refine (head_small.calls (bt a0 x13_1) t132 _ A8.out).mono ?_); rintro e w' ⟨rfl, ⟨nd, rfl⟩⟩; (try first | exact ⟨rfl, _, World.drewN_drewN _ _ _⟩ | exact ⟨rfl, _, Eq.trans (World.drewN_drewN _ _ _) (congrArg (World.drewN _) (Nat.add_assoc _ _ _))⟩); have p10 : 0 ≤ (x13_1 : Int) := ofD; have q10 : x13_1 < (a1.size : Int) := ofD; have hx10 := bt_at a1 x13_1; replace p10 := eq_true p10; replace q10 := eq_true q10) | (go_at_call 81; (with_reducible refine (head_small.calls (bt a1 x13_1) t133 _ A11.out).mono ?_); rintro e w' ⟨rfl, ⟨nd, rfl⟩⟩; (try first | exact ⟨rfl, _, World.drewN_drewN _ _ _⟩ | exact ⟨rfl, _, Eq.trans (World.drewN_drewN _ _ _) (congrArg (World.drewN _) (Nat.add_assoc _ _ _))⟩))))
         go_roundg k1
         case measure => have := HK1.out; omega
         case rel => exact ⟨(wrap64 (x13_1 + 1)), (by first | rfl | (simp [*]; done)), H', ⟨by have := HK1.out; omega⟩, by repeat (first | exact Drawn0.refl _ | apply Drawn0.step)⟩
        ·
         rw [if_neg c12] at H
         have c12b0 : (t132 == t133) = false := beq_eq_false_iff_ne.mpr c12
         have c12b1 : (t132 != t133) = true := bne_iff_ne.mpr c12
         obtain rfl := Option.some.inj H
         have p7 : 0 ≤ (x13_1 : Int) := ofD
         have q7 : x13_1 < (a0.size : Int) := ofD
         have hx7 := bt_at a0 x13_1
         replace p7 := eq_true p7
         replace q7 := eq_true q7
         go_wp2_with (first | (go_at_call 81; (with_reducible refine (head_small.calls (bt a0 x13_1) t132 _ A8.out).mono ?_); rintro e w' ⟨rfl, ⟨nd, rfl⟩⟩; (try first | exact ⟨rfl, _, World.drewN_drewN _ _ _⟩ | exact ⟨rfl, _, Eq.trans (World.drewN_drewN _ _ _) (congrArg (World.drewN _) (Nat.add_assoc _ _ _))⟩); have p10 : 0 ≤ (x13_1 : Int) := ofD; have q10 : x13_1 < (a1.size : Int) := ofD; have hx10 := bt_at a1 x13_1; replace p10 := eq_true p10; replace q10 := eq_true q10) | (go_at_call 81; (with_reducible refine (head_small.calls (bt a1 x13_1) t133 _ A11.out).mono ?_); rintro e w' ⟨rfl, ⟨nd, rfl⟩⟩; (try first | exact ⟨rfl, _, World.drewN_drewN _ _ _⟩ | exact ⟨rfl, _, Eq.trans (World.drewN_drewN _ _ _) (congrArg (World.drewN _) (Nat.add_assoc _ _ _))⟩)))
         repeat (go_quiet (first | (go_at_call 81; (with_reducible refine (head_small.calls (bt a0 x13_1) t132 _ A8.out).mono ?_); rintro e w' ⟨rfl, ⟨nd, rfl⟩⟩; (try first | exact ⟨rfl, _, World.drewN_drewN _ _ _⟩ | exact ⟨rfl, _, Eq.trans (World.drewN_drewN _ _ _) (congrArg (World.drewN _) (Nat.add_assoc _ _ _))⟩); have p10 : 0 ≤ (x13_1 : Int) := ofD; have q10 : x13_1 < (a1.size : Int) := ofD; have hx10 := bt_at a1 x13_1; replace p10 := eq_true p10; replace q10 := eq_true q10) | (go_at_call 81; (with_reducible refine (head_small.calls (bt a1 x13_1) t133 _ A11.out).mono ?_); rintro e w' ⟨rfl, ⟨nd, rfl⟩⟩; (try first | exact ⟨rfl, _, World.drewN_drewN _ _ _⟩ | exact ⟨rfl, _, Eq.trans (World.drewN_drewN _ _ _) (congrArg (World.drewN _) (Nat.add_assoc _ _ _))⟩))); try go_wp2_with (first | (go_at_call 81; (with_reducible refine (head_small.calls (bt a0 x13_1) t132 _ A8.out).mono ?_); rintro e w' ⟨rfl, ⟨nd, rfl⟩⟩; (try first | exact ⟨rfl, _, World.drewN_drewN _ _ _⟩ | exact ⟨rfl, _, Eq.trans (World.drewN_drewN _ _ _) (congrArg (World.drewN _) (Nat.add_assoc _ _ _))⟩); have p10 : 0 ≤ (x13_1 : Int) := ofD; have q10 : x13_1 < (a1.size : Int) := ofD; have hx10 := bt_at a1 x13_1; replace p10 := eq_true p10; replace q10 := eq_true q10) | (go_at_call 81; (with_reducible refine (head_small.calls (bt a1 x13_1) t133 _ A11.out).mono ?_); rintro e w' ⟨rfl, ⟨nd, rfl⟩⟩; (try first | exact ⟨rfl, _, World.drewN_drewN _ _ _⟩ | exact ⟨rfl, _, Eq.trans (World.drewN_drewN _ _ _) (congrArg (World.drewN _) (Nat.add_assoc _ _ _))⟩))))
         go_ret
         exact drwQ
       ·
        rw [if_neg c9] at H
        exact absurd H (by simp)
      ·
       rw [if_neg c6] at H
       exact absurd H (by simp)
     ·
      rw [if_neg c5] at H
      exact absurd H (by simp)
    ·
     rw [if_neg c4] at H
     have c4b0 : decide (x13_1 < (a0.size : Int)) = false := decide_eq_false c4
     clear c4
     obtain rfl := Option.some.inj H
     go_wp2
     repeat (go_quiet (fail); try go_wp2)
     go_ret
     exact drwQ
 ·
  rw [if_neg c3] at H
  have c3b0 : ((a0.size : Int) == (a1.size : Int)) = false := beq_eq_false_iff_ne.mpr c3
  have c3b1 : ((a0.size : Int) != (a1.size : Int)) = true := bne_iff_ne.mpr c3
  have c3b2 : (a0.size == a1.size) = false := by first | simpa using c3 | (simp at c3 ⊢; omega)
  obtain rfl := Option.some.inj H
  go_enter Tryz.func43, Tryz.ntmps43
  go_wp2
  repeat (go_quiet (fail); try go_wp2)
  go_ret
  exact drwQ
def enc_FromBase64.f (s0 : ByteArray) : Option (ByteArray × Int) := if s0.size ≤ 17592186044416 then some (Go.Proofs.YtigcbajcifhinaaGreatDoor.Txt.fromBase64F s0) else none
theorem enc_FromBase64.calls (s0 : ByteArray) (r1 : ByteArray) (r2 : Int) (w : World) (h : enc_FromBase64.f s0 = some (r1, r2)) :
  Calls Tryz.prog 92 #[.string s0] w fun e w' => e = .returned (.tuple #[.string r1, .int .i64 r2]) ∧ Below w.heap.size w w' := by
 unfold enc_FromBase64.f at h
 split at h
 ·
  rename_i hc
  injection h with h
  have hx := Go.Proofs.YtigcbajcifhinaaGreatDoor.Txt.fromBase64_any s0 w hc
  rw [h] at hx
  exact hx
 · cases h
def enc_Base64.f (s0 : ByteArray) : Option (ByteArray) := if s0.size ≤ 17592186044416 then some (Go.Proofs.YtigcbajcifhinaaGreatDoor.Txt.base64F s0) else none
theorem enc_Base64.calls (s0 : ByteArray) (r : ByteArray) (w : World) (h : enc_Base64.f s0 = some r) :
  Calls Tryz.prog 171 #[.string s0] w fun e w' => e = .returned (.string r) ∧ Below w.heap.size w w' := by
 unfold enc_Base64.f at h
 split at h
 ·
  rename_i hc
  cases h
  exact Go.Proofs.YtigcbajcifhinaaGreatDoor.Txt.base64_any s0 w hc
 · cases h
def enc_Strict.f (a0 : ByteArray) : Option (ByteArray × Int) := (enc_FromBase64.f a0).bind fun bt134 => ((enc_Base64.f bt134.1).bind fun t136 => (if t136.toList = a0.toList then (some (bt134.1, 0)) else (some ((⟨#[]⟩ : ByteArray), 7))))
theorem enc_Strict.calls (a0 : ByteArray) (r1 : ByteArray) (r2 : Int) (w : World) (h : enc_Strict.f a0 = some (r1, r2)) :
  Calls Tryz.prog 149 #[.string a0] w fun e w' => e = .returned (.tuple #[.string r1, .int .i64 r2]) ∧ Below w.heap.size w w' := by
 have HB := Aside0.mk (Below.refl w.heap.size w)
 have H : ((enc_FromBase64.f a0).bind fun bt134 => ((enc_Base64.f bt134.1).bind fun t136 => (if t136.toList = a0.toList then (some (bt134.1, 0)) else (some ((⟨#[]⟩ : ByteArray), 7))))) = some (r1, r2) := h
 clear h
 obtain ⟨⟨t134, t135⟩, A2, H⟩ := bindQ H
 replace H : ((enc_Base64.f t134).bind fun t136 => (if t136.toList = a0.toList then (some (t134, 0)) else (some ((⟨#[]⟩ : ByteArray), 7)))) = some (r1, r2) := H
 obtain ⟨t136, A3, H⟩ := bindQ H
 replace H : (if t136.toList = a0.toList then (some (t134, 0)) else (some ((⟨#[]⟩ : ByteArray), 7))) = some (r1, r2) := H
 by_cases c4 : t136.toList = a0.toList
 ·
  rw [if_pos c4] at H
  have c4b0 : (t136.toList == a0.toList) = true := beq_iff_eq.mpr c4
  have c4b1 : (t136.toList != a0.toList) = false := bne_eq_false_iff_eq.mpr c4
  clear c4
  simp only [Option.some.injEq, Prod.mk.injEq] at H
  obtain ⟨rfl, rfl⟩ := H
  go_enter Tryz.func149, Tryz.ntmps149
  go_wp2_with (first | ((with_reducible refine gate_callee (f := 92) rfl ?_); refine goesLQ (some 8) Tryz.func92 #[.string a0] ?_; (with_reducible refine (enc_FromBase64.calls a0 t134 t135 _ A2.out).mono ?_); rintro e w5 ⟨rfl, hb⟩; refine ⟨_, rfl, ?_⟩; replace HB := LB HB hb) | ((with_reducible refine gate_callee (f := 171) rfl ?_); refine goesLQ (some 12) Tryz.func171 #[.string t134] ?_; (with_reducible refine (enc_Base64.calls t134 t136 _ A3.out).mono ?_); rintro e w6 ⟨rfl, hb⟩; refine ⟨_, rfl, ?_⟩; replace HB := LB HB hb))
  go_ret2
  exact retQ HB
 ·
  rw [if_neg c4] at H
  have c4b0 : (t136.toList == a0.toList) = false := beq_eq_false_iff_ne.mpr c4
  have c4b1 : (t136.toList != a0.toList) = true := bne_iff_ne.mpr c4
  simp only [Option.some.injEq, Prod.mk.injEq] at H
  obtain ⟨rfl, rfl⟩ := H
  go_enter Tryz.func149, Tryz.ntmps149
  go_wp2_with (first | ((with_reducible refine gate_callee (f := 92) rfl ?_); refine goesLQ (some 8) Tryz.func92 #[.string a0] ?_; (with_reducible refine (enc_FromBase64.calls a0 t134 t135 _ A2.out).mono ?_); rintro e w7 ⟨rfl, hb⟩; refine ⟨_, rfl, ?_⟩; replace HB := LB HB hb) | ((with_reducible refine gate_callee (f := 171) rfl ?_); refine goesLQ (some 12) Tryz.func171 #[.string t134] ?_; (with_reducible refine (enc_Base64.calls t134 t136 _ A3.out).mono ?_); rintro e w8 ⟨rfl, hb⟩; refine ⟨_, rfl, ?_⟩; replace HB := LB HB hb))
  go_ret2
  exact retQ HB
def word_plain.f (s0 : ByteArray) : Option (ByteArray × Bool) := if s0.size ≤ 17592186044416 then some (Go.Proofs.YtigcbajcifhinaaGreatDoor.Txt.plainF s0) else none
theorem word_plain.calls (s0 : ByteArray) (r1 : ByteArray) (r2 : Bool) (w : World) (h : word_plain.f s0 = some (r1, r2)) :
  Calls Tryz.prog 150 #[.string s0] w fun e w' => e = .returned (.tuple #[.string r1, .bool r2]) ∧ Below w.heap.size w w' := by
 unfold word_plain.f at h
 split at h
 ·
  rename_i hc
  injection h with h
  have hx := Go.Proofs.YtigcbajcifhinaaGreatDoor.Txt.plain_any s0 w hc
  rw [h] at hx
  exact hx
 · cases h
def word_bytes.f (k : Nat) (a0 : ByteArray) (a1 : ByteArray) : Option (ByteArray × Bool) := (head_Like.f k a0 (⟨#[98]⟩ : ByteArray)).bind fun t137 => (if t137 = true then ((enc_Strict.f a1).bind fun bt138 => (some (bt138.1, (bt138.2 == 0)))) else ((head_Like.f k a0 (⟨#[113]⟩ : ByteArray)).bind fun t140 => (if t140 = true then ((word_plain.f a1).bind fun bt141 => (some (bt141.1, bt141.2))) else (some ((⟨#[]⟩ : ByteArray), false)))))
theorem word_bytes.mono : ∀ a0 a1 k, LeO (word_bytes.f k a0 a1) (word_bytes.f (k + 1) a0 a1) := by
 intro a0 a1 k
 unfold word_bytes.f
 repeat' (with_reducible first | apply head_Like.mono | apply LeO.refl | exact LeO.none _ | apply LeO.ite | refine LeO.bind ?_ fun _ => ?_)
theorem word_bytes.calls (k : Nat) (a0 : ByteArray) (a1 : ByteArray) (r1 : ByteArray) (r2 : Bool) (w : World) (h : word_bytes.f k a0 a1 = some (r1, r2)) :
  Calls Tryz.prog 112 #[.string a0, .string a1] w fun e w' => e = .returned (.tuple #[.string r1, .bool r2]) ∧ Below w.heap.size w w' := by
 have HB := Aside0.mk (Below.refl w.heap.size w)
 have H : ((head_Like.f k a0 (⟨#[98]⟩ : ByteArray)).bind fun t137 => (if t137 = true then ((enc_Strict.f a1).bind fun bt138 => (some (bt138.1, (bt138.2 == 0)))) else ((head_Like.f k a0 (⟨#[113]⟩ : ByteArray)).bind fun t140 => (if t140 = true then ((word_plain.f a1).bind fun bt141 => (some (bt141.1, bt141.2))) else (some ((⟨#[]⟩ : ByteArray), false)))))) = some (r1, r2) := h
 clear h
 obtain ⟨t137, A3, H⟩ := bindQ H
 replace H : (if t137 = true then ((enc_Strict.f a1).bind fun bt138 => (some (bt138.1, (bt138.2 == 0)))) else ((head_Like.f k a0 (⟨#[113]⟩ : ByteArray)).bind fun t140 => (if t140 = true then ((word_plain.f a1).bind fun bt141 => (some (bt141.1, bt141.2))) else (some ((⟨#[]⟩ : ByteArray), false))))) = some (r1, r2) := H
 by_cases c4 : t137 = true
 ·
  subst c4
  have H1 : ((enc_Strict.f a1).bind fun bt138 => (some (bt138.1, (bt138.2 == 0)))) = some (r1, r2) := by rw [if_pos rfl] at H; exact H
  clear H
  have H := H1
  clear H1
  obtain ⟨⟨t138, t139⟩, A5, H⟩ := bindQ H
  replace H : (some (t138, (t139 == 0))) = some (r1, r2) := H
  simp only [Option.some.injEq, Prod.mk.injEq] at H
  obtain ⟨rfl, rfl⟩ := H
  go_enter Tryz.func112, Tryz.ntmps112
  go_wp2_with (first | ((with_reducible refine gate_callee (f := 43) rfl ?_); refine goesLQ (some 10) Tryz.func43 #[.string a0, .string (⟨#[98]⟩ : ByteArray)] ?_; (with_reducible refine (head_Like.calls k a0 (⟨#[98]⟩ : ByteArray) true _ A3.out).mono ?_); rintro e w' ⟨rfl, ⟨nd, rfl⟩⟩; refine ⟨_, rfl, ?_⟩) | ((with_reducible refine gate_callee (f := 149) rfl ?_); refine goesLQ (some 13) Tryz.func149 #[.string a1] ?_; (with_reducible refine (enc_Strict.calls a1 t138 t139 _ A5.out).mono ?_); rintro e w6 ⟨rfl, hb⟩; refine ⟨_, rfl, ?_⟩; replace HB := LB HB hb))
  go_ret2
  exact retQ HB
 ·
  replace c4 := Bool.eq_false_iff.mpr c4
  subst c4
  have H1 : ((head_Like.f k a0 (⟨#[113]⟩ : ByteArray)).bind fun t140 => (if t140 = true then ((word_plain.f a1).bind fun bt141 => (some (bt141.1, bt141.2))) else (some ((⟨#[]⟩ : ByteArray), false)))) = some (r1, r2) := by rw [if_neg (show ¬ (false = true) by decide)] at H; exact H
  clear H
  have H := H1
  clear H1
  obtain ⟨t140, A7, H⟩ := bindQ H
  replace H : (if t140 = true then ((word_plain.f a1).bind fun bt141 => (some (bt141.1, bt141.2))) else (some ((⟨#[]⟩ : ByteArray), false))) = some (r1, r2) := H
  by_cases c8 : t140 = true
  ·
   subst c8
   have H1 : ((word_plain.f a1).bind fun bt141 => (some (bt141.1, bt141.2))) = some (r1, r2) := by rw [if_pos rfl] at H; exact H
   clear H
   have H := H1
   clear H1
   obtain ⟨⟨t141, t142⟩, A9, H⟩ := bindQ H
   replace H : (some (t141, t142)) = some (r1, r2) := H
   simp only [Option.some.injEq, Prod.mk.injEq] at H
   obtain ⟨rfl, rfl⟩ := H
   go_enter Tryz.func112, Tryz.ntmps112
   go_wp2_with (first | ((with_reducible refine gate_callee (f := 43) rfl ?_); refine goesLQ (some 10) Tryz.func43 #[.string a0, .string (⟨#[98]⟩ : ByteArray)] ?_; (with_reducible refine (head_Like.calls k a0 (⟨#[98]⟩ : ByteArray) false _ A3.out).mono ?_); rintro e w' ⟨rfl, ⟨nd, rfl⟩⟩; refine ⟨_, rfl, ?_⟩) | ((with_reducible refine gate_callee (f := 43) rfl ?_); refine goesLQ (some 21) Tryz.func43 #[.string a0, .string (⟨#[113]⟩ : ByteArray)] ?_; (with_reducible refine (head_Like.calls k a0 (⟨#[113]⟩ : ByteArray) true _ A7.out).mono ?_); rintro e w' ⟨rfl, ⟨nd, rfl⟩⟩; refine ⟨_, rfl, ?_⟩) | ((with_reducible refine gate_callee (f := 150) rfl ?_); refine goesLQ (some 23) Tryz.func150 #[.string a1] ?_; (with_reducible refine (word_plain.calls a1 t141 t142 _ A9.out).mono ?_); rintro e w10 ⟨rfl, hb⟩; refine ⟨_, rfl, ?_⟩; replace HB := LB HB hb))
   go_ret2
   exact retQ HB
  ·
   replace c8 := Bool.eq_false_iff.mpr c8
   subst c8
   have H1 : (some ((⟨#[]⟩ : ByteArray), false)) = some (r1, r2) := by rw [if_neg (show ¬ (false = true) by decide)] at H; exact H
   clear H
   have H := H1
   clear H1
   simp only [Option.some.injEq, Prod.mk.injEq] at H
   obtain ⟨rfl, rfl⟩ := H
   go_enter Tryz.func112, Tryz.ntmps112
   go_wp2_with (first | ((with_reducible refine gate_callee (f := 43) rfl ?_); refine goesLQ (some 10) Tryz.func43 #[.string a0, .string (⟨#[98]⟩ : ByteArray)] ?_; (with_reducible refine (head_Like.calls k a0 (⟨#[98]⟩ : ByteArray) false _ A3.out).mono ?_); rintro e w' ⟨rfl, ⟨nd, rfl⟩⟩; refine ⟨_, rfl, ?_⟩) | ((with_reducible refine gate_callee (f := 43) rfl ?_); refine goesLQ (some 21) Tryz.func43 #[.string a0, .string (⟨#[113]⟩ : ByteArray)] ?_; (with_reducible refine (head_Like.calls k a0 (⟨#[113]⟩ : ByteArray) false _ A7.out).mono ?_); rintro e w' ⟨rfl, ⟨nd, rfl⟩⟩; refine ⟨_, rfl, ?_⟩))
   go_ret2
   exact retQ HB
def word_One.j0 : Nat → List ByteArray → Bool → Option (List Int × ByteArray × Int)
 | 0, _, _ => none
 | k + 1, x7, x52 => if x52 = true then (some (([] : List Int), (⟨#[]⟩ : ByteArray), 7)) else (if 0 < (x7.length : Int) then ((strings_Cut.f (rdOf ByteArray.empty x7 0) (⟨#[42]⟩ : ByteArray)).bind fun bt155 => ((runes_Named.f k bt155.1).bind fun bt158 => (if 1 < (x7.length : Int) then (if 2 < (x7.length : Int) then ((word_bytes.f k (rdOf ByteArray.empty x7 1) (rdOf ByteArray.empty x7 2)).bind fun bt162 => (if bt158.2 = 0 then (if bt162.2 = true then ((runes_Decode.f k bt158.1 bt162.1).bind fun bt164 => (if 3 < (x7.length : Int) then (if 1 ≤ ((rdOf ByteArray.empty x7 3).size : Int) then (some (bt164.1, (rdOf ByteArray.empty x7 3).extract 1 (rdOf ByteArray.empty x7 3).size, 0)) else (none)) else (none))) else (some (([] : List Int), (⟨#[]⟩ : ByteArray), 7))) else (some (([] : List Int), (⟨#[]⟩ : ByteArray), 7)))) else (none)) else (none)))) else (none))
def word_One.f (k : Nat) (a0 : ByteArray) : Option (List Int × ByteArray × Int) := (strings_CutPrefix.f a0 (⟨#[61, 63]⟩ : ByteArray)).bind fun bt143 => ((strings_SplitN.f bt143.1 (⟨#[63]⟩ : ByteArray) 4).bind fun t145 => (if bt143.2 = true then (if (t145.length : Int) < 4 then (word_One.j0 k t145 true) else (if 3 < (t145.length : Int) then ((strings_HasPrefix.f (rdOf ByteArray.empty t145 3) (⟨#[61]⟩ : ByteArray)).bind fun t149 => (if t149 = true then (if 0 < (t145.length : Int) then (if 1 < (t145.length : Int) then (if (rdOf ByteArray.empty t145 0).size + (rdOf ByteArray.empty t145 1).size ≤ 9223372036854775807 then (if 2 < (t145.length : Int) then (if ((rdOf ByteArray.empty t145 0) ++ (rdOf ByteArray.empty t145 1)).size + (rdOf ByteArray.empty t145 2).size ≤ 9223372036854775807 then ((word_printable.f k (((rdOf ByteArray.empty t145 0) ++ (rdOf ByteArray.empty t145 1)) ++ (rdOf ByteArray.empty t145 2))).bind fun t153 => (word_One.j0 k t145 (!t153))) else (none)) else (none)) else (none)) else (none)) else (none)) else (word_One.j0 k t145 true))) else (none))) else (word_One.j0 k t145 true)))
theorem word_One.mono_l : ∀ k, (∀ y0 y1, LeO (word_One.j0 k y0 y1) (word_One.j0 (k + 1) y0 y1))
 | 0 => fun _ _ r h => by simp [word_One.j0] at h
 | k + 1 => by
  have ih0 := word_One.mono_l k
  ·
   intro y0 y1
   unfold word_One.j0
   repeat' (with_reducible first | apply ih0 | apply runes_Decode.mono | apply runes_Named.mono | apply word_bytes.mono | apply word_printable.mono | apply LeO.refl | exact LeO.none _ | apply LeO.ite | refine LeO.bind ?_ fun _ => ?_)
theorem word_One.mono : ∀ a0 k, LeO (word_One.f k a0) (word_One.f (k + 1) a0) := by
 intro a0 k
 have ih0 := word_One.mono_l k
 unfold word_One.f
 repeat' (with_reducible first | apply ih0 | apply runes_Decode.mono | apply runes_Named.mono | apply word_bytes.mono | apply word_printable.mono | apply LeO.refl | exact LeO.none _ | apply LeO.ite | refine LeO.bind ?_ fun _ => ?_)
def word_One.T3 : Bool × List (List Nat × List Nat) := (true, [([], []), ([0], [0]), ([1], [1]), ([2], [2]), ([3, 2], [2, 3]), ([4, 2], [2, 4]), ([2, 5], [2, 5]), ([6, 2], [6]), ([7], [7]), ([8, 7], [7, 8]), ([9, 7], [7, 9]), ([10, 7, 7], [7, 10]), ([11, 7], [7, 11]), ([7, 12], [7, 12]), ([13, 11], [13]), ([14], [14]), ([15, 14], [14, 15]), ([16, 14], [14, 16]), ([14], [14]), ([18, 14], [14, 18]), ([19, 14], [14, 19]), ([17, 20, 14], [14, 17, 20]), ([14], [14]), ([22, 14], [14, 22]), ([23, 14], [14, 23]), ([21, 24, 14], [14, 21, 24]), ([25, 14, 14], [14, 25]), ([26, 14], [14, 26]), ([14, 27], [14, 27])])
def word_One.B3 : List Nat := [0, 1, 3, 7, 15, 31, 63, 127, 255, 511, 1023, 2047, 4095, 8191, 16383, 32767, 65535, 131071, 32767, 294911, 819199, 2097151, 32767, 4227071, 12615679, 33554431, 67108863, 134217727, 268435455]
theorem word_One.tab3 : rtab .any (opsOf Tryz.f80 3) = word_One.T3 := by kernel_rfl
theorem word_One.bits3 : waitsOk word_One.T3.2 word_One.B3 = true := by kernel_rfl
def word_One.T7 : Bool × List (List Nat × List Nat) := (true, [([], []), ([0], [0]), ([1], [1]), ([], []), ([3], [3]), ([4], [4]), ([2, 5], [2, 5]), ([6], [6]), ([7], [7]), ([7], [7]), ([8, 6, 0, 1, 2, 3, 4, 5, 6, 7, 8], [8]), ([9, 10, 0, 1, 2, 3, 4, 5, 6, 7, 8, 9, 10], [9])])
def word_One.B7 : List Nat := [0, 1, 3, 0, 8, 24, 63, 127, 255, 255, 511, 2047]
theorem word_One.tab7 : rtab .any (opsOf Tryz.f80 7) = word_One.T7 := by kernel_rfl
theorem word_One.bits7 : waitsOk word_One.T7.2 word_One.B7 = true := by kernel_rfl
def word_One.T11 : Bool × List (List Nat × List Nat) := (true, [([], []), ([], []), ([1], [1]), ([2], [2]), ([3], [3]), ([0, 0], [0]), ([4, 5, 0, 1, 2, 3, 4, 5], [4]), ([6, 0, 1, 2, 3, 4, 5, 6], [])])
def word_One.B11 : List Nat := [0, 0, 2, 6, 14, 1, 63, 127]
theorem word_One.tab11 : rtab .any (opsOf Tryz.f80 11) = word_One.T11 := by kernel_rfl
theorem word_One.bits11 : waitsOk word_One.T11.2 word_One.B11 = true := by kernel_rfl
theorem word_One.calls (k : Nat) (a0 : ByteArray) (r1 : List Int) (r2 : ByteArray) (r3 : Int) (w : World) (hT : Tabs w) (h : word_One.f k a0 = some (r1, r2, r3)) :
  Calls Tryz.prog 80 #[.string a0] w fun e w' => ∃ v0_ : Value, e = .returned (.tuple #[v0_, .string r2, .int .i64 r3]) ∧ Kd.R (Kd.int .i32) 21 w' w.heap.size (fun _ => True) v0_ r1 ∧ Below w.heap.size w w' := by
 have HTAB := Aside0.mk hT
 clear hT
 have HB := Aside0.mk (Below.refl w.heap.size w)
 have H : ((strings_CutPrefix.f a0 (⟨#[61, 63]⟩ : ByteArray)).bind fun bt143 => ((strings_SplitN.f bt143.1 (⟨#[63]⟩ : ByteArray) 4).bind fun t145 => (if bt143.2 = true then (if (t145.length : Int) < 4 then (word_One.j0 k t145 true) else (if 3 < (t145.length : Int) then ((strings_HasPrefix.f (rdOf ByteArray.empty t145 3) (⟨#[61]⟩ : ByteArray)).bind fun t149 => (if t149 = true then (if 0 < (t145.length : Int) then (if 1 < (t145.length : Int) then (if (rdOf ByteArray.empty t145 0).size + (rdOf ByteArray.empty t145 1).size ≤ 9223372036854775807 then (if 2 < (t145.length : Int) then (if ((rdOf ByteArray.empty t145 0) ++ (rdOf ByteArray.empty t145 1)).size + (rdOf ByteArray.empty t145 2).size ≤ 9223372036854775807 then ((word_printable.f k (((rdOf ByteArray.empty t145 0) ++ (rdOf ByteArray.empty t145 1)) ++ (rdOf ByteArray.empty t145 2))).bind fun t153 => (word_One.j0 k t145 (!t153))) else (none)) else (none)) else (none)) else (none)) else (none)) else (word_One.j0 k t145 true))) else (none))) else (word_One.j0 k t145 true)))) = some (r1, r2, r3) := h
 clear h
 obtain ⟨⟨t143, t144⟩, A2, H⟩ := bindQ H
 replace H : ((strings_SplitN.f t143 (⟨#[63]⟩ : ByteArray) 4).bind fun t145 => (if t144 = true then (if (t145.length : Int) < 4 then (word_One.j0 k t145 true) else (if 3 < (t145.length : Int) then ((strings_HasPrefix.f (rdOf ByteArray.empty t145 3) (⟨#[61]⟩ : ByteArray)).bind fun t149 => (if t149 = true then (if 0 < (t145.length : Int) then (if 1 < (t145.length : Int) then (if (rdOf ByteArray.empty t145 0).size + (rdOf ByteArray.empty t145 1).size ≤ 9223372036854775807 then (if 2 < (t145.length : Int) then (if ((rdOf ByteArray.empty t145 0) ++ (rdOf ByteArray.empty t145 1)).size + (rdOf ByteArray.empty t145 2).size ≤ 9223372036854775807 then ((word_printable.f k (((rdOf ByteArray.empty t145 0) ++ (rdOf ByteArray.empty t145 1)) ++ (rdOf ByteArray.empty t145 2))).bind fun t153 => (word_One.j0 k t145 (!t153))) else (none)) else (none)) else (none)) else (none)) else (none)) else (word_One.j0 k t145 true))) else (none))) else (word_One.j0 k t145 true))) = some (r1, r2, r3) := H
 obtain ⟨t145, A3, H⟩ := bindQ H
 replace H : (if t144 = true then (if (t145.length : Int) < 4 then (word_One.j0 k t145 true) else (if 3 < (t145.length : Int) then ((strings_HasPrefix.f (rdOf ByteArray.empty t145 3) (⟨#[61]⟩ : ByteArray)).bind fun t149 => (if t149 = true then (if 0 < (t145.length : Int) then (if 1 < (t145.length : Int) then (if (rdOf ByteArray.empty t145 0).size + (rdOf ByteArray.empty t145 1).size ≤ 9223372036854775807 then (if 2 < (t145.length : Int) then (if ((rdOf ByteArray.empty t145 0) ++ (rdOf ByteArray.empty t145 1)).size + (rdOf ByteArray.empty t145 2).size ≤ 9223372036854775807 then ((word_printable.f k (((rdOf ByteArray.empty t145 0) ++ (rdOf ByteArray.empty t145 1)) ++ (rdOf ByteArray.empty t145 2))).bind fun t153 => (word_One.j0 k t145 (!t153))) else (none)) else (none)) else (none)) else (none)) else (none)) else (word_One.j0 k t145 true))) else (none))) else (word_One.j0 k t145 true)) = some (r1, r2, r3) := H
 have HC4 := Aside0.mk H
 clear H
 go_enter Tryz.func80, Tryz.ntmps80
 go_upto_region 3 with (first | ((with_reducible refine gate_callee (f := 109) rfl ?_); refine goesLQ (some 19) Tryz.func109 #[.string a0, .string (⟨#[61, 63]⟩ : ByteArray)] ?_; (with_reducible refine (strings_CutPrefix.calls a0 (⟨#[61, 63]⟩ : ByteArray) t143 t144 _ A2.out).mono ?_); rintro e w' ⟨rfl, ⟨nd, rfl⟩⟩; refine ⟨_, rfl, ?_⟩) | ((with_reducible refine gate_callee (f := 110) rfl ?_); refine goesLQ (some 23) Tryz.func110 #[.string t143, .string (⟨#[63]⟩ : ByteArray), .int .i64 4] ?_; (with_reducible refine (strings_SplitN.calls t143 (⟨#[63]⟩ : ByteArray) 4 t145 _ ?side1 A3.out).mono ?_); (case side1 => first | exact TX HTAB HB | exact TD HTAB); rintro e w5 ⟨v146, rfl, ho0, hb⟩; refine ⟨_, rfl, ?_⟩; have HO147 := Aside0.mk (Kd.R_lower ho0 (below_size (LX HB))); replace HB := LB HB hb))
 (try simp only [Act.put, List.setIfInBounds_toArray, List.set_cons_zero, List.set_cons_succ])
 go_cut [52] (fun v52 wc => ∃ (kq : Nat) (x52_3 : Bool), v52 = .bool x52_3 ∧ Aside0 (word_One.j0 kq t145 x52_3 = some (r1, r2, r3)) ∧ Aside0 (kq ≤ k) ∧ Aside0 (Kd.R Kd.string 9 wc w.heap.size (fun _ => True) v146 t145) ∧ Aside0 (Below w.heap.size w wc))
 case first =>
  have H := HC4.out
  clear HC4
  by_cases c6 : t144 = true
  ·
   subst c6
   have H1 : (if (t145.length : Int) < 4 then (word_One.j0 k t145 true) else (if 3 < (t145.length : Int) then ((strings_HasPrefix.f (rdOf ByteArray.empty t145 3) (⟨#[61]⟩ : ByteArray)).bind fun t149 => (if t149 = true then (if 0 < (t145.length : Int) then (if 1 < (t145.length : Int) then (if (rdOf ByteArray.empty t145 0).size + (rdOf ByteArray.empty t145 1).size ≤ 9223372036854775807 then (if 2 < (t145.length : Int) then (if ((rdOf ByteArray.empty t145 0) ++ (rdOf ByteArray.empty t145 1)).size + (rdOf ByteArray.empty t145 2).size ≤ 9223372036854775807 then ((word_printable.f k (((rdOf ByteArray.empty t145 0) ++ (rdOf ByteArray.empty t145 1)) ++ (rdOf ByteArray.empty t145 2))).bind fun t153 => (word_One.j0 k t145 (!t153))) else (none)) else (none)) else (none)) else (none)) else (none)) else (word_One.j0 k t145 true))) else (none))) = some (r1, r2, r3) := by rw [if_pos rfl] at H; exact H
   clear H
   have H := H1
   clear H1
   by_cases c7 : (t145.length : Int) < 4
   ·
    rw [if_pos c7] at H
    have c7b0 : decide ((t145.length : Int) < 4) = true := decide_eq_true c7
    have c7b1 : decide (t145.length < 4) = true := decide_eq_true (by omega)
    clear c7
    (first | rw [c7b0] | (simp only [i64_w, i32_w]; rw [c7b0]) | skip)
    have H' := Aside0.mk H
    clear H
    try go_wp2
    replace HO147 := Aside0.mk (Kd.R_drew HO147.out)
    replace HB := Aside0.mk (below_drew1 HB.out)
    obtain ⟨Ao9, co9, eo9⟩ := Kd.R_slice HO147.out
    (first | subst eo9 | (injection eo9 with f1_ f2_ f3_; have f4_ := f1_.symm; have f5_ := f3_.symm; clear f1_ f2_ f3_; subst f4_; subst f5_))
    refine start_ (n := 29) (S := fun w' => True) (ds := []) #[false, false, false, false, false, false, false, false, false, false, false, false, false, false, false, false, false, false, false, false, false, false, false, false, false, false, false, false, false] (by kernel_rfl) rfl rfl trivial (fun hHeld => ?_); refine with_tabW word_One.tab3 word_One.bits3 (fun HT_ HW_ => ?_)
    generalize w5.drew = w8 at HO147 HB hHeld ⊢
    refine pureQ 0 (some 24) HT_ ?_
    refine pureQ 1 (some 25) HT_ ?_
    refine pureQ 2 (some 26) HT_ ?_
    refine pureQ 3 (some 27) HT_ ?_
    refine pureQ 4 (some 28) HT_ ?_
    refine pureQ 5 (some 29) HT_ ?_
    refine pureQ 6 (some 30) HT_ ?_
    refine pureQ 7 (some 31) HT_ ?_
    refine pure_ (i := 8) (N := some 32) (v := undef) (a' := ?_) #[true, true, true, true, true, true, true, true, true, false, false, false, false, false, false, false, false, false, false, false, false, false, false, false, false, false, false, false, false] rfl rfl (any_of HT_.out (by kernel_rfl)) (fun _ _ _ h => h) (Or.inr ⟨by rfl, rfl⟩) ?_ ?_
    rotate_left
    ·
     simp only [Act.put, List.setIfInBounds_toArray, List.set_cons_zero, List.set_cons_succ, i64_w, i32_w]
     rfl
    refine pure_ (i := 9) (N := some 33) (v := undef) (a' := ?_) #[true, true, true, true, true, true, true, true, true, true, false, false, false, false, false, false, false, false, false, false, false, false, false, false, false, false, false, false, false] rfl rfl (any_of HT_.out (by kernel_rfl)) (fun _ _ _ h => h) (Or.inr ⟨by rfl, rfl⟩) ?_ ?_
    rotate_left
    ·
     simp only [Act.put, List.setIfInBounds_toArray, List.set_cons_zero, List.set_cons_succ, i64_w, i32_w]
     rfl
    refine pure_ (i := 10) (N := some 34) (v := undef) (a' := ?_) #[true, true, true, true, true, true, true, true, true, true, true, false, false, false, false, false, false, false, false, false, false, false, false, false, false, false, false, false, false] rfl rfl (any_of HT_.out (by kernel_rfl)) (fun _ _ _ h => h) (Or.inr ⟨by rfl, rfl⟩) ?_ ?_
    rotate_left
    ·
     simp only [Act.put, List.setIfInBounds_toArray, List.set_cons_zero, List.set_cons_succ, i64_w, i32_w]
     rfl
    refine pure_ (i := 11) (N := some 35) (v := undef) (a' := ?_) #[true, true, true, true, true, true, true, true, true, true, true, true, false, false, false, false, false, false, false, false, false, false, false, false, false, false, false, false, false] rfl rfl (any_of HT_.out (by kernel_rfl)) (fun _ _ _ h => h) (Or.inr ⟨by rfl, rfl⟩) ?_ ?_
    rotate_left
    ·
     simp only [Act.put, List.setIfInBounds_toArray, List.set_cons_zero, List.set_cons_succ, i64_w, i32_w]
     rfl
    refine pure_ (i := 12) (N := some 36) (v := undef) (a' := ?_) #[true, true, true, true, true, true, true, true, true, true, true, true, true, false, false, false, false, false, false, false, false, false, false, false, false, false, false, false, false] rfl rfl (any_of HT_.out (by kernel_rfl)) (fun _ _ _ h => h) (Or.inr ⟨by rfl, rfl⟩) ?_ ?_
    rotate_left
    ·
     simp only [Act.put, List.setIfInBounds_toArray, List.set_cons_zero, List.set_cons_succ, i64_w, i32_w]
     rfl
    refine pureQ 13 (some 37) HT_ ?_
    refine pureQ 14 (some 38) HT_ ?_
    refine pure_ (i := 15) (N := some 39) (v := undef) (a' := ?_) #[true, true, true, true, true, true, true, true, true, true, true, true, true, true, true, true, false, false, false, false, false, false, false, false, false, false, false, false, false] rfl rfl (any_of HT_.out (by kernel_rfl)) (fun _ _ _ h => h) (Or.inr ⟨by rfl, rfl⟩) ?_ ?_
    rotate_left
    ·
     simp only [Act.put, List.setIfInBounds_toArray, List.set_cons_zero, List.set_cons_succ, i64_w, i32_w]
     rfl
    refine pure_ (i := 16) (N := some 40) (v := undef) (a' := ?_) #[true, true, true, true, true, true, true, true, true, true, true, true, true, true, true, true, true, false, false, false, false, false, false, false, false, false, false, false, false] rfl rfl (any_of HT_.out (by kernel_rfl)) (fun _ _ _ h => h) (Or.inr ⟨by rfl, rfl⟩) ?_ ?_
    rotate_left
    ·
     simp only [Act.put, List.setIfInBounds_toArray, List.set_cons_zero, List.set_cons_succ, i64_w, i32_w]
     rfl
    refine pure_ (i := 17) (N := some 41) (v := undef) (a' := ?_) #[true, true, true, true, true, true, true, true, true, true, true, true, true, true, true, true, true, true, false, false, false, false, false, false, false, false, false, false, false] rfl rfl (any_of HT_.out (by kernel_rfl)) (fun _ _ _ h => h) (Or.inr ⟨by rfl, rfl⟩) ?_ ?_
    rotate_left
    ·
     simp only [Act.put, List.setIfInBounds_toArray, List.set_cons_zero, List.set_cons_succ, i64_w, i32_w]
     rfl
    refine pure_ (i := 18) (N := some 42) (v := undef) (a' := ?_) #[true, true, true, true, true, true, true, true, true, true, true, true, true, true, true, true, true, true, true, false, false, false, false, false, false, false, false, false, false] rfl rfl (any_of HT_.out (by kernel_rfl)) (fun _ _ _ h => h) (Or.inr ⟨by rfl, rfl⟩) ?_ ?_
    rotate_left
    ·
     simp only [Act.put, List.setIfInBounds_toArray, List.set_cons_zero, List.set_cons_succ, i64_w, i32_w]
     rfl
    refine pure_ (i := 19) (N := some 43) (v := undef) (a' := ?_) #[true, true, true, true, true, true, true, true, true, true, true, true, true, true, true, true, true, true, true, true, false, false, false, false, false, false, false, false, false] rfl rfl (any_of HT_.out (by kernel_rfl)) (fun _ _ _ h => h) (Or.inr ⟨by rfl, rfl⟩) ?_ ?_
    rotate_left
    ·
     simp only [Act.put, List.setIfInBounds_toArray, List.set_cons_zero, List.set_cons_succ, i64_w, i32_w]
     rfl
    refine pure_ (i := 20) (N := some 44) (v := undef) (a' := ?_) #[true, true, true, true, true, true, true, true, true, true, true, true, true, true, true, true, true, true, true, true, true, false, false, false, false, false, false, false, false] rfl rfl (any_of HT_.out (by kernel_rfl)) (fun _ _ _ h => h) (Or.inr ⟨by rfl, rfl⟩) ?_ ?_
    rotate_left
    ·
     simp only [Act.put, List.setIfInBounds_toArray, List.set_cons_zero, List.set_cons_succ, i64_w, i32_w]
     rfl
    refine pure_ (i := 21) (N := some 45) (v := undef) (a' := ?_) #[true, true, true, true, true, true, true, true, true, true, true, true, true, true, true, true, true, true, true, true, true, true, false, false, false, false, false, false, false] rfl rfl (any_of HT_.out (by kernel_rfl)) (fun _ _ _ h => h) (Or.inr ⟨by rfl, rfl⟩) ?_ ?_
    rotate_left
    ·
     simp only [Act.put, List.setIfInBounds_toArray, List.set_cons_zero, List.set_cons_succ, i64_w, i32_w]
     rfl
    refine pure_ (i := 22) (N := some 46) (v := undef) (a' := ?_) #[true, true, true, true, true, true, true, true, true, true, true, true, true, true, true, true, true, true, true, true, true, true, true, false, false, false, false, false, false] rfl rfl (any_of HT_.out (by kernel_rfl)) (fun _ _ _ h => h) (Or.inr ⟨by rfl, rfl⟩) ?_ ?_
    rotate_left
    ·
     simp only [Act.put, List.setIfInBounds_toArray, List.set_cons_zero, List.set_cons_succ, i64_w, i32_w]
     rfl
    refine pure_ (i := 23) (N := some 47) (v := undef) (a' := ?_) #[true, true, true, true, true, true, true, true, true, true, true, true, true, true, true, true, true, true, true, true, true, true, true, true, false, false, false, false, false] rfl rfl (any_of HT_.out (by kernel_rfl)) (fun _ _ _ h => h) (Or.inr ⟨by rfl, rfl⟩) ?_ ?_
    rotate_left
    ·
     simp only [Act.put, List.setIfInBounds_toArray, List.set_cons_zero, List.set_cons_succ, i64_w, i32_w]
     rfl
    refine pure_ (i := 24) (N := some 48) (v := undef) (a' := ?_) #[true, true, true, true, true, true, true, true, true, true, true, true, true, true, true, true, true, true, true, true, true, true, true, true, true, false, false, false, false] rfl rfl (any_of HT_.out (by kernel_rfl)) (fun _ _ _ h => h) (Or.inr ⟨by rfl, rfl⟩) ?_ ?_
    rotate_left
    ·
     simp only [Act.put, List.setIfInBounds_toArray, List.set_cons_zero, List.set_cons_succ, i64_w, i32_w]
     rfl
    refine pure_ (i := 25) (N := some 49) (v := undef) (a' := ?_) #[true, true, true, true, true, true, true, true, true, true, true, true, true, true, true, true, true, true, true, true, true, true, true, true, true, true, false, false, false] rfl rfl (any_of HT_.out (by kernel_rfl)) (fun _ _ _ h => h) (Or.inr ⟨by rfl, rfl⟩) ?_ ?_
    rotate_left
    ·
     simp only [Act.put, List.setIfInBounds_toArray, List.set_cons_zero, List.set_cons_succ, i64_w, i32_w]
     rfl
    refine pure_ (i := 26) (N := some 50) (v := undef) (a' := ?_) #[true, true, true, true, true, true, true, true, true, true, true, true, true, true, true, true, true, true, true, true, true, true, true, true, true, true, true, false, false] rfl rfl (any_of HT_.out (by kernel_rfl)) (fun _ _ _ h => h) (Or.inr ⟨by rfl, rfl⟩) ?_ ?_
    rotate_left
    ·
     simp only [Act.put, List.setIfInBounds_toArray, List.set_cons_zero, List.set_cons_succ, i64_w, i32_w]
     rfl
    refine pure_ (i := 27) (N := some 51) (v := undef) (a' := ?_) #[true, true, true, true, true, true, true, true, true, true, true, true, true, true, true, true, true, true, true, true, true, true, true, true, true, true, true, true, false] rfl rfl (any_of HT_.out (by kernel_rfl)) (fun _ _ _ h => h) (Or.inr ⟨by rfl, rfl⟩) ?_ ?_
    rotate_left
    ·
     simp only [Act.put, List.setIfInBounds_toArray, List.set_cons_zero, List.set_cons_succ, i64_w, i32_w]
     rfl
    refine pureQ 28 (some 52) HT_ ?_
    refine done_ (done_of HT_.out (by kernel_rfl)) ?_
    try go_wp2
    go_meet
    case rel => exact ⟨_, (true), (by first | rfl | (simp [*]; done)), H', ⟨by first | omega | exact Nat.le_refl _⟩, ⟨RX HO147⟩, ⟨LX HB⟩⟩
   ·
    rw [if_neg c7] at H
    have c7b0 : decide ((t145.length : Int) < 4) = false := decide_eq_false c7
    have c7b1 : decide (t145.length < 4) = false := decide_eq_false (by omega)
    clear c7
    (first | rw [c7b0] | (simp only [i64_w, i32_w]; rw [c7b0]) | skip)
    by_cases c10 : 3 < (t145.length : Int)
    ·
     rw [if_pos c10] at H
     have c10b0 : decide (3 < (t145.length : Int)) = true := decide_eq_true c10
     have c10b1 : decide (3 < t145.length) = true := decide_eq_true (by omega)
     clear c10
     obtain ⟨t149, A11, H⟩ := bindQ H
     replace H : (if t149 = true then (if 0 < (t145.length : Int) then (if 1 < (t145.length : Int) then (if (rdOf ByteArray.empty t145 0).size + (rdOf ByteArray.empty t145 1).size ≤ 9223372036854775807 then (if 2 < (t145.length : Int) then (if ((rdOf ByteArray.empty t145 0) ++ (rdOf ByteArray.empty t145 1)).size + (rdOf ByteArray.empty t145 2).size ≤ 9223372036854775807 then ((word_printable.f k (((rdOf ByteArray.empty t145 0) ++ (rdOf ByteArray.empty t145 1)) ++ (rdOf ByteArray.empty t145 2))).bind fun t153 => (word_One.j0 k t145 (!t153))) else (none)) else (none)) else (none)) else (none)) else (none)) else (word_One.j0 k t145 true)) = some (r1, r2, r3) := H
     by_cases c12 : t149 = true
     ·
      subst c12
      have H1 : (if 0 < (t145.length : Int) then (if 1 < (t145.length : Int) then (if (rdOf ByteArray.empty t145 0).size + (rdOf ByteArray.empty t145 1).size ≤ 9223372036854775807 then (if 2 < (t145.length : Int) then (if ((rdOf ByteArray.empty t145 0) ++ (rdOf ByteArray.empty t145 1)).size + (rdOf ByteArray.empty t145 2).size ≤ 9223372036854775807 then ((word_printable.f k (((rdOf ByteArray.empty t145 0) ++ (rdOf ByteArray.empty t145 1)) ++ (rdOf ByteArray.empty t145 2))).bind fun t153 => (word_One.j0 k t145 (!t153))) else (none)) else (none)) else (none)) else (none)) else (none)) = some (r1, r2, r3) := by rw [if_pos rfl] at H; exact H
      clear H
      have H := H1
      clear H1
      by_cases c13 : 0 < (t145.length : Int)
      ·
       rw [if_pos c13] at H
       have c13b0 : decide (0 < (t145.length : Int)) = true := decide_eq_true c13
       have c13b1 : decide (0 < t145.length) = true := decide_eq_true (by omega)
       clear c13
       by_cases c14 : 1 < (t145.length : Int)
       ·
        rw [if_pos c14] at H
        have c14b0 : decide (1 < (t145.length : Int)) = true := decide_eq_true c14
        have c14b1 : decide (1 < t145.length) = true := decide_eq_true (by omega)
        clear c14
        by_cases c15 : (rdOf ByteArray.empty t145 0).size + (rdOf ByteArray.empty t145 1).size ≤ 9223372036854775807
        ·
         rw [if_pos c15] at H
         have c15b0 := eq_true c15
         have c15b1 : decide ((rdOf ByteArray.empty t145 0).size + (rdOf ByteArray.empty t145 1).size ≤ 9223372036854775807) = true := decide_eq_true c15
         try have c15b2 : (9223372036854775807 < (rdOf ByteArray.empty t145 0).size + (rdOf ByteArray.empty t145 1).size) = False := eq_false (Nat.not_lt.2 c15)
         by_cases c16 : 2 < (t145.length : Int)
         ·
          rw [if_pos c16] at H
          have c16b0 : decide (2 < (t145.length : Int)) = true := decide_eq_true c16
          have c16b1 : decide (2 < t145.length) = true := decide_eq_true (by omega)
          clear c16
          by_cases c17 : ((rdOf ByteArray.empty t145 0) ++ (rdOf ByteArray.empty t145 1)).size + (rdOf ByteArray.empty t145 2).size ≤ 9223372036854775807
          ·
           rw [if_pos c17] at H
           have c17b0 := eq_true c17
           have c17n_ := c17
           simp only [ByteArray.size_append, show ((⟨#[58, 32]⟩ : ByteArray)).size = 2 from rfl] at c17n_
           have c17m_ := eq_false (Nat.not_lt.2 c17n_)
           have c17b1 : decide (((rdOf ByteArray.empty t145 0) ++ (rdOf ByteArray.empty t145 1)).size + (rdOf ByteArray.empty t145 2).size ≤ 9223372036854775807) = true := decide_eq_true c17
           try have c17b2 : (9223372036854775807 < ((rdOf ByteArray.empty t145 0) ++ (rdOf ByteArray.empty t145 1)).size + (rdOf ByteArray.empty t145 2).size) = False := eq_false (Nat.not_lt.2 c17)
           obtain ⟨t153, A18, H⟩ := bindQ H
           replace H : (word_One.j0 k t145 (!t153)) = some (r1, r2, r3) := H
           have H' := Aside0.mk H
           clear H
           try go_wp2
           replace HO147 := Aside0.mk (Kd.R_drew HO147.out)
           replace HB := Aside0.mk (below_drew1 HB.out)
           obtain ⟨Ao20, co20, eo20⟩ := Kd.R_slice HO147.out
           (first | subst eo20 | (injection eo20 with f1_ f2_ f3_; have f4_ := f1_.symm; have f5_ := f3_.symm; clear f1_ f2_ f3_; subst f4_; subst f5_))
           have p148 : 0 ≤ (3 : Int) := (by omega)
           have q148 : 3 < (t145.length : Int) := ofD
           obtain ⟨ad148, e148, hx148_0⟩ := Kd.at_string (Kd.R_reads' HO147.out).2.2 3 p148 q148
           cases e148
           (try simp only [show (3 : Int).toNat = 3 from rfl, Nat.reduceMul, Nat.reduceEqDiff, Go.Addr.add, ↓reduceIte] at hx148_0)
           have qi148 : (3 < t145.length) = True := eq_true (by omega)
           (try rw [show ((3 : Int)).toNat = 3 from rfl] at hx148_0)
           replace p148 := eq_true p148
           replace q148 := eq_true q148
           have p150 : 0 ≤ (0 : Int) := (by omega)
           have q150 : 0 < (t145.length : Int) := ofD
           obtain ⟨ad150, e150, hx150_0⟩ := Kd.at_string (Kd.R_reads' HO147.out).2.2 0 p150 q150
           obtain rfl : ad148 = ad150 := (by injection e150)
           have qi150 : (0 < t145.length) = True := eq_true (by omega)
           (try rw [show ((0 : Int)).toNat = 0 from rfl] at hx150_0)
           (try rw [Addr.add_zero'] at hx150_0)
           replace p150 := eq_true p150
           replace q150 := eq_true q150
           have p151 : 0 ≤ (1 : Int) := (by omega)
           have q151 : 1 < (t145.length : Int) := ofD
           obtain ⟨ad151, e151, hx151_0⟩ := Kd.at_string (Kd.R_reads' HO147.out).2.2 1 p151 q151
           obtain rfl : ad148 = ad151 := (by injection e151)
           (try simp only [show (1 : Int).toNat = 1 from rfl, Nat.reduceMul, Nat.reduceEqDiff, Go.Addr.add, ↓reduceIte] at hx151_0)
           have qi151 : (1 < t145.length) = True := eq_true (by omega)
           (try rw [show ((1 : Int)).toNat = 1 from rfl] at hx151_0)
           replace p151 := eq_true p151
           replace q151 := eq_true q151
           have p152 : 0 ≤ (2 : Int) := (by omega)
           have q152 : 2 < (t145.length : Int) := ofD
           obtain ⟨ad152, e152, hx152_0⟩ := Kd.at_string (Kd.R_reads' HO147.out).2.2 2 p152 q152
           obtain rfl : ad148 = ad152 := (by injection e152)
           (try simp only [show (2 : Int).toNat = 2 from rfl, Nat.reduceMul, Nat.reduceEqDiff, Go.Addr.add, ↓reduceIte] at hx152_0)
           have qi152 : (2 < t145.length) = True := eq_true (by omega)
           (try rw [show ((2 : Int)).toNat = 2 from rfl] at hx152_0)
           replace p152 := eq_true p152
           replace q152 := eq_true q152
           refine start_ (n := 29) (S := fun w' => w'.cell? ⟨ad148.block, ad148.off + 3, none⟩ = some (.string (rdOf ByteArray.empty t145 3)) ∧ w'.cell? ad148 = some (.string (rdOf ByteArray.empty t145 0)) ∧ w'.cell? ⟨ad148.block, ad148.off + 1, none⟩ = some (.string (rdOf ByteArray.empty t145 1)) ∧ w'.cell? ⟨ad148.block, ad148.off + 2, none⟩ = some (.string (rdOf ByteArray.empty t145 2))) (ds := []) #[false, false, false, false, false, false, false, false, false, false, false, false, false, false, false, false, false, false, false, false, false, false, false, false, false, false, false, false, false] (by kernel_rfl) rfl rfl ⟨hx148_0, hx150_0, hx151_0, hx152_0⟩ (fun hHeld => ?_); refine with_tabW word_One.tab3 word_One.bits3 (fun HT_ HW_ => ?_)
           generalize w5.drew = w19 at HO147 HB hx148_0 hx150_0 hx151_0 hx152_0 hHeld ⊢
           refine pureQ 0 (some 24) HT_ ?_
           refine pureQ 1 (some 25) HT_ ?_
           refine pureQ 2 (some 26) HT_ ?_
           refine pureQ 3 (some 27) HT_ ?_
           refine pureQ 4 (some 28) HT_ ?_
           refine pureQ 5 (some 29) HT_ ?_
           refine pureQ 6 (some 30) HT_ ?_
           refine pureQ 7 (some 31) HT_ ?_
           refine pureQ 8 (some 32) HT_ ?_
           refine pureQ 9 (some 33) HT_ ?_
           refine takeQ 10 (some 34) HT_ HW_ hHeld ?_
           refine oneQ 11 (some 35) HT_ (fun K hK => ?_)
           refine goesQ Tryz.func52 #[.string (rdOf ByteArray.empty t145 3), .string (⟨#[61]⟩ : ByteArray)] ?_
           with_reducible refine (strings_HasPrefix.calls (rdOf ByteArray.empty t145 3) (⟨#[61]⟩ : ByteArray) true _ A11.out).mono ?_
           rintro e w' ⟨rfl, ⟨nd, rfl⟩⟩
           refine ⟨_, rfl, ?_⟩
           refine hK.out _ _ ⟨hHeld.1, hHeld.2.1, hHeld.2.2.1, hHeld.2.2.2⟩ (fun hHeld => ?_)
           clear hK K
           refine normQ (some 35) ?_
           refine pureQ 12 (some 36) HT_ ?_
           refine pureQ 13 (some 37) HT_ ?_
           refine pureQ 14 (some 38) HT_ ?_
           refine pureQ 15 (some 39) HT_ ?_
           refine pureQ 16 (some 40) HT_ ?_
           refine pureQ 18 (some 42) HT_ ?_
           refine pureQ 19 (some 43) HT_ ?_
           refine pureQ 22 (some 46) HT_ ?_
           refine pureQ 23 (some 47) HT_ ?_
           refine takeQ 17 (some 41) HT_ HW_ hHeld ?_
           refine takeQ 20 (some 44) HT_ HW_ hHeld ?_
           refine pureQ 21 (some 45) HT_ ?_
           refine takeQ 24 (some 48) HT_ HW_ hHeld ?_
           refine pureQ 25 (some 49) HT_ ?_
           refine oneQ 26 (some 50) HT_ (fun K hK => ?_)
           refine goesQ Tryz.func111 #[.string (((rdOf ByteArray.empty t145 0) ++ (rdOf ByteArray.empty t145 1)) ++ (rdOf ByteArray.empty t145 2))] ?_
           with_reducible refine (word_printable.calls k (((rdOf ByteArray.empty t145 0) ++ (rdOf ByteArray.empty t145 1)) ++ (rdOf ByteArray.empty t145 2)) t153 _ A18.out).mono ?_
           rintro e w' ⟨rfl, ⟨nd, rfl⟩⟩
           refine ⟨_, rfl, ?_⟩
           refine hK.out _ _ ⟨hHeld.1, hHeld.2.1, hHeld.2.2.1, hHeld.2.2.2⟩ (fun hHeld => ?_)
           clear hK K
           refine normQ (some 50) ?_
           refine pureQ 27 (some 51) HT_ ?_
           refine pureQ 28 (some 52) HT_ ?_
           refine done_ (done_of HT_.out (by kernel_rfl)) ?_
           try go_wp2
           go_meet
           case rel => exact ⟨_, (!t153), (by first | rfl | (simp [*]; done)), H', ⟨by first | omega | exact Nat.le_refl _⟩, ⟨RX HO147⟩, ⟨LX HB⟩⟩
          ·
           rw [if_neg c17] at H
           exact absurd H (by simp)
         ·
          rw [if_neg c16] at H
          exact absurd H (by simp)
        ·
         rw [if_neg c15] at H
         exact absurd H (by simp)
       ·
        rw [if_neg c14] at H
        exact absurd H (by simp)
      ·
       rw [if_neg c13] at H
       exact absurd H (by simp)
     ·
      replace c12 := Bool.eq_false_iff.mpr c12
      subst c12
      have H1 : (word_One.j0 k t145 true) = some (r1, r2, r3) := by rw [if_neg (show ¬ (false = true) by decide)] at H; exact H
      clear H
      have H := H1
      clear H1
      have H' := Aside0.mk H
      clear H
      try go_wp2
      replace HO147 := Aside0.mk (Kd.R_drew HO147.out)
      replace HB := Aside0.mk (below_drew1 HB.out)
      obtain ⟨Ao22, co22, eo22⟩ := Kd.R_slice HO147.out
      (first | subst eo22 | (injection eo22 with f1_ f2_ f3_; have f4_ := f1_.symm; have f5_ := f3_.symm; clear f1_ f2_ f3_; subst f4_; subst f5_))
      have p148 : 0 ≤ (3 : Int) := (by omega)
      have q148 : 3 < (t145.length : Int) := ofD
      obtain ⟨ad148, e148, hx148_0⟩ := Kd.at_string (Kd.R_reads' HO147.out).2.2 3 p148 q148
      cases e148
      (try simp only [show (3 : Int).toNat = 3 from rfl, Nat.reduceMul, Nat.reduceEqDiff, Go.Addr.add, ↓reduceIte] at hx148_0)
      have qi148 : (3 < t145.length) = True := eq_true (by omega)
      (try rw [show ((3 : Int)).toNat = 3 from rfl] at hx148_0)
      replace p148 := eq_true p148
      replace q148 := eq_true q148
      refine start_ (n := 29) (S := fun w' => w'.cell? ⟨ad148.block, ad148.off + 3, none⟩ = some (.string (rdOf ByteArray.empty t145 3))) (ds := []) #[false, false, false, false, false, false, false, false, false, false, false, false, false, false, false, false, false, false, false, false, false, false, false, false, false, false, false, false, false] (by kernel_rfl) rfl rfl (hx148_0) (fun hHeld => ?_); refine with_tabW word_One.tab3 word_One.bits3 (fun HT_ HW_ => ?_)
      generalize w5.drew = w21 at HO147 HB hx148_0 hHeld ⊢
      refine pureQ 0 (some 24) HT_ ?_
      refine pureQ 1 (some 25) HT_ ?_
      refine pureQ 2 (some 26) HT_ ?_
      refine pureQ 3 (some 27) HT_ ?_
      refine pureQ 4 (some 28) HT_ ?_
      refine pureQ 5 (some 29) HT_ ?_
      refine pureQ 6 (some 30) HT_ ?_
      refine pureQ 7 (some 31) HT_ ?_
      refine pureQ 8 (some 32) HT_ ?_
      refine pureQ 9 (some 33) HT_ ?_
      refine take_ (i := 10) (N := some 34) (v := ?_) (a' := ?_) #[true, true, true, true, true, true, true, true, true, true, true, false, false, false, false, false, false, false, false, false, false, false, false, false, false, false, false, false, false] rfl rfl (take_ofW HT_.out HW_.out (by kernel_rfl)) (fun _ _ _ h => h) (Or.inl ⟨by rfl, ?_⟩) hHeld ?_ ?_
      rotate_left
      ·
       intro w' s0
       go_simp
       with_reducible rfl
      rotate_left
      ·
       simp only [Act.put, List.setIfInBounds_toArray, List.set_cons_zero, List.set_cons_succ, i64_w, i32_w]
       rfl
      refine oneQ 11 (some 35) HT_ (fun K hK => ?_)
      refine goesQ Tryz.func52 #[.string (rdOf ByteArray.empty t145 3), .string (⟨#[61]⟩ : ByteArray)] ?_
      with_reducible refine (strings_HasPrefix.calls (rdOf ByteArray.empty t145 3) (⟨#[61]⟩ : ByteArray) false _ A11.out).mono ?_
      rintro e w' ⟨rfl, ⟨nd, rfl⟩⟩
      refine ⟨_, rfl, ?_⟩
      refine hK.out _ _ (hHeld) (fun hHeld => ?_)
      clear hK K
      refine normQ (some 35) ?_
      refine pureQ 12 (some 36) HT_ ?_
      refine pureQ 13 (some 37) HT_ ?_
      refine pureQ 14 (some 38) HT_ ?_
      refine pure_ (i := 15) (N := some 39) (v := undef) (a' := ?_) #[true, true, true, true, true, true, true, true, true, true, true, true, true, true, true, true, false, false, false, false, false, false, false, false, false, false, false, false, false] rfl rfl (any_of HT_.out (by kernel_rfl)) (fun _ _ _ h => h) (Or.inr ⟨by rfl, rfl⟩) ?_ ?_
      rotate_left
      ·
       simp only [Act.put, List.setIfInBounds_toArray, List.set_cons_zero, List.set_cons_succ, i64_w, i32_w]
       rfl
      refine pure_ (i := 16) (N := some 40) (v := undef) (a' := ?_) #[true, true, true, true, true, true, true, true, true, true, true, true, true, true, true, true, true, false, false, false, false, false, false, false, false, false, false, false, false] rfl rfl (any_of HT_.out (by kernel_rfl)) (fun _ _ _ h => h) (Or.inr ⟨by rfl, rfl⟩) ?_ ?_
      rotate_left
      ·
       simp only [Act.put, List.setIfInBounds_toArray, List.set_cons_zero, List.set_cons_succ, i64_w, i32_w]
       rfl
      refine pure_ (i := 17) (N := some 41) (v := undef) (a' := ?_) #[true, true, true, true, true, true, true, true, true, true, true, true, true, true, true, true, true, true, false, false, false, false, false, false, false, false, false, false, false] rfl rfl (any_of HT_.out (by kernel_rfl)) (fun _ _ _ h => h) (Or.inr ⟨by rfl, rfl⟩) ?_ ?_
      rotate_left
      ·
       simp only [Act.put, List.setIfInBounds_toArray, List.set_cons_zero, List.set_cons_succ, i64_w, i32_w]
       rfl
      refine pure_ (i := 18) (N := some 42) (v := undef) (a' := ?_) #[true, true, true, true, true, true, true, true, true, true, true, true, true, true, true, true, true, true, true, false, false, false, false, false, false, false, false, false, false] rfl rfl (any_of HT_.out (by kernel_rfl)) (fun _ _ _ h => h) (Or.inr ⟨by rfl, rfl⟩) ?_ ?_
      rotate_left
      ·
       simp only [Act.put, List.setIfInBounds_toArray, List.set_cons_zero, List.set_cons_succ, i64_w, i32_w]
       rfl
      refine pure_ (i := 19) (N := some 43) (v := undef) (a' := ?_) #[true, true, true, true, true, true, true, true, true, true, true, true, true, true, true, true, true, true, true, true, false, false, false, false, false, false, false, false, false] rfl rfl (any_of HT_.out (by kernel_rfl)) (fun _ _ _ h => h) (Or.inr ⟨by rfl, rfl⟩) ?_ ?_
      rotate_left
      ·
       simp only [Act.put, List.setIfInBounds_toArray, List.set_cons_zero, List.set_cons_succ, i64_w, i32_w]
       rfl
      refine pure_ (i := 20) (N := some 44) (v := undef) (a' := ?_) #[true, true, true, true, true, true, true, true, true, true, true, true, true, true, true, true, true, true, true, true, true, false, false, false, false, false, false, false, false] rfl rfl (any_of HT_.out (by kernel_rfl)) (fun _ _ _ h => h) (Or.inr ⟨by rfl, rfl⟩) ?_ ?_
      rotate_left
      ·
       simp only [Act.put, List.setIfInBounds_toArray, List.set_cons_zero, List.set_cons_succ, i64_w, i32_w]
       rfl
      refine pure_ (i := 21) (N := some 45) (v := undef) (a' := ?_) #[true, true, true, true, true, true, true, true, true, true, true, true, true, true, true, true, true, true, true, true, true, true, false, false, false, false, false, false, false] rfl rfl (any_of HT_.out (by kernel_rfl)) (fun _ _ _ h => h) (Or.inr ⟨by rfl, rfl⟩) ?_ ?_
      rotate_left
      ·
       simp only [Act.put, List.setIfInBounds_toArray, List.set_cons_zero, List.set_cons_succ, i64_w, i32_w]
       rfl
      refine pure_ (i := 22) (N := some 46) (v := undef) (a' := ?_) #[true, true, true, true, true, true, true, true, true, true, true, true, true, true, true, true, true, true, true, true, true, true, true, false, false, false, false, false, false] rfl rfl (any_of HT_.out (by kernel_rfl)) (fun _ _ _ h => h) (Or.inr ⟨by rfl, rfl⟩) ?_ ?_
      rotate_left
      ·
       simp only [Act.put, List.setIfInBounds_toArray, List.set_cons_zero, List.set_cons_succ, i64_w, i32_w]
       rfl
      refine pure_ (i := 23) (N := some 47) (v := undef) (a' := ?_) #[true, true, true, true, true, true, true, true, true, true, true, true, true, true, true, true, true, true, true, true, true, true, true, true, false, false, false, false, false] rfl rfl (any_of HT_.out (by kernel_rfl)) (fun _ _ _ h => h) (Or.inr ⟨by rfl, rfl⟩) ?_ ?_
      rotate_left
      ·
       simp only [Act.put, List.setIfInBounds_toArray, List.set_cons_zero, List.set_cons_succ, i64_w, i32_w]
       rfl
      refine pure_ (i := 24) (N := some 48) (v := undef) (a' := ?_) #[true, true, true, true, true, true, true, true, true, true, true, true, true, true, true, true, true, true, true, true, true, true, true, true, true, false, false, false, false] rfl rfl (any_of HT_.out (by kernel_rfl)) (fun _ _ _ h => h) (Or.inr ⟨by rfl, rfl⟩) ?_ ?_
      rotate_left
      ·
       simp only [Act.put, List.setIfInBounds_toArray, List.set_cons_zero, List.set_cons_succ, i64_w, i32_w]
       rfl
      refine pure_ (i := 25) (N := some 49) (v := undef) (a' := ?_) #[true, true, true, true, true, true, true, true, true, true, true, true, true, true, true, true, true, true, true, true, true, true, true, true, true, true, false, false, false] rfl rfl (any_of HT_.out (by kernel_rfl)) (fun _ _ _ h => h) (Or.inr ⟨by rfl, rfl⟩) ?_ ?_
      rotate_left
      ·
       simp only [Act.put, List.setIfInBounds_toArray, List.set_cons_zero, List.set_cons_succ, i64_w, i32_w]
       rfl
      refine pure_ (i := 26) (N := some 50) (v := undef) (a' := ?_) #[true, true, true, true, true, true, true, true, true, true, true, true, true, true, true, true, true, true, true, true, true, true, true, true, true, true, true, false, false] rfl rfl (any_of HT_.out (by kernel_rfl)) (fun _ _ _ h => h) (Or.inr ⟨by rfl, rfl⟩) ?_ ?_
      rotate_left
      ·
       simp only [Act.put, List.setIfInBounds_toArray, List.set_cons_zero, List.set_cons_succ, i64_w, i32_w]
       rfl
      refine pure_ (i := 27) (N := some 51) (v := undef) (a' := ?_) #[true, true, true, true, true, true, true, true, true, true, true, true, true, true, true, true, true, true, true, true, true, true, true, true, true, true, true, true, false] rfl rfl (any_of HT_.out (by kernel_rfl)) (fun _ _ _ h => h) (Or.inr ⟨by rfl, rfl⟩) ?_ ?_
      rotate_left
      ·
       simp only [Act.put, List.setIfInBounds_toArray, List.set_cons_zero, List.set_cons_succ, i64_w, i32_w]
       rfl
      refine pureQ 28 (some 52) HT_ ?_
      refine done_ (done_of HT_.out (by kernel_rfl)) ?_
      try go_wp2
      go_meet
      case rel => exact ⟨_, (true), (by first | rfl | (simp [*]; done)), H', ⟨by first | omega | exact Nat.le_refl _⟩, ⟨RX HO147⟩, ⟨LX HB⟩⟩
    ·
     rw [if_neg c10] at H
     exact absurd H (by simp)
  ·
   replace c6 := Bool.eq_false_iff.mpr c6
   subst c6
   have H1 : (word_One.j0 k t145 true) = some (r1, r2, r3) := by rw [if_neg (show ¬ (false = true) by decide)] at H; exact H
   clear H
   have H := H1
   clear H1
   have H' := Aside0.mk H
   clear H
   try go_wp2
   replace HO147 := Aside0.mk (Kd.R_drew HO147.out)
   replace HB := Aside0.mk (below_drew1 HB.out)
   refine start_ (n := 29) (S := fun w' => True) (ds := []) #[false, false, false, false, false, false, false, false, false, false, false, false, false, false, false, false, false, false, false, false, false, false, false, false, false, false, false, false, false] (by kernel_rfl) rfl rfl trivial (fun hHeld => ?_); refine with_tabW word_One.tab3 word_One.bits3 (fun HT_ HW_ => ?_)
   generalize w5.drew = w23 at HO147 HB hHeld ⊢
   refine pureQ 0 (some 24) HT_ ?_
   refine pureQ 1 (some 25) HT_ ?_
   refine pureQ 2 (some 26) HT_ ?_
   refine pure_ (i := 3) (N := some 27) (v := undef) (a' := ?_) #[true, true, true, true, false, false, false, false, false, false, false, false, false, false, false, false, false, false, false, false, false, false, false, false, false, false, false, false, false] rfl rfl (any_of HT_.out (by kernel_rfl)) (fun _ _ _ h => h) (Or.inr ⟨by rfl, rfl⟩) ?_ ?_
   rotate_left
   ·
    simp only [Act.put, List.setIfInBounds_toArray, List.set_cons_zero, List.set_cons_succ, i64_w, i32_w]
    rfl
   refine pure_ (i := 4) (N := some 28) (v := undef) (a' := ?_) #[true, true, true, true, true, false, false, false, false, false, false, false, false, false, false, false, false, false, false, false, false, false, false, false, false, false, false, false, false] rfl rfl (any_of HT_.out (by kernel_rfl)) (fun _ _ _ h => h) (Or.inr ⟨by rfl, rfl⟩) ?_ ?_
   rotate_left
   ·
    simp only [Act.put, List.setIfInBounds_toArray, List.set_cons_zero, List.set_cons_succ, i64_w, i32_w]
    rfl
   refine pure_ (i := 5) (N := some 29) (v := undef) (a' := ?_) #[true, true, true, true, true, true, false, false, false, false, false, false, false, false, false, false, false, false, false, false, false, false, false, false, false, false, false, false, false] rfl rfl (any_of HT_.out (by kernel_rfl)) (fun _ _ _ h => h) (Or.inr ⟨by rfl, rfl⟩) ?_ ?_
   rotate_left
   ·
    simp only [Act.put, List.setIfInBounds_toArray, List.set_cons_zero, List.set_cons_succ, i64_w, i32_w]
    rfl
   refine pureQ 6 (some 30) HT_ ?_
   refine pureQ 7 (some 31) HT_ ?_
   refine pure_ (i := 8) (N := some 32) (v := undef) (a' := ?_) #[true, true, true, true, true, true, true, true, true, false, false, false, false, false, false, false, false, false, false, false, false, false, false, false, false, false, false, false, false] rfl rfl (any_of HT_.out (by kernel_rfl)) (fun _ _ _ h => h) (Or.inr ⟨by rfl, rfl⟩) ?_ ?_
   rotate_left
   ·
    simp only [Act.put, List.setIfInBounds_toArray, List.set_cons_zero, List.set_cons_succ, i64_w, i32_w]
    rfl
   refine pure_ (i := 9) (N := some 33) (v := undef) (a' := ?_) #[true, true, true, true, true, true, true, true, true, true, false, false, false, false, false, false, false, false, false, false, false, false, false, false, false, false, false, false, false] rfl rfl (any_of HT_.out (by kernel_rfl)) (fun _ _ _ h => h) (Or.inr ⟨by rfl, rfl⟩) ?_ ?_
   rotate_left
   ·
    simp only [Act.put, List.setIfInBounds_toArray, List.set_cons_zero, List.set_cons_succ, i64_w, i32_w]
    rfl
   refine pure_ (i := 10) (N := some 34) (v := undef) (a' := ?_) #[true, true, true, true, true, true, true, true, true, true, true, false, false, false, false, false, false, false, false, false, false, false, false, false, false, false, false, false, false] rfl rfl (any_of HT_.out (by kernel_rfl)) (fun _ _ _ h => h) (Or.inr ⟨by rfl, rfl⟩) ?_ ?_
   rotate_left
   ·
    simp only [Act.put, List.setIfInBounds_toArray, List.set_cons_zero, List.set_cons_succ, i64_w, i32_w]
    rfl
   refine pure_ (i := 11) (N := some 35) (v := undef) (a' := ?_) #[true, true, true, true, true, true, true, true, true, true, true, true, false, false, false, false, false, false, false, false, false, false, false, false, false, false, false, false, false] rfl rfl (any_of HT_.out (by kernel_rfl)) (fun _ _ _ h => h) (Or.inr ⟨by rfl, rfl⟩) ?_ ?_
   rotate_left
   ·
    simp only [Act.put, List.setIfInBounds_toArray, List.set_cons_zero, List.set_cons_succ, i64_w, i32_w]
    rfl
   refine pure_ (i := 12) (N := some 36) (v := undef) (a' := ?_) #[true, true, true, true, true, true, true, true, true, true, true, true, true, false, false, false, false, false, false, false, false, false, false, false, false, false, false, false, false] rfl rfl (any_of HT_.out (by kernel_rfl)) (fun _ _ _ h => h) (Or.inr ⟨by rfl, rfl⟩) ?_ ?_
   rotate_left
   ·
    simp only [Act.put, List.setIfInBounds_toArray, List.set_cons_zero, List.set_cons_succ, i64_w, i32_w]
    rfl
   refine pureQ 13 (some 37) HT_ ?_
   refine pureQ 14 (some 38) HT_ ?_
   refine pure_ (i := 15) (N := some 39) (v := undef) (a' := ?_) #[true, true, true, true, true, true, true, true, true, true, true, true, true, true, true, true, false, false, false, false, false, false, false, false, false, false, false, false, false] rfl rfl (any_of HT_.out (by kernel_rfl)) (fun _ _ _ h => h) (Or.inr ⟨by rfl, rfl⟩) ?_ ?_
   rotate_left
   ·
    simp only [Act.put, List.setIfInBounds_toArray, List.set_cons_zero, List.set_cons_succ, i64_w, i32_w]
    rfl
   refine pure_ (i := 16) (N := some 40) (v := undef) (a' := ?_) #[true, true, true, true, true, true, true, true, true, true, true, true, true, true, true, true, true, false, false, false, false, false, false, false, false, false, false, false, false] rfl rfl (any_of HT_.out (by kernel_rfl)) (fun _ _ _ h => h) (Or.inr ⟨by rfl, rfl⟩) ?_ ?_
   rotate_left
   ·
    simp only [Act.put, List.setIfInBounds_toArray, List.set_cons_zero, List.set_cons_succ, i64_w, i32_w]
    rfl
   refine pure_ (i := 17) (N := some 41) (v := undef) (a' := ?_) #[true, true, true, true, true, true, true, true, true, true, true, true, true, true, true, true, true, true, false, false, false, false, false, false, false, false, false, false, false] rfl rfl (any_of HT_.out (by kernel_rfl)) (fun _ _ _ h => h) (Or.inr ⟨by rfl, rfl⟩) ?_ ?_
   rotate_left
   ·
    simp only [Act.put, List.setIfInBounds_toArray, List.set_cons_zero, List.set_cons_succ, i64_w, i32_w]
    rfl
   refine pure_ (i := 18) (N := some 42) (v := undef) (a' := ?_) #[true, true, true, true, true, true, true, true, true, true, true, true, true, true, true, true, true, true, true, false, false, false, false, false, false, false, false, false, false] rfl rfl (any_of HT_.out (by kernel_rfl)) (fun _ _ _ h => h) (Or.inr ⟨by rfl, rfl⟩) ?_ ?_
   rotate_left
   ·
    simp only [Act.put, List.setIfInBounds_toArray, List.set_cons_zero, List.set_cons_succ, i64_w, i32_w]
    rfl
   refine pure_ (i := 19) (N := some 43) (v := undef) (a' := ?_) #[true, true, true, true, true, true, true, true, true, true, true, true, true, true, true, true, true, true, true, true, false, false, false, false, false, false, false, false, false] rfl rfl (any_of HT_.out (by kernel_rfl)) (fun _ _ _ h => h) (Or.inr ⟨by rfl, rfl⟩) ?_ ?_
   rotate_left
   ·
    simp only [Act.put, List.setIfInBounds_toArray, List.set_cons_zero, List.set_cons_succ, i64_w, i32_w]
    rfl
   refine pure_ (i := 20) (N := some 44) (v := undef) (a' := ?_) #[true, true, true, true, true, true, true, true, true, true, true, true, true, true, true, true, true, true, true, true, true, false, false, false, false, false, false, false, false] rfl rfl (any_of HT_.out (by kernel_rfl)) (fun _ _ _ h => h) (Or.inr ⟨by rfl, rfl⟩) ?_ ?_
   rotate_left
   ·
    simp only [Act.put, List.setIfInBounds_toArray, List.set_cons_zero, List.set_cons_succ, i64_w, i32_w]
    rfl
   refine pure_ (i := 21) (N := some 45) (v := undef) (a' := ?_) #[true, true, true, true, true, true, true, true, true, true, true, true, true, true, true, true, true, true, true, true, true, true, false, false, false, false, false, false, false] rfl rfl (any_of HT_.out (by kernel_rfl)) (fun _ _ _ h => h) (Or.inr ⟨by rfl, rfl⟩) ?_ ?_
   rotate_left
   ·
    simp only [Act.put, List.setIfInBounds_toArray, List.set_cons_zero, List.set_cons_succ, i64_w, i32_w]
    rfl
   refine pure_ (i := 22) (N := some 46) (v := undef) (a' := ?_) #[true, true, true, true, true, true, true, true, true, true, true, true, true, true, true, true, true, true, true, true, true, true, true, false, false, false, false, false, false] rfl rfl (any_of HT_.out (by kernel_rfl)) (fun _ _ _ h => h) (Or.inr ⟨by rfl, rfl⟩) ?_ ?_
   rotate_left
   ·
    simp only [Act.put, List.setIfInBounds_toArray, List.set_cons_zero, List.set_cons_succ, i64_w, i32_w]
    rfl
   refine pure_ (i := 23) (N := some 47) (v := undef) (a' := ?_) #[true, true, true, true, true, true, true, true, true, true, true, true, true, true, true, true, true, true, true, true, true, true, true, true, false, false, false, false, false] rfl rfl (any_of HT_.out (by kernel_rfl)) (fun _ _ _ h => h) (Or.inr ⟨by rfl, rfl⟩) ?_ ?_
   rotate_left
   ·
    simp only [Act.put, List.setIfInBounds_toArray, List.set_cons_zero, List.set_cons_succ, i64_w, i32_w]
    rfl
   refine pure_ (i := 24) (N := some 48) (v := undef) (a' := ?_) #[true, true, true, true, true, true, true, true, true, true, true, true, true, true, true, true, true, true, true, true, true, true, true, true, true, false, false, false, false] rfl rfl (any_of HT_.out (by kernel_rfl)) (fun _ _ _ h => h) (Or.inr ⟨by rfl, rfl⟩) ?_ ?_
   rotate_left
   ·
    simp only [Act.put, List.setIfInBounds_toArray, List.set_cons_zero, List.set_cons_succ, i64_w, i32_w]
    rfl
   refine pure_ (i := 25) (N := some 49) (v := undef) (a' := ?_) #[true, true, true, true, true, true, true, true, true, true, true, true, true, true, true, true, true, true, true, true, true, true, true, true, true, true, false, false, false] rfl rfl (any_of HT_.out (by kernel_rfl)) (fun _ _ _ h => h) (Or.inr ⟨by rfl, rfl⟩) ?_ ?_
   rotate_left
   ·
    simp only [Act.put, List.setIfInBounds_toArray, List.set_cons_zero, List.set_cons_succ, i64_w, i32_w]
    rfl
   refine pure_ (i := 26) (N := some 50) (v := undef) (a' := ?_) #[true, true, true, true, true, true, true, true, true, true, true, true, true, true, true, true, true, true, true, true, true, true, true, true, true, true, true, false, false] rfl rfl (any_of HT_.out (by kernel_rfl)) (fun _ _ _ h => h) (Or.inr ⟨by rfl, rfl⟩) ?_ ?_
   rotate_left
   ·
    simp only [Act.put, List.setIfInBounds_toArray, List.set_cons_zero, List.set_cons_succ, i64_w, i32_w]
    rfl
   refine pure_ (i := 27) (N := some 51) (v := undef) (a' := ?_) #[true, true, true, true, true, true, true, true, true, true, true, true, true, true, true, true, true, true, true, true, true, true, true, true, true, true, true, true, false] rfl rfl (any_of HT_.out (by kernel_rfl)) (fun _ _ _ h => h) (Or.inr ⟨by rfl, rfl⟩) ?_ ?_
   rotate_left
   ·
    simp only [Act.put, List.setIfInBounds_toArray, List.set_cons_zero, List.set_cons_succ, i64_w, i32_w]
    rfl
   refine pureQ 28 (some 52) HT_ ?_
   refine done_ (done_of HT_.out (by kernel_rfl)) ?_
   try go_wp2
   go_meet
   case rel => exact ⟨_, (true), (by first | rfl | (simp [*]; done)), H', ⟨by first | omega | exact Nat.le_refl _⟩, ⟨RX HO147⟩, ⟨LX HB⟩⟩
 case rest =>
  clear HC4
  obtain ⟨kq, x52_3, rfl, HA, HJ3, HO_7, HB⟩ := hcut
  cases kq with
  | zero => exact absurd HA.out (by simp [word_One.j0])
  | succ kj3 =>
   have H := HA.out
   clear HA
   simp only [word_One.j0] at H
   by_cases c24 : x52_3 = true
   ·
    subst c24
    have H1 : (some (([] : List Int), (⟨#[]⟩ : ByteArray), 7)) = some (r1, r2, r3) := by rw [if_pos rfl] at H; exact H
    clear H
    have H := H1
    clear H1
    simp only [Option.some.injEq, Prod.mk.injEq] at H
    obtain ⟨rfl, rfl, rfl⟩ := H
    go_wp2
    go_ret3
    exact ⟨_, by first | rfl | (simp [errW_none, errW_some] <;> rfl) | (simp [*, errW_none, errW_some] <;> rfl), by first | exact Kd.R_nil _ _ _ _ _ | exact Kd.N_nil _ _ _ _ _ | exact Kd.V_nil _ _ _ _ _ | exact Kd.Q_nil _ _ _ _ _ | exact Kd.S_nil _ _ _ _ _, LX HB⟩
   ·
    replace c24 := Bool.eq_false_iff.mpr c24
    subst c24
    have H1 : (if 0 < (t145.length : Int) then ((strings_Cut.f (rdOf ByteArray.empty t145 0) (⟨#[42]⟩ : ByteArray)).bind fun bt155 => ((runes_Named.f kj3 bt155.1).bind fun bt158 => (if 1 < (t145.length : Int) then (if 2 < (t145.length : Int) then ((word_bytes.f kj3 (rdOf ByteArray.empty t145 1) (rdOf ByteArray.empty t145 2)).bind fun bt162 => (if bt158.2 = 0 then (if bt162.2 = true then ((runes_Decode.f kj3 bt158.1 bt162.1).bind fun bt164 => (if 3 < (t145.length : Int) then (if 1 ≤ ((rdOf ByteArray.empty t145 3).size : Int) then (some (bt164.1, (rdOf ByteArray.empty t145 3).extract 1 (rdOf ByteArray.empty t145 3).size, 0)) else (none)) else (none))) else (some (([] : List Int), (⟨#[]⟩ : ByteArray), 7))) else (some (([] : List Int), (⟨#[]⟩ : ByteArray), 7)))) else (none)) else (none)))) else (none)) = some (r1, r2, r3) := by rw [if_neg (show ¬ (false = true) by decide)] at H; exact H
    clear H
    have H := H1
    clear H1
    by_cases c25 : 0 < (t145.length : Int)
    ·
     rw [if_pos c25] at H
     have c25b0 : decide (0 < (t145.length : Int)) = true := decide_eq_true c25
     have c25b1 : decide (0 < t145.length) = true := decide_eq_true (by omega)
     clear c25
     obtain ⟨⟨t155, t156, t157⟩, A26, H⟩ := bindQ H
     replace H : ((runes_Named.f kj3 t155).bind fun bt158 => (if 1 < (t145.length : Int) then (if 2 < (t145.length : Int) then ((word_bytes.f kj3 (rdOf ByteArray.empty t145 1) (rdOf ByteArray.empty t145 2)).bind fun bt162 => (if bt158.2 = 0 then (if bt162.2 = true then ((runes_Decode.f kj3 bt158.1 bt162.1).bind fun bt164 => (if 3 < (t145.length : Int) then (if 1 ≤ ((rdOf ByteArray.empty t145 3).size : Int) then (some (bt164.1, (rdOf ByteArray.empty t145 3).extract 1 (rdOf ByteArray.empty t145 3).size, 0)) else (none)) else (none))) else (some (([] : List Int), (⟨#[]⟩ : ByteArray), 7))) else (some (([] : List Int), (⟨#[]⟩ : ByteArray), 7)))) else (none)) else (none))) = some (r1, r2, r3) := H
     obtain ⟨⟨t158, t159⟩, A27, H⟩ := bindQ H
     replace H : (if 1 < (t145.length : Int) then (if 2 < (t145.length : Int) then ((word_bytes.f kj3 (rdOf ByteArray.empty t145 1) (rdOf ByteArray.empty t145 2)).bind fun bt162 => (if t159 = 0 then (if bt162.2 = true then ((runes_Decode.f kj3 t158 bt162.1).bind fun bt164 => (if 3 < (t145.length : Int) then (if 1 ≤ ((rdOf ByteArray.empty t145 3).size : Int) then (some (bt164.1, (rdOf ByteArray.empty t145 3).extract 1 (rdOf ByteArray.empty t145 3).size, 0)) else (none)) else (none))) else (some (([] : List Int), (⟨#[]⟩ : ByteArray), 7))) else (some (([] : List Int), (⟨#[]⟩ : ByteArray), 7)))) else (none)) else (none)) = some (r1, r2, r3) := H
     by_cases c28 : 1 < (t145.length : Int)
     ·
      rw [if_pos c28] at H
      have c28b0 : decide (1 < (t145.length : Int)) = true := decide_eq_true c28
      have c28b1 : decide (1 < t145.length) = true := decide_eq_true (by omega)
      clear c28
      by_cases c29 : 2 < (t145.length : Int)
      ·
       rw [if_pos c29] at H
       have c29b0 : decide (2 < (t145.length : Int)) = true := decide_eq_true c29
       have c29b1 : decide (2 < t145.length) = true := decide_eq_true (by omega)
       clear c29
       obtain ⟨⟨t162, t163⟩, A30, H⟩ := bindQ H
       replace H : (if t159 = 0 then (if t163 = true then ((runes_Decode.f kj3 t158 t162).bind fun bt164 => (if 3 < (t145.length : Int) then (if 1 ≤ ((rdOf ByteArray.empty t145 3).size : Int) then (some (bt164.1, (rdOf ByteArray.empty t145 3).extract 1 (rdOf ByteArray.empty t145 3).size, 0)) else (none)) else (none))) else (some (([] : List Int), (⟨#[]⟩ : ByteArray), 7))) else (some (([] : List Int), (⟨#[]⟩ : ByteArray), 7))) = some (r1, r2, r3) := H
       by_cases c31 : t159 = 0
       ·
        rw [if_pos c31] at H
        have c31b0 : (t159 == 0) = true := beq_iff_eq.mpr c31
        have c31b1 : (t159 != 0) = false := bne_eq_false_iff_eq.mpr c31
        clear c31
        by_cases c32 : t163 = true
        ·
         subst c32
         have H1 : ((runes_Decode.f kj3 t158 t162).bind fun bt164 => (if 3 < (t145.length : Int) then (if 1 ≤ ((rdOf ByteArray.empty t145 3).size : Int) then (some (bt164.1, (rdOf ByteArray.empty t145 3).extract 1 (rdOf ByteArray.empty t145 3).size, 0)) else (none)) else (none))) = some (r1, r2, r3) := by rw [if_pos rfl] at H; exact H
         clear H
         have H := H1
         clear H1
         obtain ⟨⟨t164, t165⟩, A33, H⟩ := bindQ H
         replace H : (if 3 < (t145.length : Int) then (if 1 ≤ ((rdOf ByteArray.empty t145 3).size : Int) then (some (t164, (rdOf ByteArray.empty t145 3).extract 1 (rdOf ByteArray.empty t145 3).size, 0)) else (none)) else (none)) = some (r1, r2, r3) := H
         by_cases c34 : 3 < (t145.length : Int)
         ·
          rw [if_pos c34] at H
          have c34b0 : decide (3 < (t145.length : Int)) = true := decide_eq_true c34
          have c34b1 : decide (3 < t145.length) = true := decide_eq_true (by omega)
          clear c34
          by_cases c35 : 1 ≤ ((rdOf ByteArray.empty t145 3).size : Int)
          ·
           rw [if_pos c35] at H
           have c35b0 := eq_true c35
           have c35b1 : decide (1 ≤ ((rdOf ByteArray.empty t145 3).size : Int)) = true := decide_eq_true c35
           clear c35
           simp only [Option.some.injEq, Prod.mk.injEq] at H
           obtain ⟨rfl, rfl, rfl⟩ := H
           obtain ⟨Ao36, co36, eo36⟩ := Kd.R_slice HO_7.out
           subst eo36
           have p154 : 0 ≤ (0 : Int) := (by omega)
           have q154 : 0 < (t145.length : Int) := ofD
           obtain ⟨ad154, e154, hx154_0⟩ := Kd.at_string (Kd.R_reads' HO_7.out).2.2 0 p154 q154
           cases e154
           have qi154 : (0 < t145.length) = True := eq_true (by omega)
           (try rw [show ((0 : Int)).toNat = 0 from rfl] at hx154_0)
           (try rw [Addr.add_zero'] at hx154_0)
           replace p154 := eq_true p154
           replace q154 := eq_true q154
           try go_wp2_with (first | ((with_reducible refine gate_callee (f := 44) rfl ?_); refine goesLQ (some 57) Tryz.func44 #[.string (rdOf ByteArray.empty t145 0), .string (⟨#[42]⟩ : ByteArray)] ?_; (with_reducible refine (strings_Cut.calls (rdOf ByteArray.empty t145 0) (⟨#[42]⟩ : ByteArray) t155 t156 t157 _ ?side1 A26.out).mono ?_); (case side1 => first | exact TX HTAB HB | exact TD HTAB); rintro e w' ⟨rfl, ⟨nd, rfl⟩⟩; refine ⟨_, rfl, ?_⟩) | ((with_reducible refine gate_callee (f := 53) rfl ?_); refine goesLQ (some 63) Tryz.func53 #[.string t155] ?_; (with_reducible refine (runes_Named.calls kj3 t155 t158 t159 _ A27.out).mono ?_); rintro e w37 ⟨rfl, hb⟩; refine ⟨_, rfl, ?_⟩; replace HO_7 := RB HO_7 hb; replace HB := LB HB hb))
           replace HO_7 := Aside0.mk (Kd.R_drew HO_7.out)
           replace HB := Aside0.mk (below_drew1 HB.out)
           have p160 : 0 ≤ (1 : Int) := (by omega)
           have q160 : 1 < (t145.length : Int) := ofD
           obtain ⟨ad160, e160, hx160_0⟩ := Kd.at_string (Kd.R_reads' HO_7.out).2.2 1 p160 q160
           obtain rfl : ad154 = ad160 := (by injection e160)
           (try simp only [show (1 : Int).toNat = 1 from rfl, Nat.reduceMul, Nat.reduceEqDiff, Go.Addr.add, ↓reduceIte] at hx160_0)
           have qi160 : (1 < t145.length) = True := eq_true (by omega)
           (try rw [show ((1 : Int)).toNat = 1 from rfl] at hx160_0)
           replace p160 := eq_true p160
           replace q160 := eq_true q160
           have p161 : 0 ≤ (2 : Int) := (by omega)
           have q161 : 2 < (t145.length : Int) := ofD
           obtain ⟨ad161, e161, hx161_0⟩ := Kd.at_string (Kd.R_reads' HO_7.out).2.2 2 p161 q161
           obtain rfl : ad154 = ad161 := (by injection e161)
           (try simp only [show (2 : Int).toNat = 2 from rfl, Nat.reduceMul, Nat.reduceEqDiff, Go.Addr.add, ↓reduceIte] at hx161_0)
           have qi161 : (2 < t145.length) = True := eq_true (by omega)
           (try rw [show ((2 : Int)).toNat = 2 from rfl] at hx161_0)
           replace p161 := eq_true p161
           replace q161 := eq_true q161
           refine start_ (n := 12) (S := fun w' => w'.cell? ⟨ad154.block, ad154.off + 1, none⟩ = some (.string (rdOf ByteArray.empty t145 1)) ∧ w'.cell? ⟨ad154.block, ad154.off + 2, none⟩ = some (.string (rdOf ByteArray.empty t145 2))) (ds := []) #[false, false, false, false, false, false, false, false, false, false, false, false] (by kernel_rfl) rfl rfl ⟨hx160_0, hx161_0⟩ (fun hHeld => ?_); refine with_tabW word_One.tab7 word_One.bits7 (fun HT_ HW_ => ?_)
           generalize w37.drew = w38 at HO_7 HB hx160_0 hx161_0 hHeld ⊢
           refine pureQ 0 (some 67) HT_ ?_
           refine pureQ 1 (some 68) HT_ ?_
           refine pureQ 3 (some 70) HT_ ?_
           refine pureQ 4 (some 71) HT_ ?_
           refine takeQ 2 (some 69) HT_ HW_ hHeld ?_
           refine takeQ 5 (some 72) HT_ HW_ hHeld ?_
           refine oneQ 6 (some 73) HT_ (fun K hK => ?_)
           refine goesQ Tryz.func112 #[.string (rdOf ByteArray.empty t145 1), .string (rdOf ByteArray.empty t145 2)] ?_
           with_reducible refine (word_bytes.calls kj3 (rdOf ByteArray.empty t145 1) (rdOf ByteArray.empty t145 2) t162 true _ A30.out).mono ?_
           rintro e w39 ⟨rfl, hb⟩
           have HS0_ := (hb.cell (World.block_lt_of_cell? _ _ (hHeld.1))).trans (hHeld.1)
           have HS1_ := (hb.cell (World.block_lt_of_cell? _ _ (hHeld.2))).trans (hHeld.2)
           refine ⟨_, rfl, ?_⟩
           replace HO_7 := RB HO_7 hb
           replace HB := LB HB hb
           refine hK.out _ _ ⟨HS0_, HS1_⟩ (fun hHeld => ?_)
           clear hK K
           refine normQ (some 73) ?_
           refine pureQ 7 (some 66) HT_ ?_
           refine pureQ 8 (some 74) HT_ ?_
           refine pureQ 9 (some 75) HT_ ?_
           refine pureQ 10 (some 13) HT_ ?_
           refine pureQ 11 (some 14) HT_ ?_
           refine done_ (done_of HT_.out (by kernel_rfl)) ?_
           try go_wp2_with (first | ((with_reducible refine gate_callee (f := 55) rfl ?_); refine goesLQ (some 85) Tryz.func55 #[.int .u8 t158, .string t162] ?_; (with_reducible refine (runes_Decode.calls kj3 t158 t162 t164 t165 _ ?side1 A33.out).mono ?_); (case side1 => first | exact TX HTAB HB | exact TD HTAB); rintro e w40 ⟨v166, rfl, ho0, hb⟩; refine ⟨_, rfl, ?_⟩; replace HO_7 := RB HO_7 hb; have HO167 := Aside0.mk (Kd.R_lower ho0 (below_size (LX HB))); replace HB := LB HB hb))
           replace HO_7 := Aside0.mk (Kd.R_drew HO_7.out)
           replace HO167 := Aside0.mk (Kd.R_drew HO167.out)
           replace HB := Aside0.mk (below_drew1 HB.out)
           have p168 : 0 ≤ (3 : Int) := (by omega)
           have q168 : 3 < (t145.length : Int) := ofD
           obtain ⟨ad168, e168, hx168_0⟩ := Kd.at_string (Kd.R_reads' HO_7.out).2.2 3 p168 q168
           obtain rfl : ad154 = ad168 := (by injection e168)
           (try simp only [show (3 : Int).toNat = 3 from rfl, Nat.reduceMul, Nat.reduceEqDiff, Go.Addr.add, ↓reduceIte] at hx168_0)
           have qi168 : (3 < t145.length) = True := eq_true (by omega)
           (try rw [show ((3 : Int)).toNat = 3 from rfl] at hx168_0)
           replace p168 := eq_true p168
           replace q168 := eq_true q168
           refine start_ (n := 8) (S := fun w' => w'.cell? ⟨ad154.block, ad154.off + 3, none⟩ = some (.string (rdOf ByteArray.empty t145 3))) (ds := []) #[false, false, false, false, false, false, false, false] (by kernel_rfl) rfl rfl (hx168_0) (fun hHeld => ?_); refine with_tabW word_One.tab11 word_One.bits11 (fun HT_ HW_ => ?_)
           generalize w40.drew = w41 at HO_7 HO167 HB hx168_0 hHeld ⊢
           refine pureQ 0 (some 88) HT_ ?_
           refine pureQ 1 (some 89) HT_ ?_
           refine pureQ 2 (some 90) HT_ ?_
           refine pureQ 5 (some 2) HT_ ?_
           refine take_ (i := 3) (N := some 91) (v := ?_) (a' := ?_) #[true, true, true, true, false, true, false, false] rfl rfl (take_ofW HT_.out HW_.out (by kernel_rfl)) (fun _ _ _ h => h) (Or.inl ⟨by rfl, ?_⟩) hHeld ?_ ?_
           rotate_left
           ·
            intro w' s0
            go_simp
            with_reducible rfl
           rotate_left
           ·
            simp only [Act.put, List.setIfInBounds_toArray, List.set_cons_zero, List.set_cons_succ, i64_w, i32_w]
            rfl
           refine pureQ 4 (some 92) HT_ ?_
           refine pureQ 6 (some 3) HT_ ?_
           refine pureQ 7 (some 4) HT_ ?_
           refine done_ (done_of HT_.out (by kernel_rfl)) ?_
           try go_wp2
           go_ret3
           exact ⟨_, by first | rfl | (simp [errW_none, errW_some] <;> rfl) | (simp [*, errW_none, errW_some] <;> rfl), by (with_reducible repeat (first | apply Kd.R_alloc | apply Kd.R_drewN | apply Kd.R_drew)); exact HO167.out, LX HB⟩
          ·
           rw [if_neg c35] at H
           exact absurd H (by simp)
         ·
          rw [if_neg c34] at H
          exact absurd H (by simp)
        ·
         replace c32 := Bool.eq_false_iff.mpr c32
         subst c32
         have H1 : (some (([] : List Int), (⟨#[]⟩ : ByteArray), 7)) = some (r1, r2, r3) := by rw [if_neg (show ¬ (false = true) by decide)] at H; exact H
         clear H
         have H := H1
         clear H1
         simp only [Option.some.injEq, Prod.mk.injEq] at H
         obtain ⟨rfl, rfl, rfl⟩ := H
         obtain ⟨Ao42, co42, eo42⟩ := Kd.R_slice HO_7.out
         subst eo42
         have p154 : 0 ≤ (0 : Int) := (by omega)
         have q154 : 0 < (t145.length : Int) := ofD
         obtain ⟨ad154, e154, hx154_0⟩ := Kd.at_string (Kd.R_reads' HO_7.out).2.2 0 p154 q154
         cases e154
         have qi154 : (0 < t145.length) = True := eq_true (by omega)
         (try rw [show ((0 : Int)).toNat = 0 from rfl] at hx154_0)
         (try rw [Addr.add_zero'] at hx154_0)
         replace p154 := eq_true p154
         replace q154 := eq_true q154
         try go_wp2_with (first | ((with_reducible refine gate_callee (f := 44) rfl ?_); refine goesLQ (some 57) Tryz.func44 #[.string (rdOf ByteArray.empty t145 0), .string (⟨#[42]⟩ : ByteArray)] ?_; (with_reducible refine (strings_Cut.calls (rdOf ByteArray.empty t145 0) (⟨#[42]⟩ : ByteArray) t155 t156 t157 _ ?side1 A26.out).mono ?_); (case side1 => first | exact TX HTAB HB | exact TD HTAB); rintro e w' ⟨rfl, ⟨nd, rfl⟩⟩; refine ⟨_, rfl, ?_⟩) | ((with_reducible refine gate_callee (f := 53) rfl ?_); refine goesLQ (some 63) Tryz.func53 #[.string t155] ?_; (with_reducible refine (runes_Named.calls kj3 t155 t158 t159 _ A27.out).mono ?_); rintro e w43 ⟨rfl, hb⟩; refine ⟨_, rfl, ?_⟩; replace HO_7 := RB HO_7 hb; replace HB := LB HB hb))
         replace HO_7 := Aside0.mk (Kd.R_drew HO_7.out)
         replace HB := Aside0.mk (below_drew1 HB.out)
         have p160 : 0 ≤ (1 : Int) := (by omega)
         have q160 : 1 < (t145.length : Int) := ofD
         obtain ⟨ad160, e160, hx160_0⟩ := Kd.at_string (Kd.R_reads' HO_7.out).2.2 1 p160 q160
         obtain rfl : ad154 = ad160 := (by injection e160)
         (try simp only [show (1 : Int).toNat = 1 from rfl, Nat.reduceMul, Nat.reduceEqDiff, Go.Addr.add, ↓reduceIte] at hx160_0)
         have qi160 : (1 < t145.length) = True := eq_true (by omega)
         (try rw [show ((1 : Int)).toNat = 1 from rfl] at hx160_0)
         replace p160 := eq_true p160
         replace q160 := eq_true q160
         have p161 : 0 ≤ (2 : Int) := (by omega)
         have q161 : 2 < (t145.length : Int) := ofD
         obtain ⟨ad161, e161, hx161_0⟩ := Kd.at_string (Kd.R_reads' HO_7.out).2.2 2 p161 q161
         obtain rfl : ad154 = ad161 := (by injection e161)
         (try simp only [show (2 : Int).toNat = 2 from rfl, Nat.reduceMul, Nat.reduceEqDiff, Go.Addr.add, ↓reduceIte] at hx161_0)
         have qi161 : (2 < t145.length) = True := eq_true (by omega)
         (try rw [show ((2 : Int)).toNat = 2 from rfl] at hx161_0)
         replace p161 := eq_true p161
         replace q161 := eq_true q161
         refine start_ (n := 12) (S := fun w' => w'.cell? ⟨ad154.block, ad154.off + 1, none⟩ = some (.string (rdOf ByteArray.empty t145 1)) ∧ w'.cell? ⟨ad154.block, ad154.off + 2, none⟩ = some (.string (rdOf ByteArray.empty t145 2))) (ds := []) #[false, false, false, false, false, false, false, false, false, false, false, false] (by kernel_rfl) rfl rfl ⟨hx160_0, hx161_0⟩ (fun hHeld => ?_); refine with_tabW word_One.tab7 word_One.bits7 (fun HT_ HW_ => ?_)
         generalize w43.drew = w44 at HO_7 HB hx160_0 hx161_0 hHeld ⊢
         refine pureQ 0 (some 67) HT_ ?_
         refine pureQ 1 (some 68) HT_ ?_
         refine pureQ 3 (some 70) HT_ ?_
         refine pureQ 4 (some 71) HT_ ?_
         refine takeQ 2 (some 69) HT_ HW_ hHeld ?_
         refine takeQ 5 (some 72) HT_ HW_ hHeld ?_
         refine oneQ 6 (some 73) HT_ (fun K hK => ?_)
         refine goesQ Tryz.func112 #[.string (rdOf ByteArray.empty t145 1), .string (rdOf ByteArray.empty t145 2)] ?_
         with_reducible refine (word_bytes.calls kj3 (rdOf ByteArray.empty t145 1) (rdOf ByteArray.empty t145 2) t162 false _ A30.out).mono ?_
         rintro e w45 ⟨rfl, hb⟩
         have HS0_ := (hb.cell (World.block_lt_of_cell? _ _ (hHeld.1))).trans (hHeld.1)
         have HS1_ := (hb.cell (World.block_lt_of_cell? _ _ (hHeld.2))).trans (hHeld.2)
         refine ⟨_, rfl, ?_⟩
         replace HO_7 := RB HO_7 hb
         replace HB := LB HB hb
         refine hK.out _ _ ⟨HS0_, HS1_⟩ (fun hHeld => ?_)
         clear hK K
         refine normQ (some 73) ?_
         refine pureQ 7 (some 66) HT_ ?_
         refine pureQ 8 (some 74) HT_ ?_
         refine pureQ 9 (some 75) HT_ ?_
         refine pureQ 10 (some 13) HT_ ?_
         refine pureQ 11 (some 14) HT_ ?_
         refine done_ (done_of HT_.out (by kernel_rfl)) ?_
         try go_wp2
         go_ret3
         exact ⟨_, by first | rfl | (simp [errW_none, errW_some] <;> rfl) | (simp [*, errW_none, errW_some] <;> rfl), by first | exact Kd.R_nil _ _ _ _ _ | exact Kd.N_nil _ _ _ _ _ | exact Kd.V_nil _ _ _ _ _ | exact Kd.Q_nil _ _ _ _ _ | exact Kd.S_nil _ _ _ _ _, LX HB⟩
       ·
        rw [if_neg c31] at H
        have c31b0 : (t159 == 0) = false := beq_eq_false_iff_ne.mpr c31
        have c31b1 : (t159 != 0) = true := bne_iff_ne.mpr c31
        simp only [Option.some.injEq, Prod.mk.injEq] at H
        obtain ⟨rfl, rfl, rfl⟩ := H
        obtain ⟨Ao46, co46, eo46⟩ := Kd.R_slice HO_7.out
        subst eo46
        have p154 : 0 ≤ (0 : Int) := (by omega)
        have q154 : 0 < (t145.length : Int) := ofD
        obtain ⟨ad154, e154, hx154_0⟩ := Kd.at_string (Kd.R_reads' HO_7.out).2.2 0 p154 q154
        cases e154
        have qi154 : (0 < t145.length) = True := eq_true (by omega)
        (try rw [show ((0 : Int)).toNat = 0 from rfl] at hx154_0)
        (try rw [Addr.add_zero'] at hx154_0)
        replace p154 := eq_true p154
        replace q154 := eq_true q154
        try go_wp2_with (first | ((with_reducible refine gate_callee (f := 44) rfl ?_); refine goesLQ (some 57) Tryz.func44 #[.string (rdOf ByteArray.empty t145 0), .string (⟨#[42]⟩ : ByteArray)] ?_; (with_reducible refine (strings_Cut.calls (rdOf ByteArray.empty t145 0) (⟨#[42]⟩ : ByteArray) t155 t156 t157 _ ?side1 A26.out).mono ?_); (case side1 => first | exact TX HTAB HB | exact TD HTAB); rintro e w' ⟨rfl, ⟨nd, rfl⟩⟩; refine ⟨_, rfl, ?_⟩) | ((with_reducible refine gate_callee (f := 53) rfl ?_); refine goesLQ (some 63) Tryz.func53 #[.string t155] ?_; (with_reducible refine (runes_Named.calls kj3 t155 t158 t159 _ A27.out).mono ?_); rintro e w47 ⟨rfl, hb⟩; refine ⟨_, rfl, ?_⟩; replace HO_7 := RB HO_7 hb; replace HB := LB HB hb))
        replace HO_7 := Aside0.mk (Kd.R_drew HO_7.out)
        replace HB := Aside0.mk (below_drew1 HB.out)
        have p160 : 0 ≤ (1 : Int) := (by omega)
        have q160 : 1 < (t145.length : Int) := ofD
        obtain ⟨ad160, e160, hx160_0⟩ := Kd.at_string (Kd.R_reads' HO_7.out).2.2 1 p160 q160
        obtain rfl : ad154 = ad160 := (by injection e160)
        (try simp only [show (1 : Int).toNat = 1 from rfl, Nat.reduceMul, Nat.reduceEqDiff, Go.Addr.add, ↓reduceIte] at hx160_0)
        have qi160 : (1 < t145.length) = True := eq_true (by omega)
        (try rw [show ((1 : Int)).toNat = 1 from rfl] at hx160_0)
        replace p160 := eq_true p160
        replace q160 := eq_true q160
        have p161 : 0 ≤ (2 : Int) := (by omega)
        have q161 : 2 < (t145.length : Int) := ofD
        obtain ⟨ad161, e161, hx161_0⟩ := Kd.at_string (Kd.R_reads' HO_7.out).2.2 2 p161 q161
        obtain rfl : ad154 = ad161 := (by injection e161)
        (try simp only [show (2 : Int).toNat = 2 from rfl, Nat.reduceMul, Nat.reduceEqDiff, Go.Addr.add, ↓reduceIte] at hx161_0)
        have qi161 : (2 < t145.length) = True := eq_true (by omega)
        (try rw [show ((2 : Int)).toNat = 2 from rfl] at hx161_0)
        replace p161 := eq_true p161
        replace q161 := eq_true q161
        refine start_ (n := 12) (S := fun w' => w'.cell? ⟨ad154.block, ad154.off + 1, none⟩ = some (.string (rdOf ByteArray.empty t145 1)) ∧ w'.cell? ⟨ad154.block, ad154.off + 2, none⟩ = some (.string (rdOf ByteArray.empty t145 2))) (ds := []) #[false, false, false, false, false, false, false, false, false, false, false, false] (by kernel_rfl) rfl rfl ⟨hx160_0, hx161_0⟩ (fun hHeld => ?_); refine with_tabW word_One.tab7 word_One.bits7 (fun HT_ HW_ => ?_)
        generalize w47.drew = w48 at HO_7 HB hx160_0 hx161_0 hHeld ⊢
        refine pureQ 0 (some 67) HT_ ?_
        refine pureQ 1 (some 68) HT_ ?_
        refine pureQ 3 (some 70) HT_ ?_
        refine pureQ 4 (some 71) HT_ ?_
        refine takeQ 2 (some 69) HT_ HW_ hHeld ?_
        refine takeQ 5 (some 72) HT_ HW_ hHeld ?_
        refine oneQ 6 (some 73) HT_ (fun K hK => ?_)
        refine goesQ Tryz.func112 #[.string (rdOf ByteArray.empty t145 1), .string (rdOf ByteArray.empty t145 2)] ?_
        with_reducible refine (word_bytes.calls kj3 (rdOf ByteArray.empty t145 1) (rdOf ByteArray.empty t145 2) t162 t163 _ A30.out).mono ?_
        rintro e w49 ⟨rfl, hb⟩
        have HS0_ := (hb.cell (World.block_lt_of_cell? _ _ (hHeld.1))).trans (hHeld.1)
        have HS1_ := (hb.cell (World.block_lt_of_cell? _ _ (hHeld.2))).trans (hHeld.2)
        refine ⟨_, rfl, ?_⟩
        replace HO_7 := RB HO_7 hb
        replace HB := LB HB hb
        refine hK.out _ _ ⟨HS0_, HS1_⟩ (fun hHeld => ?_)
        clear hK K
        refine normQ (some 73) ?_
        refine pureQ 7 (some 66) HT_ ?_
        refine pureQ 8 (some 74) HT_ ?_
        refine pureQ 9 (some 75) HT_ ?_
        refine pureQ 10 (some 13) HT_ ?_
        refine pureQ 11 (some 14) HT_ ?_
        refine done_ (done_of HT_.out (by kernel_rfl)) ?_
        try go_wp2
        go_ret3
        exact ⟨_, by first | rfl | (simp [errW_none, errW_some] <;> rfl) | (simp [*, errW_none, errW_some] <;> rfl), by first | exact Kd.R_nil _ _ _ _ _ | exact Kd.N_nil _ _ _ _ _ | exact Kd.V_nil _ _ _ _ _ | exact Kd.Q_nil _ _ _ _ _ | exact Kd.S_nil _ _ _ _ _, LX HB⟩
      ·
       rw [if_neg c29] at H
       exact absurd H (by simp)
     ·
      rw [if_neg c28] at H
      exact absurd H (by simp)
    ·
     rw [if_neg c25] at H
     exact absurd H (by simp)
end Go.Proofs.YtigcbajcifhinaaGreatDoor.V
namespace Go
open Go.RowKit
section
variable {F : Fence} {n : Nat} {P : Program}
def SeqRel {α : Type} (F : Fence) (n : Nat) (P : Program) (g : Nat) (lb : Array Value) (encs : α → Array Value) (Kp : World → World → Prop) (G : Nat → α → World → World → Prop) (N : Nat) (w : World) : Prop :=
 ∀ (l : Nat) (J : Nat → World → Prop) (W : World), Below w.heap.size w W →
  (∀ k W0 W1 x, k < N → J k W0 → Below W0.heap.size W0 W1 → G k x W0 W1 → YieldAt F (n - 1) P l (encs x) W1 fun e W' => e = .returned (.bool true) ∧ J (k + 1) W' ∧ Kp W1 W') →
  J 0 W →
  CallsIn F n P g (#[.func (.yield l) #[] #[]] ++ lb) W fun e W' => (∃ v, e = .returned v) ∧ J N W'
def relPost (B : Nat) (Kp : World → World → Prop) (I : Nat → World → Prop) (k : Nat) (W : World) : Exit → Act → World → Prop
 | .normal, _, W' => KeepsFrom B W W' ∧ Kp W W' ∧ I k W'
 | .ret, _, _ => False
 | .exit _, _, _ => False
 | .goto _, _, _ => False
 | .panic _, _, _ => False
 | .outgrown, _, _ => False
theorem wpIn_rangeFunc_rel {α : Type} {g : Operand} {ps : Array Tmp} {assign body : Code} {Q : Exit → Act → World → Prop} {a : Act} {w : World}
  (hro : F.round = none) (h1 : 1 ≤ n) {gf : Nat} {lb : Array Value} (hg : a.eval g = .func (.func gf) #[] lb) (hFg : F.fn gf) (eg : ∀ args w, (callFunc gf args).run P w = .ok (.enter gf args) w)
  {encs : α → Array Value} {Kp : World → World → Prop} {G : Nat → α → World → World → Prop} {N : Nat} {w0 : World} (hseq : SeqRel F (n - 1) P gf lb encs Kp G N w0)
  (hKt : ∀ {A B C : World}, Kp A B → Kp B C → Kp A C) (hKb : ∀ (W : World) (l : Nat) (o o' : Obj), w.heap.size ≤ l → W.heap[l]? = some o → o.isCells = false → o.isWalk = false → Kp W (W.putObj l o')) (hb0 : Below w0.heap.size w0 w) (hps : ∀ x, (encs x).size = ps.size)
  (I : Nat → World → Prop) (hI : OwnFrom w.heap.size I) (h0 : I 0 w) (Ax : Nat → α → Act → World → Prop) (hAx : ∀ k x a', OwnFrom w.heap.size (fun (_ : Unit) W => Ax k x a' W))
  (hassign : ∀ (l : Nat) (k : Nat) (x : α) (W0 W : World) (K : Act → World → Prop), k < N → I k W0 → Below W0.heap.size W0 W → G k x W0 W → (∀ a' W', KeepsFrom w.heap.size W W' → Kp W W' → I k W' → Ax k x a' W' → K a' W') →
   assign.wpIn (F.inRound l) (n - 1 - 1) P (Exit.then K (fun _ _ _ => False)) { tmps := (ps.zip (encs x)).foldl (fun t (p, v) => t.setIfInBounds p v) a.tmps, defers := [] } W)
  (hbody : ∀ (l : Nat) (k : Nat) (x : α) (a' : Act) (W : World), w.heap.size ≤ l → (∃ r, W.heap[l]? = some (.loop r)) → I k W → Ax k x a' W → k < N → body.wpIn (F.inRound l) (n - 1 - 1) P (relPost w.heap.size Kp I (k + 1) W) a' W)
  (hdone : ∀ (D : Nat) (W : World), w.heap.size ≤ D → I N W → W.heap[D]? = some (.deferred (some [])) → Q .normal { a with defers := { target := .collected D, args := #[] } :: a.defers } W) :
  (Code.rangeFunc g ps assign body).wpIn F n P Q a w := by
 refine wpIn_rangeFunc ?_
 intro fn hfn
 rw [hro]
 obtain ⟨rec, hrec⟩ : ∃ rec : LoopState → Option Code → Loop, rec = fun st pe => { state := st, pending := pe, fn, tmps := a.tmps, params := ps, assign, body, defers := w.heap.size } := ⟨_, rfl⟩
 obtain ⟨W1, hW1⟩ : ∃ W1, (w.alloc (.deferred (some []))).alloc (.loop (rec .ready none)) = W1 := ⟨_, rfl⟩
 have hL1 : W1.heap[w.heap.size + 1]? = some (.loop (rec .ready none)) := by
  rw [← hW1]; have := World.alloc_heap_new (w.alloc (.deferred (some []))) (.loop (rec .ready none)); rwa [World.size_alloc] at this
 have hK1 : W1.heap[w.heap.size]? = some (.deferred (some [])) := by
  rw [← hW1]; exact (Below.heap_alloc _ _ _ (by simp)).trans (World.alloc_heap_new w _)
 have hI1 : I 0 W1 := by rw [← hW1]; exact hI.alloc _ (hI.alloc _ h0)
 have hb1 : Below w0.heap.size w0 W1 := by
  rw [← hW1]; exact hb0.trans ((((Below.refl _ w).alloc (Nat.le_refl _) _).alloc (by simp) _).mono hb0.size)
 refine ⟨w.heap.size + 1, [{ target := .collected w.heap.size, args := #[] }], W1, { target := .fn (.func gf) lb, args := #[.func (.yield (w.heap.size + 1)) #[] #[]] }, W1, gf,
  #[.func (.yield (w.heap.size + 1)) #[] #[]] ++ lb, W1, ?_, ?_, ?_, ?_, fun _ => h1, ?_⟩
 · rw [← hW1, hrec]; exact run_enterLoop_outer _ _ _ _ _
 ·
  simp only [resolve, hg]
  simp [go_sem]
 · intro f' hf'; simp [Target.leads] at hf'; subst hf'; exact hFg
 · simp [invoke, go_sem, eg]
 ·
  refine (hseq (w.heap.size + 1)
   (fun k W => I k W ∧ W.heap[w.heap.size + 1]? = some (.loop (rec .ready none)) ∧ W.heap[w.heap.size]? = some (.deferred (some [])))
   W1 hb1
   ?_ ⟨hI1, hL1, hK1⟩).mono ?_
  ·
   rintro k0 W0 W x hlen ⟨hi, hl0, hk0⟩ hbW hGx
   have hl := (hbW.block _ (Array.getElem?_eq_some_iff.1 hl0).1).trans hl0
   have hk := (hbW.block _ (Array.getElem?_eq_some_iff.1 hk0).1).trans hk0
   have hlt : w.heap.size + 1 < W.heap.size := (Array.getElem?_eq_some_iff.1 hl).1
   have hy := run_yield (P := P) (args := encs x) hl (by rw [hrec]; exact hps x)
   rw [hrec] at hy
   refine ⟨fn, _, assign, body, hy, roundIn_of_wpIn hfn (hassign _ k0 x W0 W _ hlen hi hbW hGx ?_)⟩
   clear hy
   intro a' Wa hkfa hkpa hia hax
   replace hl := hkfa.same _ _ (by omega) hl rfl
   replace hk := hkfa.same _ _ (Nat.le_refl _) hk rfl
   replace hlt : w.heap.size + 1 < Wa.heap.size := (Array.getElem?_eq_some_iff.1 hl).1
   replace hi := hia
   clear hia hl0 hk0 hbW hGx
   revert hkpa hkfa
   generalize W = Wb
   intro hkfa hkpa
   obtain ⟨W, rfl⟩ : ∃ W, W = Wa := ⟨_, rfl⟩
   refine ⟨_, run_beginRound hl (by rw [hrec]), ?_⟩
   have hl2 : (W.putObj (w.heap.size + 1) (.loop { rec .ready none with state := .busy })).heap[w.heap.size + 1]? = some (.loop { rec .ready none with state := .busy }) := World.putObj_heap_same hlt
   have hk2 : (W.putObj (w.heap.size + 1) (.loop { rec .ready none with state := .busy })).heap[w.heap.size]? = some (.deferred (some [])) := (World.putObj_heap_other (by omega)).trans hk
   have hw2 : Kp W (W.putObj (w.heap.size + 1) (.loop { rec .ready none with state := .busy })) := hKb _ _ _ _ (by omega) hl rfl rfl
   refine wpIn_mono (hbody _ k0 x a' _ (by omega) ⟨_, hl2⟩ (hI.putObj _ hi (by omega) hl rfl) ((hAx k0 x a').putObj (s := ()) _ hax (by omega) hl rfl) hlen) ?_
   have fin : ∀ (jump : Option Code) (W3 : World), KeepsFrom w.heap.size (W.putObj (w.heap.size + 1) (.loop { rec .ready none with state := .busy })) W3 →
     (Instr.endRound (w.heap.size + 1) jump).run P W3 = .ok (.bool jump.isNone) (W3.putObj (w.heap.size + 1) (.loop (rec (if jump.isNone then .ready else .done) jump))) ∧
     W3.heap[w.heap.size + 1]? = some (.loop { rec .ready none with state := .busy }) ∧
     (W3.putObj (w.heap.size + 1) (.loop (rec (if jump.isNone then .ready else .done) jump))).heap[w.heap.size + 1]? = some (.loop (rec (if jump.isNone then .ready else .done) jump)) ∧
     (W3.putObj (w.heap.size + 1) (.loop (rec (if jump.isNone then .ready else .done) jump))).heap[w.heap.size]? = some (.deferred (some [])) := fun jump W3 hk3 => by
    have hl3 := hk3.same _ _ (by omega) hl2 rfl
    have := run_endRound (P := P) jump hl3
    rw [hrec] at this ⊢
    exact ⟨this, by rw [hrec] at hl3; exact hl3, World.putObj_heap_same (Array.getElem?_eq_some_iff.1 hl3).1, (World.putObj_heap_other (by omega)).trans (hk3.same _ _ (Nat.le_refl _) hk2 rfl)⟩
   rintro e a3 W3 hp
   cases e with
   | normal =>
    obtain ⟨hk3, hkp3, hi3⟩ := hp
    obtain ⟨hr, hl3, hl4, hk4⟩ := fin none W3 hk3
    exact ⟨_, _, hr, ⟨rfl, ⟨hI.putObj _ hi3 (by omega) hl3 rfl, hl4, hk4⟩, hKt hkpa (hKt (hKt hw2 hkp3) (hKb _ _ _ _ (by omega) hl3 rfl rfl))⟩⟩
   | ret => exact hp.elim
   | exit id => exact hp.elim
   | goto t => exact hp.elim
   | panic ch => exact hp.elim
   | outgrown => exact hp.elim
  ·
   rintro e W2 ⟨⟨v, rfl⟩, hi, hl, hk⟩
   exact ⟨none, _, by have := run_endLoop (P := P) hl (by rw [hrec]; simp); rw [hrec] at this; exact this, hdone _ _ (Nat.le_refl _) (hI.putObj _ hi (by omega) hl rfl) ((World.putObj_heap_other (by omega)).trans hk)⟩
end
end Go
namespace Go.Proofs.YtigcbajcifhinaaGreatDoor.Txt
open Go.RowKit Go.Shelf Go.Proofs.YtigcbajcifhinaaGreatDoorW.PrintWords Go.Proofs.YtigcbajcifhinaaGreatDoor.V
attribute [local go_sem] Oper.semAt_some
theorem pieces_in (n : Nat) (s : ByteArray) (w : World) : CallsIn Fence.wide n Tryz.prog 42 #[.string s] w fun e w' => e = .returned (.func (.func 79) #[] #[.pointer (some ⟨w.heap.size, 0, none⟩)]) ∧ w' = w.alloc (.cells #[.string s] 9) := by
 refine callsIn_of_wp Tryz.func42 rfl trivial ?_ rfl
 simp only [Tryz.ntmps42, List.size_toArray, List.length_cons, List.length_nil, Nat.reduceAdd, Nat.reduceSub, Array.replicate_succ, Array.replicate_zero, List.push_toArray, List.append_toArray, List.nil_append, List.cons_append]
 gi_wp2
 go_ret
 exact ⟨rfl, rfl⟩
def PcG (P : List Pc) (k : Nat) (x : Value) (W0 W1 : World) : Prop := ∃ v p, P[k]? = some p ∧ x = .agg #[.string p.ahead, v, .bool p.is] ∧ Kd.R (Kd.int .i32) 21 W1 W0.heap.size (fun _ => True) v p.word
def PcK (Bs : Nat) (A B : World) : Prop := B.heap[Bs]? = A.heap[Bs]? ∧ (Tabs A → Tabs B)
theorem heap_cell {A B : World} {b : Nat} (h : B.heap[b]? = A.heap[b]?) (i : Nat) : B.cell? ⟨b, i, none⟩ = A.cell? ⟨b, i, none⟩ := by simp only [World.cell?, h]
theorem drop_at {α : Type} {P rest : List α} {k : Nat} {p : α} (h : P.drop k = p :: rest) : k < P.length ∧ P[k]? = some p ∧ P.drop (k + 1) = rest := by
 have hk : k < P.length := by
  rcases Nat.lt_or_ge k P.length with hk | hk
  · exact hk
  · rw [List.drop_of_length_le hk] at h; cases h
 rw [List.drop_eq_getElem_cons hk] at h
 injection h with h1 h2
 exact ⟨hk, by rw [List.getElem?_eq_getElem hk, h1], h2⟩
theorem pieces_seq (n : Nat) (hn : 1 ≤ n) (one : OneF) (ho : OneOK one) (Bs : Nat) (s : ByteArray) (P : List Pc) (w : World) (hs : s.size ≤ 1073741824) (hP : pcsL one s s.size 0 0 = some P) (hBs : w.heap[Bs]? = some (.cells #[.string s] 9 (0, 0))) (hT : Tabs w) :
  SeqRel Fence.wide n Tryz.prog 79 #[.pointer (some ⟨Bs, 0, none⟩)] (fun x : Value => #[x]) (PcK Bs) (PcG P) P.length w := by
 intro l J W hW hY h0
 have HY := Lib.hid hY
 have HB0 := Lib.hid (blk_below hBs hW)
 have HT0 := Lib.hid (tabs_below hT hW)
 have H0 := Lib.hid h0
 have HP := Lib.hid hP
 have HO := Lib.hid ho
 have hs64 : (s.size : Int) ≤ 1073741824 := by omega
 have b0 := blk_cell HB0.out 0
 clear hY hBs hT h0 hP ho hW hs
 have h52 : Fence.wide.fn 52 := trivial
 have h80 : Fence.wide.fn 80 := trivial
 refine callsIn_of_wp Tryz.func79 rfl trivial ?_ rfl
 simp only [Tryz.ntmps79, List.size_toArray, List.length_cons, List.length_nil, Nat.reduceAdd, Nat.reduceSub, Array.replicate_succ, Array.replicate_zero, List.push_toArray, List.append_toArray, List.nil_append, List.cons_append]
 gi_wp2
 gi_loopw [3, 4] (fun va vi wr => ∃ (a i m k : Nat) (rest : List Pc) (W0 : World), va = .int .i64 (a : Int) ∧ vi = .int .i64 (i : Int) ∧ Hid (a ≤ i) ∧ Hid (i ≤ s.size) ∧ Hid (pcsL one s m a i = some rest) ∧ Hid (P.drop k = rest) ∧ Hid (J k W0) ∧ Hid (Below W0.heap.size W0 wr) ∧ Hid (wr.heap[Bs]? = some (.cells #[.string s] 9 (0, 0))) ∧ Hid (Tabs wr)) (fun _ vi _ => s.size - (intOf vi).toNat)
 case atStart => exact ⟨0, 0, s.size, 0, P, W, rfl, rfl, Lib.hid (Nat.le_refl _), Lib.hid (Nat.zero_le _), HP, Lib.hid rfl, H0, Lib.hid (Below.refl _ _), HB0, HT0⟩
 case round =>
  obtain ⟨a, i, m, k, rest, W0, rfl, rfl, HAI, HIS, HPC, HDR, HJ, HBW, HBX, HTT⟩ := hrel
  have b1 := blk_cell HBX.out 0
  have hai := HAI.out
  have his := HIS.out
  by_cases hend : i = s.size
  ·
   have hr := pcsL_end HPC.out (by omega)
   subst hr
   obtain ⟨hk, hpk, hdr⟩ := drop_at HDR.out
   have hy := HY.out k W0 wr (.agg #[.string (s.extract a s.size), .slice none 0 0, .bool false]) hk HJ.out HBW.out ⟨.slice none 0 0, _, hpk, rfl, Kd.R_nil _ _ _ _ _⟩
   obtain ⟨fn, tmps, assign, body, hy, hR⟩ := hy
   have hkN : k + 1 = P.length := by
    have := congrArg List.length hdr
    rw [List.length_drop, List.length_nil] at this
    omega
   have HKN := Lib.hid hkN
   have hle : a ≤ s.size := by omega
   subst hend
   clear hk hpk hdr hkN hai his
   gi_wp2
   refine hR.mono ?_
   rintro e W3 ⟨rfl, hJ3, hk3⟩
   gi_wp2
   go_end0
   rw [← HKN.out]
   exact ⟨⟨_, rfl⟩, hJ3⟩
  ·
   have hlt : i < s.size := by omega
   have hlti : (i : Int) < (s.size : Int) := by omega
   have hi64 : (i : Int) ≤ 1073741824 := by omega
   obtain ⟨b, hbb⟩ : ∃ b, isB (s.extract i s.size) = b := ⟨_, rfl⟩
   have HPX := Lib.hid (fun W4 => by have h := Tryz.strings_HasPrefix (s.extract i s.size) (⟨#[61, 63]⟩ : ByteArray) W4; rw [show Lib.hasPrefix (s.extract i s.size).data.toList (⟨#[61, 63]⟩ : ByteArray).data.toList = b from hbb] at h; exact h)
   have HAB := Lib.hid (show a ≤ s.size by omega)
   cases b with
   | false =>
    obtain ⟨j, rfl, hj⟩ := pcsL_skip HPC.out hlt hbb
    have HJ2 := Lib.hid hj
    have HLT := Lib.hid hlt
    clear hbb hj hend his hai
    gi_wp2_with (gi_at_call 52; refine (callsIn_wide.2 (HPX.out _)).mono ?_; rintro e w4 ⟨rfl, rfl⟩)
    go_roundw
    case measure => have := HLT.out; simp [intOf]; omega
    case rel => exact ⟨a, i + 1, j, k, rest, W0, rfl, by go_num, Lib.hid (by have := HAI.out; omega), Lib.hid (by have := HLT.out; omega), HJ2, HDR, HJ, HBW, HBX, HTT⟩
   | true =>
    obtain ⟨j, lw, rw_, why, rfl, h1, h2⟩ := pcsL_one HPC.out hlt hbb
    have HON := Lib.hid (HO.out _ _ _ _ wr HTT.out h1)
    have HLT := Lib.hid hlt
    rcases h2 with ⟨hw, hj⟩ | ⟨rfl, hr1, hr2, Q, rfl, hq⟩
    ·
     have HJ2 := Lib.hid hj
     have hwy : (why != 0) = true := by simpa using hw
     clear hbb hj hend his hai h1 hw
     gi_wp2_with (first | (gi_at_call 52; refine (callsIn_wide.2 (HPX.out _)).mono ?_; rintro e w4 ⟨rfl, rfl⟩) | (gi_at_call 80; refine (callsIn_wide.2 HON.out).mono ?_; rintro e w5 ⟨v5, rfl, hv5, hb5⟩; have HB5 := Lib.hid hb5; clear hv5 hb5))
     go_roundw
     case measure => have := HLT.out; simp [intOf]; omega
     case rel => exact ⟨a, i + 1, j, k, rest, W0, rfl, by go_num, Lib.hid (by have := HAI.out; omega), Lib.hid (by have := HLT.out; omega), HJ2, HDR, HJ, Lib.hid (HBW.out.trans (HB5.out.mono HBW.out.size)), Lib.hid (blk_below HBX.out HB5.out), Lib.hid (tabs_below HTT.out HB5.out)⟩
    ·
     obtain ⟨hk, hpk, hdr⟩ := drop_at HDR.out
     have HPK := Lib.hid hpk
     have HK := Lib.hid hk
     have HD2 := Lib.hid hdr
     have HQ := Lib.hid hq
     have HR1 := Lib.hid hr1
     have HR2 := Lib.hid hr2
     obtain ⟨at2, hat2⟩ : ∃ k : Nat, s.size - rw_.size = k := ⟨_, rfl⟩
     have HAT := Lib.hid hat2
     have hw1 : wrap64 ((s.size : Int) - (rw_.size : Int)) = (at2 : Int) := by rw [← hat2]; exact wrap_diff _ _ hr1 (by omega)
     have hw2 : (s.size : Int) - (rw_.size : Int) = (at2 : Int) := by omega
     have hat64 : (at2 : Int) ≤ 1073741824 := by omega
     have hat1 : (1 : Int) ≤ (at2 : Int) := by omega
     clear hbb hend h1 hk hpk hdr hq hr1 hr2 hat2
     gi_wp2_with (first | (gi_at_call 52; refine (callsIn_wide.2 (HPX.out _)).mono ?_; rintro e w4 ⟨rfl, rfl⟩) | (gi_at_call 80; refine (callsIn_wide.2 HON.out).mono ?_; rintro e w5 ⟨v5, rfl, hv5, hb5⟩; obtain ⟨A5, c5, rfl⟩ := Kd.R_slice hv5; have HB5 := Lib.hid hb5; have HV5 := Lib.hid hv5; have b5 := blk_cell (blk_below HBX.out hb5) 0; obtain ⟨fn, tmps, assign, body, hy, hR⟩ := HY.out k W0 w5 (.agg #[.string (s.extract a i), .slice A5 lw.length c5, .bool true]) HK.out HJ.out (HBW.out.trans (hb5.mono HBW.out.size)) ⟨_, _, HPK.out, rfl, Kd.R_lower hv5 HBW.out.size⟩; clear hv5 hb5))
     refine hR.mono ?_
     rintro e W3 ⟨rfl, hJ3, hk3⟩
     have b3 := (heap_cell hk3.1 0).trans b5
     gi_wp2
     go_roundw
     case measure =>
      have h1 := HR2.out
      have h2 := HAT.out
      show s.size - ((at2 : Int)).toNat < s.size - ((i : Int)).toNat
      omega
     case rel => exact ⟨at2, at2, j, k + 1, Q, W3, rfl, rfl, Lib.hid (Nat.le_refl _), Lib.hid (by have := HAT.out; omega), Lib.hid (by have := HQ.out; rw [HAT.out] at this; exact this), HD2, Lib.hid hJ3, Lib.hid (Below.refl _ _), Lib.hid (hk3.1.trans (blk_below HBX.out HB5.out)), Lib.hid (hk3.2 (tabs_below HTT.out HB5.out))⟩
end Go.Proofs.YtigcbajcifhinaaGreatDoor.Txt
namespace Go.Proofs.YtigcbajcifhinaaGreatDoor.Txt
open Go.RowKit Go.Shelf Go.Proofs.YtigcbajcifhinaaGreatDoorW.PrintWords Go.Proofs.YtigcbajcifhinaaGreatDoor.V
def outD (P : List Pc) : Nat → List Int
 | 0 => []
 | k + 1 => match P[k]? with | some p => stepD k p (outD P k) | none => outD P k
theorem outD_succ {P : List Pc} {k : Nat} {p : Pc} (h : P[k]? = some p) : outD P (k + 1) = stepD k p (outD P k) := by
 rw [outD, h]
theorem foldD_out (P : List Pc) : ∀ (n k : Nat) (r : List Int), n + k = P.length → foldD k (P.drop k) (outD P k) = some r → outD P P.length = r ∧ ∀ j p, k ≤ j → P[j]? = some p → p.ahead.size ≤ 1073741824 ∧ (outD P (j + 1)).length ≤ 1099511627776
 | 0, k, r, hk, h => by
  have hk' : k = P.length := by omega
  subst hk'
  rw [List.drop_length] at h
  injection h with h
  refine ⟨h, fun j p hj hp => ?_⟩
  rw [List.getElem?_eq_none hj] at hp
  cases hp
 | n + 1, k, r, hk, h => by
  have hlt : k < P.length := by omega
  rw [List.drop_eq_getElem_cons hlt] at h
  have hp : P[k]? = some P[k] := List.getElem?_eq_getElem hlt
  unfold foldD at h
  split at h
  ·
   rename_i hb
   rw [← outD_succ hp] at h
   obtain ⟨h1, h2⟩ := foldD_out P n (k + 1) r (by omega) h
   refine ⟨h1, fun j p hj hpj => ?_⟩
   by_cases hjk : j = k
   ·
    subst hjk
    rw [hp] at hpj
    injection hpj with hpj
    subst hpj
    rw [outD_succ hp]
    exact hb
   · exact h2 j p (by omega) hpj
  · cases h
abbrev OffRow (W : World) (row : Option Nat) : Prop := ∀ r, row = some r → ∃ o : Obj, W.heap[r]? = some o ∧ o.isCells = false
theorem own_blk {W W' : World} {row : Option Nat} (hg : W.grownBy W' row) (hr : OffRow W row) {g t : Nat} {cs : Array Value} (h : W.heap[g]? = some (.cells cs t (0, 0))) : W'.heap[g]? = some (.cells cs t (0, 0)) := by
 refine (hg.block g (blk_lt h) (fun e => ?_)).trans h
 obtain ⟨o, ho, hc⟩ := hr g e.symm
 rw [h] at ho
 injection ho with ho
 subst ho
 cases hc
theorem own_R {α : Type} {d : Kd α} {e base : Nat} {ok : Nat → Prop} {v : Value} {xs : List α} {W W' : World} {row : Option Nat} (hg : W.grownBy W' row) (hr : OffRow W row) (h : d.R e W base ok v xs) : d.R e W' base ok v xs := by
 refine Kd.R_mono (Kd.R_move (Kd.R_bound h) (fun k hk => hg.block k hk.2.2.1 (fun e => ?_))) (fun _ h => h.1)
 obtain ⟨_, _, _, q, _, cells, hc⟩ := hk
 obtain ⟨o, ho, hn⟩ := hr k e.symm
 rw [hc] at ho
 injection ho with ho
 subst ho
 cases hn
theorem own_tabs {W W' : World} {row : Option Nat} (hg : W.grownBy W' row) (hr : OffRow W row) (hT : Tabs W) : Tabs W' :=
 ⟨⟨fun c hc => cell_kept (hT.1.1 c hc) hg hr, fun i hi => ⟨cell_kept (hT.1.2 i hi).1 hg hr, cell_kept (hT.1.2 i hi).2 hg hr⟩⟩, hT.2.1.imp fun _ h => cell_kept h hg hr, fun i hi => cell_kept (hT.2.2 i hi) hg hr⟩
structure DecI (w : World) (P : List Pc) (k : Nat) (W : World) : Prop where
 out : ∃ v, W.heap[w.heap.size]? = some (.cells #[v] 22 (0, 0)) ∧ Kd.R (Kd.int .i32) 21 W w.heap.size (fun _ => True) v (outD P k)
 wrd : W.heap[w.heap.size + 1]? = some (.cells #[.int .i64 (k : Int)] 3 (0, 0))
 b : Below w.heap.size w W
 t : Tabs W
 sz : w.heap.size + 3 ≤ W.heap.size
 bx : ∃ cs, W.heap[w.heap.size + 2]? = some (.cells cs 9 (0, 0))
def decFrame (s : ByteArray) (w : World) (g : Nat) (x : Value) : Act := { tmps := #[.string s, undef, .slice none 0 0, .pointer (some ⟨w.heap.size, 0, none⟩), .pointer (some ⟨w.heap.size + 1, 0, none⟩), .pointer (some ⟨g, 0, none⟩), .string s, .func (.func 79) #[] #[.pointer (some ⟨w.heap.size + 2, 0, none⟩)], x, undef, undef, undef, undef, undef, undef, undef, undef, undef, undef, undef, undef, undef, undef, undef, undef, undef, undef, undef, undef, undef, undef, undef, undef, undef], defers := [] }
structure DecA (s : ByteArray) (w : World) (P : List Pc) (k : Nat) (x : Value) (a' : Act) (W : World) : Prop where
 ex : ∃ g A c p vo, P[k]? = some p ∧ w.heap.size + 3 ≤ g ∧ x = .agg #[.string p.ahead, .slice A p.word.length c, .bool p.is] ∧ W.heap[g]? = some (.cells #[.string p.ahead, .slice A p.word.length c, .bool p.is] 88 (0, 0)) ∧
  W.heap[w.heap.size]? = some (.cells #[vo] 22 (0, 0)) ∧ Kd.R (Kd.int .i32) 21 W w.heap.size (fun q => some q ≠ vo.ownBlock) (.slice A p.word.length c) p.word ∧ a' = decFrame s w g x
theorem DecI.own (w : World) (P : List Pc) (B : Nat) (hB : w.heap.size ≤ B) : OwnFrom B (DecI w P) := by
 intro k W W' row h hg hr
 have hr' : OffRow W row := fun r e => (hr r e).2
 obtain ⟨v, h1, h2⟩ := h.out
 refine ⟨⟨v, own_blk hg hr' h1, own_R hg hr' h2⟩, own_blk hg hr' h.wrd, h.b.grown hg h.b.size (fun r e => Nat.le_trans hB (hr r e).1), own_tabs hg hr' h.t, Nat.le_trans h.sz hg.size, h.bx.imp fun _ hx => own_blk hg hr' hx⟩
theorem DecA.own (s : ByteArray) (w : World) (P : List Pc) (B : Nat) (k : Nat) (x : Value) (a' : Act) : OwnFrom B (fun (_ : Unit) W => DecA s w P k x a' W) := by
 intro _ W W' row h hg hr
 have hr' : OffRow W row := fun r e => (hr r e).2
 obtain ⟨g, A, c, p, vo, h1, h2, h3, h4, h5, h6, h7⟩ := h.ex
 exact ⟨⟨g, A, c, p, vo, h1, h2, h3, own_blk hg hr' h4, own_blk hg hr' h5, own_R hg hr' h6, h7⟩⟩
theorem PcK_trans {Bs : Nat} {A B C : World} (h : PcK Bs A B) (k : PcK Bs B C) : PcK Bs A C := ⟨k.1.trans h.1, fun t => k.2 (h.2 t)⟩
theorem PcK_put {Bs : Nat} (W : World) (l : Nat) (o o' : Obj) (hl : Bs < l) (ho : W.heap[l]? = some o) (hc : o.isCells = false) : PcK Bs W (W.putObj l o') :=
 ⟨World.putObj_heap_other (by omega), fun t => own_tabs (grownBy_putObj' W l o') (fun r e => by cases e; exact ⟨o, ho, hc⟩) t⟩
end Go.Proofs.YtigcbajcifhinaaGreatDoor.Txt
