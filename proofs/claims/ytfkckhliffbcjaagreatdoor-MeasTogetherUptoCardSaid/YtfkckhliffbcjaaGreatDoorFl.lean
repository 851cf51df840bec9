/- Small whole numbers as float64. -/
import Derived.WalkKit
import Derived.WalkLawsBesides
namespace Go.Proofs.YtfkckhliffbcjaaGreatDoor.Fl
open Go.RowKit
set_option linter.unusedVariables false
set_option linter.unusedSimpArgs false

/-- The word x stands for the whole number a. -/
def IsNum (x a : Nat) : Prop := ∃ t : Nat, Ieee.double.read x = .number false (a * 2 ^ t) (-(t : Int))

theorem cut_zero (way : Ieee.Toward) (n : Nat) : way.cut false n 0 = n := by
  unfold Ieee.Toward.cut
  simp only [Nat.zero_min, Nat.shiftLeft_zero, Nat.div_one, Nat.mod_one]
  cases way <;> simp

theorem cut_pow (way : Ieee.Toward) (a d s : Nat) (h : d ≤ s) : way.cut false (a * 2 ^ s) d = a * 2 ^ (s - d) := by
  by_cases ha : a = 0
  · subst ha
    unfold Ieee.Toward.cut
    simp only [Nat.zero_mul, Nat.zero_div, Nat.zero_mod]
    cases way <;> simp
  · have hlog : d ≤ (a * 2 ^ s).log2 + 2 := by
      have h1 : 2 ^ s ≤ a * 2 ^ s := Nat.le_mul_of_pos_left _ (Nat.pos_of_ne_zero ha)
      have h2 : s ≤ (a * 2 ^ s).log2 := (Nat.le_log2 (by have := Nat.two_pow_pos s; omega)).2 h1
      omega
    unfold Ieee.Toward.cut
    rw [Nat.min_eq_left hlog, Nat.one_shiftLeft]
    have e : a * 2 ^ s = 2 ^ d * (a * 2 ^ (s - d)) := by
      rw [show 2 ^ s = 2 ^ d * 2 ^ (s - d) by rw [← Nat.pow_add]; congr 1; omega]
      rw [← Nat.mul_assoc, Nat.mul_comm a, Nat.mul_assoc]
    simp only [e, Nat.mul_div_cancel_left _ (Nat.two_pow_pos d), Nat.mul_mod_right]
    have := Nat.two_pow_pos d
    cases way <;> simp <;> omega

/-- The word of a whole number below 2 to the 53. -/
theorem nearest_pos (n t : Nat) (h0 : 0 < n) (h : n < 2 ^ 53) : Ieee.double.nearest false (n * 2 ^ t) (-(t : Int)) = (n.log2 + 1022) * 4503599627370496 + n * 2 ^ (52 - n.log2) := by
  have hl : n.log2 ≤ 52 := by
    have : n.log2 < 53 := (Nat.log2_lt (by omega)).2 h
    omega
  have hm : n * 2 ^ t ≠ 0 := Nat.mul_ne_zero (by omega) (by have := Nat.two_pow_pos t; omega)
  have hlog : (n * 2 ^ t).log2 = n.log2 + t := by
    refine (Nat.log2_eq_iff hm).2 ⟨?_, ?_⟩
    · rw [Nat.pow_add]
      exact Nat.mul_le_mul_right _ (Nat.log2_self_le (by omega))
    · rw [show n.log2 + t + 1 = n.log2 + 1 + t by omega, Nat.pow_add]
      exact Nat.mul_lt_mul_of_pos_right Nat.lt_log2_self (Nat.two_pow_pos t)
  unfold Ieee.Format.nearest
  rw [if_neg hm, hlog]
  have e1 : max (-(t : Int) + ((n.log2 + t : Nat) : Int) - (Ieee.double.fractionBits : Int)) Ieee.double.leastPlace = (n.log2 : Int) - 52 := by
    show max (-(t : Int) + ((n.log2 + t : Nat) : Int) - 52) (-1074) = _
    omega
  rw [e1]
  have e2 : ((n.log2 : Int) - 52 - Ieee.double.leastPlace).toNat = n.log2 + 1022 := by
    show ((n.log2 : Int) - 52 - (-1074)).toNat = _
    omega
  have e3 : Ieee.Toward.even.cut false ((n * 2 ^ t) <<< (-(t : Int) - ((n.log2 : Int) - 52)).toNat) ((n.log2 : Int) - 52 - -(t : Int)).toNat = n * 2 ^ (52 - n.log2) := by
    rw [Nat.shiftLeft_eq, Nat.mul_assoc, ← Nat.pow_add, cut_pow _ _ _ _ (by omega)]
    congr 2
    omega
  show Ieee.double.word false (min (((n.log2 : Int) - 52 - Ieee.double.leastPlace).toNat * Ieee.double.binade + Ieee.Toward.even.cut false ((n * 2 ^ t) <<< (-(t : Int) - ((n.log2 : Int) - 52)).toNat) ((n.log2 : Int) - 52 - -(t : Int)).toNat) Ieee.double.infRung) = _
  rw [e2, e3]
  have e4 : n * 2 ^ (52 - n.log2) < 2 ^ 53 := by
    have h1 : n < 2 ^ (n.log2 + 1) := Nat.lt_log2_self
    have h2 : n * 2 ^ (52 - n.log2) < 2 ^ (n.log2 + 1) * 2 ^ (52 - n.log2) := Nat.mul_lt_mul_of_pos_right h1 (Nat.two_pow_pos _)
    rw [← Nat.pow_add, show n.log2 + 1 + (52 - n.log2) = 53 by omega] at h2
    exact h2
  have p2 : (2 : Nat) ^ 53 = 9007199254740992 := by decide
  have p4 : Ieee.double.binade = 4503599627370496 := by decide
  have p5 : Ieee.double.infRung = 9218868437227405312 := by decide +kernel
  rw [p2] at e4
  unfold Ieee.Format.word
  rw [if_neg (by decide), p4, p5, Nat.min_eq_left]
  revert e4
  generalize n * 2 ^ (52 - n.log2) = m
  intro e4
  omega

theorem read_pos (n : Nat) (h0 : 0 < n) (h : n < 2 ^ 53) : Ieee.double.read ((n.log2 + 1022) * 4503599627370496 + n * 2 ^ (52 - n.log2)) = .number false (n * 2 ^ (52 - n.log2)) (-((52 - n.log2 : Nat) : Int)) := by
  have hl : n.log2 ≤ 52 := by
    have : n.log2 < 53 := (Nat.log2_lt (by omega)).2 h
    omega
  have e4 : n * 2 ^ (52 - n.log2) < 2 ^ 53 := by
    have h1 : n < 2 ^ (n.log2 + 1) := Nat.lt_log2_self
    have h2 : n * 2 ^ (52 - n.log2) < 2 ^ (n.log2 + 1) * 2 ^ (52 - n.log2) := Nat.mul_lt_mul_of_pos_right h1 (Nat.two_pow_pos _)
    rw [← Nat.pow_add, show n.log2 + 1 + (52 - n.log2) = 53 by omega] at h2
    exact h2
  have e5 : 2 ^ 52 ≤ n * 2 ^ (52 - n.log2) := by
    have h1 : 2 ^ n.log2 ≤ n := Nat.log2_self_le (by omega)
    have h2 : 2 ^ n.log2 * 2 ^ (52 - n.log2) ≤ n * 2 ^ (52 - n.log2) := Nat.mul_le_mul_right _ h1
    rw [← Nat.pow_add, show n.log2 + (52 - n.log2) = 52 by omega] at h2
    exact h2
  revert e4 e5
  generalize n * 2 ^ (52 - n.log2) = m
  intro e4 e5
  have p1 : (2 : Nat) ^ 52 = 4503599627370496 := by decide
  have p2 : (2 : Nat) ^ 53 = 9007199254740992 := by decide
  have p3 : Ieee.double.signWeight = 9223372036854775808 := by decide
  have p4 : Ieee.double.binade = 4503599627370496 := by decide
  have p5 : Ieee.double.infRung = 9218868437227405312 := by decide +kernel
  rw [p1] at e5
  rw [p2] at e4
  unfold Ieee.Format.read
  simp only [p3, p4, p5]
  have q1 : ((n.log2 + 1022) * 4503599627370496 + m) / 9223372036854775808 = 0 := by omega
  have q2 : ((n.log2 + 1022) * 4503599627370496 + m) % 9223372036854775808 = (n.log2 + 1022) * 4503599627370496 + m := by omega
  have q3 : ¬ (n.log2 + 1022) * 4503599627370496 + m < 4503599627370496 := by omega
  have q4 : (n.log2 + 1022) * 4503599627370496 + m < 9218868437227405312 := by omega
  have q5 : 4503599627370496 + ((n.log2 + 1022) * 4503599627370496 + m) % 4503599627370496 = m := by omega
  have q6 : ((n.log2 + 1022) * 4503599627370496 + m) / 4503599627370496 - 1 = n.log2 + 1022 := by omega
  have q7 : Ieee.double.leastPlace = -1074 := by decide
  rw [q1, q2, if_neg q3, if_pos q4, q5, q6, q7]
  have q8 : (-1074 : Int) + ((n.log2 + 1022 : Nat) : Int) = -((52 - n.log2 : Nat) : Int) := by omega
  rw [q8]
  rfl

/-- A small number's bits as a float64. -/
def fl (n : Nat) : Nat := floatOfInt .f64 (n : Int)

theorem fl_eq (n : Nat) : fl n = Ieee.double.nearest false n 0 := by
  show Ieee.double.write (.number (decide ((n : Int) < 0)) (n : Int).natAbs 0) = _
  have : decide ((n : Int) < 0) = false := decide_eq_false (by omega)
  rw [this]
  rfl

theorem nearest_fl (n t : Nat) (h : n < 2 ^ 53) : Ieee.double.nearest false (n * 2 ^ t) (-(t : Int)) = fl n := by
  rw [fl_eq]
  by_cases h0 : n = 0
  · subst h0
    rw [Nat.zero_mul]
    unfold Ieee.Format.nearest
    rw [if_pos rfl, if_pos rfl]
  · have h1 := nearest_pos n 0 (by omega) h
    rw [Nat.pow_zero, Nat.mul_one] at h1
    rw [nearest_pos n t (by omega) h, ← h1]
    rfl

theorem fl_num (n : Nat) (h : n < 2 ^ 53) : IsNum (fl n) n := by
  by_cases h0 : n = 0
  · subst h0
    exact ⟨1074, by decide +kernel⟩
  · refine ⟨52 - n.log2, ?_⟩
    rw [← nearest_fl n 0 h, nearest_pos n 0 (by omega) h]
    exact read_pos n (by omega) h

theorem add_num {x y a b : Nat} (hx : IsNum x a) (hy : IsNum y b) (h : a + b < 2 ^ 53) : Ieee.double.add x y = some (fl (a + b)) := by
  obtain ⟨s, hs⟩ := hx
  obtain ⟨t, ht⟩ := hy
  unfold Ieee.Format.add
  rw [hs, ht]
  unfold Ieee.Datum.sum Ieee.signed
  simp only [Bool.false_eq_true, if_false, Bool.and_self, Nat.shiftLeft_eq]
  obtain ⟨T, hT, hTs, hTt⟩ : ∃ T : Nat, min (-(s : Int)) (-(t : Int)) = -(T : Int) ∧ s ≤ T ∧ t ≤ T := ⟨max s t, by omega, by omega, by omega⟩
  rw [hT]
  have e1 : a * 2 ^ s * 2 ^ (-(s : Int) - -(T : Int)).toNat = a * 2 ^ T := by
    rw [Nat.mul_assoc, ← Nat.pow_add]
    congr 2
    omega
  have e2 : b * 2 ^ t * 2 ^ (-(t : Int) - -(T : Int)).toNat = b * 2 ^ T := by
    rw [Nat.mul_assoc, ← Nat.pow_add]
    congr 2
    omega
  have e3 : ((a * 2 ^ T : Nat) : Int) + ((b * 2 ^ T : Nat) : Int) = (((a + b) * 2 ^ T : Nat) : Int) := by
    rw [Nat.add_mul]
    omega
  rw [e1, e2, e3]
  have e4 : decide ((((a + b) * 2 ^ T : Nat) : Int) < 0) = false := decide_eq_false (by omega)
  rw [e4, ite_self, Option.map_some, Int.natAbs_natCast]
  show some (Ieee.double.nearest false ((a + b) * 2 ^ T) (-(T : Int))) = _
  rw [nearest_fl _ _ h]

theorem back_num {x a : Nat} (hx : IsNum x a) (h : a < 2 ^ 53) : floatToIntVal .f64 x .i64 = some (a : Int) := by
  obtain ⟨s, hs⟩ := hx
  unfold floatToIntVal
  have e : (FloatKind.f64.decode x).toInt .zero = some (a : Int) := by
    show (Ieee.double.read x).toInt .zero = _
    rw [hs]
    unfold Ieee.Datum.toInt Ieee.Datum.integral Ieee.signed
    simp only [Bool.false_eq_true, if_false, Nat.shiftLeft_zero, Int.neg_neg, Int.toNat_natCast]
    rw [show (-(s : Int)).toNat = 0 by omega, Nat.shiftLeft_zero, cut_pow _ _ _ _ (Nat.le_refl _), Nat.sub_self, Nat.pow_zero, Nat.mul_one]
  rw [e]
  have p2 : (2 : Nat) ^ 53 = 9007199254740992 := by decide
  simp only
  rw [if_pos]
  show (-9223372036854775808 : Int) ≤ a ∧ (a : Int) ≤ 9223372036854775807
  omega

theorem order_num {x y a b : Nat} (hx : IsNum x a) (hy : IsNum y b) : Ieee.double.order x y = some (compare a b) := by
  obtain ⟨s, hs⟩ := hx
  obtain ⟨t, ht⟩ := hy
  unfold Ieee.Format.order
  rw [hs, ht]
  unfold Ieee.Datum.order Ieee.signed
  simp only [Bool.false_eq_true, if_false, Nat.shiftLeft_eq]
  obtain ⟨T, hT, hTs, hTt⟩ : ∃ T : Nat, min (-(s : Int)) (-(t : Int)) = -(T : Int) ∧ s ≤ T ∧ t ≤ T := ⟨max s t, by omega, by omega, by omega⟩
  rw [hT]
  have e1 : a * 2 ^ s * 2 ^ (-(s : Int) - -(T : Int)).toNat = a * 2 ^ T := by
    rw [Nat.mul_assoc, ← Nat.pow_add]
    congr 2
    omega
  have e2 : b * 2 ^ t * 2 ^ (-(t : Int) - -(T : Int)).toNat = b * 2 ^ T := by
    rw [Nat.mul_assoc, ← Nat.pow_add]
    congr 2
    omega
  rw [e1, e2]
  congr 1
  have hp := Nat.two_pow_pos T
  rw [Int.compare_eq_ite_lt, Nat.compare_eq_ite_lt]
  have c1 : (((a * 2 ^ T : Nat) : Int) < ((b * 2 ^ T : Nat) : Int)) ↔ a < b := by
    rw [Int.ofNat_lt]
    exact Nat.mul_lt_mul_right hp
  have c2 : (((b * 2 ^ T : Nat) : Int) < ((a * 2 ^ T : Nat) : Int)) ↔ b < a := by
    rw [Int.ofNat_lt]
    exact Nat.mul_lt_mul_right hp
  simp only [c1, c2]
end Go.Proofs.YtfkckhliffbcjaaGreatDoor.Fl
