/- Sums of gauges do not hang on the order: the plain law behind the statement MeasTogether. -/
import Derived.Test.YtfkckhliffbcjaaGreatDoorM2
namespace Go.Proofs.YtfkckhliffbcjaaGreatDoor.Meas
open Go.RowKit Go.Proofs.YtfkckhliffbcjaaGreatDoor.V Go.Proofs.YtfkckhliffbcjaaGreatDoorW.PrintWords

def t0 (l : List S24) : Int := (l.map S24.f0).sum
def t1 (l : List S24) : Int := (l.map S24.f1).sum
def t2 (l : List S24) : Int := (l.map S24.f2).sum

theorem tots_pos : ∀ (l : List S24), allG l = true → 0 ≤ t0 l ∧ 0 ≤ t1 l ∧ 0 ≤ t2 l ∧ t2 l ≤ t0 l
  | [], _ => by simp [t0, t1, t2]
  | g :: l, h => by
    unfold allG at h
    rw [List.all_cons, Bool.and_eq_true] at h
    obtain ⟨hg, hl⟩ := h
    obtain ⟨i0, i1, i2, i3⟩ := tots_pos l hl
    obtain ⟨p0, p1, p2, p3, p4, p5⟩ := of_decide_eq_true hg
    simp only [t0, t1, t2, List.map_cons, List.sum_cons] at *
    omega

/-- Gauges together are the sums of what they count, or too many. -/
def endG (l : List S24) (i b d : Int) : Int × Int × Int × Int := if okN (i + t0 l) (b + t1 l) (d + t2 l) = true then (i + t0 l, b + t1 l, d + t2 l, 0) else (0, 0, 0, 15)

theorem goG_end : ∀ (l : List S24), allG l = true → ∀ (i b d : Nat), okN i b d = true → goG l i b d = endG l i b d
  | [], _, i, b, d, h => by
    unfold endG goG
    simp only [t0, t1, t2, List.map_nil, List.sum_nil, Int.add_zero]
    rw [if_pos h]
  | g :: l, h, i, b, d, hk => by
    have hpos := tots_pos l (by unfold allG at h ⊢; rw [List.all_cons, Bool.and_eq_true] at h; exact h.2)
    have hl : allG l = true := by unfold allG at h ⊢; rw [List.all_cons, Bool.and_eq_true] at h; exact h.2
    have hg : okG g = true := by unfold allG at h; rw [List.all_cons, Bool.and_eq_true] at h; exact h.1
    obtain ⟨p0, p1, p2, p3, p4, p5⟩ := of_decide_eq_true hg
    have e0 : ((i + g.f0.toNat : Nat) : Int) = (i : Int) + g.f0 := by omega
    have e1 : ((b + g.f1.toNat : Nat) : Int) = (b : Int) + g.f1 := by omega
    have e2 : ((d + g.f2.toNat : Nat) : Int) = (d : Int) + g.f2 := by omega
    have s0 : t0 (g :: l) = g.f0 + t0 l := by simp [t0]
    have s1 : t1 (g :: l) = g.f1 + t1 l := by simp [t1]
    have s2 : t2 (g :: l) = g.f2 + t2 l := by simp [t2]
    unfold goG
    cases hn : okN ((i : Int) + g.f0) ((b : Int) + g.f1) ((d : Int) + g.f2) with
    | true =>
      have ih := goG_end l hl (i + g.f0.toNat) (b + g.f1.toNat) (d + g.f2.toNat) (by rw [e0, e1, e2]; exact hn)
      rw [if_pos rfl, ih, e0, e1, e2]
      unfold endG
      rw [s0, s1, s2, ← Int.add_assoc, ← Int.add_assoc, ← Int.add_assoc]
    | false =>
      rw [if_neg (by decide)]
      obtain ⟨k0, k1, k2, k3, k4, k5⟩ := of_decide_eq_true hk
      have hn' := of_decide_eq_false hn
      have hf : okN ((i : Int) + t0 (g :: l)) ((b : Int) + t1 (g :: l)) ((d : Int) + t2 (g :: l)) = false := by
        refine decide_eq_false fun hc => hn' ?_
        rw [s0, s1, s2] at hc
        omega
      unfold endG
      rw [hf]
      rfl

theorem sumG_end (l : List S24) : sumG l = if allG l = true then endG l 0 0 0 else (0, 0, 0, 2) := by
  unfold sumG
  cases h : allG l with
  | false => rfl
  | true => exact goG_end l h 0 0 0 (by decide)

theorem allG_append (a b : List S24) : allG (a ++ b) = (allG a && allG b) := by simp [allG]
theorem t0_append (a b : List S24) : t0 (a ++ b) = t0 a + t0 b := by simp [t0]
theorem t1_append (a b : List S24) : t1 (a ++ b) = t1 a + t1 b := by simp [t1]
theorem t2_append (a b : List S24) : t2 (a ++ b) = t2 a + t2 b := by simp [t2]

theorem sumG_swap (a b : List S24) : sumG (a ++ b) = sumG (b ++ a) := by
  rw [sumG_end, sumG_end, allG_append, allG_append, Bool.and_comm]
  unfold endG
  rw [t0_append, t1_append, t2_append, t0_append, t1_append, t2_append, Int.add_comm (t0 b), Int.add_comm (t1 b), Int.add_comm (t2 b)]

/-- Where all is well, two parts' sums are the whole's. -/
theorem sumG_parts (a b : List S24) (h1 : (sumG (a ++ b)).2.2.2 = 0) (h3 : (sumG a).2.2.2 = 0) (h4 : (sumG b).2.2.2 = 0) :
    sumG [⟨(sumG a).1, (sumG a).2.1, (sumG a).2.2.1⟩, ⟨(sumG b).1, (sumG b).2.1, (sumG b).2.2.1⟩] = sumG (a ++ b) := by
  have full : ∀ l : List S24, (sumG l).2.2.2 = 0 → okN (t0 l) (t1 l) (t2 l) = true ∧ sumG l = (t0 l, t1 l, t2 l, 0) := by
    intro l h
    rw [sumG_end] at h ⊢
    cases hl : allG l with
    | false => rw [hl] at h; simp at h
    | true =>
      rw [hl] at h
      simp only [if_true] at h ⊢
      unfold endG at h ⊢
      simp only [Int.zero_add] at h ⊢
      cases ho : okN (t0 l) (t1 l) (t2 l) with
      | false => rw [ho] at h; simp at h
      | true => exact ⟨rfl, rfl⟩
  obtain ⟨o1, e1⟩ := full _ h1
  obtain ⟨o3, e3⟩ := full _ h3
  obtain ⟨o4, e4⟩ := full _ h4
  rw [e1, e3, e4, sumG_end]
  have hall : allG [⟨t0 a, t1 a, t2 a⟩, ⟨t0 b, t1 b, t2 b⟩] = true := by simp [allG, okG, o3, o4]
  rw [hall, if_pos rfl]
  unfold endG
  have s0 : t0 [⟨t0 a, t1 a, t2 a⟩, ⟨t0 b, t1 b, t2 b⟩] = t0 (a ++ b) := by rw [t0_append]; simp [t0]
  have s1 : t1 [⟨t0 a, t1 a, t2 a⟩, ⟨t0 b, t1 b, t2 b⟩] = t1 (a ++ b) := by rw [t1_append]; simp [t1]
  have s2 : t2 [⟨t0 a, t1 a, t2 a⟩, ⟨t0 b, t1 b, t2 b⟩] = t2 (a ++ b) := by rw [t2_append]; simp [t2]
  rw [s0, s1, s2]
  simp only [Int.zero_add]
  rw [if_pos o1]
end Go.Proofs.YtfkckhliffbcjaaGreatDoor.Meas
