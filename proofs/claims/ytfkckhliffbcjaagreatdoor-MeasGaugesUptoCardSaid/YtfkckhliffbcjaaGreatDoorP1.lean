/- Gauges by the reference: the plain law behind the statement MeasGauges. -/
import Derived.Test.YtfkckhliffbcjaaGreatDoorP0
import Derived.Test.YtfkckhliffbcjaaGreatDoorV5
namespace Go.Proofs.YtfkckhliffbcjaaGreatDoor.Meas
open Go.RowKit Go.Proofs.YtfkckhliffbcjaaGreatDoor.V Go.Proofs.YtfkckhliffbcjaaGreatDoorW.PrintWords Go.Proofs.YtfkckhliffbcjaaGreatDoorW.PrintLast
open Go.Proofs.YtfkckhliffbcjaaGreatDoor.Tier (pickR pick_f ev_rPick wrap64_id)

theorem rcheck_f (i b d : Int) : missiveref34_Check.f i b d = some (if okN i b d = true then 0 else 2) := by
  unfold missiveref34_Check.f
  by_cases h : 0 ≤ i ∧ 0 ≤ b ∧ 0 ≤ d ∧ i ≤ 65536 ∧ b ≤ 1099511627776 ∧ d ≤ i
  · have e : okN i b d = true := decide_eq_true h
    rw [e, if_neg (by omega), if_neg (by omega), if_neg (by omega), if_neg (by omega), if_neg (by omega), if_neg (by omega)]
    rfl
  · have e : okN i b d = false := decide_eq_false h
    rw [e]
    simp only [Bool.false_eq_true, if_false]
    repeat' split
    all_goals first | rfl | (exfalso; omega)

theorem vcheck_f (i b d : Int) : V.meas_Check.f i b d = some (if okN i b d = true then 0 else 2) := (rfl : V.meas_Check.f i b d = Meas.meas_Check.f i b d).trans (check_f i b d)

theorem waste_f (i b d : Int) : ∃ p, meas_Waste.f i b d = some p ∧ missiveref34_Waste.f i b d = some p := by
  unfold meas_Waste.f missiveref34_Waste.f
  rw [vcheck_f, rcheck_f]
  simp only [Option.bind_some]
  cases e : okN i b d with
  | false => exact ⟨(0, 2), rfl, rfl⟩
  | true =>
    obtain ⟨h0, h1, h2, h3, h4, h5⟩ := of_decide_eq_true e
    simp only [if_true]
    by_cases h : i = 0
    · have hd : d = 0 := by omega
      subst h hd
      exact ⟨(0, 0), by decide +kernel, rfl⟩
    · have hm : mx 1 i = i := by unfold mx; split <;> omega
      rw [hm, if_neg h, if_neg h]
      exact ⟨_, rfl, rfl⟩

theorem rd24 (l : List S24) (i : Nat) (h : i < l.length) : rd_T24 l (i : Int) = l[i] := by
  simp [rd_T24, List.getD_eq_getElem?_getD, List.getElem?_eq_getElem h]

def sizesG (l : List S24) : List Int := l.map fun g => mx 1 g.f0
def dueR (l : List S24) (fan : Int) : List Int × Int := if allG l = true then pickR (sizesG l) fan else ([], 2)
def fillG (l : List S24) (i : Nat) : List Int := (sizesG l).take i ++ List.replicate (l.length - i) 0

theorem sizesG_length (l : List S24) : (sizesG l).length = l.length := by simp [sizesG]
theorem fillG_length (l : List S24) (i : Nat) (h : i ≤ l.length) : (fillG l i).length = l.length := by
  simp [fillG, sizesG_length]; omega
theorem fillG_set (l : List S24) (i : Nat) (h : i < l.length) : (fillG l i).set i (mx 1 (rd_T24 l (i : Int)).f0) = fillG l (i + 1) := by
  have hm : i < (sizesG l).length := by rw [sizesG_length]; exact h
  have hg : (sizesG l)[i] = mx 1 (rd_T24 l (i : Int)).f0 := by rw [rd24 l i h]; simp [sizesG]
  unfold fillG
  rw [List.set_append_right _ _ (by simp; omega), List.take_succ_eq_append_getElem hm, hg]
  have hl : ((sizesG l).take i).length = i := by simp; omega
  rw [hl, Nat.sub_self, show l.length - i = (l.length - (i + 1)) + 1 from by omega, List.replicate_succ, List.set_cons_zero]
  simp

theorem ev_due_l (l : List S24) (fan : Int) (hb : l.length ≤ 1048576) : ∀ (n i : Nat), i + n = l.length → Ev (fun k => meas_Due.l0 k fan (fillG l i) l (l.length : Int) (i : Int)) (pickR (sizesG l) fan)
  | 0, i, h => by
    refine Ev.step (fun k => ?_) (Ev.now _)
    simp only [meas_Due.l0]
    have e : fillG l i = sizesG l := by
      unfold fillG
      rw [List.take_of_length_le (by rw [sizesG_length]; omega), show l.length - i = 0 by omega]
      simp
    rw [if_neg (by omega), e, pick_f]
    rfl
  | n + 1, i, h => by
    refine Ev.step (fun k => ?_) (ev_due_l l fan hb n (i + 1) (by omega))
    simp only [meas_Due.l0]
    have hl := fillG_length l i (by omega)
    rw [if_pos (by omega), if_pos (by omega), if_pos (by omega), if_pos (by rw [hl]; omega), Int.toNat_natCast, fillG_set l i (by omega), wrap64_id ((i : Int) + 1) (by omega) (by omega)]
    rfl

theorem ev_due (l : List S24) (fan : Int) (hb : l.length ≤ 1048576) : Ev (fun k => meas_Due.f k l fan) (dueR l fan) := by
  unfold dueR
  cases e : allG l with
  | false =>
    refine Ev.congr (fun k => ?_) (Ev.now _)
    unfold meas_Due.f meas_checked.f
    rw [e]
    rfl
  | true =>
    have h := ev_due_l l fan hb l.length 0 (by omega)
    refine Ev.congr (fun k => ?_) h
    unfold meas_Due.f meas_checked.f
    rw [e]
    simp only [Option.bind_some, if_true, Int.toNat_natCast]
    have h1 : (0 : Int) ≤ (l.length : Int) := by omega
    have h2 : l.length ≤ 35184372088832 := by omega
    rw [if_pos h1, if_pos h2]
    unfold fillG
    simp

theorem ev_rdue_l (l : List S24) (fan : Int) (hb : l.length ≤ 1048576) : ∀ (n i : Nat), i + n = l.length → Ev (fun k => missiveref34_Due.l0 k fan ((sizesG l).take i) l (l.length : Int) (i : Int)) (if (l.drop i).all okG = true then pickR (sizesG l) fan else ([], 2))
  | 0, i, h => by
    have e : (sizesG l).take i = sizesG l := List.take_of_length_le (by rw [sizesG_length]; omega)
    rw [List.drop_of_length_le (by omega), e]
    have hp := ev_rPick (sizesG l) fan (by rw [sizesG_length]; omega)
    refine Ev.step (f := fun k => (missiveref17_Pick.f k (sizesG l) fan).bind fun bt145 => (some (bt145.1, bt145.2))) (fun k => ?_) (Ev.bind hp (Ev.now _))
    simp only [missiveref34_Due.l0]
    rw [if_neg (by omega)]
  | n + 1, i, h => by
    have hi : i < l.length := by omega
    have hd := drop_rd24 l i hi
    have hm : i < (sizesG l).length := by rw [sizesG_length]; exact hi
    have ht : ((sizesG l).take i).length = i := by simp; omega
    have hs : (sizesG l).take i ++ [mx 1 (rd_T24 l (i : Int)).f0] = (sizesG l).take (i + 1) := by
      rw [List.take_succ_eq_append_getElem hm]
      congr 1
      rw [rd24 l i hi]
      simp [sizesG]
    rw [hd, List.all_cons]
    cases e : okG (rd_T24 l (i : Int)) with
    | false =>
      rw [Bool.false_and]
      refine Ev.step (fun k => ?_) (Ev.now _)
      simp only [missiveref34_Due.l0]
      rw [if_pos (by omega), if_pos (by omega), if_pos (by omega), rcheck_f, show okN (rd_T24 l (i : Int)).f0 (rd_T24 l (i : Int)).f1 (rd_T24 l (i : Int)).f2 = false from e]
      rfl
    | true =>
      rw [Bool.true_and]
      refine Ev.step (fun k => ?_) (ev_rdue_l l fan hb n (i + 1) (by omega))
      simp only [missiveref34_Due.l0]
      rw [if_pos (by omega), if_pos (by omega), if_pos (by omega), rcheck_f, show okN (rd_T24 l (i : Int)).f0 (rd_T24 l (i : Int)).f1 (rd_T24 l (i : Int)).f2 = true from e]
      simp only [Option.bind_some, if_true]
      rw [if_pos (by rw [ht]; omega), hs, wrap64_id ((i : Int) + 1) (by omega) (by omega)]
      rfl

theorem ev_rdue (l : List S24) (fan : Int) (hb : l.length ≤ 1048576) : Ev (fun k => missiveref34_Due.f k l fan) (dueR l fan) := by
  have h := ev_rdue_l l fan hb l.length 0 (by omega)
  rw [List.drop_zero, List.take_zero] at h
  exact h

theorem wrap_add (a b : Nat) (ha : a ≤ 2199023255552) (hb : b ≤ 2199023255552) : wrap64 ((a : Int) + b) = ((a + b : Nat) : Int) := by
  rw [wrap64_id _ (by omega) (by omega)]
  omega
theorem nat_of (n c : Nat) (x : Int) (e : x = (n : Int)) (h : x ≤ (c : Int)) : n ≤ c := by omega

set_option maxHeartbeats 1000000 in
theorem ev_rsum1 (l : List S24) (hb : l.length ≤ 1048576) (hall : ∀ x ∈ l, okG x = true) : ∀ (n q : Nat) (i b d : Nat), q + n = l.length → i ≤ 65536 → b ≤ 1099511627776 → d ≤ i → Ev (fun k => missiveref34_Sum.l1 k l (l.length : Int) (q : Int) (i : Int) (b : Int) (d : Int)) (goG (l.drop q) i b d)
  | 0, q, i, b, d, h, _, _, _ => by
    have hlt : ¬ (q : Int) < (l.length : Int) := by omega
    rw [List.drop_of_length_le (by omega)]
    refine Ev.step (fun k => ?_) (Ev.now _)
    simp only [missiveref34_Sum.l1]
    rw [if_neg hlt]
    rfl
  | n + 1, q, i, b, d, h, hi, hb', hd => by
    have hq : q < l.length := by omega
    have hq1 : q + 1 + n = l.length := by omega
    have hlt : (q : Int) < (l.length : Int) := by omega
    have hge : 0 ≤ (q : Int) := by omega
    have w3 : wrap64 ((q : Int) + 1) = ((q + 1 : Nat) : Int) := by rw [wrap64_id _ (by omega) (by omega)]; omega
    have hok := hall l[q] (List.getElem_mem hq)
    rw [drop_rd24 l q hq]
    rw [← rd24 l q hq] at hok
    generalize hg : rd_T24 l (q : Int) = g at hok
    obtain ⟨p0, p1, p2, p3, p4, p5⟩ := of_decide_eq_true hok
    obtain ⟨n0, e0⟩ := Int.eq_ofNat_of_zero_le p0
    obtain ⟨n1, e1⟩ := Int.eq_ofNat_of_zero_le p1
    obtain ⟨n2, e2⟩ := Int.eq_ofNat_of_zero_le p2
    have q0 : n0 ≤ 65536 := nat_of n0 65536 _ e0 p3
    have q1 : n1 ≤ 1099511627776 := nat_of n1 1099511627776 _ e1 p4
    have q2 : n2 ≤ 65536 := nat_of n2 65536 _ e2 (Int.le_trans p5 p3)
    clear p0 p1 p2 p3 p4 p5 hok
    unfold goG
    rw [e0, e1, e2]
    have w0 := wrap_add i n0 (Nat.le_trans hi (by decide)) (Nat.le_trans q0 (by decide))
    have w1 := wrap_add b n1 (Nat.le_trans hb' (by decide)) (Nat.le_trans q1 (by decide))
    have w2 := wrap_add d n2 (Nat.le_trans hd (Nat.le_trans hi (by decide))) (Nat.le_trans q2 (by decide))
    simp only [Int.toNat_natCast, ← Int.natCast_add]
    cases e : okN ((i + n0 : Nat) : Int) ((b + n1 : Nat) : Int) ((d + n2 : Nat) : Int) with
    | false =>
      simp only [Bool.false_eq_true, if_false]
      refine Ev.step (fun k => ?_) (Ev.now _)
      simp only [missiveref34_Sum.l1, if_pos hlt, if_pos hge]
      rw [hg, e0, e1, e2, w0, w1, w2, rcheck_f, e]
      simp only [Option.bind_some, Bool.false_eq_true, if_false]
      rfl
    | true =>
      obtain ⟨-, -, -, r1, r2, r3⟩ := of_decide_eq_true e
      simp only [if_true]
      refine Ev.step (fun k => ?_) (ev_rsum1 l hb hall n (q + 1) (i + n0) (b + n1) (d + n2) hq1 (Int.ofNat_le.1 r1) (Int.ofNat_le.1 r2) (Int.ofNat_le.1 r3))
      simp only [missiveref34_Sum.l1, if_pos hlt, if_pos hge]
      rw [hg, e0, e1, e2, w0, w1, w2, w3, rcheck_f, e]
      simp only [Option.bind_some, if_true]

theorem ev_rsum0 (l : List S24) (hb : l.length ≤ 1048576) : ∀ (n i : Nat), i + n = l.length → (∀ x ∈ l.take i, okG x = true) → Ev (fun k => missiveref34_Sum.l0 k l l (l.length : Int) (i : Int)) (if (l.drop i).all okG = true then goG l 0 0 0 else (0, 0, 0, 2))
  | 0, i, h, ht => by
    rw [List.take_of_length_le (by omega)] at ht
    have h1 := ev_rsum1 l hb ht l.length 0 0 0 0 (by omega) (by omega) (by omega) (by omega)
    rw [List.drop_zero] at h1
    rw [List.drop_of_length_le (by omega)]
    refine Ev.step (fun k => ?_) h1
    simp only [missiveref34_Sum.l0]
    rw [if_neg (by omega)]
    rfl
  | n + 1, i, h, ht => by
    have hi : i < l.length := by omega
    rw [drop_rd24 l i hi, List.all_cons]
    cases e : okG (rd_T24 l (i : Int)) with
    | false =>
      rw [Bool.false_and]
      refine Ev.step (fun k => ?_) (Ev.now _)
      simp only [missiveref34_Sum.l0]
      rw [if_pos (by omega), if_pos (by omega), if_pos (by omega), rcheck_f, show okN (rd_T24 l (i : Int)).f0 (rd_T24 l (i : Int)).f1 (rd_T24 l (i : Int)).f2 = false from e]
      rfl
    | true =>
      rw [Bool.true_and]
      refine Ev.step (fun k => ?_) (ev_rsum0 l hb n (i + 1) (by omega) (fun x hx => ?_))
      · simp only [missiveref34_Sum.l0]
        rw [if_pos (by omega), if_pos (by omega), if_pos (by omega), rcheck_f, show okN (rd_T24 l (i : Int)).f0 (rd_T24 l (i : Int)).f1 (rd_T24 l (i : Int)).f2 = true from e, wrap64_id ((i : Int) + 1) (by omega) (by omega)]
        rfl
      · rw [List.take_succ_eq_append_getElem hi, List.mem_append, List.mem_singleton] at hx
        rcases hx with hx | hx
        · exact ht x hx
        · rw [hx, ← rd24 l i hi]
          exact e

theorem ev_rsum (l : List S24) (hb : l.length ≤ 1048576) : Ev (fun k => missiveref34_Sum.f k l) (sumG l) := by
  have h := ev_rsum0 l hb l.length 0 (by omega) (by simp)
  rw [List.drop_zero] at h
  exact h

theorem ev_law1 (l : List S24) (hb : l.length ≤ 1048576) (w1 w2 a b c : Int) : ∀ (n i : Nat), i + n = l.length → Ev (fun k => missivelaw34_MeasGauges.l1 k w1 w1 w2 w2 l (l.length : Int) (i : Int) a b c a b c) true
  | 0, i, h => by
    refine Ev.step (fun k => ?_) (Ev.now _)
    simp only [missivelaw34_MeasGauges.l1]
    rw [if_neg (by omega)]
    simp [missivelaw34_lives.f]
  | n + 1, i, h => by
    refine Ev.step (fun k => ?_) (ev_law1 l hb w1 w2 a b c n (i + 1) (by omega))
    simp only [missivelaw34_MeasGauges.l1]
    obtain ⟨p, hp1, hp2⟩ := waste_f (rd_T24 l (i : Int)).f0 (rd_T24 l (i : Int)).f1 (rd_T24 l (i : Int)).f2
    rw [if_pos (by omega), if_pos (by omega), if_pos (by omega), hp1, hp2, vcheck_f, rcheck_f, wrap64_id ((i : Int) + 1) (by omega) (by omega)]
    simp only [Option.bind_some, if_true, ite_self]
    rfl

theorem ev_law0 (l : List S24) (hb : l.length ≤ 1048576) (p : List Int) (hp : p.length ≤ 1048576) (w1 w2 a b c : Int) : ∀ (n i : Nat), i + n = p.length → Ev (fun k => missivelaw34_MeasGauges.l0 k l w1 w1 p w2 p w2 (p.length : Int) (i : Int) a b c a b c) true
  | 0, i, h => by
    refine Ev.step (fun k => ?_) (ev_law1 l hb w1 w2 a b c l.length 0 (by omega))
    simp only [missivelaw34_MeasGauges.l0]
    rw [if_neg (by omega)]
    rfl
  | n + 1, i, h => by
    have h1 : (i : Int) < (p.length : Int) := by omega
    have h2 : 0 ≤ (i : Int) := by omega
    have hw : wrap64 ((i : Int) + 1) = ((i + 1 : Nat) : Int) := by rw [wrap64_id _ (by omega) (by omega)]; omega
    refine Ev.step (fun k => ?_) (ev_law0 l hb p hp w1 w2 a b c n (i + 1) (by omega))
    simp only [missivelaw34_MeasGauges.l0, if_pos h1, if_pos h2, if_true, hw]

theorem refPick_le (fan : Int) (l : List Int) (f : Nat) : ∀ m t, (Tier.refPick fan l f m t).length ≤ f
  | 0, t => by simp [Tier.refPick]
  | m + 1, t => by
    unfold Tier.refPick
    split
    · simp
      omega
    · exact refPick_le fan l f m (t + 1)

theorem dueR_le (l : List S24) (fan : Int) : (dueR l fan).1.length ≤ 16 := by
  unfold dueR
  split
  · unfold pickR
    split
    · rename_i h
      obtain ⟨h1, h2, h3⟩ := Tier.check_ok _ _ h
      obtain ⟨f, rfl⟩ := Int.eq_ofNat_of_zero_le (show 0 ≤ fan by omega)
      rw [Tier.pickF_eq f _ h2 (by omega)]
      have := refPick_le f (sizesG l) f 64 0
      simp only
      omega
    · simp
  · simp

theorem gauges_law (l : List S24) (fan : Int) (hb : l.length ≤ 1048576) : ∃ k, missivelaw34_MeasGauges.f k l fan = some true := by
  refine Ev.rounds ?_
  have h1 := ev_rsum l hb
  have h2 := ev_due l fan hb
  have h3 := ev_rdue l fan hb
  have h4 := ev_law0 l hb (dueR l fan).1 (by have := dueR_le l fan; omega) (sumG l).2.2.2 (dueR l fan).2 (sumG l).1 (sumG l).2.1 (sumG l).2.2.1 (dueR l fan).1.length 0 (by omega)
  refine Ev.bind (g := fun _ => meas_Sum.f l) (a := sumG l) (Ev.now _) (Ev.bind h1 (Ev.bind h2 (Ev.bind h3 ?_)))
  refine Ev.congr (fun k => ?_) h4
  rw [if_pos rfl]
  rfl
end Go.Proofs.YtfkckhliffbcjaaGreatDoor.Meas
