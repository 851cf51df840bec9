/- How often something stands in a list: the printed functions' answers. -/
import Derived.Test.YtfkckhliffbcjaaDoorZ6
import Derived.Test.YtfkckhliffbcjaaDoorG6
namespace Go.Proofs.YtfkckhliffbcjaaDoor.AsksZ
open Go.RowKit Go.Proofs.YtfkckhliffbcjaaDoor.Fold Go.Proofs.YtfkckhliffbcjaaDoor.Z Go.Proofs.YtfkckhliffbcjaaDoorW.PrintWords Go.Proofs.YtfkckhliffbcjaaDoorW.PrintLast

theorem wrap64_id (n : Int) (h1 : -9223372036854775808 ≤ n) (h2 : n ≤ 9223372036854775807) : wrap64 n = n := by unfold wrap64; omega
theorem rd_get (l : List Int) (i : Nat) (h : i < l.length) : rd l (i : Int) = l[i] := by simp [rd, List.getD_eq_getElem?_getD, List.getElem?_eq_getElem h]

theorem drop_rd (l : List Int) (i : Nat) (h : i < l.length) : l.drop i = rd l (i : Int) :: l.drop (i + 1) := by
  rw [List.drop_eq_getElem_cons h, rd_get l i h]

theorem ev_equal_l (a b : List Int) (hab : a.length = b.length) (hl : a.length ≤ 9223372036854775806) : ∀ (d i : Nat), i + d = a.length → Ev (fun k => slices_Equal_int32_int32.l0 k a b (a.length : Int) (i : Int)) (decide (a.drop i = b.drop i)) := by
  intro d
  induction d with
  | zero =>
    intro i hi
    rw [List.drop_of_length_le (by omega), List.drop_of_length_le (by omega)]
    refine Ev.step (fun k => ?_) (Ev.now _)
    simp only [slices_Equal_int32_int32.l0]
    rw [if_neg (by omega)]
    rfl
  | succ d ih =>
    intro i hi
    rw [drop_rd a i (by omega), drop_rd b i (by omega)]
    by_cases h : rd a (i : Int) = rd b (i : Int)
    · have e : decide (rd a (i : Int) :: a.drop (i + 1) = rd b (i : Int) :: b.drop (i + 1)) = decide (a.drop (i + 1) = b.drop (i + 1)) := by simp [h]
      rw [e]
      refine Ev.step (fun k => ?_) (ih (i + 1) (by omega))
      simp only [slices_Equal_int32_int32.l0]
      rw [if_pos (by omega), if_pos (by omega), if_pos (by omega), if_pos (by omega), if_pos h, wrap64_id ((i : Int) + 1) (by omega) (by omega)]
      rfl
    · have e : decide (rd a (i : Int) :: a.drop (i + 1) = rd b (i : Int) :: b.drop (i + 1)) = false := by simp [h]
      rw [e]
      refine Ev.step (fun k => ?_) (Ev.now _)
      simp only [slices_Equal_int32_int32.l0]
      rw [if_pos (by omega), if_pos (by omega), if_pos (by omega), if_pos (by omega), if_neg h]

theorem ev_equal (a b : List Int) (hl : a.length ≤ 9223372036854775806) : Ev (fun k => slices_Equal_int32_int32.f k a b) (decide (a = b)) := by
  by_cases h : a.length = b.length
  · refine Ev.congr (fun k => ?_) (ev_equal_l a b h hl a.length 0 (by omega))
    unfold slices_Equal_int32_int32.f
    rw [if_pos (by omega)]
    rfl
  · have e : decide (a = b) = false := decide_eq_false (fun e => h (by rw [e]))
    rw [e]
    refine Ev.congr (fun k => ?_) (Ev.now _)
    unfold slices_Equal_int32_int32.f
    rw [if_neg (by omega)]

/-- What a list begins with. -/
def pre (l what : List Int) : Bool := decide (l.take what.length = what)

theorem ev_at (l what : List Int) (hl : l.length ≤ 9223372036854775806) : Ev (fun k => fold_at.f k l what) (pre l what) := by
  by_cases h : what.length ≤ l.length
  · refine Ev.congr (fun k => ?_) (Ev.bind (f := fun _ t => some t) (ev_equal (l.take what.length) what (by rw [List.length_take]; omega)) (Ev.now _))
    unfold fold_at.f
    rw [if_pos (by omega), if_pos (by omega), if_pos (by omega)]
    rfl
  · have e : pre l what = false := decide_eq_false (fun e => by
      have := congrArg List.length e
      rw [List.length_take] at this
      omega)
    rw [e]
    refine Ev.congr (fun k => ?_) (Ev.now _)
    unfold fold_at.f
    rw [if_neg (by omega)]

/-- At how many of d places, from i on, it stands. -/
def cnt (l what : List Int) : Nat → Nat → Nat
  | 0, _ => 0
  | d + 1, i => (if pre (l.drop i) what = true then 1 else 0) + cnt l what d (i + 1)

theorem cnt_le (l what : List Int) : ∀ d i, cnt l what d i ≤ d
  | 0, _ => Nat.le_refl _
  | d + 1, i => by
    have := cnt_le l what d (i + 1)
    unfold cnt
    split <;> omega

theorem ev_count_l (l what : List Int) (hl : l.length ≤ 4611686018427387904) : ∀ (d i n : Nat), i + d = l.length + 1 → n ≤ i → Ev (fun k => fold_Count.l0 k l what (n : Int) ((l.length : Int) + 1) (i : Int)) ((n + cnt l what d i : Nat) : Int) := by
  intro d
  induction d with
  | zero =>
    intro i n hi hn
    refine Ev.step (fun k => ?_) (Ev.now _)
    simp only [fold_Count.l0]
    rw [if_neg (by omega)]
    rfl
  | succ d ih =>
    intro i n hi hn
    have ha := ev_at (l.drop i) what (by rw [List.length_drop]; omega)
    refine Ev.step (f := fun k => (fold_at.f k (l.drop i) what).bind fun t => if t = true then fold_Count.l0 k l what ((n + 1 : Nat) : Int) ((l.length : Int) + 1) ((i + 1 : Nat) : Int) else fold_Count.l0 k l what (n : Int) ((l.length : Int) + 1) ((i + 1 : Nat) : Int)) (fun k => ?_) (Ev.bind ha ?_)
    · simp only [fold_Count.l0]
      rw [if_pos (by omega), if_pos (by omega), if_pos (by omega), wrap64_id ((i : Int) + 1) (by omega) (by omega), wrap64_id ((n : Int) + 1) (by omega) (by omega), Int.toNat_natCast]
      rfl
    · unfold cnt
      by_cases h : pre (l.drop i) what = true
      · have h' := ih (i + 1) (n + 1) (by omega) (by omega)
        rw [if_pos h, show n + (1 + cnt l what d (i + 1)) = n + 1 + cnt l what d (i + 1) from by omega]
        refine Ev.congr (fun k => ?_) h'
        rw [if_pos h]
      · have h' := ih (i + 1) n (by omega) (by omega)
        rw [if_neg h, Nat.zero_add]
        refine Ev.congr (fun k => ?_) h'
        rw [if_neg h]

theorem ev_count (l what : List Int) (hl : l.length ≤ 4611686018427387904) : Ev (fun k => fold_Count.f k l what) ((cnt l what (l.length + 1) 0 : Nat) : Int) := by
  have h := ev_count_l l what hl (l.length + 1) 0 0 (by omega) (by omega)
  rw [Nat.zero_add] at h
  refine Ev.congr (fun k => ?_) h
  unfold fold_Count.f
  rw [wrap64_id ((l.length : Int) + 1) (by omega) (by omega)]
  rfl

theorem ev_has_l (l what : List Int) (hl : l.length ≤ 4611686018427387904) : ∀ (d i : Nat), i + d = l.length + 1 → Ev (fun k => fold_Has.l0 k l what ((l.length : Int) + 1) (i : Int)) (decide (0 < cnt l what d i)) := by
  intro d
  induction d with
  | zero =>
    intro i hi
    refine Ev.step (fun k => ?_) (Ev.now _)
    simp only [fold_Has.l0]
    rw [if_neg (by omega)]
    rfl
  | succ d ih =>
    intro i hi
    have ha := ev_at (l.drop i) what (by rw [List.length_drop]; omega)
    refine Ev.step (f := fun k => (fold_at.f k (l.drop i) what).bind fun t => if t = true then some true else fold_Has.l0 k l what ((l.length : Int) + 1) ((i + 1 : Nat) : Int)) (fun k => ?_) (Ev.bind ha ?_)
    · simp only [fold_Has.l0]
      rw [if_pos (by omega), if_pos (by omega), if_pos (by omega), wrap64_id ((i : Int) + 1) (by omega) (by omega), Int.toNat_natCast]
      rfl
    · unfold cnt
      by_cases h : pre (l.drop i) what = true
      · rw [if_pos h, decide_eq_true (by omega)]
        refine Ev.congr (fun k => ?_) (Ev.now _)
        rw [if_pos h]
      · have h' := ih (i + 1) (by omega)
        rw [if_neg h, Nat.zero_add]
        refine Ev.congr (fun k => ?_) h'
        rw [if_neg h]

theorem ev_has (l what : List Int) (hl : l.length ≤ 4611686018427387904) : Ev (fun k => fold_Has.f k l what) (decide (0 < cnt l what (l.length + 1) 0)) := by
  refine Ev.congr (fun k => ?_) (ev_has_l l what hl (l.length + 1) 0 (by omega))
  unfold fold_Has.f
  rw [wrap64_id ((l.length : Int) + 1) (by omega) (by omega)]
  rfl
end Go.Proofs.YtfkckhliffbcjaaDoor.AsksZ
