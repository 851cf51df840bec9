/- How often something stands in a list: the printed functions' answers. -/
import Derived.Test.YtfkckhliffbcjaaDoorX5
import Derived.Test.YtfkckhliffbcjaaDoorG2
namespace Go.Proofs.YtfkckhliffbcjaaDoor.Fold
open Go.RowKit Go.Proofs.YtfkckhliffbcjaaDoor.X Go.Proofs.YtfkckhliffbcjaaDoorW.PrintWords Go.Proofs.YtfkckhliffbcjaaDoorW.PrintLast

theorem drop_rd (l : List Int) (i : Nat) (h : i < l.length) : l.drop i = rd l (i : Int) :: l.drop (i + 1) := by
  rw [List.drop_eq_getElem_cons h, rd_get l i h]

theorem ev_equal_l (a b : List Int) (hab : a.length = b.length) (hl : a.length ≤ 9223372036854775806) : ∀ (d i : Nat), i + d = a.length → Ev (fun k => slices_Equal_int32_int32.l0 k a b (a.length : Int) (i : Int)) (decide (a.drop i = b.drop i)) := by
  intro d
  induction d with
  | zero =>
    intro i hi
    rw [List.drop_of_length_le (by omega), List.drop_of_length_le (by omega)]
    refine Ev.step (fun k => ?_) (Ev.now _)
    simp only [slices_Equal_int32_int32.l0]
    rw [if_neg (by omega)]
    rfl
  | succ d ih =>
    intro i hi
    rw [drop_rd a i (by omega), drop_rd b i (by omega)]
    by_cases h : rd a (i : Int) = rd b (i : Int)
    · have e : decide (rd a (i : Int) :: a.drop (i + 1) = rd b (i : Int) :: b.drop (i + 1)) = decide (a.drop (i + 1) = b.drop (i + 1)) := by simp [h]
      rw [e]
      refine Ev.step (fun k => ?_) (ih (i + 1) (by omega))
      simp only [slices_Equal_int32_int32.l0]
      rw [if_pos (by omega), if_pos (by omega), if_pos (by omega), if_pos (by omega), if_pos h, wrap64_id ((i : Int) + 1) (by omega) (by omega)]
      rfl
    · have e : decide (rd a (i : Int) :: a.drop (i + 1) = rd b (i : Int) :: b.drop (i + 1)) = false := by simp [h]
      rw [e]
      refine Ev.step (fun k => ?_) (Ev.now _)
      simp only [slices_Equal_int32_int32.l0]
      rw [if_pos (by omega), if_pos (by omega), if_pos (by omega), if_pos (by omega), if_neg h]

theorem ev_equal (a b : List Int) (hl : a.length ≤ 9223372036854775806) : Ev (fun k => slices_Equal_int32_int32.f k a b) (decide (a = b)) := by
  by_cases h : a.length = b.length
  · refine Ev.congr (fun k => ?_) (ev_equal_l a b h hl a.length 0 (by omega))
    unfold slices_Equal_int32_int32.f
    rw [if_pos (by omega)]
    rfl
  · have e : decide (a = b) = false := decide_eq_false (fun e => h (by rw [e]))
    rw [e]
    refine Ev.congr (fun k => ?_) (Ev.now _)
    unfold slices_Equal_int32_int32.f
    rw [if_neg (by omega)]

/-- What a list begins with. -/
def pre (l what : List Int) : Bool := decide (l.take what.length = what)

theorem ev_at (l what : List Int) (hl : l.length ≤ 9223372036854775806) : Ev (fun k => fold_at.f k l what) (pre l what) := by
  by_cases h : what.length ≤ l.length
  · refine Ev.congr (fun k => ?_) (Ev.bind (f := fun _ t => some t) (ev_equal (l.take what.length) what (by rw [List.length_take]; omega)) (Ev.now _))
    unfold fold_at.f
    rw [if_pos (by omega), if_pos (by omega), if_pos (by omega)]
    rfl
  · have e : pre l what = false := decide_eq_false (fun e => by
      have := congrArg List.length e
      rw [List.length_take] at this
      omega)
    rw [e]
    refine Ev.congr (fun k => ?_) (Ev.now _)
    unfold fold_at.f
    rw [if_neg (by omega)]

/-- At how many of d places, from i on, it stands. -/
def cnt (l what : List Int) : Nat → Nat → Nat
  | 0, _ => 0
  | d + 1, i => (if pre (l.drop i) what = true then 1 else 0) + cnt l what d (i + 1)

theorem cnt_le (l what : List Int) : ∀ d i, cnt l what d i ≤ d
  | 0, _ => Nat.le_refl _
  | d + 1, i => by
    have := cnt_le l what d (i + 1)
    unfold cnt
    split <;> omega

theorem ev_count_l (l what : List Int) (hl : l.length ≤ 4611686018427387904) : ∀ (d i n : Nat), i + d = l.length + 1 → n ≤ i → Ev (fun k => fold_Count.l0 k l what (n : Int) ((l.length : Int) + 1) (i : Int)) ((n + cnt l what d i : Nat) : Int) := by
  intro d
  induction d with
  | zero =>
    intro i n hi hn
    refine Ev.step (fun k => ?_) (Ev.now _)
    simp only [fold_Count.l0]
    rw [if_neg (by omega)]
    rfl
  | succ d ih =>
    intro i n hi hn
    have ha := ev_at (l.drop i) what (by rw [List.length_drop]; omega)
    refine Ev.step (f := fun k => (fold_at.f k (l.drop i) what).bind fun t => if t = true then fold_Count.l0 k l what ((n + 1 : Nat) : Int) ((l.length : Int) + 1) ((i + 1 : Nat) : Int) else fold_Count.l0 k l what (n : Int) ((l.length : Int) + 1) ((i + 1 : Nat) : Int)) (fun k => ?_) (Ev.bind ha ?_)
    · simp only [fold_Count.l0]
      rw [if_pos (by omega), if_pos (by omega), if_pos (by omega), wrap64_id ((i : Int) + 1) (by omega) (by omega), wrap64_id ((n : Int) + 1) (by omega) (by omega), Int.toNat_natCast]
      rfl
    · unfold cnt
      by_cases h : pre (l.drop i) what = true
      · have h' := ih (i + 1) (n + 1) (by omega) (by omega)
        rw [if_pos h, show n + (1 + cnt l what d (i + 1)) = n + 1 + cnt l what d (i + 1) from by omega]
        refine Ev.congr (fun k => ?_) h'
        rw [if_pos h]
      · have h' := ih (i + 1) n (by omega) (by omega)
        rw [if_neg h, Nat.zero_add]
        refine Ev.congr (fun k => ?_) h'
        rw [if_neg h]

theorem ev_count (l what : List Int) (hl : l.length ≤ 4611686018427387904) : Ev (fun k => fold_Count.f k l what) ((cnt l what (l.length + 1) 0 : Nat) : Int) := by
  have h := ev_count_l l what hl (l.length + 1) 0 0 (by omega) (by omega)
  rw [Nat.zero_add] at h
  refine Ev.congr (fun k => ?_) h
  unfold fold_Count.f
  rw [wrap64_id ((l.length : Int) + 1) (by omega) (by omega)]
  rfl

theorem ev_has_l (l what : List Int) (hl : l.length ≤ 4611686018427387904) : ∀ (d i : Nat), i + d = l.length + 1 → Ev (fun k => fold_Has.l0 k l what ((l.length : Int) + 1) (i : Int)) (decide (0 < cnt l what d i)) := by
  intro d
  induction d with
  | zero =>
    intro i hi
    refine Ev.step (fun k => ?_) (Ev.now _)
    simp only [fold_Has.l0]
    rw [if_neg (by omega)]
    rfl
  | succ d ih =>
    intro i hi
    have ha := ev_at (l.drop i) what (by rw [List.length_drop]; omega)
    refine Ev.step (f := fun k => (fold_at.f k (l.drop i) what).bind fun t => if t = true then some true else fold_Has.l0 k l what ((l.length : Int) + 1) ((i + 1 : Nat) : Int)) (fun k => ?_) (Ev.bind ha ?_)
    · simp only [fold_Has.l0]
      rw [if_pos (by omega), if_pos (by omega), if_pos (by omega), wrap64_id ((i : Int) + 1) (by omega) (by omega), Int.toNat_natCast]
      rfl
    · unfold cnt
      by_cases h : pre (l.drop i) what = true
      · rw [if_pos h, decide_eq_true (by omega)]
        refine Ev.congr (fun k => ?_) (Ev.now _)
        rw [if_pos h]
      · have h' := ih (i + 1) (by omega)
        rw [if_neg h, Nat.zero_add]
        refine Ev.congr (fun k => ?_) h'
        rw [if_neg h]

theorem ev_has (l what : List Int) (hl : l.length ≤ 4611686018427387904) : Ev (fun k => fold_Has.f k l what) (decide (0 < cnt l what (l.length + 1) 0)) := by
  refine Ev.congr (fun k => ?_) (ev_has_l l what hl (l.length + 1) 0 (by omega))
  unfold fold_Has.f
  rw [wrap64_id ((l.length : Int) + 1) (by omega) (by omega)]
  rfl

theorem pre_more (l what : List Int) (x : Int) (h : pre l (what ++ [x]) = true) : pre l what = true := by
  unfold pre at *
  rw [decide_eq_true_eq] at *
  have h2 := congrArg (List.take what.length) h
  rw [List.take_take, List.take_left, List.length_append, List.length_singleton, Nat.min_eq_left (by omega)] at h2
  exact h2

theorem cnt_more (l what : List Int) (x : Int) : ∀ d i, cnt l (what ++ [x]) d i ≤ cnt l what d i
  | 0, _ => Nat.le_refl _
  | d + 1, i => by
    have ih := cnt_more l what x d (i + 1)
    unfold cnt
    by_cases h : pre (l.drop i) (what ++ [x]) = true
    · rw [if_pos h, if_pos (pre_more _ _ _ h)]; omega
    · rw [if_neg h]; omega

theorem cnt_last (l what : List Int) : ∀ d i, i + d = l.length → cnt l what (d + 1) i = cnt l what d i + (if what.length = 0 then 1 else 0)
  | 0, i, hi => by
    unfold cnt cnt
    rw [List.drop_of_length_le (by omega)]
    by_cases h : what.length = 0
    · have : what = [] := List.eq_nil_of_length_eq_zero h
      subst this
      rfl
    · have e : pre [] what = false := decide_eq_false (fun e => h (by rw [List.take_nil] at e; rw [← e]; rfl))
      rw [e, if_neg h]
      rfl
  | d + 1, i, hi => by
    have ih := cnt_last l what d (i + 1) (by omega)
    conv => lhs; unfold cnt
    rw [ih]
    conv => rhs; unfold cnt
    omega

/-- The law's own look at a place, from letter j on. -/
theorem ev_look (l what : List Int) (x2 : Int) (hl : l.length ≤ 4611686018427387904) (hw : what.length ≤ 4611686018427387904) (n i : Nat) (hi : i < l.length) (hn : n ≤ i) (r : Bool)
    (h0 : Ev (fun k => missivelaw07_FoldPlaces.l0 k l what x2 ((n + (if pre (l.drop i) what = true then 1 else 0) : Nat) : Int) (l.length : Int) ((i + 1 : Nat) : Int)) r) (hfit : what.length ≤ l.length - i) :
    ∀ (d j : Nat) (is : Bool), j + d = what.length → (is = true → (l.drop i).take j = what.take j) → (is = false → pre (l.drop i) what = false) → Ev (fun k => missivelaw07_FoldPlaces.l1 k l what x2 (n : Int) (i : Int) is (j : Int) (l.length : Int) (i : Int)) r := by
  have hfalse : ∀ j : Nat, pre (l.drop i) what = false → Ev (fun k => missivelaw07_FoldPlaces.l1 k l what x2 (n : Int) (i : Int) false (j : Int) (l.length : Int) (i : Int)) r := by
    intro j hp
    rw [hp] at h0
    refine Ev.step (fun k => ?_) h0
    simp only [missivelaw07_FoldPlaces.l1]
    rw [if_neg (by decide), wrap64_id ((i : Int) + 1) (by omega) (by omega)]
    rfl
  intro d
  induction d with
  | zero =>
    intro j is hj h1 h2
    cases is with
    | false => exact hfalse j (h2 rfl)
    | true =>
      have e : pre (l.drop i) what = true := by
        unfold pre
        rw [decide_eq_true_eq]
        have := h1 rfl
        rw [show j = what.length from by omega, List.take_length] at this
        exact this
      rw [e] at h0
      refine Ev.step (fun k => ?_) h0
      simp only [missivelaw07_FoldPlaces.l1]
      rw [if_pos trivial, if_neg (by omega), wrap64_id ((i : Int) + 1) (by omega) (by omega), wrap64_id ((n : Int) + 1) (by omega) (by omega)]
      rfl
  | succ d ih =>
    intro j is hj h1 h2
    cases is with
    | false => exact hfalse j (h2 rfl)
    | true =>
      have hij : (i : Int) + (j : Int) = ((i + j : Nat) : Int) := by omega
      have t1 : (l.drop i).take (j + 1) = (l.drop i).take j ++ [rd l ((i + j : Nat) : Int)] := by
        rw [List.take_succ_eq_append_getElem (by rw [List.length_drop]; omega), List.getElem_drop, rd_get l (i + j) (by omega)]
      have t2 : what.take (j + 1) = what.take j ++ [rd what (j : Int)] := by
        rw [List.take_succ_eq_append_getElem (by omega), rd_get what j (by omega)]
      have h' := ih (j + 1) (rd l ((i + j : Nat) : Int) == rd what (j : Int)) (by omega) (fun hq => by
        rw [t1, t2, h1 rfl, beq_iff_eq.1 hq]) (fun hq => by
        refine decide_eq_false (fun e => ?_)
        have e2 := congrArg (List.take (j + 1)) e
        rw [List.take_take, Nat.min_eq_left (by omega), t1, t2, h1 rfl] at e2
        have e3 := List.append_cancel_left e2
        injection e3 with e4
        rw [e4] at hq
        simp at hq)
      refine Ev.step (fun k => ?_) h'
      simp only [missivelaw07_FoldPlaces.l1]
      rw [if_pos trivial, if_pos (by omega), hij, wrap64_id (((i + j : Nat) : Int)) (by omega) (by omega), if_pos (by omega), if_pos (by omega), if_pos (by omega), wrap64_id ((j : Int) + 1) (by omega) (by omega)]
      rfl

end Go.Proofs.YtfkckhliffbcjaaDoor.Fold
