/- Any lists of letters have their parts, and stand in one another as often as they do: the plain law. -/
import Derived.Test.YtfkckhliffbcjaaDoorGZ3
namespace Go.Proofs.YtfkckhliffbcjaaDoor.AsksZ
open Go.RowKit Go.Proofs.YtfkckhliffbcjaaDoor.Fold Go.Proofs.YtfkckhliffbcjaaDoor.Z Go.Proofs.YtfkckhliffbcjaaDoorW.PrintWords Go.Proofs.YtfkckhliffbcjaaDoorW.PrintLast
set_option linter.unusedVariables false
set_option linter.unusedSimpArgs false

theorem ev_lives : Ev (fun k => missivelaw07_lives.f k) true := Ev.of (fun k => missivelaw07_lives.mono k) (k := 40) (by decide +kernel)

theorem parts_f (l : List Int) (h : l.length ≤ 17592186044416) : fold_Parts.f l = some (partsF l) := by
  unfold fold_Parts.f
  rw [if_pos h, parts_eq]

/-! ### the reference's parts -/
theorem refdigit (c : Int) : missiveref07_digit.f c = some (digF c) := by
  have hv : missiveref06_Is.f c = some (Lib.validRune c) := by
    unfold missiveref06_Is.f Lib.validRune
    by_cases h0 : c ≥ 0
    · rw [if_pos h0]
      by_cases h1 : c ≤ 1114111
      · rw [if_pos h1]
        by_cases h2 : c < 55296
        · rw [if_pos h2]
          congr 1
          exact (decide_eq_true (.inl ⟨h0, h2⟩)).symm
        · rw [if_neg h2]
          congr 1
          exact decide_eq_decide.2 (by omega)
      · rw [if_neg h1]
        congr 1
        exact (decide_eq_false (by omega)).symm
    · rw [if_neg h0]
      congr 1
      exact (decide_eq_false (by omega)).symm
  unfold missiveref07_digit.f digF
  rw [hv, Option.bind_some]
  by_cases h : Lib.validRune c = true
  · have := of_decide_eq_true h
    rw [if_pos h, if_pos h, wrap_u64]
    congr 1
    omega
  · rw [if_neg h, if_neg h]
theorem refpart (a b c : Int) : missiveref07_Part.f a b c = some (triF a b c) := by
  have ha := digF_range a
  have hb := digF_range b
  have hc := digF_range c
  unfold missiveref07_Part.f
  rw [refdigit, refdigit, refdigit, Option.bind_some, Option.bind_some, Option.bind_some]
  unfold triF
  rw [wrap_u64, wrap_u64, wrap_u64, wrap_u64]
  congr 1
  omega

/-- Where a number stands, or would. -/
def atF : List Int → Int → Nat
  | [], _ => 0
  | x :: l, n => if x < n then atF l n + 1 else 0
theorem atF_le (l : List Int) (n : Int) : atF l n ≤ l.length := by
  induction l with
  | nil => exact Nat.le_refl _
  | cons x l ih =>
    unfold atF
    split
    · rw [List.length_cons]; omega
    · exact Nat.zero_le _
theorem atF_low (l : List Int) (n : Int) : ∀ k, k < atF l n → rd l (k : Int) < n := by
  induction l with
  | nil => intro k hk; exact absurd hk (Nat.not_lt_zero _)
  | cons x l ih =>
    intro k hk
    unfold atF at hk
    split at hk
    · cases k with
      | zero => simpa [rd] using (by assumption : x < n)
      | succ k =>
        have := ih k (by omega)
        simpa [rd] using this
    · exact absurd hk (Nat.not_lt_zero _)
theorem atF_high (l : List Int) (n : Int) (h : atF l n < l.length) : ¬ rd l (atF l n : Int) < n := by
  induction l with
  | nil => exact absurd h (Nat.not_lt_zero _)
  | cons x l ih =>
    unfold atF at h ⊢
    by_cases hx : x < n
    · rw [if_pos hx] at h ⊢
      have := ih (by rw [List.length_cons] at h; omega)
      simpa [rd] using this
    · rw [if_neg hx]
      simpa [rd] using hx
theorem put_eq (l : List Int) (n : Int) : Plain.putF l n = if atF l n < l.length ∧ rd l (atF l n : Int) = n then l else l.take (atF l n) ++ [n] ++ l.drop (atF l n) := by
  induction l with
  | nil => simp [Plain.putF, atF]
  | cons x l ih =>
    unfold Plain.putF atF
    by_cases hx : x < n
    · rw [if_pos hx, if_pos hx, ih]
      have e : rd (x :: l) ((atF l n + 1 : Nat) : Int) = rd l (atF l n : Int) := by simp [rd]
      rw [e, List.length_cons]
      by_cases h : atF l n < l.length ∧ rd l (atF l n : Int) = n
      · rw [if_pos h, if_pos ⟨by omega, h.2⟩]
      · rw [if_neg h, if_neg (fun h2 => h ⟨by omega, h2.2⟩)]
        simp
    · rw [if_neg hx, if_neg hx]
      have e : rd (x :: l) ((0 : Nat) : Int) = x := by simp [rd]
      rw [e, List.length_cons]
      by_cases h : x = n
      · rw [if_pos h, if_pos ⟨by omega, h⟩]
      · rw [if_neg h, if_neg (fun h2 => h h2.2)]
        simp

theorem put_step (k : Nat) (l : List Int) (n : Int) (i : Nat) (hi : i < l.length) (hlt : rd l (i : Int) < n) (hl : l.length ≤ 4611686018427387904) : missiveref07_Put.l0 (k + 1) l n (i : Int) = missiveref07_Put.l0 k l n ((i + 1 : Nat) : Int) := by
  simp only [missiveref07_Put.l0]
  rw [if_pos (by omega), if_pos (by omega), if_pos hlt, wrap64_id ((i : Int) + 1) (by omega) (by omega)]
  rfl
theorem put_there (k : Nat) (l : List Int) (n : Int) (i : Nat) (hi : i < l.length) (hlt : ¬ rd l (i : Int) < n) (he : rd l (i : Int) = n) : missiveref07_Put.l0 (k + 1) l n (i : Int) = some l := by
  simp only [missiveref07_Put.l0]
  rw [if_pos (by omega), if_pos (by omega), if_neg hlt, if_pos he]
theorem put_mid (k : Nat) (l : List Int) (n : Int) (i : Nat) (hi : i < l.length) (hlt : ¬ rd l (i : Int) < n) (he : ¬ rd l (i : Int) = n) (hl : l.length ≤ 4398046511104) : missiveref07_Put.l0 (k + 1) l n (i : Int) = some (l.take i ++ [n] ++ l.drop i) := by
  have c1 : ([] : List Int).length + (l.take i).length < 17592186044416 := by rw [List.length_nil, List.length_take]; omega
  have c2 : ([] ++ l.take i : List Int).length + [n].length < 17592186044416 := by rw [List.nil_append, List.length_take, List.length_singleton]; omega
  have c3 : ([] ++ l.take i ++ [n] : List Int).length + (l.drop i).length < 17592186044416 := by rw [List.nil_append, List.length_append, List.length_take, List.length_singleton, List.length_drop]; omega
  simp only [missiveref07_Put.l0, Option.bind_some, Int.toNat_natCast]
  rw [if_pos (by omega), if_pos (by omega), if_neg hlt, if_neg he, if_pos (by omega), if_pos c1, if_pos c2, if_pos c3, List.nil_append]
theorem put_end (k : Nat) (l : List Int) (n : Int) (i : Nat) (hi : i = l.length) (hl : l.length ≤ 4398046511104) : missiveref07_Put.l0 (k + 1) l n (i : Int) = some (l.take i ++ [n] ++ l.drop i) := by
  have c1 : ([] : List Int).length + (l.take i).length < 17592186044416 := by rw [List.length_nil, List.length_take]; omega
  have c2 : ([] ++ l.take i : List Int).length + [n].length < 17592186044416 := by rw [List.nil_append, List.length_take, List.length_singleton]; omega
  have c3 : ([] ++ l.take i ++ [n] : List Int).length + (l.drop i).length < 17592186044416 := by rw [List.nil_append, List.length_append, List.length_take, List.length_singleton, List.length_drop]; omega
  simp only [missiveref07_Put.l0, Option.bind_some, Int.toNat_natCast]
  rw [if_neg (by omega), if_pos (by omega), if_pos (by omega), if_pos c1, if_pos c2, if_pos c3, List.nil_append]

theorem ev_put_l (l : List Int) (n : Int) (hl : l.length ≤ 4398046511104) : ∀ (d i : Nat), i + d = atF l n → Ev (fun k => missiveref07_Put.l0 k l n (i : Int)) (Plain.putF l n) := by
  have hle := atF_le l n
  intro d
  induction d with
  | zero =>
    intro i hi
    have ei : i = atF l n := by omega
    rw [put_eq, ← ei]
    by_cases hlt : i < l.length
    · have hh := atF_high l n (by omega)
      rw [← ei] at hh
      by_cases he : rd l (i : Int) = n
      · rw [if_pos ⟨hlt, he⟩]
        exact Ev.step (fun k => put_there k l n i hlt hh he) (Ev.now _)
      · rw [if_neg (fun h => he h.2)]
        exact Ev.step (fun k => put_mid k l n i hlt hh he hl) (Ev.now _)
    · rw [if_neg (fun h => hlt h.1)]
      exact Ev.step (fun k => put_end k l n i (by omega) hl) (Ev.now _)
  | succ d ih =>
    intro i hi
    exact Ev.step (fun k => put_step k l n i (by omega) (atF_low l n i (by omega)) (by omega)) (ih (i + 1) (by omega))
theorem ev_put (l : List Int) (n : Int) (hl : l.length ≤ 4398046511104) : Ev (fun k => missiveref07_Put.f k l n) (Plain.putF l n) := ev_put_l l n hl (atF l n) 0 (by omega)

theorem ev_refparts_l (l : List Int) (hl : l.length ≤ 4398046511103) : ∀ (d i : Nat) (o : List Int), i + d = l.length - 2 → o.length ≤ i → Ev (fun k => missiveref07_Parts.l0 k l o (i : Int)) (((List.range' i d).map (Fold.partAt l)).foldl Plain.putF o) := by
  intro d
  induction d with
  | zero =>
    intro i o hi ho
    refine Ev.step (fun k => ?_) (Ev.now _)
    simp only [missiveref07_Parts.l0]
    rw [wrap64_id ((i : Int) + 2) (by omega) (by omega), if_neg (by omega)]
    rfl
  | succ d ih =>
    intro i o hi ho
    have e1 : wrap64 ((i : Int) + 1) = ((i + 1 : Nat) : Int) := by rw [wrap64_id _ (by omega) (by omega)]; rfl
    have e2 : wrap64 ((i : Int) + 2) = ((i + 2 : Nat) : Int) := by rw [wrap64_id _ (by omega) (by omega)]; rfl
    have hpl := putF_length o (Fold.partAt l i)
    have ih := ih (i + 1) (Plain.putF o (Fold.partAt l i)) (by omega) (by omega)
    refine Ev.step (f := fun k => (missiveref07_Put.f k o (Fold.partAt l i)).bind fun t => missiveref07_Parts.l0 k l t ((i + 1 : Nat) : Int)) (fun k => ?_) (Ev.bind (ev_put o (Fold.partAt l i) (by omega)) ?_)
    · simp only [missiveref07_Parts.l0]
      rw [e1, e2, if_pos (by omega), if_pos (by omega), if_pos (by omega), if_pos (by omega), if_pos (by omega), if_pos (by omega), refpart, Option.bind_some]
      rfl
    · rw [List.range'_succ, List.map_cons, List.foldl_cons]
      exact ih
theorem ev_refparts (l : List Int) (hl : l.length ≤ 4398046511103) : Ev (fun k => missiveref07_Parts.f k l) (partsF l) := by
  have h := ev_refparts_l l hl (l.length - 2) 0 [] (by omega) (Nat.zero_le _)
  rw [← List.range_eq_range'] at h
  exact h

theorem ev_same7_l (l : List Int) (hb : l.length ≤ 9223372036854775806) : ∀ (d i : Nat), i + d = l.length → Ev (fun k => missiveref07_Same.l0 k l l (l.length : Int) (i : Int)) true := by
  intro d
  induction d with
  | zero =>
    intro i hi
    refine Ev.step (fun k => ?_) (Ev.now _)
    simp only [missiveref07_Same.l0]
    rw [if_neg (by omega)]
  | succ d ih =>
    intro i hi
    refine Ev.step (fun k => ?_) (ih (i + 1) (by omega))
    simp only [missiveref07_Same.l0]
    rw [if_pos (by omega), if_pos (by omega), if_pos (by omega), if_pos (by omega), if_pos trivial, wrap64_id ((i : Int) + 1) (by omega) (by omega)]
    rfl
theorem ev_same7 (l : List Int) (hb : l.length ≤ 9223372036854775806) : Ev (fun k => missiveref07_Same.f k l l) true := by
  refine Ev.congr (fun k => ?_) (ev_same7_l l hb l.length 0 (by omega))
  unfold missiveref07_Same.f
  rw [if_pos rfl]
  rfl

/-! ### the reference's count -/
theorem ev_same6_l (a b : List Int) (hab : a.length = b.length) (hl : a.length ≤ 9223372036854775806) : ∀ (d i : Nat), i + d = a.length → Ev (fun k => missiveref06_Same.l0 k a b (a.length : Int) (i : Int)) (decide (a.drop i = b.drop i)) := by
  intro d
  induction d with
  | zero =>
    intro i hi
    rw [List.drop_of_length_le (by omega), List.drop_of_length_le (by omega)]
    refine Ev.step (fun k => ?_) (Ev.now _)
    simp only [missiveref06_Same.l0]
    rw [if_neg (by omega)]
    rfl
  | succ d ih =>
    intro i hi
    rw [drop_rd a i (by omega), drop_rd b i (by omega)]
    by_cases h : rd a (i : Int) = rd b (i : Int)
    · have e : decide (rd a (i : Int) :: a.drop (i + 1) = rd b (i : Int) :: b.drop (i + 1)) = decide (a.drop (i + 1) = b.drop (i + 1)) := by simp [h]
      rw [e]
      refine Ev.step (fun k => ?_) (ih (i + 1) (by omega))
      simp only [missiveref06_Same.l0]
      rw [if_pos (by omega), if_pos (by omega), if_pos (by omega), if_pos (by omega), if_pos h, wrap64_id ((i : Int) + 1) (by omega) (by omega)]
      rfl
    · have e : decide (rd a (i : Int) :: a.drop (i + 1) = rd b (i : Int) :: b.drop (i + 1)) = false := by simp [h]
      rw [e]
      refine Ev.step (fun k => ?_) (Ev.now _)
      simp only [missiveref06_Same.l0]
      rw [if_pos (by omega), if_pos (by omega), if_pos (by omega), if_pos (by omega), if_neg h]
theorem ev_same6 (a b : List Int) (hl : a.length ≤ 9223372036854775806) : Ev (fun k => missiveref06_Same.f k a b) (decide (a = b)) := by
  by_cases h : a.length = b.length
  · refine Ev.congr (fun k => ?_) (ev_same6_l a b h hl a.length 0 (by omega))
    unfold missiveref06_Same.f
    rw [if_pos (by omega)]
    rfl
  · have e : decide (a = b) = false := decide_eq_false (fun e => h (by rw [e]))
    rw [e]
    refine Ev.congr (fun k => ?_) (Ev.now _)
    unfold missiveref06_Same.f
    rw [if_neg (by omega)]

theorem pre_short (l what : List Int) (h : l.length < what.length) : pre l what = false := decide_eq_false (fun e => by
  have := congrArg List.length e
  rw [List.length_take] at this
  omega)
theorem cnt_short (l what : List Int) : ∀ d i, l.length - i < what.length → cnt l what d i = 0
  | 0, _, _ => rfl
  | d + 1, i, h => by
    unfold cnt
    rw [pre_short (l.drop i) what (by rw [List.length_drop]; omega), cnt_short l what d (i + 1) (by omega)]
    rfl

theorem ev_refcount_l (l what : List Int) (hl : l.length ≤ 4611686018427387904) (hw : what.length ≤ 4611686018427387904) : ∀ (d i n : Nat), i + d = l.length + 1 → n ≤ i → Ev (fun k => missiveref07_Count.l0 k l what (n : Int) (i : Int)) ((n + cnt l what d i : Nat) : Int) := by
  intro d
  induction d with
  | zero =>
    intro i n hi hn
    refine Ev.step (fun k => ?_) (Ev.now _)
    simp only [missiveref07_Count.l0]
    rw [wrap64_id ((l.length : Int) - (what.length : Int)) (by omega) (by omega), if_neg (by omega)]
    rfl
  | succ d ih =>
    intro i n hi hn
    by_cases hin : i + what.length ≤ l.length
    · have e1 : wrap64 ((i : Int) + (what.length : Int)) = ((i + what.length : Nat) : Int) := by rw [wrap64_id _ (by omega) (by omega)]; rfl
      have hp : decide ((l.take (i + what.length)).drop i = what) = pre (l.drop i) what := by
        unfold pre
        rw [List.drop_take, show i + what.length - i = what.length by omega]
      have hs := ev_same6 ((l.take (i + what.length)).drop i) what (by rw [List.length_drop, List.length_take]; omega)
      rw [hp] at hs
      refine Ev.step (f := fun k => (missiveref06_Same.f k ((l.take (i + what.length)).drop i) what).bind fun t => if t = true then missiveref07_Count.l0 k l what ((n + 1 : Nat) : Int) ((i + 1 : Nat) : Int) else missiveref07_Count.l0 k l what (n : Int) ((i + 1 : Nat) : Int)) (fun k => ?_) (Ev.bind hs ?_)
      · simp only [missiveref07_Count.l0]
        rw [wrap64_id ((l.length : Int) - (what.length : Int)) (by omega) (by omega), if_pos (by omega), if_pos (by omega), e1, if_pos (by omega), if_pos (by omega), wrap64_id ((i : Int) + 1) (by omega) (by omega), wrap64_id ((n : Int) + 1) (by omega) (by omega), Int.toNat_natCast, Int.toNat_natCast]
        rfl
      · unfold cnt
        by_cases h : pre (l.drop i) what = true
        · have h' := ih (i + 1) (n + 1) (by omega) (by omega)
          rw [if_pos h, show n + (1 + cnt l what d (i + 1)) = n + 1 + cnt l what d (i + 1) from by omega]
          refine Ev.congr (fun k => ?_) h'
          rw [if_pos h]
        · have h' := ih (i + 1) n (by omega) (by omega)
          rw [if_neg h, Nat.zero_add]
          refine Ev.congr (fun k => ?_) h'
          rw [if_neg h]
    · rw [cnt_short l what (d + 1) i (by omega), Nat.add_zero]
      refine Ev.step (fun k => ?_) (Ev.now _)
      simp only [missiveref07_Count.l0]
      rw [wrap64_id ((l.length : Int) - (what.length : Int)) (by omega) (by omega), if_neg (by omega)]
theorem ev_refcount (l what : List Int) (hl : l.length ≤ 4611686018427387904) (hw : what.length ≤ 4611686018427387904) : Ev (fun k => missiveref07_Count.f k l what) ((cnt l what (l.length + 1) 0 : Nat) : Int) := by
  have h := ev_refcount_l l what hl hw (l.length + 1) 0 0 (by omega) (by omega)
  rw [Nat.zero_add] at h
  exact h
theorem ev_refhas (l what : List Int) (hl : l.length ≤ 4611686018427387904) (hw : what.length ≤ 4611686018427387904) : Ev (fun k => missiveref07_Has.f k l what) (decide (0 < cnt l what (l.length + 1) 0)) := by
  refine Ev.congr (fun k => ?_) (Ev.bind (f := fun _ t => some (decide (t > 0))) (ev_refcount l what hl hw) ?_)
  · rfl
  · have e : decide (((cnt l what (l.length + 1) 0 : Nat) : Int) > 0) = decide (0 < cnt l what (l.length + 1) 0) := decide_eq_decide.2 (by omega)
    rw [e]
    exact Ev.now _

theorem asks_pure (l what : List Int) (h : l.length + what.length ≤ 4194304) : ∃ k, missivelaw07_FoldAsks.f k l what = some true := by
  have hpl := parts_length l
  obtain ⟨k1, h1⟩ := ev_lives
  obtain ⟨k2, h2⟩ := ev_refparts l (by omega)
  obtain ⟨k3, h3⟩ := ev_same7 (partsF l) (by omega)
  obtain ⟨k4, h4⟩ := ev_has l what (by omega)
  obtain ⟨k5, h5⟩ := ev_refhas l what (by omega) (by omega)
  obtain ⟨k6, h6⟩ := ev_count l what (by omega)
  obtain ⟨k7, h7⟩ := ev_refcount l what (by omega) (by omega)
  refine ⟨k1 + k2 + k3 + k4 + k5 + k6 + k7, ?_⟩
  generalize hk : k1 + k2 + k3 + k4 + k5 + k6 + k7 = k
  have h1 := h1 k (by omega)
  have h2 := h2 k (by omega)
  have h3 := h3 k (by omega)
  have h4 := h4 k (by omega)
  have h5 := h5 k (by omega)
  have h6 := h6 k (by omega)
  have h7 := h7 k (by omega)
  simp only at h1 h2 h3 h4 h5 h6 h7
  unfold missivelaw07_FoldAsks.f
  rw [h1, Option.bind_some, if_pos rfl, parts_f l (by omega), Option.bind_some, h2, Option.bind_some, h3, Option.bind_some, if_pos rfl, h4, Option.bind_some, h5, Option.bind_some, if_pos (beq_self_eq_true _), h6, Option.bind_some, h7, Option.bind_some]
  congr 1
  exact beq_self_eq_true _
end Go.Proofs.YtfkckhliffbcjaaDoor.AsksZ
