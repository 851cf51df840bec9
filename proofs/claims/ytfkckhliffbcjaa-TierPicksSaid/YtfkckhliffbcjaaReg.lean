/- A region of open order, inside whatever fence, by one relation over what has been carried out. -/
import Derived.OrdersIn
import Derived.WalkKit
import Derived.TacticsIn
namespace Go
section
variable {F : Fence} {n : Nat} {P : Program} {ops : Array Oper} {Q : Exit → Act → World → Prop}

/-- How many are still to come. -/
def stillTo (N : Nat) (b : Nat → Bool) : Nat := ((List.range N).filter fun i => !b i).length

theorem stillTo_set {N : Nat} {b : Nat → Bool} {i : Nat} (hi : i < N) (hb : b i = false) : stillTo N (fun j => b j || j == i) + 1 = stillTo N b := by
  unfold stillTo
  induction N with
  | zero => omega
  | succ N ih =>
    rw [List.range_succ, List.filter_append, List.filter_append, List.length_append, List.length_append]
    rcases Nat.lt_or_ge i N with h | h
    · have h2 : (N == i) = false := by simp; omega
      have := ih h
      have h4 : ([N].filter fun j => !(b j || j == i)) = [N].filter fun j => !b j := by simp only [List.filter_cons, List.filter_nil, h2, Bool.or_false]
      rw [h4]
      omega
    · obtain rfl : i = N := by omega
      have h3 : (List.range i).filter (fun j => !(b j || j == i)) = (List.range i).filter fun j => !b j := by
        apply List.filter_congr
        intro x hx
        have : (x == i) = false := by have := List.mem_range.1 hx; simp; omega
        rw [this, Bool.or_false]
      rw [h3]
      simp [hb]

theorem stillTo_zero {N : Nat} {b : Nat → Bool} (h : stillTo N b = 0) : ∀ i, i < N → b i = true := by
  intro i hi
  unfold stillTo at h
  have h2 : (List.range N).filter (fun i => !b i) = [] := List.eq_nil_of_length_eq_zero h
  rw [List.filter_eq_nil_iff] at h2
  have := h2 i (List.mem_range.2 hi)
  simpa using this

/-- What is asked of one operation: from where all that it waits for has been carried out, to where it has been, too. -/
def StepIn (F : Fence) (n : Nat) (P : Program) (ops : Array Oper) (Q : Exit → Act → World → Prop) (I : (Nat → Bool) → Act → World → Prop) (i : Nat) : Prop :=
  ∀ b a w, I b a w → b i = false → (∀ o, ops[i]? = some o → ∀ e ∈ o.after, Region.binds .any e = true → b e.on = true) → wpOpIn F n P ops Q i (fun a' w' => I (fun j => b j || j == i) a' w') a w

theorem wpAnyIn_inv (hback : ∀ i o, ops[i]? = some o → ∀ e ∈ o.after, Region.binds .any e = true → e.on < i) (I : (Nat → Bool) → Act → World → Prop)
    (hs : ∀ i, i < ops.size → StepIn F n P ops Q I i) (hend : ∀ b a w, (∀ i, i < ops.size → b i = true) → I b a w → Q .normal a w) :
    ∀ (fuel : Nat) (b : Nat → Bool) (listed : Array Bool) (a : Act) (w : World), listed.size = ops.size → (∀ i, i < ops.size → listed.getD i true = b i ∧ listed.getD i false = b i) → stillTo ops.size b ≤ fuel → I b a w →
      wpAnyIn F n P .any ops Q fuel listed a w := by
  have hall : ∀ (b : Nat → Bool) (listed : Array Bool), (∀ i, i < ops.size → listed.getD i true = b i ∧ listed.getD i false = b i) → Region.ready .any ops listed = [] → ∀ i, i < ops.size → b i = true := by
    intro b listed hl hr i
    induction i using Nat.strongRecOn with
    | ind i ih =>
      intro hi
      cases hb : b i with
      | true => rfl
      | false =>
        exfalso
        have hmem : i ∈ Region.ready .any ops listed := by
          rw [mem_ready]
          refine ⟨by rw [(hl i hi).1, hb], ops[i], Array.getElem?_eq_getElem hi, ?_⟩
          intro e he hbd
          have h1 := hback i _ (Array.getElem?_eq_getElem hi) e he hbd
          rw [(hl e.on (by omega)).2]
          exact ih e.on h1 (by omega)
        rw [hr] at hmem
        cases hmem
  intro fuel
  induction fuel with
  | zero =>
    intro b listed a w hsz hl hst hI
    have hz := stillTo_zero (Nat.le_zero.1 hst)
    refine ⟨?_, hend b a w hz hI⟩
    cases hr : Region.ready .any ops listed with
    | nil => rfl
    | cons i rs =>
      exfalso
      have hmem : i ∈ Region.ready .any ops listed := by rw [hr]; exact List.mem_cons_self
      rw [mem_ready] at hmem
      obtain ⟨h1, o, ho, _⟩ := hmem
      have hi : i < ops.size := (Array.getElem?_eq_some_iff.1 ho).1
      rw [(hl i hi).1, hz i hi] at h1
      cases h1
  | succ fuel ih =>
    intro b listed a w hsz hl hst hI
    refine ⟨fun hr => hend b a w (hall b listed hl hr) hI, fun i hmem => ?_⟩
    rw [mem_ready] at hmem
    obtain ⟨h1, o, ho, hw⟩ := hmem
    have hi : i < ops.size := (Array.getElem?_eq_some_iff.1 ho).1
    have hbi : b i = false := by rw [← (hl i hi).1]; exact h1
    refine wpOpIn_mono ?_ (hs i hi b a w hI hbi ?_)
    · intro a' w' hI'
      refine ih _ _ a' w' (by simp [hsz]) ?_ (by have := stillTo_set hi hbi; omega) hI'
      intro j hj
      by_cases hji : j = i
      · subst hji
        simp [Array.getD, hsz, hj]
      · have h2 : (j == i) = false := by simp [hji]
        rw [h2, Bool.or_false]
        have h3 := hl j hj
        have h5 : ∀ d, (listed.setIfInBounds i true).getD j d = listed.getD j d := by
          intro d
          have hj1 : j < listed.size := by omega
          simp only [Array.getD, Array.size_setIfInBounds, hj1, dite_true]
          exact Array.getElem_setIfInBounds_ne hj1 (fun e => hji e.symm)
        rw [h5, h5]
        exact h3
    · intro o' ho' e he hbd
      rw [ho] at ho'
      cases ho'
      have h4 := hw e he hbd
      rw [← (hl e.on (by have := hback i o ho e he hbd; omega)).2]
      exact h4

theorem wpIn_region_inv {id : Nat} {a : Act} {w : World} (hm : P.follows .mixedOrders = true) (hback : ∀ i o, ops[i]? = some o → ∀ e ∈ o.after, Region.binds .any e = true → e.on < i) (I : (Nat → Bool) → Act → World → Prop)
    (h0 : I (fun _ => false) a w.drew) (hs : ∀ i, i < ops.size → StepIn F n P ops Q I i) (hend : ∀ b a w, (∀ i, i < ops.size → b i = true) → I b a w → Q .normal a w) : (Code.region id ops true).wpIn F n P Q a w := by
  refine wpIn_region_any hm (wpAnyIn_inv hback I hs hend ops.size (fun _ => false) _ a _ (by simp) ?_ ?_ h0)
  · intro i hi
    simp [Array.getD, hi]
  · unfold stillTo
    have := List.length_filter_le (fun i => !(fun _ => false) i) (List.range ops.size)
    simpa using this

/-- What the frame holds when the operations of b have been carried out. -/
def Agree (m : Nat) (D : Nat → Tmp) (V : Nat → Value) (a : Act) (b : Nat → Bool) (a' : Act) : Prop :=
  a'.defers = a.defers ∧ a'.tmps.size = a.tmps.size ∧ (∀ i, i < m → b i = true → a'.tmps.getD (D i) undef = V i) ∧ ∀ s, (∀ i, i < m → D i = s → b i = false) → a'.tmps.getD s undef = a.tmps.getD s undef

theorem getD_put (a : Act) (d s : Tmp) (v : Value) (hd : d < a.tmps.size) : (a.put (some d) v).tmps.getD s undef = if d = s then v else a.tmps.getD s undef := by
  simp only [Act.put]
  by_cases h : d = s
  · subst h
    simp [Array.getD, hd]
  · rw [if_neg h]
    simp only [Array.getD, Array.size_setIfInBounds]
    split
    · rename_i hs
      exact Array.getElem_setIfInBounds_ne hs h
    · rfl

theorem Agree.put {m : Nat} {D : Nat → Tmp} {V : Nat → Value} {a a' : Act} {b : Nat → Bool} (h : Agree m D V a b a') {i : Nat} (hi : i < m) (hin : D i < a.tmps.size) (hinj : ∀ i j, i < m → j < m → D i = D j → i = j) :
    Agree m D V a (fun j => b j || j == i) (a'.put (some (D i)) (V i)) := by
  obtain ⟨h1, h2, h3, h4⟩ := h
  have hd : D i < a'.tmps.size := by rw [h2]; exact hin
  refine ⟨h1, by simp [Act.put, h2], fun j hj hb => ?_, fun s hs => ?_⟩
  · rw [getD_put _ _ _ _ hd]
    by_cases e : D i = D j
    · rw [if_pos e, hinj i j hi hj e]
    · rw [if_neg e]
      refine h3 j hj ?_
      have : (j == i) = false := by
        rw [beq_eq_false_iff_ne]
        rintro rfl
        exact e rfl
      simpa [this] using hb
  · rw [getD_put _ _ _ _ hd]
    by_cases e : D i = s
    · have := hs i hi e
      simp at this
    · rw [if_neg e]
      refine h4 s fun j hj hjs => ?_
      have := hs j hj hjs
      simp only [Bool.or_eq_false_iff] at this
      exact this.1

theorem agree_fold (m : Nat) (D : Nat → Tmp) (V : Nat → Value) (a : Act) (hin : ∀ i, i < m → D i < a.tmps.size) (hinj : ∀ i j, i < m → j < m → D i = D j → i = j) :
    ∀ k, k ≤ m → Agree m D V a (fun j => decide (j < k)) ((List.range k).foldl (fun a i => a.put (some (D i)) (V i)) a) := by
  intro k
  induction k with
  | zero => exact fun _ => ⟨rfl, rfl, fun i _ h => by simp at h, fun _ _ => rfl⟩
  | succ k ih =>
    intro hk
    have h := (ih (by omega)).put (i := k) (by omega) (hin k (by omega)) hinj
    rw [List.range_succ, List.foldl_append]
    have hf : (fun j => decide (j < k) || j == k) = fun j => decide (j < k + 1) := by
      funext j
      rw [Bool.eq_iff_iff]
      simp
      omega
    rw [hf] at h
    exact h

theorem agree_full {m : Nat} {D : Nat → Tmp} {V : Nat → Value} {a a' : Act} {b : Nat → Bool} (h : Agree m D V a b a') (hb : ∀ i, i < m → b i = true) (hin : ∀ i, i < m → D i < a.tmps.size) (hinj : ∀ i j, i < m → j < m → D i = D j → i = j) :
    a' = (List.range m).foldl (fun a i => a.put (some (D i)) (V i)) a := by
  have h2 := agree_fold m D V a hin hinj m (Nat.le_refl _)
  generalize (List.range m).foldl (fun a i => a.put (some (D i)) (V i)) a = c at *
  obtain ⟨x1, x2, x3, x4⟩ := h
  obtain ⟨y1, y2, y3, y4⟩ := h2
  have ht : a'.tmps = c.tmps := by
    apply Array.ext (by omega)
    intro s h1 h2
    have hg : a'.tmps.getD s undef = c.tmps.getD s undef := by
      by_cases hs : ∃ i, i < m ∧ D i = s
      · obtain ⟨i, hi, rfl⟩ := hs
        rw [x3 i hi (hb i hi), y3 i hi (by simpa using hi)]
      · rw [x4 s (fun i hi e => absurd ⟨i, hi, e⟩ hs), y4 s (fun i hi e => absurd ⟨i, hi, e⟩ hs)]
    simpa [Array.getD, h1, h2] using hg
  cases a'
  cases c
  simp only at x1 y1 ht
  rw [x1, y1] at *
  simp [ht]

/-- All operations but the last one only read, and the last one waits for all of them. -/
theorem wpIn_region_last {id m : Nat} {a : Act} {w : World} {last : Oper} (D : Nat → Tmp) (V : Nat → Value) (hm : P.follows .mixedOrders = true) (hback : ∀ i o, ops[i]? = some o → ∀ e ∈ o.after, Region.binds .any e = true → e.on < i)
    (hsz : ops.size = m + 1) (hl : ops[m]? = some last) (hlast : ∀ j, j < m → ∃ e ∈ last.after, Region.binds .any e = true ∧ e.on = j)
    (hD : ∀ i, i < m → ∀ o, ops[i]? = some o → o.dst = some (D i) ∧ o.guard = none) (hinj : ∀ i j, i < m → j < m → D i = D j → i = j) (hin : ∀ i, i < m → D i < a.tmps.size)
    (hop : ∀ i, i < m → ∀ o, ops[i]? = some o → ∀ a' : Act, (∀ e ∈ o.after, Region.binds .any e = true → a'.tmps.getD (D e.on) undef = V e.on) → (∀ s, (∀ i, i < m → D i ≠ s) → a'.tmps.getD s undef = a.tmps.getD s undef) →
      (∀ f, o.about P w.drew a'.eval = some f → F.fn f) ∧ (o.semAt F.round a'.eval).run P w.drew = .ok (.value (V i)) w.drew)
    (hend : wpListIn F n P ops Q [last] ((List.range m).foldl (fun a i => a.put (some (D i)) (V i)) a) w.drew) : (Code.region id ops true).wpIn F n P Q a w := by
  refine wpIn_region_inv hm hback (fun b a' w' => if b m = true then (∀ i, i < m → b i = true) ∧ Q .normal a' w' else Agree m D V a b a' ∧ w' = w.drew) ?_ ?_ ?_
  · simp only [Bool.false_eq_true, if_false]
    exact ⟨⟨rfl, rfl, fun _ _ h => by simp at h, fun _ _ => rfl⟩, trivial⟩
  · intro i hi b a' w' hI hb hw
    rcases Nat.lt_or_ge i m with h | h
    · have hbm : b m = false := by
        cases hbm : b m with
        | false => rfl
        | true =>
          rw [hbm, if_pos rfl] at hI
          rw [hI.1 i h] at hb
          cases hb
      rw [hbm, if_neg (by simp)] at hI
      obtain ⟨hA, rfl⟩ := hI
      have ho := Array.getElem?_eq_getElem hi
      obtain ⟨hd, hg⟩ := hD i h _ ho
      obtain ⟨hf, hr⟩ := hop i h _ ho a' (fun e he hbd => hA.2.2.1 e.on (by have := hback i _ ho e he hbd; omega) (hw _ ho e he hbd)) (fun s hs => hA.2.2.2 s fun j hj e => absurd e (hs j hj))
      unfold wpOpIn
      rw [ho]
      simp only
      rw [if_pos (by unfold Region.wanted; rw [hg])]
      refine ⟨hf, ?_⟩
      rw [hr, Oper.uponIn_value, hd]
      have hne : (m == i) = false := by simp; omega
      simp only [hbm, hne, Bool.or_false, Bool.false_eq_true, if_false]
      exact ⟨hA.put h (hin i h) hinj, trivial⟩
    · obtain rfl : i = m := by omega
      rw [hb, if_neg (by simp)] at hI
      obtain ⟨hA, rfl⟩ := hI
      have hbs : ∀ j, j < i → b j = true := by
        intro j hj
        obtain ⟨e, he, hbd, rfl⟩ := hlast j hj
        exact hw _ hl e he hbd
      have ha := agree_full hA hbs hin hinj
      rw [← ha] at hend
      unfold wpOpIn
      rw [hl]
      simp only
      simp only [wpListIn] at hend
      split
      · rename_i hwt
        rw [if_pos hwt] at hend
        refine Oper.wpIn_mono ?_ hend
        intro a2 w2 hq
        simp only [beq_self_eq_true, Bool.or_true, if_true]
        exact ⟨fun j hj => by rw [hbs j hj]; rfl, hq⟩
      · rename_i hwt
        rw [if_neg hwt] at hend
        refine ⟨hend.1, ?_⟩
        simp only [beq_self_eq_true, Bool.or_true, if_true]
        exact ⟨fun j hj => by rw [hbs j hj]; rfl, hend.2⟩
  · intro b a' w' hb hI
    rw [if_pos (hb m (by omega))] at hI
    exact hI.2

/-- What is asked of the operations' shape, by program. -/
def shapeOk (ops : Array Oper) (m : Nat) (D : Nat → Tmp) (size : Nat) : Bool :=
  decide (ops.size = m + 1) && (List.range (m + 1)).all (fun i => match ops[i]? with
    | some o => o.after.toList.all (fun e => decide (e.on < i)) && (decide (i = m) || (o.dst == some (D i) && o.guard.isNone && decide (D i < size)))
    | none => false) &&
  (match ops[m]? with
    | some o => (List.range m).all fun j => o.after.toList.any fun e => decide (e.on = j) && Region.binds .any e
    | none => false) && (List.range m).all (fun i => (List.range m).all fun j => decide (i = j) || !(D i == D j))

theorem wpIn_region_last' {id : Nat} (m : Nat) {a : Act} {w : World} {last : Oper} (D : Nat → Tmp) (V : Nat → Value) (hm : P.follows .mixedOrders = true) (hs : shapeOk ops m D a.tmps.size = true) (hl : ops[m]? = some last)
    (hop : ∀ i, i < m → ∀ o, ops[i]? = some o → ∀ a' : Act, (∀ e ∈ o.after, Region.binds .any e = true → a'.tmps.getD (D e.on) undef = V e.on) → (∀ s, (∀ i, i < m → D i ≠ s) → a'.tmps.getD s undef = a.tmps.getD s undef) →
      (∀ f, o.about P w.drew a'.eval = some f → F.fn f) ∧ (o.semAt F.round a'.eval).run P w.drew = .ok (.value (V i)) w.drew)
    (hend : wpListIn F n P ops Q [last] ((List.range m).foldl (fun a i => a.put (some (D i)) (V i)) a) w.drew) : (Code.region id ops true).wpIn F n P Q a w := by
  unfold shapeOk at hs
  simp only [Bool.and_eq_true, decide_eq_true_eq] at hs
  obtain ⟨⟨⟨h1, h2⟩, h3⟩, h4⟩ := hs
  rw [hl] at h3
  have hrow : ∀ i o, ops[i]? = some o → (∀ e ∈ o.after, e.on < i) ∧ (i < m → o.dst = some (D i) ∧ o.guard = none ∧ D i < a.tmps.size) := by
    intro i o ho
    have hi : i < ops.size := (Array.getElem?_eq_some_iff.1 ho).1
    have h5 := List.all_eq_true.1 h2 i (List.mem_range.2 (by omega))
    rw [ho] at h5
    simp only [Bool.and_eq_true, List.all_eq_true, decide_eq_true_eq, Bool.or_eq_true, beq_iff_eq, Option.isNone_iff_eq_none] at h5
    refine ⟨fun e he => h5.1 e (Array.mem_toList_iff.2 he), fun hlt => ?_⟩
    rcases h5.2 with h6 | h6
    · omega
    · exact ⟨h6.1.1, h6.1.2, h6.2⟩
  refine wpIn_region_last D V hm (fun i o ho e he _ => (hrow i o ho).1 e he) h1 hl ?_ (fun i hi o ho => ⟨((hrow i o ho).2 hi).1, ((hrow i o ho).2 hi).2.1⟩) ?_ ?_ hop hend
  · intro j hj
    have h5 := List.all_eq_true.1 h3 j (List.mem_range.2 hj)
    rw [List.any_eq_true] at h5
    obtain ⟨e, he, h6⟩ := h5
    simp only [Bool.and_eq_true, decide_eq_true_eq] at h6
    exact ⟨e, Array.mem_toList_iff.1 he, h6.2, h6.1⟩
  · intro i j hi hj e
    have h5 := List.all_eq_true.1 (List.all_eq_true.1 h4 i (List.mem_range.2 hi)) j (List.mem_range.2 hj)
    simp only [Bool.or_eq_true, decide_eq_true_eq, Bool.not_eq_true', beq_eq_false_iff_ne] at h5
    rcases h5 with h5 | h5
    · exact h5
    · exact absurd e h5
  · intro i hi
    have hi' : i < ops.size := by omega
    exact ((hrow i _ (Array.getElem?_eq_getElem hi')).2 hi).2.2
end
end Go
