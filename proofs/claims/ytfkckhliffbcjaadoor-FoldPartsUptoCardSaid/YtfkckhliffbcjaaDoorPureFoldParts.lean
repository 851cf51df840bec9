/- What stands in a list has its parts among that list's: the plain law. -/
import Derived.Test.YtfkckhliffbcjaaDoorGY3
namespace Go.Proofs.YtfkckhliffbcjaaDoor.AsksY
open Go.RowKit Go.Proofs.YtfkckhliffbcjaaDoor.Fold Go.Proofs.YtfkckhliffbcjaaDoor.Y Go.Proofs.YtfkckhliffbcjaaDoorW.PrintWords Go.Proofs.YtfkckhliffbcjaaDoorW.PrintLast
set_option linter.unusedVariables false
set_option linter.unusedSimpArgs false

theorem ev_lives : Ev (fun k => missivelaw07_lives.f k) true := Ev.of (fun k => missivelaw07_lives.mono k) (k := 40) (by decide +kernel)

theorem cnt_pos (l what : List Int) (i : Nat) (h : pre (l.drop i) what = true) : ∀ d s, s ≤ i → i < s + d → 0 < cnt l what d s := by
  intro d
  induction d with
  | zero => intro s h1 h2; omega
  | succ d ih =>
    intro s h1 h2
    unfold cnt
    by_cases e : s = i
    · subst e
      rw [if_pos h]
      omega
    · have := ih (s + 1) (by omega) (by omega)
      omega

theorem rising_rd {p : List Int} (hp : Plain.Rising p) (i : Nat) (h0 : 0 < i) (h : i < p.length) : rd p ((i - 1 : Nat) : Int) < rd p (i : Int) := by
  rw [rd_get p i h, rd_get p (i - 1) (by omega)]
  exact List.pairwise_iff_getElem.1 hp (i - 1) i (by omega) h (by omega)

theorem scan_step (k : Nat) (p q : List Int) (hp : Plain.Rising p) (j i : Nat) (hi : i < p.length) (hl : p.length ≤ 4611686018427387904) :
    missivelaw07_FoldParts.l0 (k + 1) p q (j : Int) p (p.length : Int) (i : Int) = missivelaw07_FoldParts.j2 k p q (j : Int) (rd p (i : Int)) p (p.length : Int) (i : Int) false := by
  simp only [missivelaw07_FoldParts.l0]
  rw [if_pos (by omega), if_pos (by omega), if_pos (by omega)]
  by_cases h0 : 0 < i
  · have e : wrap64 ((i : Int) - 1) = ((i - 1 : Nat) : Int) := by rw [wrap64_id _ (by omega) (by omega)]; omega
    rw [if_pos (by omega), e, if_pos (by omega), if_pos (by omega), decide_eq_false (by have := rising_rd hp i h0 hi; omega)]
  · rw [if_neg (by omega)]

theorem j2_yes (k : Nat) (p q : List Int) (x : Int) (j i : Nat) (hj : j < q.length) (he : rd q (j : Int) = x) (hi : i ≤ 4611686018427387904) (hq : q.length ≤ 4611686018427387904) :
    missivelaw07_FoldParts.j2 (k + 1) p q (j : Int) x p (p.length : Int) (i : Int) false = missivelaw07_FoldParts.l0 k p q ((j + 1 : Nat) : Int) p (p.length : Int) ((i + 1 : Nat) : Int) := by
  simp only [missivelaw07_FoldParts.j2]
  rw [if_neg (by decide), if_pos (by omega), if_pos (by omega), if_pos he, wrap64_id ((j : Int) + 1) (by omega) (by omega), wrap64_id ((i : Int) + 1) (by omega) (by omega)]
  rfl
theorem j2_no (k : Nat) (p q : List Int) (x : Int) (j i : Nat) (hj : j < q.length) (he : ¬ rd q (j : Int) = x) (hi : i ≤ 4611686018427387904) :
    missivelaw07_FoldParts.j2 (k + 1) p q (j : Int) x p (p.length : Int) (i : Int) false = missivelaw07_FoldParts.l0 k p q (j : Int) p (p.length : Int) ((i + 1 : Nat) : Int) := by
  simp only [missivelaw07_FoldParts.j2]
  rw [if_neg (by decide), if_pos (by omega), if_pos (by omega), if_neg he, wrap64_id ((i : Int) + 1) (by omega) (by omega)]
  rfl
theorem j2_end (k : Nat) (p q : List Int) (x : Int) (j i : Nat) (hj : ¬ j < q.length) (hi : i ≤ 4611686018427387904) :
    missivelaw07_FoldParts.j2 (k + 1) p q (j : Int) x p (p.length : Int) (i : Int) false = missivelaw07_FoldParts.l0 k p q (j : Int) p (p.length : Int) ((i + 1 : Nat) : Int) := by
  simp only [missivelaw07_FoldParts.j2]
  rw [if_neg (by decide), if_neg (by omega), wrap64_id ((i : Int) + 1) (by omega) (by omega)]
  rfl

theorem ev_scan (p q : List Int) (hp : Plain.Rising p) (hl : p.length ≤ 4611686018427387904) (hq : q.length ≤ 4611686018427387904) : ∀ (d i j : Nat), i + d = p.length → j ≤ q.length → leftF (p.drop i) (q.drop j) = [] →
    Ev (fun k => missivelaw07_FoldParts.l0 k p q (j : Int) p (p.length : Int) (i : Int)) true := by
  intro d
  induction d with
  | zero =>
    intro i j hi hj h
    rw [List.drop_of_length_le (by omega)] at h
    have h2 : q.drop j = [] := h
    have hj2 : j = q.length := by
      have := congrArg List.length h2
      rw [List.length_drop, List.length_nil] at this
      omega
    refine Ev.step (fun k => ?_) (Ev.now _)
    simp only [missivelaw07_FoldParts.l0]
    rw [if_neg (by omega), hj2]
    simp
  | succ d ih =>
    intro i j hi hj h
    refine Ev.step (fun k => scan_step k p q hp j i (by omega) hl) ?_
    rw [drop_rd p i (by omega)] at h
    by_cases hlt : j < q.length
    · rw [drop_rd q j hlt] at h
      unfold leftF at h
      by_cases e : rd q (j : Int) = rd p (i : Int)
      · rw [if_pos e] at h
        exact Ev.step (fun k => j2_yes k p q _ j i hlt e (by omega) hq) (ih (i + 1) (j + 1) (by omega) (by omega) h)
      · rw [if_neg e, ← drop_rd q j hlt] at h
        exact Ev.step (fun k => j2_no k p q _ j i hlt e (by omega)) (ih (i + 1) j (by omega) hj h)
    · refine Ev.step (fun k => j2_end k p q _ j i hlt (by omega)) (ih (i + 1) j (by omega) hj ?_)
      rw [List.drop_of_length_le (show q.length ≤ j by omega)]
      cases p.drop (i + 1) <;> rfl

theorem parts_f (l : List Int) (h : l.length ≤ 17592186044416) : fold_Parts.f l = some (partsF l) := by
  unfold fold_Parts.f
  rw [if_pos h, parts_eq]

theorem parts_pure (a b c : List Int) (h : a.length + b.length + c.length ≤ 4194304) : ∃ k, missivelaw07_FoldParts.f k a b c = some true := by
  have hlen : (a ++ b ++ c).length = a.length + b.length + c.length := by simp only [List.length_append]
  have hpl := parts_length (a ++ b ++ c)
  have hql := parts_length b
  have hleft := left_none (partsF (a ++ b ++ c)) (partsF b) (parts_rising _) (parts_rising _) (fun x hx => parts_within a b c x hx)
  have hpre : pre ((a ++ b ++ c).drop a.length) b = true := by
    unfold pre
    rw [List.append_assoc, List.drop_left, List.take_left]
    exact decide_eq_true rfl
  have hc := cnt_pos (a ++ b ++ c) b a.length hpre ((a ++ b ++ c).length + 1) 0 (Nat.zero_le _) (by omega)
  obtain ⟨k1, h1⟩ := ev_lives
  obtain ⟨k2, h2⟩ := ev_has (a ++ b ++ c) b (by omega)
  obtain ⟨k3, h3⟩ := ev_scan (partsF (a ++ b ++ c)) (partsF b) (parts_rising _) (by omega) (by omega) (partsF (a ++ b ++ c)).length 0 0 (by omega) (Nat.zero_le _) hleft
  rw [decide_eq_true hc] at h2
  refine ⟨k1 + k2 + k3 + 1, ?_⟩
  have h1 := h1 (k1 + k2 + k3 + 1) (by omega)
  have h2 := h2 (k1 + k2 + k3 + 1) (by omega)
  have h3 := h3 (k1 + k2 + k3) (by omega)
  simp only at h1 h2 h3
  have c1 : ([] : List Int).length + a.length < 35184372088832 := by rw [List.length_nil]; omega
  have c2 : ([] ++ a : List Int).length + b.length < 35184372088832 := by rw [List.nil_append]; omega
  have c3 : ([] ++ a ++ b : List Int).length + c.length < 35184372088832 := by rw [List.nil_append, List.length_append]; omega
  have p1 := parts_f (a ++ b ++ c) (by omega)
  have p2 := parts_f b (by omega)
  have p3 : ¬ (((partsF (a ++ b ++ c)).length : Int) > mx 0 (wrap64 (((a ++ b ++ c).length : Int) - 2))) := by
    rw [wrap64_id _ (by omega) (by omega)]
    unfold mx
    split <;> omega
  unfold missivelaw07_FoldParts.f
  rw [h1, Option.bind_some, if_pos rfl, Option.bind_some, if_pos c1, Option.bind_some, if_pos c2, Option.bind_some, if_pos c3, Option.bind_some, List.nil_append, p1, Option.bind_some, p2, Option.bind_some, if_neg p3, h2, Option.bind_some]
  simp only [missivelaw07_FoldParts.j0, Bool.not_true, Bool.false_eq_true, if_false]
  exact h3
end Go.Proofs.YtfkckhliffbcjaaDoor.AsksY
