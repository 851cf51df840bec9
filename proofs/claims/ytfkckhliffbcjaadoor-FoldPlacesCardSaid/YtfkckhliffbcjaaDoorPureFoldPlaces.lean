/- How often something stands in a list: the plain law. -/
import Derived.Test.YtfkckhliffbcjaaDoorG3
namespace Go.Proofs.YtfkckhliffbcjaaDoor.Fold
open Go.RowKit Go.Proofs.YtfkckhliffbcjaaDoor.X Go.Proofs.YtfkckhliffbcjaaDoorW.PrintWords Go.Proofs.YtfkckhliffbcjaaDoorW.PrintLast

theorem end_zero (k : Nat) (l what : List Int) (x2 : Int) (n : Nat) (hz : (what.length : Int) = 0) (hw : what.length < 35184372088832) : missivelaw07_FoldPlaces.l0 (k + 1) l what x2 (n : Int) (l.length : Int) (l.length : Int) = (fold_Count.f k l what).bind fun t217 => (if t217 = (wrap64 ((n : Int) + 1)) then ((fold_Has.f k l what).bind fun t218 => (if (t218 == (decide ((wrap64 ((n : Int) + 1)) > 0))) = true then ((fold_Count.f k l (what ++ [x2])).bind fun t219 => (some (decide (t219 ≤ (wrap64 ((n : Int) + 1)))))) else (some false))) else (some false)) := by
  have c1 : ([] : List Int).length + what.length < 35184372088832 := by rw [List.length_nil, Nat.zero_add]; exact hw
  simp only [missivelaw07_FoldPlaces.l0]
  rw [if_neg (by omega), if_pos hz, Option.bind_some, if_pos c1, Option.bind_some, List.nil_append, if_pos hw]

theorem end_more (k : Nat) (l what : List Int) (x2 : Int) (n : Nat) (hz : ¬ (what.length : Int) = 0) (hw : what.length < 35184372088832) : missivelaw07_FoldPlaces.l0 (k + 1) l what x2 (n : Int) (l.length : Int) (l.length : Int) = (fold_Count.f k l what).bind fun t229 => (if t229 = (n : Int) then ((fold_Has.f k l what).bind fun t230 => (if (t230 == (decide ((n : Int) > 0))) = true then ((fold_Count.f k l (what ++ [x2])).bind fun t231 => (some (decide (t231 ≤ (n : Int))))) else (some false))) else (some false)) := by
  have c1 : ([] : List Int).length + what.length < 35184372088832 := by rw [List.length_nil, Nat.zero_add]; exact hw
  simp only [missivelaw07_FoldPlaces.l0]
  rw [if_neg (by omega), if_neg hz, Option.bind_some, if_pos c1, Option.bind_some, List.nil_append, if_pos hw]

theorem zero_chain {o1 o3 : Option Int} {o2 : Option Bool} {v1 v3 m w1 : Int} {b : Bool} (h1 : o1 = some v1) (h2 : o2 = some b) (h3 : o3 = some v3) (hw : w1 = m) (hc : v1 = m) (hb : (b == decide (m > 0)) = true) (hd : decide (v3 ≤ m) = true) :
    (o1.bind fun t217 => (if t217 = w1 then (o2.bind fun t218 => (if (t218 == (decide (w1 > 0))) = true then (o3.bind fun t219 => (some (decide (t219 ≤ w1)))) else (some false))) else (some false))) = some true := by
  subst h1 h2 h3 hw
  rw [Option.bind_some, if_pos hc, Option.bind_some, if_pos hb, Option.bind_some, hd]

/-- The law's end. -/
theorem ev_end (l what : List Int) (x2 : Int) (hl : l.length ≤ 4611686018427387904) (hw : what.length < 35184372088832) (n : Nat) (hn : n = cnt l what l.length 0) : Ev (fun k => missivelaw07_FoldPlaces.l0 k l what x2 (n : Int) (l.length : Int) (l.length : Int)) true := by
  have hc := cnt_last l what l.length 0 (by omega)
  have hm := cnt_more l what x2 (l.length + 1) 0
  have hle := cnt_le l what l.length 0
  have e1 := ev_count l what hl
  have e2 := ev_has l what hl
  have e3 := ev_count l (what ++ [x2]) hl
  revert e1 e2 e3 hc hm hle
  generalize cnt l what (l.length + 1) 0 = c1
  generalize cnt l (what ++ [x2]) (l.length + 1) 0 = c3
  intro hc hm hle e1 e2 e3
  obtain ⟨k1, h1⟩ := e1
  obtain ⟨k2, h2⟩ := e2
  obtain ⟨k3, h3⟩ := e3
  by_cases hz : (what.length : Int) = 0
  · rw [if_pos (show what.length = 0 by omega)] at hc
    refine Ev.step (fun k => end_zero k l what x2 n hz hw) ⟨k1 + k2 + k3, fun k hk => ?_⟩
    clear hz hw
    have h1 := h1 k (by omega)
    have h2 := h2 k (by omega)
    have h3 := h3 k (by omega)
    have hw1 : wrap64 ((n : Int) + 1) = (n : Int) + 1 := wrap64_id ((n : Int) + 1) (by omega) (by omega)
    have hc1 : (c1 : Int) = (n : Int) + 1 := by omega
    have hb2 : (decide (0 < c1) == decide ((n : Int) + 1 > 0)) = true := by rw [beq_iff_eq, decide_eq_decide]; omega
    have hb3 : decide ((c3 : Int) ≤ (n : Int) + 1) = true := decide_eq_true (by omega)
    exact zero_chain h1 h2 h3 hw1 hc1 hb2 hb3
  · rw [if_neg (show ¬ what.length = 0 by omega)] at hc
    refine Ev.step (fun k => end_more k l what x2 n hz hw) ⟨k1 + k2 + k3, fun k hk => ?_⟩
    have h1 := h1 k (by omega)
    have h2 := h2 k (by omega)
    have h3 := h3 k (by omega)
    simp only at h1 h2 h3
    simp only [h1, h2, h3, Option.bind_some]
    rw [if_pos (by omega), if_pos (by rw [beq_iff_eq, decide_eq_decide]; omega), decide_eq_true (by omega)]

theorem cnt_one (l what : List Int) : ∀ d i, cnt l what (d + 1) i = cnt l what d i + (if pre (l.drop (i + d)) what = true then 1 else 0)
  | 0, i => by unfold cnt cnt; simp
  | d + 1, i => by
    have ih := cnt_one l what d (i + 1)
    conv => lhs; unfold cnt
    rw [ih]
    conv => rhs; unfold cnt
    rw [show i + 1 + d = i + (d + 1) from by omega]
    omega

theorem ev_places (l what : List Int) (x2 : Int) (hl : l.length ≤ 4611686018427387904) (hw : what.length < 35184372088832) : ∀ (d i : Nat), i + d = l.length → Ev (fun k => missivelaw07_FoldPlaces.l0 k l what x2 ((cnt l what i 0 : Nat) : Int) (l.length : Int) (i : Int)) true := by
  intro d
  induction d with
  | zero =>
    intro i hi
    have : i = l.length := by omega
    subst this
    exact ev_end l what x2 hl hw _ rfl
  | succ d ih =>
    intro i hi
    have h' := ih (i + 1) (by omega)
    have hle := cnt_le l what i 0
    have hone := cnt_one l what i 0
    rw [Nat.zero_add] at hone
    rw [hone] at h'
    by_cases hfit : what.length ≤ l.length - i
    · have hlook := ev_look l what x2 hl (by omega) (cnt l what i 0) i (by omega) hle true h' hfit what.length 0 true (by omega) (fun _ => by simp) (fun h => by cases h)
      refine Ev.step (fun k => ?_) hlook
      simp only [missivelaw07_FoldPlaces.l0]
      rw [if_pos (by omega), wrap64_id ((l.length : Int) - i) (by omega) (by omega), decide_eq_true (by omega)]
      rfl
    · have e : pre (l.drop i) what = false := decide_eq_false (fun e => by
        have := congrArg List.length e
        rw [List.length_take, List.length_drop] at this
        omega)
      rw [e] at h'
      refine Ev.step (fun k => ?_) (Ev.step (g := fun k => missivelaw07_FoldPlaces.l1 k l what x2 ((cnt l what i 0 : Nat) : Int) (i : Int) false 0 (l.length : Int) (i : Int)) (fun k => ?_) h')
      · simp only [missivelaw07_FoldPlaces.l0]
        rw [if_pos (by omega), wrap64_id ((l.length : Int) - i) (by omega) (by omega), decide_eq_false (by omega)]
      · simp only [missivelaw07_FoldPlaces.l1]
        rw [if_neg (by decide), wrap64_id ((i : Int) + 1) (by omega) (by omega)]
        rfl

theorem places_pure : missivelaw07_FoldPlaces.Pure := by
  intro l what x2 _ hl _ _ hw _ _
  have h := ev_places l what x2 (by omega) (by omega) l.length 0 (by omega)
  refine Ev.rounds (Ev.congr (fun k => ?_) (Ev.bind (f := fun k t205 => (if t205 = true then (missivelaw07_FoldPlaces.l0 k l what x2 0 (l.length : Int) 0) else (some false))) ev_lives (Ev.congr (fun k => ?_) h)))
  · rfl
  · rw [if_pos rfl]
    rfl
end Go.Proofs.YtfkckhliffbcjaaDoor.Fold
