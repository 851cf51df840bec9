/- What a letter's fold comes to. -/
import Derived.Test.YtfkckhliffbcjaaDoorY7
namespace Go.Proofs.YtfkckhliffbcjaaDoor.FoldY
open Go.RowKit Go.Proofs.YtfkckhliffbcjaaDoor.Y Go.Proofs.YtfkckhliffbcjaaDoorW.PrintWords Go.Proofs.YtfkckhliffbcjaaDoorW.PrintLast

theorem wrap64_id (n : Int) (h1 : -9223372036854775808 ≤ n) (h2 : n ≤ 9223372036854775807) : wrap64 n = n := by unfold wrap64; omega

theorem bits_one (x : Int) : bits .and .i32 x 1 ≠ -1 := by
  have h : ((BitVec.ofInt 32 x) &&& (BitVec.ofInt 32 1)).toNat ≤ 1 := by
    rw [BitVec.toNat_and]
    exact Nat.le_trans Nat.and_le_right (by decide)
  show IntKind.i32.wrap ((((BitVec.ofInt 32 x) &&& (BitVec.ofInt 32 1)).toNat : Nat) : Int) ≠ -1
  revert h
  generalize ((BitVec.ofInt 32 x) &&& (BitVec.ofInt 32 1)).toNat = m
  intro h
  have : m = 0 ∨ m = 1 := by omega
  rcases this with rfl | rfl <;> decide

/-- A letter's fold. -/
def oneF (n : Int) : Int := (fold_One.f 10 n).getD n

theorem one_small : ((List.range 8500).all fun m => match fold_One.f 10 (m : Int) with
    | some r => fold_One.f 10 r == some r && (missiveref06_Is.f r == missiveref06_Is.f m)
    | none => false) = true := by decide +kernel

set_option maxHeartbeats 1000000 in
theorem one_low (n : Int) (h : n < 0) : fold_One.f 10 n = some n := by
  have hb := bits_one n
  have e1 : ∀ c : Int, 0 ≤ c → (n = c) = False := fun c hc => eq_false (by omega)
  have e2 : ∀ c : Int, 0 ≤ c → (n ≥ c) = False := fun c hc => eq_false (by omega)
  have e3 : (n == 930) = false := beq_false_of_ne (by omega)
  unfold fold_One.f
  rw [if_neg (by omega), e3]
  simp only [fold_One.j0, fold_One.j1, fold_One.j2, fold_One.j3, fold_One.j4, fold_pairs.f, fold_pairs.j0, fold_pairs.j1, fold_pairs.j2, fold_odd.f, Bool.false_eq_true, if_false]
  rw [if_neg (by omega), if_neg (by omega), if_neg (by omega), if_neg (by omega), if_neg (by omega), if_neg (by omega), if_neg (by omega), if_neg (by omega), if_neg (by omega), if_neg (by omega)]
  simp only [Option.bind_some]
  rw [if_neg (fun e => hb e.symm), if_neg (by omega), if_neg (by omega), if_neg (by omega), if_neg (by omega), if_neg (by omega), if_neg (by omega), if_neg (by omega), if_neg (by omega)]
  rfl

set_option maxHeartbeats 1000000 in
theorem one_high (n : Int) (h : 8500 ≤ n) : fold_One.f 10 n = some n := by
  have hb := bits_one n
  have e3 : (n == 930) = false := beq_false_of_ne (by omega)
  have d : ∀ c : Int, c < 8500 → decide (n ≤ c) = false := fun c hc => decide_eq_false (by omega)
  unfold fold_One.f
  rw [if_neg (by omega), e3]
  simp only [fold_One.j0, fold_One.j1, fold_One.j2, fold_One.j3, fold_One.j4, fold_pairs.f, fold_pairs.j0, fold_pairs.j1, fold_pairs.j2, fold_odd.f, Bool.false_eq_true, if_false, d 90 (by decide), d 222 (by decide), d 937 (by decide), d 1071 (by decide), d 1039 (by decide), d 303 (by decide), d 311 (by decide), d 375 (by decide), d 328 (by decide)]
  have g : ∀ c : Int, c < 8500 → (n ≥ c) = True := fun c hc => eq_true (by omega)
  have l : ∀ c : Int, c < 8500 → (n ≤ c) = False := fun c hc => eq_false (by omega)
  simp only [g 65 (by decide), g 192 (by decide), g 913 (by decide), g 1040 (by decide), g 1024 (by decide), g 256 (by decide), g 306 (by decide), g 330 (by decide), g 313 (by decide), g 377 (by decide), l 937 (by decide), l 311 (by decide), l 382 (by decide), if_true, if_false, Option.bind_some]
  rw [if_neg (fun e => hb e.symm), if_neg (by omega), if_neg (by omega), if_neg (by omega), if_neg (by omega), if_neg (by omega), if_neg (by omega), if_neg (by omega), if_neg (by omega)]
  rfl

theorem one_facts (n : Int) : fold_One.f 10 n = some (oneF n) ∧ oneF (oneF n) = oneF n ∧ missiveref06_Is.f (oneF n) = missiveref06_Is.f n := by
  by_cases h : 0 ≤ n ∧ n < 8500
  · obtain ⟨m, rfl⟩ := Int.eq_ofNat_of_zero_le h.1
    have hs := List.all_eq_true.1 one_small m (List.mem_range.2 (by omega))
    revert hs
    cases hf : fold_One.f 10 (m : Int) with
    | none => intro hs; cases hs
    | some r =>
      intro hs
      simp only [Bool.and_eq_true, beq_iff_eq] at hs
      have e : oneF (m : Int) = r := by unfold oneF; rw [hf]; rfl
      rw [e]
      refine ⟨rfl, ?_, hs.2⟩
      unfold oneF
      rw [hs.1]
      rfl
  · have hf : fold_One.f 10 n = some n := by
      by_cases h0 : n < 0
      · exact one_low n h0
      · exact one_high n (by omega)
    have e : oneF n = n := by unfold oneF; rw [hf]; rfl
    rw [e, hf]
    exact ⟨rfl, e, rfl⟩

theorem ev_One (n : Int) : Ev (fun k => fold_One.f k n) (oneF n) := Ev.of (fold_One.mono n) (one_facts n).1

theorem rd_get (l : List Int) (i : Nat) (h : i < l.length) : rd l (i : Int) = l[i] := by simp [rd, List.getD_eq_getElem?_getD, List.getElem?_eq_getElem h]

theorem ev_Fold_l (l : List Int) (hl : l.length ≤ 9223372036854775806) : ∀ (d i : Nat), i + d = l.length → Ev (fun k => fold_Fold.l0 k ((l.take i).map oneF ++ List.replicate d 0) l (l.length : Int) (i : Int)) (l.map oneF) := by
  intro d
  induction d with
  | zero =>
    intro i hi
    rw [List.take_of_length_le (by omega), List.replicate_zero, List.append_nil]
    refine Ev.step (fun k => ?_) (Ev.now _)
    simp only [fold_Fold.l0]
    rw [if_neg (by omega)]
  | succ d ih =>
    intro i hi
    have hlen : ((l.take i).map oneF ++ List.replicate (d + 1) 0).length = l.length := by simp; omega
    have hset : ((l.take i).map oneF ++ List.replicate (d + 1) 0).set i (oneF (rd l (i : Int))) = (l.take (i + 1)).map oneF ++ List.replicate d 0 := by
      rw [List.set_append_right _ _ (by simp only [List.length_map, List.length_take]; omega), List.take_succ_eq_append_getElem (by omega), List.map_append, rd_get l i (by omega), List.replicate_succ]
      simp [show min i l.length = i from by omega]
    refine Ev.step (f := fun k => (fold_One.f k (rd l (i : Int))).bind fun t109 => fold_Fold.l0 k (((l.take i).map oneF ++ List.replicate (d + 1) 0).set i t109) l (l.length : Int) ((i + 1 : Nat) : Int)) (fun k => ?_) (Ev.bind (ev_One _) ?_)
    · simp only [fold_Fold.l0]
      rw [if_pos (by omega), if_pos (by omega), if_pos (by omega), wrap64_id ((i : Int) + 1) (by omega) (by omega)]
      simp only [hlen, Int.toNat_natCast, show (i : Int) < (l.length : Int) from by omega, if_true]
      rfl
    · rw [hset]
      exact ih (i + 1) (by omega)

theorem ev_Fold (l : List Int) (hl : l.length ≤ 70368744177664) : Ev (fun k => fold_Fold.f k l) (l.map oneF) := by
  have h := ev_Fold_l l (by omega) l.length 0 (by omega)
  refine Ev.congr (fun k => ?_) h
  unfold fold_Fold.f
  rw [if_pos (by omega), Int.toNat_natCast, if_pos hl]
  rfl

theorem ev_same_l (l : List Int) (hb : l.length ≤ 9223372036854775806) : ∀ (d i : Nat), i + d = l.length → Ev (fun k => missiveref06_Same.l0 k l l (l.length : Int) (i : Int)) true := by
  intro d
  induction d with
  | zero =>
    intro i hi
    refine Ev.step (fun k => ?_) (Ev.now _)
    simp only [missiveref06_Same.l0]
    rw [if_neg (by omega)]
  | succ d ih =>
    intro i hi
    refine Ev.step (fun k => ?_) (ih (i + 1) (by omega))
    simp only [missiveref06_Same.l0]
    rw [if_pos (by omega), if_pos (by omega), if_pos (by omega), if_pos (by omega), if_pos trivial, wrap64_id ((i : Int) + 1) (by omega) (by omega)]
    rfl

theorem ev_same (l : List Int) (hb : l.length ≤ 9223372036854775806) : Ev (fun k => missiveref06_Same.f k l l) true := by
  refine Ev.congr (fun k => ?_) (ev_same_l l hb l.length 0 (by omega))
  unfold missiveref06_Same.f
  rw [if_pos rfl]
  rfl
end Go.Proofs.YtfkckhliffbcjaaDoor.FoldY
