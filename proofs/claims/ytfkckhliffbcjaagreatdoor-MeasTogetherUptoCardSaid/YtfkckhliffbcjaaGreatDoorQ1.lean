/- What is picked of sizes: marks in order are the tiers' places, tier by tier. No program in sight. -/
import Derived.Test.YtfkckhliffbcjaaGreatDoorT4
namespace Go.Proofs.YtfkckhliffbcjaaGreatDoor.Tier
open Go.Proofs.YtfkckhliffbcjaaGreatDoorW.PrintWords

def tierI (fan : Int) (l : List Int) (i : Nat) : Nat := tierF fan 63 (rd l i)
/-- The places of a tier's sizes. -/
def posT (fan : Int) (l : List Int) (t : Nat) : List Nat := (List.range l.length).filter fun i => tierI fan l i == t
def mk2 (t i : Nat) : Mk := (Fin.ofNat 256 t, Fin.ofNat 256 i)
def blocks (fan : Int) (l : List Int) (ts : List Nat) : List Mk := ts.flatMap fun t => (posT fan l t).map fun i => mk2 t i

theorem tierI_lt (fan : Int) (l : List Int) (i : Nat) : tierI fan l i < 64 := by have := tierF_le fan 63 (rd l i); unfold tierI; omega
theorem mem_posT {fan : Int} {l : List Int} {t i : Nat} : i ∈ posT fan l t ↔ i < l.length ∧ tierI fan l i = t := by
  unfold posT
  rw [List.mem_filter, List.mem_range, beq_iff_eq]
theorem mk2_fst (t i : Nat) (h : t < 256) : (mk2 t i).1.val = t := Nat.mod_eq_of_lt h
theorem mk2_snd (t i : Nat) (h : i < 256) : (mk2 t i).2.val = i := Nat.mod_eq_of_lt h
theorem mk2_inj {t i t' i' : Nat} (h1 : t < 256) (h2 : i < 256) (h3 : t' < 256) (h4 : i' < 256) (h : mk2 t i = mk2 t' i') : t = t' ∧ i = i' := by
  have e1 := congrArg (fun x : Mk => x.1.val) h
  have e2 := congrArg (fun x : Mk => x.2.val) h
  simp only [mk2_fst _ _ h1, mk2_fst _ _ h3] at e1
  simp only [mk2_snd _ _ h2, mk2_snd _ _ h4] at e2
  exact ⟨e1, e2⟩

theorem mem_blocks {fan : Int} {l : List Int} {ts : List Nat} {x : Mk} : x ∈ blocks fan l ts ↔ ∃ t ∈ ts, ∃ i, i < l.length ∧ tierI fan l i = t ∧ x = mk2 t i := by
  unfold blocks
  rw [List.mem_flatMap]
  constructor
  · rintro ⟨t, ht, hx⟩
    rw [List.mem_map] at hx
    obtain ⟨i, hi, rfl⟩ := hx
    rw [mem_posT] at hi
    exact ⟨t, ht, i, hi.1, hi.2, rfl⟩
  · rintro ⟨t, ht, i, h1, h2, rfl⟩
    exact ⟨t, ht, List.mem_map.2 ⟨i, mem_posT.2 ⟨h1, h2⟩, rfl⟩⟩

theorem leM_mk2 (t i t' i' : Nat) (h1 : t < 256) (h2 : i < 256) (h3 : t' < 256) (h4 : i' < 256) : leM (mk2 t i) (mk2 t' i') = true ↔ t < t' ∨ (t = t' ∧ i ≤ i') := by
  unfold leM
  rw [decide_eq_true_eq, mk2_fst _ _ h1, mk2_fst _ _ h3, mk2_snd _ _ h2, mk2_snd _ _ h4]

theorem posT_pairwise (fan : Int) (l : List Int) (t : Nat) : (posT fan l t).Pairwise (· < ·) := List.pairwise_lt_range.filter _

theorem blocks_pairwise (fan : Int) (l : List Int) (hl : l.length ≤ 256) (ts : List Nat) (hts : ts.Pairwise (· < ·)) (h64 : ∀ t ∈ ts, t < 64) : (blocks fan l ts).Pairwise fun a b => leM a b = true ∧ a ≠ b := by
  unfold blocks
  rw [List.pairwise_flatMap]
  constructor
  · intro t ht
    have h := h64 t ht
    rw [List.pairwise_map]
    refine (posT_pairwise fan l t).imp_of_mem ?_
    intro i j hi hj hij
    rw [mem_posT] at hi hj
    refine ⟨(leM_mk2 _ _ _ _ (by omega) (by omega) (by omega) (by omega)).2 (Or.inr ⟨rfl, by omega⟩), fun e => ?_⟩
    have := (mk2_inj (by omega) (by omega) (by omega) (by omega) e).2
    omega
  · refine hts.imp_of_mem ?_
    intro t t' ht ht' hlt x hx y hy
    have h1 := h64 t ht
    have h2 := h64 t' ht'
    rw [List.mem_map] at hx hy
    obtain ⟨i, hi, rfl⟩ := hx
    obtain ⟨j, hj, rfl⟩ := hy
    rw [mem_posT] at hi hj
    refine ⟨(leM_mk2 _ _ _ _ (by omega) (by omega) (by omega) (by omega)).2 (Or.inl hlt), fun e => ?_⟩
    have := (mk2_inj (by omega) (by omega) (by omega) (by omega) e).1
    omega

theorem marksL_get (fan : Int) (l : List Int) (i : Nat) (h : i < (marksL fan l).length) : (marksL fan l)[i] = mk2 (tierI fan l i) i := by
  have hl : i < l.length := by rwa [marksL_length] at h
  simp [marksL, markM, mk2, tierI, rd, List.getD_eq_getElem?_getD, List.getElem?_eq_getElem hl]

theorem mem_marksL {fan : Int} {l : List Int} {x : Mk} : x ∈ marksL fan l ↔ ∃ i, i < l.length ∧ x = mk2 (tierI fan l i) i := by
  rw [List.mem_iff_getElem]
  constructor
  · rintro ⟨i, hi, rfl⟩
    exact ⟨i, by rwa [marksL_length] at hi, marksL_get fan l i hi⟩
  · rintro ⟨i, hi, rfl⟩
    exact ⟨i, by rwa [marksL_length], marksL_get fan l i _⟩

theorem marksL_nodup (fan : Int) (l : List Int) (hl : l.length ≤ 256) : (marksL fan l).Nodup := by
  unfold List.Nodup
  rw [List.pairwise_iff_getElem]
  intro i j hi hj hij e
  rw [marksL_get, marksL_get] at e
  rw [marksL_length] at hi hj
  have h1 := tierI_lt fan l i
  have h2 := tierI_lt fan l j
  have := (mk2_inj (by omega) (by omega) (by omega) (by omega) e).2
  omega

theorem leM_trans (a b c : Mk) (h1 : leM a b = true) (h2 : leM b c = true) : leM a c = true := by
  unfold leM at *
  rw [decide_eq_true_eq] at *
  omega
theorem leM_total (a b : Mk) : (leM a b || leM b a) = true := by
  unfold leM
  rw [Bool.or_eq_true, decide_eq_true_eq, decide_eq_true_eq]
  omega
theorem leM_antisymm (a b : Mk) (h1 : leM a b = true) (h2 : leM b a = true) : a = b := by
  unfold leM at *
  rw [decide_eq_true_eq] at *
  obtain ⟨⟨p, _⟩, ⟨q, _⟩⟩ := a
  obtain ⟨⟨r, _⟩, ⟨s, _⟩⟩ := b
  simp only at h1 h2
  obtain ⟨rfl, rfl⟩ : p = r ∧ q = s := by omega
  rfl

theorem sortM_eq (fan : Int) (l : List Int) (hl : l.length ≤ 256) : sortM (marksL fan l) = blocks fan l (List.range 64) := by
  have hb := blocks_pairwise fan l hl (List.range 64) List.pairwise_lt_range (fun t ht => List.mem_range.1 ht)
  refine List.Perm.eq_of_pairwise (le := fun a b => leM a b = true) (fun a b _ _ h1 h2 => leM_antisymm a b h1 h2) (List.pairwise_mergeSort leM_trans leM_total _) (hb.imp fun h => h.1) ?_
  refine (List.mergeSort_perm _ _).trans ?_
  rw [List.perm_ext_iff_of_nodup (marksL_nodup fan l hl) (hb.imp fun h => h.2)]
  intro x
  rw [mem_marksL, mem_blocks]
  constructor
  · rintro ⟨i, hi, rfl⟩
    exact ⟨_, List.mem_range.2 (tierI_lt fan l i), i, hi, rfl, rfl⟩
  · rintro ⟨t, _, i, hi, rfl, rfl⟩
    exact ⟨i, hi, rfl⟩

/-- What is picked, tier by tier. -/
def refPick (fan : Int) (l : List Int) (f : Nat) : Nat → Nat → List Int
  | 0, _ => []
  | m + 1, t => if f ≤ (posT fan l t).length then ((posT fan l t).take f).map fun i => ((i : Nat) : Int) else refPick fan l f m (t + 1)

theorem blocks_append (fan : Int) (l : List Int) (a b : List Nat) : blocks fan l (a ++ b) = blocks fan l a ++ blocks fan l b := by simp [blocks]
theorem blocks_one (fan : Int) (l : List Int) (t : Nat) : blocks fan l [t] = (posT fan l t).map fun i => mk2 t i := by simp [blocks]

theorem range_split (t m : Nat) : List.range (t + m) = List.range t ++ (List.range m).map (t + ·) := by
  rw [List.range_add]

theorem refPick_nil (fan : Int) (l : List Int) (f : Nat) (hf : 0 < f) : ∀ m t, (blocks fan l ((List.range m).map (t + ·))).length < f → refPick fan l f m t = []
  | 0, _, _ => rfl
  | m + 1, t, h => by
    have e : (List.range (m + 1)).map (t + ·) = [t] ++ (List.range m).map ((t + 1) + ·) := by
      rw [List.range_succ_eq_map, List.map_cons, List.map_map]
      simp only [List.singleton_append, Nat.add_zero]
      congr 1
      apply List.map_congr_left
      intro x _
      simp only [Function.comp]
      omega
    rw [e, blocks_append, blocks_one, List.length_append, List.length_map] at h
    unfold refPick
    rw [if_neg (by omega)]
    exact refPick_nil fan l f hf m (t + 1) (by omega)

theorem tAt_of (S : List Mk) (i : Nat) (x : Mk) (h : S[i]? = some x) : tAt S i = x.1.val ∧ pAt S i = x.2.val := by
  simp [tAt, pAt, List.getD_eq_getElem?_getD, h]

theorem scan_blocks (fan : Int) (l : List Int) (hl : l.length ≤ 256) (f : Nat) (hf : 2 ≤ f) : ∀ m t k i, t + m = 64 → i = (blocks fan l (List.range t)).length → k + i = (blocks fan l (List.range 64)).length + 1 →
    scanF (blocks fan l (List.range 64)) f k i = refPick fan l f m t := by
  intro m
  induction m with
  | zero =>
    intro t k i ht hi hk
    obtain rfl : t = 64 := by omega
    obtain rfl : k = 1 := by omega
    unfold scanF
    rw [if_neg (by omega)]
    rfl
  | succ m ih =>
    intro t k i ht hi hk
    have e64 : List.range 64 = List.range t ++ ([t] ++ (List.range m).map ((t + 1) + ·)) := by
      rw [show (64 : Nat) = (t + 1) + m from by omega, range_split (t + 1) m, List.range_succ, List.append_assoc]
    have eS : blocks fan l (List.range 64) = blocks fan l (List.range t) ++ ((posT fan l t).map (fun i => mk2 t i) ++ blocks fan l ((List.range m).map ((t + 1) + ·))) := by
      rw [e64, blocks_append, blocks_append, blocks_one]
    have ht1 : (blocks fan l (List.range (t + 1))).length = i + (posT fan l t).length := by
      rw [List.range_succ, blocks_append, blocks_one, List.length_append, List.length_map, ← hi]
    generalize hS : blocks fan l (List.range 64) = S at *
    generalize hR : blocks fan l ((List.range m).map ((t + 1) + ·)) = R at *
    have hSl : S.length = i + ((posT fan l t).length + R.length) := by rw [eS, List.length_append, List.length_append, List.length_map, ← hi]
    -- what stands where
    have hin : ∀ j, (hj : j < (posT fan l t).length) → tAt S (i + j) = t ∧ pAt S (i + j) = (posT fan l t)[j] := by
      intro j hj
      have hg : S[i + j]? = some (mk2 t (posT fan l t)[j]) := by
        rw [eS, List.getElem?_append_right (by omega), ← hi, Nat.add_sub_cancel_left, List.getElem?_append_left (by simpa using hj)]
        simp [List.getElem?_eq_getElem hj]
      have h := tAt_of S _ _ hg
      have hm := (mem_posT.1 (List.getElem_mem hj)).1
      rw [mk2_fst _ _ (by omega), mk2_snd _ _ (by omega)] at h
      exact h
    have hbef : ∀ j, j < i → tAt S j < t := by
      intro j hj
      obtain ⟨x, hx⟩ : ∃ x, (blocks fan l (List.range t))[j]? = some x := ⟨_, List.getElem?_eq_getElem (by omega)⟩
      have hg : S[j]? = some x := by
        rw [eS, List.getElem?_append_left (by omega)]
        exact hx
      have h := (tAt_of S _ _ hg).1
      obtain ⟨t', ht', i', _, _, rfl⟩ := mem_blocks.1 (List.mem_of_getElem? hx)
      have := List.mem_range.1 ht'
      rw [mk2_fst _ _ (by omega)] at h
      omega
    have haft : ∀ j, i + (posT fan l t).length ≤ j → j < S.length → t < tAt S j := by
      intro j h1 h2
      obtain ⟨x, hx⟩ : ∃ x, R[j - i - (posT fan l t).length]? = some x := ⟨_, List.getElem?_eq_getElem (by omega)⟩
      have hg : S[j]? = some x := by
        rw [eS, List.getElem?_append_right (by omega), ← hi, List.getElem?_append_right (by simp; omega), List.length_map]
        exact hx
      have h := (tAt_of S _ _ hg).1
      have hmem := List.mem_of_getElem? hx
      rw [← hR] at hmem
      obtain ⟨t', ht', i', _, _, rfl⟩ := mem_blocks.1 hmem
      rw [List.mem_map] at ht'
      obtain ⟨q, hq, rfl⟩ := ht'
      have := List.mem_range.1 hq
      rw [mk2_fst _ _ (by omega)] at h
      omega
    unfold refPick
    by_cases hb : f ≤ (posT fan l t).length
    · rw [if_pos hb]
      cases k with
      | zero => omega
      | succ k =>
      unfold scanF
      rw [if_pos (by omega), if_neg]
      · apply List.ext_getElem
        · simp; omega
        · intro j h1 h2
          simp only [List.length_map, List.length_range] at h1
          have h3 := (hin j (by omega)).2
          simp [h3]
      · rintro (h | ⟨h1, h2⟩)
        · have a1 := (hin 0 (by omega)).1
          have a2 := (hin (f - 1) (by omega)).1
          rw [Nat.add_zero] at a1
          rw [show i + f - 1 = i + (f - 1) from by omega] at h
          omega
        · have a1 := (hin 0 (by omega)).1
          rw [Nat.add_zero] at a1
          have := hbef (i - 1) (by omega)
          omega
    · rw [if_neg hb]
      -- within the tier nothing is picked
      have inner : ∀ d k', d ≤ (posT fan l t).length → k' + (i + ((posT fan l t).length - d)) = S.length + 1 → scanF S f k' (i + ((posT fan l t).length - d)) = refPick fan l f m (t + 1) := by
        intro d
        induction d with
        | zero =>
          intro k' _ hk'
          exact ih (t + 1) k' _ (by omega) (by rw [ht1]; omega) hk'
        | succ d ihd =>
          intro k' hd hk'
          cases k' with
          | zero => omega
          | succ k' =>
          unfold scanF
          by_cases hfit : i + ((posT fan l t).length - (d + 1)) + f ≤ S.length
          · rw [if_pos hfit, if_pos]
            · rw [show i + ((posT fan l t).length - (d + 1)) + 1 = i + ((posT fan l t).length - d) from by omega]
              exact ihd k' (by omega) (by omega)
            · by_cases h0 : (posT fan l t).length - (d + 1) = 0
              · left
                have a1 := (hin 0 (by omega)).1
                have a2 := haft (i + ((posT fan l t).length - (d + 1)) + f - 1) (by omega) (by omega)
                rw [h0] at a2 ⊢
                rw [Nat.add_zero] at a1 a2 ⊢
                omega
              · right
                have a1 := (hin ((posT fan l t).length - (d + 1)) (by omega)).1
                have a2 := (hin ((posT fan l t).length - (d + 1) - 1) (by omega)).1
                refine ⟨by omega, ?_⟩
                rw [show i + ((posT fan l t).length - (d + 1)) - 1 = i + ((posT fan l t).length - (d + 1) - 1) from by omega]
                omega
          · rw [if_neg hfit]
            exact (refPick_nil fan l f (by omega) m (t + 1) (by rw [hR]; omega)).symm
      have := inner (posT fan l t).length k (Nat.le_refl _) (by omega)
      rw [Nat.sub_self, Nat.add_zero] at this
      exact this

theorem pickF_eq (fan : Nat) (l : List Int) (hl : l.length ≤ 256) (hf : 2 ≤ fan) : pickF l fan = refPick fan l fan 64 0 := by
  unfold pickF
  rw [sortM_eq _ _ hl]
  have hlen : (blocks fan l (List.range 64)).length = l.length := by rw [← sortM_eq _ _ hl, sortM_length, marksL_length]
  exact scan_blocks fan l hl fan hf 64 0 (l.length + 1) 0 rfl rfl (by rw [hlen])
end Go.Proofs.YtfkckhliffbcjaaGreatDoor.Tier
