/- One step of merging, by the back and by the front. No program in sight. -/
import Derived.Test.YtfkckhliffbcjaaQ4
namespace Go.Proofs.Ytfkckhliffbcjaa.Tier
open Go.RowKit Go.Proofs.Ytfkckhliffbcjaa.X Go.Proofs.YtfkckhliffbcjaaW.PrintWords Go.Proofs.YtfkckhliffbcjaaW.PrintLast

theorem wrap64_id' (n : Int) (h1 : -9223372036854775808 ≤ n) (h2 : n ≤ 9223372036854775807) : wrap64 n = n := wrap64_id n h1 h2

/-- What is kept of a list from place i on, and the total of what is not. -/
def dropM : Int → List Int → List Int → List Int × Int
  | _, [], _ => ([], 0)
  | i, x :: r, zs => if zs.head? = some i then ((dropM (i + 1) r zs.tail).1, x + (dropM (i + 1) r zs.tail).2) else (x :: (dropM (i + 1) r zs).1, (dropM (i + 1) r zs).2)

theorem dropM_hit (i x : Int) (r zs : List Int) : dropM i (x :: r) (i :: zs) = ((dropM (i + 1) r zs).1, x + (dropM (i + 1) r zs).2) := by
  conv => lhs; unfold dropM
  rw [if_pos (by simp)]
  rfl

theorem dropM_miss (i x : Int) (r zs : List Int) (h : ¬ zs.head? = some i) : dropM i (x :: r) zs = (x :: (dropM (i + 1) r zs).1, (dropM (i + 1) r zs).2) := by
  conv => lhs; unfold dropM
  rw [if_neg h]

theorem dropM_le : ∀ (r : List Int) (i : Int) (zs : List Int), (∀ x ∈ r, 1 ≤ x) → 0 ≤ (dropM i r zs).2 ∧ (dropM i r zs).2 ≤ r.sum
  | [], _, _, _ => by simp [dropM]
  | x :: r, i, zs, h => by
    have hx := h x List.mem_cons_self
    have hr : ∀ y ∈ r, 1 ≤ y := fun y hy => h y (List.mem_cons_of_mem _ hy)
    unfold dropM
    rw [List.sum_cons]
    split
    · have := dropM_le r (i + 1) zs.tail hr
      simp only
      omega
    · have := dropM_le r (i + 1) zs hr
      simp only
      omega

theorem set_rd_self (out : List Int) (a : Nat) : out.set a (rd out (a : Int) + 0) = out := by
  apply List.ext_getElem?
  intro i
  rw [List.getElem?_set]
  split
  · rename_i h
    subst h
    split
    · rename_i h
      rw [rd_get out a h, List.getElem?_eq_getElem h, Int.add_zero]
    · rename_i h
      rw [List.getElem?_eq_none (by omega)]
  · rfl

theorem merge_at (out kp : List Int) (a : Nat) (v x : Int) (ha : a < out.length) (h0 : 0 ≤ v) (h1 : 0 ≤ x) (h2 : v + x ≤ 1048576) :
    mergeAt a (out.set a v ++ x :: kp) (out.length : Int) = out.set a (v + x) ++ kp := by
  have e1 : rd (out.set a v ++ x :: kp) (a : Int) = v := by
    rw [rd_get _ a (by simp; omega), List.getElem_append_left (by simpa using ha), List.getElem_set_self]
  have e2 : rd (out.set a v ++ x :: kp) (out.length : Int) = x := by
    rw [rd_get _ out.length (by simp), List.getElem_append_right (by simp)]
    simp
  unfold mergeAt
  rw [e1, e2, wrap64_id (v + x) (by omega) (by omega), Int.toNat_natCast, Int.toNat_natCast, List.set_append_left _ _ (by simpa using ha), List.set_set,
    List.eraseIdx_append_of_length_le (by simp)]
  simp

/-- From the back: what is merged into place a. -/
theorem fold_dropM (a : Nat) : ∀ (r out zs : List Int) (i : Nat), out.length = i → a < i → zs.Pairwise (· < ·) → (∀ z ∈ zs, (i : Int) ≤ z ∧ z < i + r.length) → (∀ x ∈ r, 1 ≤ x) → 0 ≤ rd out (a : Int) → rd out (a : Int) + r.sum ≤ 1048576 →
    zs.foldr (fun z m => mergeAt a m z) (out ++ r) = out.set a (rd out (a : Int) + (dropM i r zs).2) ++ (dropM i r zs).1
  | [], out, zs, i, hi, ha, hp, hz, _, _, _ => by
    have : zs = [] := by
      rw [List.eq_nil_iff_forall_not_mem]
      intro z h
      have := hz z h
      simp at this
      omega
    subst this
    simp only [dropM, List.foldr_nil]
    rw [set_rd_self]
  | x :: r, out, zs, i, hi, ha, hp, hz, hr, h0, h1 => by
    have hx := hr x List.mem_cons_self
    have hr' : ∀ y ∈ r, 1 ≤ y := fun y hy => hr y (List.mem_cons_of_mem _ hy)
    have hlen : (out ++ [x]).length = i + 1 := by simp; omega
    have hrd : rd (out ++ [x]) (a : Int) = rd out (a : Int) := by
      rw [rd_get _ a (by simp; omega), rd_get _ a (by omega), List.getElem_append_left (by omega)]
    have hset : ∀ v, (out ++ [x]).set a v = out.set a v ++ [x] := fun v => List.set_append_left _ _ (by omega)
    rw [List.sum_cons] at h1
    have happ : out ++ x :: r = (out ++ [x]) ++ r := by simp
    by_cases h : zs.head? = some (i : Int)
    · cases zs with
      | nil => cases h
      | cons z zs' =>
        simp only [List.head?_cons, Option.some.injEq] at h
        subst h
        have hp' := List.pairwise_cons.1 hp
        have hz' : ∀ z ∈ zs', ((i + 1 : Nat) : Int) ≤ z ∧ z < ((i + 1 : Nat) : Int) + r.length := by
          intro z hm
          have h2 := hp'.1 z hm
          have h3 := hz z (List.mem_cons_of_mem _ hm)
          simp only [List.length_cons] at h3
          omega
        have ih := fold_dropM a r (out ++ [x]) zs' (i + 1) hlen (by omega) hp'.2 hz' hr' (by rw [hrd]; exact h0) (by rw [hrd]; omega)
        have hd := dropM_le r ((i + 1 : Nat) : Int) zs' hr'
        rw [List.foldr_cons, happ, ih, hrd, hset, dropM_hit]
        simp only
        rw [show ((i : Int) + 1) = ((i + 1 : Nat) : Int) from by omega]
        rw [List.append_assoc, List.singleton_append]
        have hm := merge_at out (dropM ((i + 1 : Nat) : Int) r zs').1 a (rd out (a : Int) + (dropM ((i + 1 : Nat) : Int) r zs').2) x (by omega) (by omega) (by omega) (by omega)
        rw [hi] at hm
        rw [hm]
        congr 2
        omega
    · have hz' : ∀ z ∈ zs, ((i + 1 : Nat) : Int) ≤ z ∧ z < ((i + 1 : Nat) : Int) + r.length := by
        intro z hm
        have h3 := hz z hm
        simp only [List.length_cons] at h3
        have hne : z ≠ i := by
          intro e
          subst e
          cases zs with
          | nil => cases hm
          | cons y zs' =>
            have hy := hz y List.mem_cons_self
            simp only [List.head?_cons, Option.some.injEq] at h
            rcases List.mem_cons.1 hm with e | hm'
            · exact h e.symm
            · have := (List.pairwise_cons.1 hp).1 _ hm'
              omega
        omega
      have ih := fold_dropM a r (out ++ [x]) zs (i + 1) hlen (by omega) hp hz' hr' (by rw [hrd]; exact h0) (by rw [hrd]; omega)
      rw [happ, ih, hrd, hset, dropM_miss _ _ _ _ h]
      simp only
      rw [show ((i : Int) + 1) = ((i + 1 : Nat) : Int) from by omega]
      simp

theorem stepK_fold (first : Int) (zs l : List Int) : ∀ k, k ≤ zs.length → stepK first zs l k = (zs.drop (zs.length - k)).foldr (fun z m => mergeAt first m z) l
  | 0, _ => by simp [stepK]
  | k + 1, h => by
    unfold stepK
    rw [stepK_fold first zs l k (by omega), show zs.length - k = (zs.length - (k + 1)) + 1 from by omega]
    conv => rhs; rw [List.drop_eq_getElem_cons (by omega)]
    rw [List.foldr_cons]
    congr 1
    unfold backF
    have e : ((zs.length : Int) - 1 - k) = ((zs.length - (k + 1) : Nat) : Int) := by omega
    simp only [e]
    rw [rd_get _ _ (by omega)]

/-- A step by the front. -/
def frontF (l : List Int) (a : Nat) (zs : List Int) : List Int :=
  (l.take (a + 1)).set a (rd l (a : Int) + (dropM ((a + 1 : Nat) : Int) (l.drop (a + 1)) zs).2) ++ (dropM ((a + 1 : Nat) : Int) (l.drop (a + 1)) zs).1

theorem stepF_front (l : List Int) (a : Nat) (zs : List Int) (hg : Good l) (ha : a < l.length) (hp : ((a : Int) :: zs).Pairwise (· < ·)) (hz : ∀ z ∈ zs, z < l.length) : stepF l ((a : Int) :: zs) = frontF l a zs := by
  unfold stepF
  have e0 : rd ((a : Int) :: zs) 0 = (a : Int) := rfl
  rw [e0, List.tail_cons, stepK_fold _ _ _ _ (Nat.le_refl _), Nat.sub_self, List.drop_zero]
  have hp' := List.pairwise_cons.1 hp
  have e1 : rd (l.take (a + 1)) (a : Int) = rd l (a : Int) := by
    rw [rd_get _ a (by simp; omega), rd_get _ a ha, List.getElem_take]
  have hsum : rd l (a : Int) + (l.drop (a + 1)).sum ≤ 1048576 ∧ 0 ≤ rd l (a : Int) := by
    have h1 : l.sum = (l.take (a + 1)).sum + (l.drop (a + 1)).sum := by rw [← List.sum_append, List.take_append_drop]
    have h2 : (l.take (a + 1)).sum = (l.take a).sum + rd l (a : Int) := by
      rw [List.take_succ_eq_append_getElem ha, List.sum_append, rd_get l a ha]
      simp
    have h3 : ∀ m : List Int, (∀ x ∈ m, 1 ≤ x) → 0 ≤ m.sum := by
      intro m
      induction m with
      | nil => intro _; simp
      | cons x m ih =>
        intro h
        have := ih fun y hy => h y (List.mem_cons_of_mem _ hy)
        have := h x List.mem_cons_self
        rw [List.sum_cons]; omega
    have h4 := h3 (l.take a) fun x hx => hg.pos x (List.mem_of_mem_take hx)
    have h5 := hg.sum
    have h6 : 1 ≤ rd l (a : Int) := by
      rw [rd_get l a ha]
      exact hg.pos _ (List.getElem_mem _)
    omega
  have h := fold_dropM a (l.drop (a + 1)) (l.take (a + 1)) zs (a + 1) (by simp; omega) (by omega) hp'.2 (by
    intro z hm
    have h1 := hp'.1 z hm
    have h2 := hz z hm
    rw [List.length_drop]
    omega) (fun x hx => hg.pos x (List.mem_of_mem_drop hx)) (by rw [e1]; exact hsum.2) (by rw [e1]; exact hsum.1)
  rw [List.take_append_drop] at h
  rw [h, e1]
  rfl
end Go.Proofs.Ytfkckhliffbcjaa.Tier
