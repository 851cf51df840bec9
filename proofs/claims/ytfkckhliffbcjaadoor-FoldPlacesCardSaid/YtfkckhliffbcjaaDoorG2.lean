/- Folding twice: the plain law. -/
import Derived.Test.YtfkckhliffbcjaaDoorX4
import Derived.Test.YtfkckhliffbcjaaDoorG1
namespace Go.Proofs.YtfkckhliffbcjaaDoor.Fold
open Go.RowKit Go.Proofs.YtfkckhliffbcjaaDoor.X Go.Proofs.YtfkckhliffbcjaaDoorW.PrintWords Go.Proofs.YtfkckhliffbcjaaDoorW.PrintLast

theorem ev_lives : Ev (fun k => missivelaw07_lives.f k) true := Ev.of (fun k => missivelaw07_lives.mono k) (k := 40) (by decide +kernel)

theorem is_some (n : Int) : ∃ b, missiveref06_Is.f n = some b := by
  unfold missiveref06_Is.f
  split
  · split
    · split
      · exact ⟨_, rfl⟩
      · exact ⟨_, rfl⟩
    · exact ⟨_, rfl⟩
  · exact ⟨_, rfl⟩

theorem once_pure (a0 : Int) (l1 l2 : List Int) (h : l1.length + l2.length ≤ 4194304) : ∃ k, missivelaw07_FoldOnce.f k a0 l1 l2 = some true := by
  obtain ⟨b, hb⟩ := is_some a0
  obtain ⟨_, hi, hs⟩ := one_facts a0
  obtain ⟨k1, h1⟩ := ev_lives
  obtain ⟨k2, h2⟩ := ev_One a0
  obtain ⟨k3, h3⟩ := ev_Fold l1 (by omega)
  obtain ⟨k4, h4⟩ := ev_Fold l2 (by omega)
  obtain ⟨k5, h5⟩ := ev_One (oneF a0)
  obtain ⟨k6, h6⟩ := ev_Fold (l1 ++ l2) (by rw [List.length_append]; omega)
  obtain ⟨k7, h7⟩ := ev_same (l1.map oneF ++ l2.map oneF) (by simp only [List.length_append, List.length_map]; omega)
  refine ⟨k1 + k2 + k3 + k4 + k5 + k6 + k7, ?_⟩
  generalize hk : k1 + k2 + k3 + k4 + k5 + k6 + k7 = k
  have h1 := h1 k (by omega)
  have h2 := h2 k (by omega)
  have h3 := h3 k (by omega)
  have h4 := h4 k (by omega)
  have h5 := h5 k (by omega)
  have h6 := h6 k (by omega)
  have h7 := h7 k (by omega)
  simp only at h1 h2 h3 h4 h5 h6 h7
  rw [hi] at h5
  rw [hb] at hs
  rw [List.map_append] at h6
  have c1 : ([] : List Int).length + l1.length < 35184372088832 := by simp only [List.length_nil]; omega
  have c2 : l1.length + l2.length < 35184372088832 := by omega
  have c3 : ([] : List Int).length + (l1.map oneF).length < 35184372088832 := by simp only [List.length_nil, List.length_map]; omega
  have c4 : (l1.map oneF).length + (l2.map oneF).length < 35184372088832 := by simp only [List.length_map]; omega
  unfold missivelaw07_FoldOnce.f
  simp only [h1, h2, h3, h4, h5, hb, hs, Option.bind_some, if_true, List.nil_append, beq_self_eq_true]
  rw [if_pos c1, if_pos c2]
  simp only [h6, Option.bind_some]
  rw [if_pos c3, if_pos c4, h7]
  rfl
end Go.Proofs.YtfkckhliffbcjaaDoor.Fold
