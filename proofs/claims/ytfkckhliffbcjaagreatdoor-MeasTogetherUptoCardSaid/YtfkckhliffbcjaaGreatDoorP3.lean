/- Gauges together, by the printed form: the plain law behind the statement MeasTogether. -/
import Derived.Test.YtfkckhliffbcjaaGreatDoorP2
import Derived.Test.YtfkckhliffbcjaaGreatDoorV3
namespace Go.Proofs.YtfkckhliffbcjaaGreatDoor.Meas
open Go.RowKit Go.Proofs.YtfkckhliffbcjaaGreatDoor.V Go.Proofs.YtfkckhliffbcjaaGreatDoorW.PrintWords

theorem together_law (a b : List S24) (hl : a.length + b.length ≤ 1048576) : missivelaw34_MeasTogether.f a b = some true := by
  have l1 : a.length < 5864062014805 := by omega
  have l2 : b.length < 5864062014805 := by omega
  have l3 : a.length + b.length < 5864062014805 := by omega
  have l4 : b.length + a.length < 5864062014805 := by omega
  clear hl
  unfold missivelaw34_MeasTogether.f missivelaw34_lives.f meas_Sum.f
  simp only [Option.bind_some, if_true, List.nil_append, List.length_nil, Nat.zero_add, if_pos l1, if_pos l2, if_pos l3, if_pos l4]
  rw [sumG_swap b a]
  by_cases h1 : (sumG (a ++ b)).2.2.2 = 0
  · by_cases h3 : (sumG a).2.2.2 = 0
    · by_cases h4 : (sumG b).2.2.2 = 0
      · have hp := sumG_parts a b h1 h3 h4
        rw [hp]
        simp [h1, h3, h4]
      · simp [h1, h3, h4]
    · simp [h1, h3]
  · simp [h1]
end Go.Proofs.YtfkckhliffbcjaaGreatDoor.Meas
