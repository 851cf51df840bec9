/- Small whole numbers as float64, held against each other and led back. -/
import Derived.WalkKit
import Derived.WalkLawsBesides
namespace Go.Proofs.YtfkckhliffbcjaaGreatDoor.Tier
open Go.RowKit

/-- A small number's bits as a float64. -/
def fl (n : Nat) : Nat := floatOfInt .f64 (n : Int)
theorem order_b : (List.range 256).all (fun a => (List.range 256).all fun b => FloatKind.f64.format.order (fl a) (fl b) == some (compare a b)) = true := by decide +kernel
theorem back_b : (List.range 256).all (fun a => floatToIntVal .f64 (fl a) .i64 == some (a : Int)) = true := by decide +kernel
theorem order_fl (a b : Nat) (ha : a < 256) (hb : b < 256) : FloatKind.f64.format.order (fl a) (fl b) = some (compare a b) := by
  have h := order_b
  rw [List.all_eq_true] at h
  have h2 := h a (List.mem_range.2 ha)
  rw [List.all_eq_true] at h2
  exact eq_of_beq (h2 b (List.mem_range.2 hb))
theorem back_fl (a : Nat) (ha : a < 256) : floatToIntVal .f64 (fl a) .i64 = some (a : Int) := by
  have h := back_b
  rw [List.all_eq_true] at h
  exact eq_of_beq (h a (List.mem_range.2 ha))
end Go.Proofs.YtfkckhliffbcjaaGreatDoor.Tier
