/- Go's slices.Sort at elements of uint64: the library's text is walked (turned by program out of the guide's worked walks at int). -/
import Derived.Test.YtfkckhliffbcjaaDoorX0
import Derived.Test.YtfkckhliffbcjaaDoorShelf
import Derived.Sort.Walk7
import Derived.Sort.Walk11
import Derived.Sort.Walk13
import Derived.Sort.WalkC4
import Derived.Sort.AssemblyPlain
namespace Go.Proofs.YtfkckhliffbcjaaDoor.Sou64
open Go.RowKit Go.Sort Go.Proofs
abbrev encU : Int → Value := fun x => Value.int .u64 x

set_option maxHeartbeats 1000000 in
theorem cmp_isNaN_u64 (x : Int) (w : World) : Calls Tryd.prog 62 #[.int .u64 x] w fun e w' => e = .returned (.bool false) ∧ w' = w := by
  go_enter Tryd.func62, Tryd.ntmps62
  go_wp2
  go_ret
  exact ⟨by simp, rfl⟩

set_option maxHeartbeats 1000000 in
theorem cmp_Less_u64 (x y : Int) (w : World) : Calls Tryd.prog 52 #[.int .u64 x, .int .u64 y] w fun e w' => e = .returned (.bool (Sort.ltInt x y)) ∧ w' = w := by
  go_enter Tryd.func52, Tryd.ntmps52
  go_wp2_with (go_at_call 62; refine (cmp_isNaN_u64 _ _).mono ?_; rintro e w' ⟨rfl, rfl⟩)
  go_ret
  exact ⟨rfl, rfl⟩
end Go.Proofs.YtfkckhliffbcjaaDoor.Sou64
