/- What the library's tables hold, and that it stays. -/
import Derived.Test.YtfkckhliffbcjaaDoorX0
import Derived.Test.YtfkckhliffbcjaaDoorShelf
namespace Go.Proofs.YtfkckhliffbcjaaDoorW.PrintWords
open Go.RowKit

/-- The two tables of utf8 are as they were laid. -/
def Tabs (w : World) : Prop := Lib.Utf8Tabs 0 1 w

theorem tabs_below {w w1 : World} (hT : Tabs w) (hB : Below w.heap.size w w1) : Tabs w1 :=
  ⟨fun c hc => (hB.cell (World.block_lt_of_cell? w _ (hT.1 c hc))).trans (hT.1 c hc),
   fun i hi => ⟨(hB.cell (World.block_lt_of_cell? w _ (hT.2 i hi).1)).trans (hT.2 i hi).1, (hB.cell (World.block_lt_of_cell? w _ (hT.2 i hi).2)).trans (hT.2 i hi).2⟩⟩
theorem tabs_alloc {w : World} (hT : Tabs w) (o : Obj) : Tabs (w.alloc o) := tabs_below hT ((Below.refl _ _).alloc (Nat.le_refl _) _)
theorem tabs_drew {w : World} (hT : Tabs w) : Tabs w.drew := hT
theorem tabs_drewN {w : World} (hT : Tabs w) (n : Nat) : Tabs (w.drewN n) := hT
end Go.Proofs.YtfkckhliffbcjaaDoorW.PrintWords
