/- The reader's next letter, of any text, over the laid tables: the code's walk. -/
import Derived.Test.YtfkckhliffbcjaaDoorF1
import Derived.Test.YtfkckhliffbcjaaDoorShelf
namespace Go.Proofs.YtfkckhliffbcjaaDoor.Fold
open Go.RowKit Go.Proofs.YtfkckhliffbcjaaDoorW.PrintWords

set_option maxRecDepth 100000 in
set_option maxHeartbeats 1000000 in
theorem next_any (s : ByteArray) (g : Nat) (n k : Nat) (w : World) (hT : Lib.Utf8Tabs 0 1 w) (hd : Lib.decodeGo s = (n, k)) (hk : k ≤ s.size)
    (hh : w.heap[g]? = some (.cells #[.pointer none, .slice none 0 0, .string s] 50 (0, 0))) :
    Calls Tryd.prog 35 #[.pointer (some ⟨g, 0, none⟩)] w fun e w' => e = .returned (.int .i32 (n : Int)) ∧ ∃ w1, Below w.heap.size w w1 ∧ w' = w1.setCell ⟨g, 2, none⟩ (.string (s.extract k s.size)) := by
  have hc : w.cell? ⟨g, 2, none⟩ = some (.string s) := blk_cell hh 2
  have D := Tryd.utf8_DecodeRuneInString s w hT
  rw [hd] at D
  have HD := Lib.hid D
  clear D
  have HH := Lib.hid hh
  have HX := Lib.hid hd
  clear hh hd
  have c1 : decide ((0 : Int) ≤ (k : Int)) = true := decide_eq_true (by omega)
  have c2 : decide ((k : Int) ≤ (s.size : Int)) = true := decide_eq_true (by omega)
  go_enter Tryd.func35, Tryd.ntmps35
  go_wp2_with (first | (go_at_call 41; refine HD.out.mono ?_; rintro e w1 ⟨rfl, hw1⟩; have h2 := hw1.block g (blk_lt HH.out); rw [HH.out] at h2; have hc1 : w1.cell? ⟨g, 2, none⟩ = some (.string s) := blk_cell h2 2; have hf1 := blk_frozen h2 2; have HB := Lib.hid hw1; have H2 := Lib.hid h2; clear hw1 h2))
  go_ret
  exact ⟨rfl, _, HB.out, rfl⟩

/-- The letters of a text, so many at the most. -/
def lettersF : Nat → ByteArray → List Int
  | 0, _ => []
  | m + 1, s => if s.toList.isEmpty = true then [] else ((Lib.decodeGo s).1 : Int) :: lettersF m (s.extract (Lib.decodeGo s).2 s.size)
end Go.Proofs.YtfkckhliffbcjaaDoor.Fold
