/- Gauges at work: the code's walks. -/
import Derived.Test.YtfkckhliffbcjaaGreatDoorM0
import Derived.Test.YtfkckhliffbcjaaGreatDoorFl
import Derived.LoopTactic
import Derived.WalkLawsBesides
import Derived.Lib.Hide
import Derived.StillTailTactics
import Derived.Outline
namespace Go.Proofs.YtfkckhliffbcjaaGreatDoor.Meas
open Go.RowKit Go.Proofs.YtfkckhliffbcjaaGreatDoor.V Go.Proofs.YtfkckhliffbcjaaGreatDoor.Fl Go.Proofs.YtfkckhliffbcjaaGreatDoorW.PrintWords
set_option linter.unusedVariables false
set_option linter.unusedSimpArgs false

section
variable {P : Program} {w : World} {a : Addr} {m : Mode}
theorem run_store_complex (k : FloatKind) (x y : Nat) : (store a (.complex k x y) m).run P w = stored P w a (.complex k x y) m := run_store P w a _ m rfl
end
attribute [local go_sem] run_store_complex

theorem two_blocks (w : World) (a b : Obj) : Below w.heap.size w ((w.alloc a).alloc b) := ((Below.refl _ _).alloc (Nat.le_refl _) _).alloc (by simp) _
theorem three_blocks (w : World) (a b c : Obj) : Below w.heap.size w (((w.alloc a).alloc b).alloc c) := (((Below.refl _ _).alloc (Nat.le_refl _) _).alloc (by simp) _).alloc (by simp; omega) _

set_option maxRecDepth 100000 in
theorem of_any (i b d : Int) (w : World) : Calls Tryz.prog 34 #[.agg #[.int .i64 i, .int .i64 b, .int .i64 d]] w fun e w' => e = .returned (.agg #[.complex .f64 (floatOfInt .f64 i) (floatOfInt .f64 b), .int .i64 d]) ∧ Below w.heap.size w w' := by
  go_enter Tryz.func34, Tryz.ntmps34
  go_wp2
  exact bodyPost_ret (v := .agg #[.complex .f64 (floatOfInt .f64 i) (floatOfInt .f64 b), .int .i64 d]) (by simp [results, Tryz.results34, go_sem]) rfl ⟨rfl, two_blocks _ _ _⟩

set_option maxRecDepth 100000 in
theorem add_any (i b i' b' I B : Nat) (d d' D : Int) (w : World) (hi : Ieee.double.add i i' = some I) (hb : Ieee.double.add b b' = some B) (hd : IntKind.i64.wrap (d + d') = D) :
    Calls Tryz.prog 33 #[.agg #[.complex .f64 i b, .int .i64 d], .agg #[.complex .f64 i' b', .int .i64 d']] w fun e w' => e = .returned (.agg #[.complex .f64 I B, .int .i64 D]) ∧ Below w.heap.size w w' := by
  have hc : cSumBits .add .f64 i b i' b' = some (I, B) := by
    unfold cSumBits floatBits
    show (Ieee.double.add i i').bind (fun re => (Ieee.double.add b b').bind fun im => some (re, im)) = some (I, B)
    rw [hi, hb]
    rfl
  have hrun := fun W : World => run_complex_sum (P := Tryz.prog) W .add (.inl rfl) 70 .f64 i b i' b' I B hc
  have hu72 := Tryz.underlying72
  clear hc hi hb
  go_enter Tryz.func33, Tryz.ntmps33
  go_wp2
  exact bodyPost_ret (v := .agg #[.complex .f64 I B, .int .i64 D]) (by simp [results, Tryz.results33, go_sem]) rfl ⟨rfl, three_blocks _ _ _ _⟩

set_option maxRecDepth 100000 in
theorem gauge_any (i b : Nat) (d I B : Int) (w : World) (hi : floatToIntVal .f64 i .i64 = some I) (hb : floatToIntVal .f64 b .i64 = some B) :
    Calls Tryz.prog 35 #[.agg #[.complex .f64 i b, .int .i64 d]] w fun e w' => e = .returned (.agg #[.int .i64 I, .int .i64 B, .int .i64 d]) ∧ Below w.heap.size w w' := by
  have h1 := fun W : World => run_convert_float_int (P := Tryz.prog) W 119 3 .f64 .i64 i I (by kernel_rfl) Tryz.underlying3 hi
  have h2 := fun W : World => run_convert_float_int (P := Tryz.prog) W 119 3 .f64 .i64 b B (by kernel_rfl) Tryz.underlying3 hb
  have hu72 := Tryz.underlying72
  have hu24 := Tryz.underlying24
  clear hi hb
  go_enter Tryz.func35, Tryz.ntmps35
  go_wp2
  exact bodyPost_ret (v := .agg #[.int .i64 I, .int .i64 B, .int .i64 d]) (by simp [results, Tryz.results35, go_sem]) rfl ⟨rfl, two_blocks _ _ _⟩
end Go.Proofs.YtfkckhliffbcjaaGreatDoor.Meas
