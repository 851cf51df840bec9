/- An empty view's gauges: the code's walks. -/
import Derived.Test.YtfkckhliffbcjaaGreatDoorM2
namespace Go.Proofs.YtfkckhliffbcjaaGreatDoor.Meas
open Go.RowKit Go.Proofs.YtfkckhliffbcjaaGreatDoor.V Go.Proofs.YtfkckhliffbcjaaGreatDoor.Fl Go.Proofs.YtfkckhliffbcjaaGreatDoorW.PrintWords
set_option linter.unusedVariables false
set_option linter.unusedSimpArgs false

/-- An empty box. -/
def box0 (A : Option Addr) (c : Nat) : Value := .agg #[.int .u32 1, .int .u64 1, .int .u32 0, .int .u32 0, .slice A 0 c]
/-- A view without mails. -/
def view0 (A : Option Addr) (c : Nat) (A1 : Option Addr) (c1 : Nat) (A2 : Option Addr) (c2 : Nat) (A3 : Option Addr) (c3 : Nat) (A4 : Option Addr) (c4 : Nat) (A5 : Option Addr) (c5 : Nat) : Value := .agg #[.int .u32 1, .int .u64 1, .int .u32 0, .int .u32 0, .slice A 0 c, .int .u64 0, .int .u64 0, .slice A1 0 c1, .slice A2 0 c2, .int .u64 0, .slice A3 0 c3, .slice A4 0 c4, .slice A5 0 c5]

theorem below_new (w : World) (o : Obj) : Below w.heap.size w (w.alloc o) := (Below.refl _ _).alloc (Nat.le_refl _) _
theorem below_next {w w1 : World} (h : Below w.heap.size w w1) (o : Obj) : Below w.heap.size w (w1.alloc o) := h.alloc h.size _

set_option maxRecDepth 100000 in
theorem boxCheck0 (A : Option Addr) (c : Nat) (w : World) : Calls Tryz.prog 221 #[box0 A c] w fun e w' => e = .returned (.int .i64 0) ∧ Below w.heap.size w w' := by
  unfold box0
  go_enter Tryz.func221, Tryz.ntmps221
  go_wp2
  go_loopw [43] (fun v wr => v = .int .i64 0 ∧ Hid (Below w.heap.size w wr)) (fun _ _ => 0)
  case atStart => exact ⟨rfl, Lib.hid (below_new _ _)⟩
  case round =>
    obtain ⟨rfl, HB⟩ := hrel
    go_wp2
    go_ret
    exact ⟨rfl, HB.out⟩

set_option maxRecDepth 100000 in
theorem own0 (A : Option Addr) (c : Nat) (w : World) : Calls Tryz.prog 163 #[.slice A 0 c] w fun e w' => ∃ A c, e = .returned (.slice A 0 c) ∧ Below w.heap.size w w' := by
  have hmk : ∃ o, (Instr.makeSlice 36 (.int .i64 0) (.int .i64 1)).run Tryz.prog w = .ok (.slice (some ⟨w.heap.size, 0, none⟩) 0 1) (w.alloc o) := by
    have hinfo : (Tryz.prog.info? 78).map (fun i => (i.zero.isSome, decide (i.bytes ≤ 1000))) = some (true, true) := by kernel_rfl
    obtain ⟨i, hi, hz⟩ := Option.map_eq_some_iff.1 hinfo
    simp only [Prod.mk.injEq, decide_eq_true_eq] at hz
    obtain ⟨z, hz0⟩ := Option.isSome_iff_exists.1 hz.1
    exact ⟨_, run_make w 36 78 i z Tryz.underlying36 hi hz0 .i64 .i64 0 1 (by decide) (by decide) (by have := hz.2; omega) (by decide)⟩
  obtain ⟨o, ho⟩ := hmk
  go_enter Tryz.func163, Tryz.ntmps163
  go_wp2
  go_loopw [14] (fun v wr => v = .int .i64 0 ∧ Hid (Below w.heap.size w wr)) (fun _ _ => 0)
  case atStart => exact ⟨rfl, Lib.hid (below_new _ _)⟩
  case round =>
    obtain ⟨rfl, HB⟩ := hrel
    go_wp2
    go_ret
    exact ⟨_, _, rfl, HB.out⟩

set_option maxRecDepth 100000 in
theorem insert0 (A : Option Addr) (c : Nat) (f : Value) (w : World) : Calls Tryz.prog 256 #[.slice A 0 c, .int .i64 0, .int .i64 0, f] w fun e w' => e = .returned (.tuple #[]) ∧ Below w.heap.size w w' := by
  go_enter Tryz.func256, Tryz.ntmps256
  go_wp2
  go_loopw [8] (fun v wr => v = .int .i64 1 ∧ Hid (Below w.heap.size w wr)) (fun _ _ => 0)
  case atStart => exact ⟨rfl, Lib.hid (Below.refl _ _)⟩
  case round =>
    obtain ⟨rfl, HB⟩ := hrel
    go_wp2
    ((try simp only [Exit.inBlock, Exit.then]); refine bodyPost_end (results_none rfl _ _ _) rfl ?_)
    exact ⟨rfl, HB.out⟩

set_option maxRecDepth 100000 in
theorem above0 (A : Option Addr) (c : Nat) (w : World) : Calls Tryz.prog 162 #[box0 A c, .int .u32 0] w fun e w' => e = .returned (.tuple #[.slice none 0 0, .int .i64 0]) ∧ Below w.heap.size w w' := by
  have HC := Lib.hid (fun W => boxCheck0 A c W)
  unfold box0 at HC ⊢
  go_enter Tryz.func162, Tryz.ntmps162
  go_wp2_with (first | (go_at_call 221; refine (HC.out _).mono ?_; rintro e w1 ⟨rfl, hb1⟩; have hh := blk_below (blk_new w _) hb1; have k4 := blk_cell hh 4; have HB1 := Lib.hid (((Below.refl w.heap.size w).alloc (Nat.le_refl _) _).trans (hb1.mono (by simp))); clear hb1 hh))
  go_loopw [7, 18] (fun v7 v wr => v7 = .slice none 0 0 ∧ v = .int .i64 0 ∧ Hid (Below w.heap.size w wr)) (fun _ _ _ => 0)
  case atStart => exact ⟨rfl, rfl, HB1⟩
  case round =>
    obtain ⟨rfl, rfl, HB⟩ := hrel
    go_wp2
    go_ret2
    exact ⟨rfl, HB.out⟩
set_option maxRecDepth 100000 in
theorem compact0 (A : Option Addr) (c : Nat) (f : Value) (w : World) : Calls Tryz.prog 167 #[.slice A 0 c, f] w fun e w' => e = .returned (.slice A 0 c) ∧ Below w.heap.size w w' := by
  go_enter Tryz.func167, Tryz.ntmps167
  go_wp2
  go_ret
  exact ⟨rfl, Below.refl _ _⟩
set_option maxRecDepth 100000 in
theorem uids0 (A : Option Addr) (c : Nat) (w : World) : Calls Tryz.prog 117 #[.slice A 0 c] w fun e w' => e = .returned (.slice none 0 0) ∧ Below w.heap.size w w' := by
  go_enter Tryz.func117, Tryz.ntmps117
  go_wp2
  go_loopw [3, 8] (fun v7 v wr => v7 = .slice none 0 0 ∧ v = .int .i64 0 ∧ Hid (Below w.heap.size w wr)) (fun _ _ _ => 0)
  case atStart => exact ⟨rfl, rfl, Lib.hid (Below.refl _ _)⟩
  case round =>
    obtain ⟨rfl, rfl, HB⟩ := hrel
    go_wp2
    go_ret
    exact ⟨rfl, HB.out⟩
set_option maxRecDepth 100000 in
theorem equal0 (w : World) : Calls Tryz.prog 116 #[.slice none 0 0, .slice none 0 0] w fun e w' => e = .returned (.bool true) ∧ Below w.heap.size w w' := by
  go_enter Tryz.func116, Tryz.ntmps116
  go_wp2
  go_loopw [13] (fun v wr => v = .int .i64 0 ∧ Hid (Below w.heap.size w wr)) (fun _ _ => 0)
  case atStart => exact ⟨rfl, Lib.hid (Below.refl _ _)⟩
  case round =>
    obtain ⟨rfl, HB⟩ := hrel
    go_wp2
    go_ret
    exact ⟨rfl, HB.out⟩
set_option maxRecDepth 100000 in
theorem stable0 (A : Option Addr) (c : Nat) (f : Value) (w : World) : Calls Tryz.prog 223 #[.slice A 0 c, .int .i64 0, f] w fun e w' => e = .returned (.tuple #[]) ∧ Below w.heap.size w w' := by
  have HI := Lib.hid (fun W => insert0 A c f W)
  go_enter Tryz.func223, Tryz.ntmps223
  go_wp2
  go_loopw [7, 8] (fun v7 v wr => v7 = .int .i64 0 ∧ v = .int .i64 20 ∧ Hid (Below w.heap.size w wr)) (fun _ _ _ => 0)
  case atStart => exact ⟨rfl, rfl, Lib.hid (Below.refl _ _)⟩
  case round =>
    obtain ⟨rfl, rfl, HB⟩ := hrel
    go_wp2_with (first | (go_at_call 256; refine (HI.out _).mono ?_; rintro e w1 ⟨rfl, hb1⟩; have HB1 := Lib.hid (HB.out.trans (hb1.mono HB.out.size)); clear hb1))
    go_loopw [6] (fun v wr => v = .int .i64 20 ∧ Hid (Below w.heap.size w wr)) (fun _ _ => 0)
    case atStart => exact ⟨rfl, HB1⟩
    case round =>
      obtain ⟨rfl, HB2⟩ := hrel
      go_wp2
      ((try simp only [Exit.inBlock, Exit.then]); refine bodyPost_end (results_none rfl _ _ _) rfl ?_)
      exact ⟨rfl, HB2.out⟩
set_option maxRecDepth 100000 in
theorem sort0 (A : Option Addr) (c : Nat) (f : Value) (w : World) : Calls Tryz.prog 164 #[.slice A 0 c, f] w fun e w' => e = .returned (.tuple #[]) ∧ Below w.heap.size w w' := by
  have HI := Lib.hid (fun W => stable0 A c f W)
  go_enter Tryz.func164, Tryz.ntmps164
  go_wp2_with (first | (go_at_call 223; refine (HI.out _).mono ?_; rintro e w1 ⟨rfl, hb1⟩; have HB1 := Lib.hid hb1; clear hb1))
  ((try simp only [Exit.inBlock, Exit.then]); refine bodyPost_end (results_none rfl _ _ _) rfl ?_)
  exact ⟨rfl, HB1.out⟩
set_option maxRecDepth 100000 in
theorem boxUids0 (A : Option Addr) (c : Nat) (w : World) : Calls Tryz.prog 114 #[box0 A c] w fun e w' => e = .returned (.tuple #[.slice none 0 0, .int .i64 0]) ∧ Below w.heap.size w w' := by
  have HC := Lib.hid (fun W => above0 A c W)
  unfold box0 at HC ⊢
  go_enter Tryz.func114, Tryz.ntmps114
  go_wp2_with (first | (go_at_call 162; refine (HC.out _).mono ?_; rintro e w1 ⟨rfl, hb1⟩; have HB1 := Lib.hid (((Below.refl w.heap.size w).alloc (Nat.le_refl _) _).trans (hb1.mono (by simp))); clear hb1))
  go_ret2
  exact ⟨rfl, HB1.out⟩
set_option maxRecDepth 100000 in
theorem items0 (A : Option Addr) (c : Nat) (A1 : Option Addr) (c1 : Nat) (A2 : Option Addr) (c2 : Nat) (A3 : Option Addr) (c3 : Nat) (A4 : Option Addr) (c4 : Nat) (A5 : Option Addr) (c5 : Nat) (w : World) : Calls Tryz.prog 115 #[view0 A c A1 c1 A2 c2 A3 c3 A4 c4 A5 c5] w fun e w' => ∃ A c, e = .returned (.slice A 0 c) ∧ Below w.heap.size w w' := by
  have HO := Lib.hid (fun A c W => own0 A c W)
  have HS := Lib.hid (fun A c f W => sort0 A c f W)
  have HC := Lib.hid (fun A c f W => compact0 A c f W)
  unfold view0
  go_enter Tryz.func115, Tryz.ntmps115
  go_wp2
  go_loopw [3, 11] (fun v3 v wr => v3 = .slice none 0 0 ∧ v = .int .i64 0 ∧ Hid (wr.heap[w.heap.size]? = some (.cells #[.int .u32 1, .int .u64 1, .int .u32 0, .int .u32 0, .slice A 0 c, .int .u64 0, .int .u64 0, .slice A1 0 c1, .slice A2 0 c2, .int .u64 0, .slice A3 0 c3, .slice A4 0 c4, .slice A5 0 c5] 48 (0, 0))) ∧ Hid (Below w.heap.size w wr)) (fun _ _ _ => 0)
  case atStart => exact ⟨rfl, rfl, Lib.hid (blk_new _ _), Lib.hid (below_new _ _)⟩
  case round =>
    obtain ⟨rfl, rfl, HV, HB⟩ := hrel
    have k11 := blk_cell HV.out 11
    cases A4 <;>
    (go_wp2_with (first | (go_at_call 163; refine (HO.out _ _ _).mono ?_; rintro e w1 ⟨Ao, co, rfl, hb1⟩; have HB1 := Lib.hid (HB.out.trans (hb1.mono HB.out.size)); clear hb1) | (go_at_call 164; refine (HS.out _ _ _ _).mono ?_; rintro e w2 ⟨rfl, hb2⟩; have HB2 := Lib.hid (HB1.out.trans (hb2.mono HB1.out.size)); clear hb2) | (go_at_call 167; refine (HC.out _ _ _ _).mono ?_; rintro e w3 ⟨rfl, hb3⟩; have HB3 := Lib.hid (HB2.out.trans (hb3.mono HB2.out.size)); clear hb3))
     go_ret
     exact ⟨_, _, rfl, HB3.out⟩)
set_option maxRecDepth 100000 in
theorem open0 (A : Option Addr) (c : Nat) (A1 : Option Addr) (c1 : Nat) (A2 : Option Addr) (c2 : Nat) (A3 : Option Addr) (c3 : Nat) (A4 : Option Addr) (c4 : Nat) (A5 : Option Addr) (c5 : Nat) (w : World) : Calls Tryz.prog 67 #[view0 A c A1 c1 A2 c2 A3 c3 A4 c4 A5 c5] w fun e w' => ∃ v, e = .returned (.tuple #[v, .int .i64 0]) ∧ Below w.heap.size w w' := by
  have HO := Lib.hid (fun W => boxUids0 A c W)
  have HI := Lib.hid (fun W => items0 A c A1 c1 A2 c2 A3 c3 A4 c4 A5 c5 W)
  have HU := Lib.hid (fun A c W => uids0 A c W)
  have HE := Lib.hid (fun W => equal0 W)
  unfold view0 at HI ⊢
  unfold box0 at HO
  go_enter Tryz.func67, Tryz.ntmps67
  go_wp2_with (first | (go_at_call 114; refine (HO.out _).mono ?_; rintro e w1 ⟨rfl, hb1⟩; have hh := blk_below (blk_new w _) hb1; have kk := fun j => blk_cell hh j; have HH := Lib.hid hh; have HB1 := Lib.hid ((below_new w _).trans (hb1.mono (below_new w _).size)); clear hb1 hh) | (go_at_call 115; refine (HI.out _).mono ?_; rintro e w2 ⟨Ai, ci, rfl, hb2⟩; have HH2 := Lib.hid (blk_below HH.out hb2); have HB2 := Lib.hid (HB1.out.trans (hb2.mono HB1.out.size)); clear hb2) | (go_at_call 117; refine (HU.out _ _ _).mono ?_; rintro e w3 ⟨rfl, hb3⟩; have HH3 := Lib.hid (blk_below HH2.out hb3); have HB3 := Lib.hid (HB2.out.trans (hb3.mono HB2.out.size)); clear hb3) | (go_at_call 116; refine (HE.out _).mono ?_; rintro e w4 ⟨rfl, hb4⟩; have hh4 := blk_below HH3.out hb4; have kk4 := fun j => blk_cell hh4 j; have HB4 := Lib.hid (HB3.out.trans (hb4.mono HB3.out.size)); clear hb4 hh4))
  go_ret2
  exact ⟨_, rfl, below_next HB4.out _⟩
set_option maxRecDepth 100000 in
theorem planCheck0 (A : Option Addr) (c : Nat) (A1 : Option Addr) (c1 : Nat) (A2 : Option Addr) (c2 : Nat) (A3 : Option Addr) (c3 : Nat) (A4 : Option Addr) (c4 : Nat) (A5 : Option Addr) (c5 : Nat) (w : World) : Calls Tryz.prog 40 #[view0 A c A1 c1 A2 c2 A3 c3 A4 c4 A5 c5] w fun e w' => e = .returned (.int .i64 0) ∧ Below w.heap.size w w' := by
  have HO := Lib.hid (fun W => open0 A c A1 c1 A2 c2 A3 c3 A4 c4 A5 c5 W)
  unfold view0 at HO ⊢
  go_enter Tryz.func40, Tryz.ntmps40
  go_wp2_with (first | (go_at_call 67; refine (HO.out _).mono ?_; rintro e w1 ⟨v, rfl, hb1⟩; have HB1 := Lib.hid ((below_new w _).trans (hb1.mono (below_new w _).size)); clear hb1))
  go_ret
  exact ⟨rfl, HB1.out⟩
end Go.Proofs.YtfkckhliffbcjaaGreatDoor.Meas
