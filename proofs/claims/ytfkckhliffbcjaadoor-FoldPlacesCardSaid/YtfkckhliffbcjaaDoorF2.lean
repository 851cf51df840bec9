/- The parts of one short list: the code's walk. -/
import Derived.Test.YtfkckhliffbcjaaDoorF1
namespace Go.Proofs.YtfkckhliffbcjaaDoor.Fold
open Go.RowKit Go.Proofs.YtfkckhliffbcjaaDoorW.PrintWords

/-- The parts of the list. -/
def three : List Int := [426610717098083, 431008765706337, 435406808023138]

theorem isNaN_calls (x : Int) (w : World) : Calls Tryd.prog 62 #[.int .u64 x] w fun e w' => e = .returned (.bool false) ∧ w = w' := by
  go_enter Tryd.func62, Tryd.ntmps62
  go_wp2
  go_ret
  exact ⟨by simp, rfl⟩

theorem Less_calls (x y : Int) (w : World) : Calls Tryd.prog 52 #[.int .u64 x, .int .u64 y] w fun e w' => e = .returned (.bool (decide (x < y))) ∧ w' = w := by
  go_enter Tryd.func52, Tryd.ntmps52
  go_wp2_with (first | (go_at_call 62; refine (isNaN_calls _ _).mono ?_; rintro e w' ⟨rfl, rfl⟩))
  go_ret
  exact ⟨rfl, rfl⟩

set_option maxRecDepth 100000 in
set_option maxHeartbeats 1000000 in
theorem insertion_calls (g c : Nat) (x0 x1 x2 : Int) (w : World) (c0 : w.cell? ⟨g, 0, none⟩ = some (.int .u64 x0)) (c1 : w.cell? ⟨g, 1, none⟩ = some (.int .u64 x1)) (c2 : w.cell? ⟨g, 2, none⟩ = some (.int .u64 x2))
    (h1 : decide (x1 < x0) = false) (h2 : decide (x2 < x1) = false) : Calls Tryd.prog 46 #[.slice (some ⟨g, 0, none⟩) 3 c, .int .i64 0, .int .i64 3] w fun e w' => e = .returned (.tuple #[]) ∧ ∃ q, w' = w.drewN q := by
  go_enter Tryd.func46, Tryd.ntmps46
  go_wp2_with fail
  refine wp_loop_rounds 3 ?_
  rw [rounds_succ]
  go_wp2_with fail
  refine wp_loop_rounds 1 ?_
  rw [rounds_succ]
  go_wp2_with fail
  have e0 : decide ((0 : Int) < 1) = true := rfl
  go_quiet (first | (go_at_call 52; refine Calls.quiet_of_same (Less_calls _ _ _)))
  generalize hw : w.drewN nq = v
  replace c0 : v.cell? ⟨g, 0, none⟩ = some (.int .u64 x0) := by rw [← hw]; exact c0
  replace c1 : v.cell? ⟨g, 1, none⟩ = some (.int .u64 x1) := by rw [← hw]; exact c1
  replace c2 : v.cell? ⟨g, 2, none⟩ = some (.int .u64 x2) := by rw [← hw]; exact c2
  have HW := Lib.hid hw
  clear hw
  go_wp2_with fail
  rw [rounds_succ]
  go_wp2_with fail
  refine wp_loop_rounds 1 ?_
  rw [rounds_succ]
  go_wp2_with fail
  have e1 : decide ((0 : Int) < 2) = true := rfl
  go_quiet (first | (go_at_call 52; refine Calls.quiet_of_same (Less_calls _ _ _)))
  clear e0 e1
  generalize hv : v.drewN nq = u
  have HV := Lib.hid hv
  clear hv
  go_wp2_with fail
  rw [rounds_succ]
  go_wp2_with fail
  go_end0
  exact ⟨rfl, _, HV.out.symm.trans ((congrArg (fun z => World.drewN z _) HW.out.symm).trans (World.drewN_drewN ..))⟩

set_option maxRecDepth 100000 in
set_option maxHeartbeats 1000000 in
theorem Len64_calls (w : World) : Calls Tryd.prog 56 #[.int .u64 3] w fun e w' => e = .returned (.int .i64 2) ∧ w' = w := by
  go_enter Tryd.func56, Tryd.ntmps56
  go_wp2_with fail
  go_ret
  exact ⟨by kernel_rfl, rfl⟩

set_option maxRecDepth 100000 in
set_option maxHeartbeats 1000000 in
theorem Len_calls (w : World) : Calls Tryd.prog 44 #[.int .u64 3] w fun e w' => e = .returned (.int .i64 2) ∧ w' = w := by
  go_enter Tryd.func44, Tryd.ntmps44
  go_wp2_with (first | (go_at_call 56; refine (Len64_calls _).mono ?_; rintro e w' ⟨rfl, rfl⟩))
  go_ret
  exact ⟨rfl, rfl⟩

set_option maxRecDepth 100000 in
set_option maxHeartbeats 1000000 in
theorem pdq_calls (g c : Nat) (x0 x1 x2 : Int) (n : Int) (w : World) (c0 : w.cell? ⟨g, 0, none⟩ = some (.int .u64 x0)) (c1 : w.cell? ⟨g, 1, none⟩ = some (.int .u64 x1)) (c2 : w.cell? ⟨g, 2, none⟩ = some (.int .u64 x2))
    (h1 : decide (x1 < x0) = false) (h2 : decide (x2 < x1) = false) : Calls Tryd.prog 43 #[.slice (some ⟨g, 0, none⟩) 3 c, .int .i64 0, .int .i64 3, .int .i64 n] w fun e w' => e = .returned (.tuple #[]) ∧ ∃ q, w' = w.drewN q := by
  go_enter Tryd.func43, Tryd.ntmps43
  go_wp2_with fail
  refine wp_loop_rounds 1 ?_
  rw [rounds_succ]
  go_wp2_with (first | (go_at_call 46; refine (insertion_calls g c x0 x1 x2 _ c0 c1 c2 h1 h2).mono ?_; rintro e w' ⟨rfl, q, rfl⟩))
  (try simp only [Exit.inBlock, Exit.then])
  refine bodyPost_ret (results_none rfl _ _ _) rfl ?_
  exact ⟨rfl, _, rfl⟩

set_option maxRecDepth 100000 in
set_option maxHeartbeats 1000000 in
theorem Sort_calls (g c : Nat) (x0 x1 x2 : Int) (w : World) (c0 : w.cell? ⟨g, 0, none⟩ = some (.int .u64 x0)) (c1 : w.cell? ⟨g, 1, none⟩ = some (.int .u64 x1)) (c2 : w.cell? ⟨g, 2, none⟩ = some (.int .u64 x2))
    (h1 : decide (x1 < x0) = false) (h2 : decide (x2 < x1) = false) : Calls Tryd.prog 38 #[.slice (some ⟨g, 0, none⟩) 3 c] w fun e w' => e = .returned (.tuple #[]) ∧ ∃ q, w' = w.drewN q := by
  go_enter Tryd.func38, Tryd.ntmps38
  go_wp2_with (first | (go_at_call 44; refine (Len_calls _).mono ?_; rintro e w' ⟨rfl, rfl⟩) | (go_at_call 43; refine (pdq_calls g c x0 x1 x2 _ _ c0 c1 c2 h1 h2).mono ?_; rintro e w' ⟨rfl, q, rfl⟩))
  go_end0
  exact ⟨rfl, _, rfl⟩

set_option maxRecDepth 100000 in
set_option maxHeartbeats 1000000 in
theorem Compact_calls (g c : Nat) (x0 x1 x2 : Int) (w : World) (c0 : w.cell? ⟨g, 0, none⟩ = some (.int .u64 x0)) (c1 : w.cell? ⟨g, 1, none⟩ = some (.int .u64 x1)) (c2 : w.cell? ⟨g, 2, none⟩ = some (.int .u64 x2))
    (h1 : (x1 == x0) = false) (h2 : (x2 == x1) = false) : Calls Tryd.prog 39 #[.slice (some ⟨g, 0, none⟩) 3 c] w fun e w' => e = .returned (.slice (some ⟨g, 0, none⟩) 3 c) ∧ ∃ q, w' = w.drewN q := by
  go_enter Tryd.func39, Tryd.ntmps39
  go_wp2_with fail
  refine wp_loop_rounds 3 ?_
  rw [rounds_succ]
  go_wp2_with fail
  go_quiet (fail)
  generalize hw : w.drewN nq = v
  replace c0 : v.cell? ⟨g, 0, none⟩ = some (.int .u64 x0) := by rw [← hw]; exact c0
  replace c1 : v.cell? ⟨g, 1, none⟩ = some (.int .u64 x1) := by rw [← hw]; exact c1
  replace c2 : v.cell? ⟨g, 2, none⟩ = some (.int .u64 x2) := by rw [← hw]; exact c2
  have HW := Lib.hid hw
  clear hw
  go_wp2_with fail
  rw [rounds_succ]
  go_wp2_with fail
  go_quiet (fail)
  generalize hw : v.drewN nq = u
  replace c0 : u.cell? ⟨g, 0, none⟩ = some (.int .u64 x0) := by rw [← hw]; exact c0
  replace c1 : u.cell? ⟨g, 1, none⟩ = some (.int .u64 x1) := by rw [← hw]; exact c1
  replace c2 : u.cell? ⟨g, 2, none⟩ = some (.int .u64 x2) := by rw [← hw]; exact c2
  have HV := Lib.hid hw
  clear hw
  go_wp2_with fail
  rw [rounds_succ]
  go_wp2_with fail
  go_ret
  exact ⟨rfl, _, HV.out.symm.trans ((congrArg (fun z => World.drewN z _) HW.out.symm).trans (World.drewN_drewN ..))⟩

theorem once_calls (g c : Nat) (x0 x1 x2 : Int) (w : World) (c0 : w.cell? ⟨g, 0, none⟩ = some (.int .u64 x0)) (c1 : w.cell? ⟨g, 1, none⟩ = some (.int .u64 x1)) (c2 : w.cell? ⟨g, 2, none⟩ = some (.int .u64 x2))
    (h1 : decide (x1 < x0) = false) (h2 : decide (x2 < x1) = false) (h3 : (x1 == x0) = false) (h4 : (x2 == x1) = false) : Calls Tryd.prog 31 #[.slice (some ⟨g, 0, none⟩) 3 c] w fun e w' => e = .returned (.slice (some ⟨g, 0, none⟩) 3 c) ∧ ∃ q, w' = w.drewN q := by
  go_enter Tryd.func31, Tryd.ntmps31
  go_wp2_with (first | (go_at_call 38; refine (Sort_calls g c x0 x1 x2 _ c0 c1 c2 h1 h2).mono ?_; rintro e w' ⟨rfl, q, rfl⟩) | (go_at_call 39; refine (Compact_calls g c x0 x1 x2 (w.drewN q) c0 c1 c2 h3 h4).mono ?_; rintro e w' ⟨rfl, q2, rfl⟩))
  go_ret
  exact ⟨rfl, _, rfl⟩

set_option maxRecDepth 100000 in
set_option maxHeartbeats 1000000 in
theorem valid_calls (c : Int) (w : World) (h0 : decide (0 ≤ c) = true) (h1 : decide (c < 55296) = true) : Calls Tryd.prog 37 #[.int .i32 c] w fun e w' => e = .returned (.bool true) ∧ w' = w := by
  go_enter Tryd.func37, Tryd.ntmps37
  go_wp2_with fail
  all_goals go_ret
  exact ⟨rfl, rfl⟩

set_option maxRecDepth 100000 in
set_option maxHeartbeats 1000000 in
theorem digit_calls (c : Int) (w : World) (h0 : decide (0 ≤ c) = true) (h1 : decide (c < 55296) = true) (hw : IntKind.u64.wrap c = c) : Calls Tryd.prog 30 #[.int .i32 c] w fun e w' => e = .returned (.int .u64 c) ∧ w' = w := by
  go_enter Tryd.func30, Tryd.ntmps30
  go_wp2_with (first | (go_at_call 37; refine (valid_calls _ _ h0 h1).mono ?_; rintro e w' ⟨rfl, rfl⟩))
  go_ret
  exact ⟨by simp, rfl⟩

def abcab : List Int := [97, 98, 99, 97, 98]
/-- The number behind k letters. -/
def nAt (k : Nat) : Int := [0, 97, 203423842, 426610717098083, 431008765706337, 435406808023138].getD k 0

set_option maxRecDepth 100000 in
set_option maxHeartbeats 1000000 in
/-- The parts of the list. -/
theorem Parts_calls (A0 : Option Addr) (c0 : Nat) (w : World) (hr0 : Kd.C (Kd.int .i32) w A0 5 abcab) : Calls Tryd.prog 17 #[.slice A0 5 c0] w fun e w' => ∃ v, e = .returned v ∧ Kd.R (Kd.int .u64) 35 w' w.heap.size (fun _ => True) v three ∧ Below w.heap.size w w' := by
  have HR0 := Lib.hid hr0
  clear hr0
  go_enter Tryd.func17, Tryd.ntmps17
  go_wp2
  go_loopw [3, 4, 9] (fun v vn vi wr => ∃ k : Nat, k ≤ 5 ∧ vn = .int .u64 (nAt k) ∧ vi = .int .i64 k ∧ Hid ((Kd.int .u64).R 35 wr w.heap.size (fun _ => True) v (three.take (k - 2))) ∧ Hid (Below w.heap.size w wr)) (fun _ _ vi _ => 5 - (intOf vi).toNat)
  case atStart => exact ⟨0, by omega, rfl, rfl, Lib.hid (Kd.R_nil _ _ _ _ _), Lib.hid (Below.refl _ _)⟩
  case round =>
    obtain ⟨k, hk, rfl, rfl, HO, HB⟩ := hrel
    by_cases k5 : k = 5
    · subst k5
      have HO' : (Kd.int .u64).R 35 wr w.heap.size (fun _ => True) u3 three := HO.out
      obtain ⟨A1, c1, e1⟩ := Kd.R_slice HO'
      subst e1
      obtain ⟨g, rfl⟩ : ∃ g, A1 = some ⟨g, 0, none⟩ := by
        obtain ⟨_, inner, ho, _⟩ := HO'
        rcases ho.2 with ⟨hv, _⟩ | ⟨g, cap', cur, hv, _⟩
        · injection hv with h1 h2 h3
          exact absurd h2 (by decide)
        · injection hv with h1 h2 h3
          exact ⟨g, h1⟩
      have d0 := (Kd.R_celln 0 HO' 0 (by decide) (by decide)).1
      have d1 := (Kd.R_celln 0 HO' 1 (by decide) (by decide)).1
      have d2 := (Kd.R_celln 0 HO' 2 (by decide) (by decide)).1
      have OC := Lib.hid (once_calls g c1 426610717098083 431008765706337 435406808023138 wr d0 d1 d2 rfl rfl rfl rfl)
      clear d0 d1 d2
      have HP := Lib.hid HO'
      clear HO'
      go_wp2_with (first | (go_at_call 31; refine OC.out.mono ?_; rintro e w' ⟨rfl, q, rfl⟩))
      go_ret
      exact ⟨_, rfl, Kd.R_drewN HP.out _, pw_below_drewN HB.out _⟩
    · obtain ⟨c, hc⟩ : ∃ c, rd abcab (k : Int) = c := ⟨_, rfl⟩
      obtain ⟨ad, e, hx⟩ := Kd.at_int HR0.out (k : Int) (by omega) (by omega)
      cases e
      replace hx := (HB.out.cell (World.block_lt_of_cell? w _ hx)).trans hx
      rw [hc, Int.toNat_natCast] at hx
      have b1 : decide (0 ≤ c) = true ∧ decide (c < 55296) = true ∧ IntKind.u64.wrap c = c := by
        rw [← hc]
        have : k = 0 ∨ k = 1 ∨ k = 2 ∨ k = 3 ∨ k = 4 := by omega
        rcases this with rfl | rfl | rfl | rfl | rfl <;> decide +kernel
      obtain ⟨b1, b2, b3⟩ := b1
      obtain ⟨y, hy⟩ : ∃ y, nAt (k + 1) = y := ⟨_, rfl⟩
      have bx : bits .or .u64 (bits .and .u64 (IntKind.u64.wrap (nAt k * 2097152)) 9223372036854775807) c = y := by
        rw [← hc, ← hy]
        have : k = 0 ∨ k = 1 ∨ k = 2 ∨ k = 3 ∨ k = 4 := by omega
        rcases this with rfl | rfl | rfl | rfl | rfl <;> decide +kernel
      have HY := Lib.hid hy
      clear hy
      have HC := Lib.hid hc
      have K5 := Lib.hid k5
      have HK := Lib.hid hk
      have B3 := Lib.hid b3
      have e1 : (k : Int) < 5 := by omega
      clear hc k5 hk b3
      by_cases h2 : (2 : Int) ≤ (k : Int)
      · have HK2 := Lib.hid h2
        have e2 : decide ((2 : Int) ≤ (k : Int)) = true := decide_eq_true h2
        clear h2
        go_wp2_with (first | (go_at_call 30; refine (digit_calls c _ b1 b2 B3.out).mono ?_; rintro e w' ⟨rfl, rfl⟩) | ((with_reducible refine gate_builtin (b := .append) (xs := #[.tmp 22, .tmp 24]) rfl ?_); (go_loud (at_builtin; refine Kd.R_append (Kd.int .u64) (w0 := w) w.heap.size rfl (.tmp 22) (.tmp 24) 30 35 (.int .u64 0) 8 rfl Tryd.underlying30 X.info35 rfl (by decide) (by omega) u3 (three.take (k - 2)) y [.int .u64 y] (fun _ => True) (fun _ => False) rfl rfl ?aP (fun _ hk => hk.elim) ?aF ?aO ?aB ?aS ?aL ?_; (case aP => exact rfl); (case aB => exact HB.out); (case aF => exact (fun _ _ => trivial)); (case aO => exact HO.out); (case aS => exact below_size HB.out); (case aL => exact (by have h1 := HK.out; rw [List.length_take]; omega)); intro v1 w1 ho hb hg hat))))
        go_roundw
        case measure =>
          have h1 := HK.out
          have h2 := K5.out
          simp [intOf]
          omega
        case rel =>
          have h1 := HK.out
          have h2 := K5.out
          have h3 := HK2.out
          refine ⟨k + 1, by omega, by rw [HY.out], by go_num, Lib.hid ?_, Lib.hid hb⟩
          have h4 : three.take (k + 1 - 2) = three.take (k - 2) ++ [y] := by
            rw [← HY.out]
            have : k = 2 ∨ k = 3 ∨ k = 4 := by omega
            rcases this with rfl | rfl | rfl <;> decide +kernel
          rw [h4]
          exact ho
      · have HK2 := Lib.hid h2
        have e2 : decide ((2 : Int) ≤ (k : Int)) = false := decide_eq_false h2
        clear h2
        go_wp2_with (first | (go_at_call 30; refine (digit_calls c _ b1 b2 B3.out).mono ?_; rintro e w' ⟨rfl, rfl⟩))
        go_roundw
        case measure =>
          have h1 := HK.out
          have h2 := K5.out
          simp [intOf]
          omega
        case rel =>
          have h1 := HK.out
          have h2 := K5.out
          have h3 := HK2.out
          refine ⟨k + 1, by omega, by rw [HY.out], by go_num, Lib.hid ?_, HB⟩
          have h4 : three.take (k + 1 - 2) = three.take (k - 2) := by
            have : k = 0 ∨ k = 1 := by omega
            rcases this with rfl | rfl <;> decide +kernel
          rw [h4]
          exact HO.out
end Go.Proofs.YtfkckhliffbcjaaDoor.Fold
