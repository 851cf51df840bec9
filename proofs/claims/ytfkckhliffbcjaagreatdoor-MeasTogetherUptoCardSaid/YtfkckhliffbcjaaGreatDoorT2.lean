/- How two marks are held against each other. -/
import Derived.Test.YtfkckhliffbcjaaGreatDoorProg
import Derived.Test.YtfkckhliffbcjaaGreatDoorT1
import Derived.WalkKit
import Derived.WalkLawsBesides
import Derived.OwnWalk
import Derived.Lib.Hide
import Derived.Test.YtfkckhliffbcjaaGreatDoorWWords
namespace Go.Proofs.YtfkckhliffbcjaaGreatDoor.Tier
open Go.RowKit Go.Proofs.YtfkckhliffbcjaaGreatDoorW.PrintWords

/-- Two numbers held against each other. -/
def cmpN (a b : Nat) : Int := if a < b then -1 else if b < a then 1 else 0

set_option maxHeartbeats 400000 in
theorem isNaN_calls (a : Nat) (ha : a < 256) (w : World) :
    Calls Tryz.prog 220 #[.float .f64 (fl a)] w fun e w' => e = .returned (.bool false) ∧ w = w' := by
  have h := order_fl a a ha ha
  have hc : compare a a = .eq := by simp
  rw [hc] at h
  have H := Lib.hid h
  clear h hc
  go_enter Tryz.func220, Tryz.ntmps220
  go_wp2
  go_ret
  exact ⟨by simp [H.out], rfl⟩

set_option maxHeartbeats 400000 in
theorem Compare_calls (a b : Nat) (ha : a < 256) (hb : b < 256) (w : World) :
    Calls Tryz.prog 161 #[.float .f64 (fl a), .float .f64 (fl b)] w fun e w' => e = .returned (.int .i64 (cmpN a b)) ∧ w = w' := by
  have h := order_fl a b ha hb
  rcases Nat.lt_trichotomy a b with hlt | heq | hgt
  · have hc : compare a b = .lt := by simp [Nat.compare_eq_lt, hlt]
    rw [hc] at h
    have h1 : (FloatKind.f64.format.order (fl a) (fl b) == some .lt) = true := by rw [h]; rfl
    have hv : cmpN a b = -1 := by simp [cmpN, hlt]
    have HV := Lib.hid hv
    clear h hc hv hlt
    go_enter Tryz.func161, Tryz.ntmps161
    go_wp2_with (first | (go_at_call 220; refine (isNaN_calls _ (by assumption) _).mono ?_; rintro e w' ⟨rfl, rfl⟩))
    go_ret
    exact ⟨by rw [HV.out]; rfl, rfl⟩
  · have hc : compare a b = .eq := by simp [heq]
    rw [hc] at h
    have h1 : (FloatKind.f64.format.order (fl a) (fl b) == some .lt) = false := by rw [h]; rfl
    have h2 : (FloatKind.f64.format.order (fl a) (fl b) == some .gt) = false := by rw [h]; rfl
    have hv : cmpN a b = 0 := by simp [cmpN, heq]
    have HV := Lib.hid hv
    clear h hc hv heq
    go_enter Tryz.func161, Tryz.ntmps161
    go_wp2_with (first | (go_at_call 220; refine (isNaN_calls _ (by assumption) _).mono ?_; rintro e w' ⟨rfl, rfl⟩))
    go_ret
    exact ⟨by rw [HV.out]; rfl, rfl⟩
  · have hc : compare a b = .gt := by simp [Nat.compare_eq_gt, hgt]
    rw [hc] at h
    have h1 : (FloatKind.f64.format.order (fl a) (fl b) == some .lt) = false := by rw [h]; rfl
    have h2 : (FloatKind.f64.format.order (fl a) (fl b) == some .gt) = true := by rw [h]; rfl
    have hv : cmpN a b = 1 := by unfold cmpN; rw [if_neg (by omega), if_pos hgt]
    have HV := Lib.hid hv
    clear h hc hv hgt
    go_enter Tryz.func161, Tryz.ntmps161
    go_wp2_with (first | (go_at_call 220; refine (isNaN_calls _ (by assumption) _).mono ?_; rintro e w' ⟨rfl, rfl⟩))
    go_ret
    exact ⟨by rw [HV.out]; rfl, rfl⟩

/-- cmp.Or of two numbers. -/
def orN (a b : Int) : Int := if a = 0 then b else a

set_option maxHeartbeats 800000 in
theorem Or_calls (x y : Int) (bk : Nat) (w : World) (hx : w.cell? ⟨bk, 0, none⟩ = some (.int .i64 x)) (hy : w.cell? ⟨bk, 1, none⟩ = some (.int .i64 y)) :
    Calls Tryz.prog 160 #[.slice (some ⟨bk, 0, none⟩) 2 2] w fun e w' => e = .returned (.int .i64 (orN x y)) ∧ w = w' := by
  by_cases h0 : x = 0
  · subst h0
    by_cases h1 : y = 0
    · subst h1
      have hv : orN 0 0 = 0 := rfl
      have HV := Lib.hid hv
      clear hv
      go_enter Tryz.func160, Tryz.ntmps160
      go_wp2
      refine wp_loop_rounds 3 ?_
      rw [rounds_succ]
      go_wp2
      rw [rounds_succ]
      go_wp2
      rw [rounds_succ]
      go_wp2
      go_ret
      exact ⟨by rw [HV.out]; rfl, rfl⟩
    · have hv : orN 0 y = y := rfl
      have HV := Lib.hid hv
      have h2 : (y != 0) = true := bne_iff_ne.2 h1
      clear hv h1
      go_enter Tryz.func160, Tryz.ntmps160
      go_wp2
      refine wp_loop_rounds 2 ?_
      rw [rounds_succ]
      go_wp2
      rw [rounds_succ]
      go_wp2
      go_ret
      exact ⟨by rw [HV.out]; rfl, rfl⟩
  · have hv : orN x y = x := if_neg h0
    have HV := Lib.hid hv
    have h2 : (x != 0) = true := bne_iff_ne.2 h0
    clear hv h0
    go_enter Tryz.func160, Tryz.ntmps160
    go_wp2
    refine wp_loop_rounds 1 ?_
    rw [rounds_succ]
    go_wp2
    go_ret
    exact ⟨by rw [HV.out]; rfl, rfl⟩

/-- A mark as it stands in a row. -/
abbrev Mk := Fin 256 × Fin 256
def encC (p : Mk) : Value := .complex .f64 (fl p.1.val) (fl p.2.val)
/-- Two marks held against each other: by tier, then by place. -/
def cmpM (p q : Mk) : Int := orN (cmpN p.1.val q.1.val) (cmpN p.2.val q.2.val)

set_option maxHeartbeats 800000 in
theorem before_calls (p q : Mk) (w : World) :
    Calls Tryz.prog 110 #[encC p, encC q] w fun e w' => e = .returned (.int .i64 (cmpM p q)) ∧ ∃ o, w' = w.alloc o := by
  obtain ⟨⟨a, ha⟩, ⟨b, hb⟩⟩ := p
  obtain ⟨⟨c, hc⟩, ⟨d, hd⟩⟩ := q
  show Calls Tryz.prog 110 #[.complex .f64 (fl a) (fl b), .complex .f64 (fl c) (fl d)] w fun e w' => e = .returned (.int .i64 (orN (cmpN a c) (cmpN b d))) ∧ ∃ o, w' = w.alloc o
  generalize hx : cmpN a c = x
  generalize hy : cmpN b d = y
  have HX := Lib.hid hx
  have HY := Lib.hid hy
  clear hx hy
  go_enter Tryz.func110, Tryz.ntmps110
  go_wp2_with fail
  refine (Compare_calls a c ha hc _).mono ?_
  rintro e w' ⟨rfl, rfl⟩
  rw [HX.out]
  go_wp2_with fail
  refine (Compare_calls b d hb hd _).mono ?_
  rintro e w' ⟨rfl, rfl⟩
  rw [HY.out]
  go_wp2_with fail
  refine (Or_calls x y w.heap.size _ (blk_cell (heap_alloc_new _ _) 0) (blk_cell (heap_alloc_new _ _) 1)).mono ?_
  rintro e w' ⟨rfl, rfl⟩
  go_wp2
  go_ret
  exact ⟨rfl, _, rfl⟩
end Go.Proofs.YtfkckhliffbcjaaGreatDoor.Tier
