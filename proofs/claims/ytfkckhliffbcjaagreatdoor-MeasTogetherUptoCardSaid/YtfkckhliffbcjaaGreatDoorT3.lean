/- The tier of a size, and why sizes are none. -/
import Derived.Test.YtfkckhliffbcjaaGreatDoorT2
import Derived.LoopTactic
import Derived.Deep.QuietTactic
import Derived.BigQuiet
namespace Go.Proofs.YtfkckhliffbcjaaGreatDoor.Tier
open Go.RowKit Go.Proofs.YtfkckhliffbcjaaGreatDoorW.PrintWords

/-- How often a size may be divided; the first number bounds how often it is tried. -/
def tierF (fan : Int) : Nat → Int → Nat
  | 0, _ => 0
  | k + 1, s => if s < fan then 0 else 1 + tierF fan k (s / fan)

theorem tierF_le (fan : Int) : ∀ k s, tierF fan k s ≤ k
  | 0, _ => Nat.le_refl _
  | k + 1, s => by
    unfold tierF
    split
    · omega
    · have := tierF_le fan k (s / fan); omega

theorem div_lt_pow {fan s : Int} {k : Nat} (h2 : 2 ≤ fan) (h : s < 2 ^ (k + 1)) : s / fan < 2 ^ k := by
  have e : (2 : Int) ^ (k + 1) = 2 * 2 ^ k := by rw [Int.pow_succ]; omega
  refine Int.ediv_lt_of_lt_mul (by omega) ?_
  have hp : (0 : Int) < 2 ^ k := Int.pow_pos (by omega)
  have : 2 ^ k * 2 ≤ 2 ^ k * fan := Int.mul_le_mul_of_nonneg_left h2 (by omega)
  omega

set_option maxHeartbeats 800000 in
theorem tier_calls (s fan : Int) (hs : s < 2 ^ 63) (h2 : 2 ≤ fan) (h16 : fan ≤ 16) (w : World) :
    Calls Tryz.prog 158 #[.int .i64 s, .int .i64 fan] w fun e w' => e = .returned (.int .i64 (tierF fan 63 s)) ∧ w = w' := by
  have HS := Lib.hid hs
  clear hs
  go_enter Tryz.func158, Tryz.ntmps158
  go_wp2
  go_loop [0, 5] (fun vs vn => ∃ (x : Int) (n k : Nat), vs = .int .i64 x ∧ vn = .int .i64 n ∧ n + k = 63 ∧ (0 ≤ x ∨ x = s) ∧ x ≤ 9223372036854775807 ∧ Hid (x < 2 ^ k) ∧ Hid (tierF fan 63 s = n + tierF fan k x)) (fun _ vn => 63 - (intOf vn).toNat)
  case atStart => exact ⟨s, 0, 63, rfl, rfl, rfl, Or.inr rfl, by have := HS.out; omega, Lib.hid HS.out, Lib.hid (by simp)⟩
  case round =>
    obtain ⟨x, n, k, rfl, rfl, hk, hx0, hx1, hx, ht⟩ := hrel
    by_cases hlt : x < fan
    · have hf : tierF fan k x = 0 := by
        cases k with
        | zero => rfl
        | succ k => unfold tierF; rw [if_pos hlt]
      have HF := Lib.hid hf
      clear hf hx0
      go_wp2
      go_ret
      exact ⟨by simp [ht.out, HF.out], rfl⟩
    · have hx0' : 0 ≤ x := by omega
      cases k with
      | zero => exact absurd hx.out (by omega)
      | succ k =>
      have hd := Lib.hid (div_lt_pow (k := k) h2 hx.out)
      have hd0 : 0 ≤ x / fan := Int.ediv_nonneg hx0' (by omega)
      have hdx : x / fan ≤ x := Int.ediv_le_self _ hx0'
      have hf : tierF fan (k + 1) x = 1 + tierF fan k (x / fan) := by conv => lhs; unfold tierF; rw [if_neg hlt]
      have HF := Lib.hid hf
      clear hf hx0
      go_wp2
      go_round
      case rel => exact ⟨x / fan, n + 1, k, by first | rfl | go_num, by go_num, by omega, Or.inl hd0, by omega, hd, Lib.hid (by rw [ht.out, HF.out]; omega)⟩
      case measure => simp [intOf]; omega

def fansB (n : Int) : Bool := decide (2 ≤ n) && decide (n ≤ 16)
set_option maxHeartbeats 400000 in
theorem fans_calls (n : Int) (w : World) : Calls Tryz.prog 105 #[.int .i64 n] w fun e w' => e = .returned (.bool (fansB n)) ∧ w = w' := by
  by_cases h : 2 ≤ n
  · have hv : fansB n = decide (n ≤ 16) := by simp [fansB, h]
    have HV := Lib.hid hv
    have hd : decide (2 ≤ n) = true := decide_eq_true h
    clear hv
    go_enter Tryz.func105, Tryz.ntmps105
    go_wp2
    go_ret
    exact ⟨by simp [HV.out], rfl⟩
  · have hv : fansB n = false := by simp [fansB, h]
    have HV := Lib.hid hv
    have hd : decide (2 ≤ n) = false := decide_eq_false h
    clear hv
    go_enter Tryz.func105, Tryz.ntmps105
    go_wp2
    go_ret
    exact ⟨by simp [HV.out], rfl⟩

def badB (n : Int) : Bool := decide (n < 1) || decide (4096 < n)
set_option maxHeartbeats 400000 in
theorem check1_calls (n : Int) (w : World) : Calls Tryz.prog 107 #[.int .i64 n] w fun e w' => e = .returned (.bool (badB n)) ∧ w = w' := by
  by_cases h : n < 1
  · have hv : badB n = true := by simp [badB, h]
    have HV := Lib.hid hv
    have hd : decide (n < 1) = true := decide_eq_true h
    clear hv
    go_enter Tryz.func107, Tryz.ntmps107
    go_wp2
    go_ret
    exact ⟨by simp [HV.out], rfl⟩
  · have hv : badB n = decide (4096 < n) := by simp [badB, h]
    have HV := Lib.hid hv
    have hd : decide (n < 1) = false := decide_eq_false h
    clear hv
    go_enter Tryz.func107, Tryz.ntmps107
    go_wp2
    go_ret
    exact ⟨by simp [HV.out], rfl⟩

/-- The first place from i on at which something is so. -/
def idxF (p : Int → Bool) (l : List Int) : Nat → Int → Int
  | 0, _ => -1
  | k + 1, i => if p (rd l i) then i else idxF p l k (i + 1)

theorem idxF_range (p : Int → Bool) (l : List Int) : ∀ k i, 0 ≤ i → idxF p l k i = -1 ∨ (i ≤ idxF p l k i ∧ idxF p l k i < i + k)
  | 0, _, _ => Or.inl rfl
  | k + 1, i, h => by
    unfold idxF
    split
    · right; omega
    · rcases idxF_range p l k (i + 1) (by omega) with h' | h'
      · exact Or.inl h'
      · right; omega

set_option maxHeartbeats 800000 in
theorem IndexFunc_calls (A : Option Addr) (c : Nat) (l : List Int) (w : World) (hr : (Kd.int .i64).C w A l.length l) :
    Calls Tryz.prog 157 #[.slice A l.length c, .func (.func 107) #[] #[]] w fun e w' => e = .returned (.int .i64 (idxF badB l l.length 0)) ∧ w = w' := by
  have HR := Lib.hid hr
  have hm : l.length ≤ 9223372036854775807 := hr.2.1
  clear hr
  go_enter Tryz.func157, Tryz.ntmps157
  go_wp2
  go_loop [8] (fun v => ∃ (i k : Nat), v = .int .i64 i ∧ i + k = l.length ∧ Hid (idxF badB l l.length 0 = idxF badB l k i)) (fun v => l.length - (intOf v).toNat)
  case atStart => exact ⟨0, l.length, rfl, by omega, Lib.hid rfl⟩
  case round =>
    obtain ⟨i, k, rfl, hk, hi⟩ := hrel
    cases k with
    | zero =>
      go_wp2
      go_ret
      exact ⟨by simp [hi.out, idxF], rfl⟩
    | succ k =>
      obtain ⟨ad, rfl, hc⟩ := Kd.at_int HR.out (i : Int) (by omega) (by omega)
      simp only [Int.toNat_natCast] at hc
      by_cases hb : badB (rd l i) = true
      · have he : idxF badB l (k + 1) i = i := by unfold idxF; rw [if_pos hb]
        have HE := Lib.hid he
        clear he
        go_wp2_with (first | (go_at_call 107; refine (check1_calls _ _).mono ?_; rintro e w' ⟨rfl, rfl⟩))
        go_ret
        exact ⟨by simp [hi.out, HE.out], rfl⟩
      · have he : idxF badB l (k + 1) i = idxF badB l k ((i : Int) + 1) := by conv => lhs; unfold idxF; rw [if_neg hb]
        have HE := Lib.hid he
        have hb' : badB (rd l i) = false := by simpa using hb
        clear he hb
        go_wp2_with (first | (go_at_call 107; refine (check1_calls _ _).mono ?_; rintro e w' ⟨rfl, rfl⟩))
        go_round
        case rel => exact ⟨i + 1, k, by go_num, by omega, Lib.hid (by rw [hi.out, HE.out]; rfl)⟩
        case measure => simp [intOf]; omega

theorem idxF_any (p : Int → Bool) (l : List Int) : ∀ k (i : Nat), i + k = l.length → ((0 ≤ idxF p l k i) ↔ (l.drop i).any p = true)
  | 0, i, h => by
    rw [List.drop_of_length_le (by omega)]
    simp [idxF]
  | k + 1, i, h => by
    have hl : i < l.length := by omega
    have hg : rd l (i : Int) = l[i] := by simp [rd, List.getD_eq_getElem?_getD, List.getElem?_eq_getElem hl]
    rw [List.drop_eq_getElem_cons hl, List.any_cons]
    unfold idxF
    rw [hg]
    cases hp : p l[i] with
    | true => simp
    | false =>
      simp only [Bool.false_eq_true, if_false, Bool.false_or]
      exact idxF_any p l k (i + 1) (by omega)

set_option maxHeartbeats 400000 in
theorem ContainsFunc_calls (A : Option Addr) (c : Nat) (l : List Int) (w : World) (hr : (Kd.int .i64).C w A l.length l) :
    Calls Tryz.prog 106 #[.slice A l.length c, .func (.func 107) #[] #[]] w fun e w' => e = .returned (.bool (l.any badB)) ∧ w = w' := by
  have HR := Lib.hid hr
  clear hr
  have he : decide (0 ≤ idxF badB l l.length 0) = l.any badB := by
    have h := idxF_any badB l l.length 0 (by omega)
    simp only [List.drop_zero] at h
    cases hb : l.any badB with
    | true => exact decide_eq_true (h.2 hb)
    | false => exact decide_eq_false (fun h' => by have := h.1 h'; rw [hb] at this; cases this)
  have HE := Lib.hid he
  clear he
  go_enter Tryz.func106, Tryz.ntmps106
  go_wp2_with (first | (go_at_call 157; refine (IndexFunc_calls _ _ _ _ HR.out).mono ?_; rintro e w' ⟨rfl, rfl⟩))
  go_ret
  exact ⟨by simp [← HE.out], rfl⟩

/-- Why sizes are none. -/
def checkE (l : List Int) (fan : Int) : Int := if fansB fan = false then 1 else if l.any badB = true then 1 else if l.length > 256 then 15 else 0

set_option maxHeartbeats 800000 in
theorem check_calls (A : Option Addr) (c : Nat) (l : List Int) (fan : Int) (w : World) (hr : (Kd.int .i64).C w A l.length l) :
    Calls Tryz.prog 62 #[.slice A l.length c, .int .i64 fan] w fun e w' => e = .returned (.int .i64 (checkE l fan)) ∧ w = w' := by
  have HR := Lib.hid hr
  have hm : l.length ≤ 9223372036854775807 := hr.2.1
  clear hr
  cases hf : fansB fan with
  | false =>
    have hv : checkE l fan = 1 := by unfold checkE; rw [if_pos hf]
    have HV := Lib.hid hv
    have HF := Lib.hid hf
    clear hf hv
    go_enter Tryz.func62, Tryz.ntmps62
    go_wp2_with (first | (go_at_call 105; refine (fans_calls _ _).mono ?_; rintro e w' ⟨rfl, rfl⟩; rw [HF.out]))
    go_ret
    exact ⟨by simp [HV.out], rfl⟩
  | true =>
    cases ha : l.any badB with
    | true =>
      have hv : checkE l fan = 1 := by unfold checkE; rw [if_neg (by simp [hf]), if_pos ha]
      have HV := Lib.hid hv
      have HF := Lib.hid hf
      have HA := Lib.hid ha
      clear hf hv ha
      go_enter Tryz.func62, Tryz.ntmps62
      go_wp2_with (first | (go_at_call 105; refine (fans_calls _ _).mono ?_; rintro e w' ⟨rfl, rfl⟩; rw [HF.out]) | (go_at_call 106; refine (ContainsFunc_calls _ _ _ _ HR.out).mono ?_; rintro e w' ⟨rfl, rfl⟩; rw [HA.out]))
      go_ret
      exact ⟨by simp [HV.out], rfl⟩
    | false =>
      by_cases hl : l.length > 256
      · have hv : checkE l fan = 15 := by unfold checkE; rw [if_neg (by simp [hf]), if_neg (by simp [ha]), if_pos hl]
        have HV := Lib.hid hv
        have HF := Lib.hid hf
        have HA := Lib.hid ha
        clear hf hv ha
        go_enter Tryz.func62, Tryz.ntmps62
        go_wp2_with (first | (go_at_call 105; refine (fans_calls _ _).mono ?_; rintro e w' ⟨rfl, rfl⟩; rw [HF.out]) | (go_at_call 106; refine (ContainsFunc_calls _ _ _ _ HR.out).mono ?_; rintro e w' ⟨rfl, rfl⟩; rw [HA.out]))
        go_ret
        exact ⟨by simp [HV.out], rfl⟩
      · have hv : checkE l fan = 0 := by unfold checkE; rw [if_neg (by simp [hf]), if_neg (by simp [ha]), if_neg hl]
        have HV := Lib.hid hv
        have HF := Lib.hid hf
        have HA := Lib.hid ha
        clear hf hv ha
        go_enter Tryz.func62, Tryz.ntmps62
        go_wp2_with (first | (go_at_call 105; refine (fans_calls _ _).mono ?_; rintro e w' ⟨rfl, rfl⟩; rw [HF.out]) | (go_at_call 106; refine (ContainsFunc_calls _ _ _ _ HR.out).mono ?_; rintro e w' ⟨rfl, rfl⟩; rw [HA.out]))
        go_ret
        exact ⟨by simp [HV.out], rfl⟩

set_option maxHeartbeats 400000 in
theorem mark_calls (place s fan : Int) (hs : s < 2 ^ 63) (h2 : 2 ≤ fan) (h16 : fan ≤ 16) (hp0 : 0 ≤ place) (w : World) :
    Calls Tryz.prog 108 #[.int .i64 place, .int .i64 s, .int .i64 fan] w fun e w' => e = .returned (.complex .f64 (fl (tierF fan 63 s)) (fl place.toNat)) ∧ w = w' := by
  obtain ⟨n, rfl⟩ := Int.eq_ofNat_of_zero_le hp0
  have HS := Lib.hid hs
  clear hs hp0
  go_enter Tryz.func108, Tryz.ntmps108
  go_wp2_with (first | (go_at_call 158; refine (tier_calls _ _ HS.out h2 h16 _).mono ?_; rintro e w' ⟨rfl, rfl⟩))
  go_ret
  exact ⟨by simp [fl], rfl⟩
end Go.Proofs.YtfkckhliffbcjaaGreatDoor.Tier
