/- Gauges that are right; gauges together: the code's walks. -/
import Derived.Test.YtfkckhliffbcjaaGreatDoorM1
namespace Go.Proofs.YtfkckhliffbcjaaGreatDoor.Meas
open Go.RowKit Go.Proofs.YtfkckhliffbcjaaGreatDoor.V Go.Proofs.YtfkckhliffbcjaaGreatDoor.Fl Go.Proofs.YtfkckhliffbcjaaGreatDoorW.PrintWords
set_option linter.unusedVariables false
set_option linter.unusedSimpArgs false
attribute [local go_sem] run_store_complex

def okN (i b d : Int) : Bool := decide (0 ≤ i ∧ 0 ≤ b ∧ 0 ≤ d ∧ i ≤ 65536 ∧ b ≤ 1099511627776 ∧ d ≤ i)
def okG (g : S24) : Bool := okN g.f0 g.f1 g.f2

theorem mn_lt (a b c : Int) : mn (mn a b) c < 0 ↔ a < 0 ∨ b < 0 ∨ c < 0 := by
  unfold mn
  repeat' split
  all_goals omega
theorem check_f (i b d : Int) : meas_Check.f i b d = some (if okN i b d = true then 0 else 2) := by
  unfold meas_Check.f
  have m := mn_lt i b d
  by_cases h : 0 ≤ i ∧ 0 ≤ b ∧ 0 ≤ d ∧ i ≤ 65536 ∧ b ≤ 1099511627776 ∧ d ≤ i
  · have e : okN i b d = true := decide_eq_true h
    rw [e, if_neg (by omega), if_neg (by omega), if_neg (by omega), if_neg (by omega)]
    rfl
  · have e : okN i b d = false := decide_eq_false h
    rw [e]
    by_cases h1 : mn (mn i b) d < 0
    · rw [if_pos h1]
      rfl
    · rw [if_neg h1]
      by_cases h2 : i > 65536
      · rw [if_pos h2]
        rfl
      · rw [if_neg h2]
        by_cases h3 : b > 1099511627776
        · rw [if_pos h3]
          rfl
        · rw [if_neg h3, if_pos (by omega)]
          rfl

theorem Check_any (i b d : Int) (w : World) : Calls Tryz.prog 14 #[.agg #[.int .i64 i, .int .i64 b, .int .i64 d]] w fun e w' => e = .returned (.int .i64 (if okN i b d = true then 0 else 2)) ∧ Below w.heap.size w w' :=
  meas_Check.calls i b d _ w (check_f i b d)

set_option maxRecDepth 100000 in
theorem chk1_any (i b d : Int) (w : World) : Calls Tryz.prog 61 #[.agg #[.int .i64 i, .int .i64 b, .int .i64 d]] w fun e w' => e = .returned (.bool (!okN i b d)) ∧ Below w.heap.size w w' := by
  have C := fun W => Check_any i b d W
  cases h : okN i b d with
  | true =>
    rw [h] at C
    simp only [if_true] at C
    have HC := Lib.hid C
    clear C h
    go_enter Tryz.func61, Tryz.ntmps61
    go_wp2_with (first | (go_at_call 14; refine (HC.out _).mono ?_; rintro e w' ⟨rfl, hb⟩; have HB := Lib.hid hb; clear hb))
    go_ret
    exact ⟨rfl, (((Below.refl _ _).alloc (Nat.le_refl _) _).trans (HB.out.mono (by simp)))⟩
  | false =>
    rw [h] at C
    simp only [Bool.false_eq_true, if_false] at C
    have HC := Lib.hid C
    clear C h
    go_enter Tryz.func61, Tryz.ntmps61
    go_wp2_with (first | (go_at_call 14; refine (HC.out _).mono ?_; rintro e w' ⟨rfl, hb⟩; have HB := Lib.hid hb; clear hb))
    go_ret
    exact ⟨rfl, (((Below.refl _ _).alloc (Nat.le_refl _) _).trans (HB.out.mono (by simp)))⟩

/-- The first place at which a gauge is not right. -/
def idxG (l : List S24) : Nat → Nat → Int
  | 0, _ => -1
  | k + 1, i => if okG (rd_T24 l i) = false then i else idxG l k (i + 1)

theorem idxG_any (l : List S24) : ∀ k i, i + k = l.length → decide (0 ≤ idxG l k i) = (l.drop i).any fun g => !okG g
  | 0, i, h => by
    rw [List.drop_of_length_le (by omega)]
    simp [idxG]
  | k + 1, i, h => by
    have hl : i < l.length := by omega
    have hg : rd_T24 l (i : Int) = l[i] := by simp [rd_T24, List.getD_eq_getElem?_getD, List.getElem?_eq_getElem hl]
    rw [List.drop_eq_getElem_cons hl, List.any_cons]
    unfold idxG
    rw [hg]
    cases hp : okG l[i] with
    | false => simp
    | true =>
      rw [if_neg (by simp), idxG_any l k (i + 1) (by omega)]
      simp

set_option maxHeartbeats 800000 in
set_option maxRecDepth 100000 in
theorem IndexG_any (A : Option Addr) (c : Nat) (l : List S24) (w : World) (hr : Kd.C k24 w A l.length l) :
    Calls Tryz.prog 104 #[.slice A l.length c, .func (.func 61) #[] #[]] w fun e w' => e = .returned (.int .i64 (idxG l l.length 0)) ∧ Below w.heap.size w w' := by
  have HR := Lib.hid hr
  have hm : l.length ≤ 9223372036854775807 := hr.2.1
  have hu24 := Tryz.underlying24
  clear hr
  go_enter Tryz.func104, Tryz.ntmps104
  go_wp2
  go_loopw [8] (fun v wr => ∃ (i k : Nat), v = .int .i64 i ∧ i + k = l.length ∧ Hid (idxG l l.length 0 = idxG l k i) ∧ Hid (Below w.heap.size w wr)) (fun v _ => l.length - (intOf v).toNat)
  case atStart => exact ⟨0, l.length, rfl, by omega, Lib.hid rfl, Lib.hid (Below.refl _ _)⟩
  case round =>
    obtain ⟨i, k, rfl, hk, hi, HB⟩ := hrel
    cases k with
    | zero =>
      go_wp2
      go_ret
      exact ⟨by simp [hi.out, idxG], HB.out⟩
    | succ k =>
      obtain ⟨ad, rfl, h0, h1, h2⟩ := at_T24 HR.out (i : Int) (by omega) (by omega)
      replace h0 := (HB.out.cell (World.block_lt_of_cell? w _ h0)).trans h0
      replace h1 := (HB.out.cell (World.block_lt_of_cell? w _ h1)).trans h1
      replace h2 := (HB.out.cell (World.block_lt_of_cell? w _ h2)).trans h2
      simp only [Int.toNat_natCast] at h0 h1 h2
      obtain ⟨g, hg⟩ : ∃ g, rd_T24 l (i : Int) = g := ⟨_, rfl⟩
      rw [hg] at h0 h1 h2
      have C := Lib.hid (fun W => chk1_any g.f0 g.f1 g.f2 W)
      cases hb : okG g with
      | false =>
        have he : idxG l (k + 1) i = i := by unfold idxG; rw [hg, if_pos hb]
        have HE := Lib.hid he
        have C' : ∀ W, Calls Tryz.prog 61 #[.agg #[.int .i64 g.f0, .int .i64 g.f1, .int .i64 g.f2]] W fun e w' => e = .returned (.bool true) ∧ Below W.heap.size W w' := fun W => by
          have h := C.out W
          rw [show okN g.f0 g.f1 g.f2 = false from hb] at h
          exact h
        have HC := Lib.hid C'
        clear he C' hb hg C
        go_wp2_with (first | (go_at_call 61; refine (HC.out _).mono ?_; rintro e w' ⟨rfl, hb1⟩; have HB1 := Lib.hid hb1; clear hb1))
        go_ret
        exact ⟨by simp [hi.out, HE.out], HB.out.trans (HB1.out.mono HB.out.size)⟩
      | true =>
        have he : idxG l (k + 1) i = idxG l k (i + 1) := by conv => lhs; unfold idxG; rw [hg, if_neg (by rw [hb]; decide)]
        have HE := Lib.hid he
        have C' : ∀ W, Calls Tryz.prog 61 #[.agg #[.int .i64 g.f0, .int .i64 g.f1, .int .i64 g.f2]] W fun e w' => e = .returned (.bool false) ∧ Below W.heap.size W w' := fun W => by
          have h := C.out W
          rw [show okN g.f0 g.f1 g.f2 = true from hb] at h
          exact h
        have HC := Lib.hid C'
        clear he C' hb hg C
        go_wp2_with (first | (go_at_call 61; refine (HC.out _).mono ?_; rintro e w' ⟨rfl, hb1⟩; have HB1 := Lib.hid hb1; clear hb1))
        go_roundw
        case rel => exact ⟨i + 1, k, by go_num, by omega, Lib.hid (by rw [hi.out, HE.out]), Lib.hid (HB.out.trans (HB1.out.mono HB.out.size))⟩
        case measure => simp [intOf]; omega

set_option maxRecDepth 100000 in
theorem ContainsG_any (A : Option Addr) (c : Nat) (l : List S24) (w : World) (hr : Kd.C k24 w A l.length l) :
    Calls Tryz.prog 60 #[.slice A l.length c, .func (.func 61) #[] #[]] w fun e w' => e = .returned (.bool (l.any fun g => !okG g)) ∧ Below w.heap.size w w' := by
  have HR := Lib.hid hr
  have he := idxG_any l l.length 0 (by omega)
  rw [List.drop_zero] at he
  have HE := Lib.hid he
  clear hr he
  go_enter Tryz.func60, Tryz.ntmps60
  go_wp2_with (first | (go_at_call 104; refine (IndexG_any _ _ _ _ HR.out).mono ?_; rintro e w' ⟨rfl, hb1⟩; have HB1 := Lib.hid hb1; clear hb1))
  go_ret
  exact ⟨by simp [← HE.out], HB1.out⟩

/-- Whether all are right. -/
def allG (l : List S24) : Bool := l.all okG
theorem any_all (l : List S24) : (l.any fun g => !okG g) = !allG l := by
  unfold allG
  induction l with
  | nil => rfl
  | cons x l ih => rw [List.any_cons, List.all_cons, ih, Bool.not_and]

set_option maxRecDepth 100000 in
theorem checked_any (A : Option Addr) (c : Nat) (l : List S24) (w : World) (hr : Kd.C k24 w A l.length l) :
    Calls Tryz.prog 32 #[.slice A l.length c] w fun e w' => e = .returned (.int .i64 (if allG l = true then 0 else 2)) ∧ Below w.heap.size w w' := by
  have C := ContainsG_any A c l w hr
  rw [any_all] at C
  clear hr
  cases h : allG l with
  | true =>
    rw [h] at C
    have HC := Lib.hid C
    clear C h
    go_enter Tryz.func32, Tryz.ntmps32
    go_wp2_with (first | (go_at_call 60; refine HC.out.mono ?_; rintro e w' ⟨rfl, hb1⟩; have HB1 := Lib.hid hb1; clear hb1))
    go_ret
    exact ⟨by simp, HB1.out⟩
  | false =>
    rw [h] at C
    have HC := Lib.hid C
    clear C h
    go_enter Tryz.func32, Tryz.ntmps32
    go_wp2_with (first | (go_at_call 60; refine HC.out.mono ?_; rintro e w' ⟨rfl, hb1⟩; have HB1 := Lib.hid hb1; clear hb1))
    go_ret
    exact ⟨by simp, HB1.out⟩

/-- Gauges together, from a state on. -/
def goG : List S24 → Nat → Nat → Nat → Int × Int × Int × Int
  | [], i, b, d => (i, b, d, 0)
  | g :: l, i, b, d => if okN (i + g.f0) (b + g.f1) (d + g.f2) = true then goG l (i + g.f0.toNat) (b + g.f1.toNat) (d + g.f2.toNat) else (0, 0, 0, 15)
def sumG (l : List S24) : Int × Int × Int × Int := if allG l = true then goG l 0 0 0 else (0, 0, 0, 2)

theorem drop_rd24 (l : List S24) (i : Nat) (h : i < l.length) : l.drop i = rd_T24 l (i : Int) :: l.drop (i + 1) := by
  rw [List.drop_eq_getElem_cons h]
  simp [rd_T24, List.getD_eq_getElem?_getD, List.getElem?_eq_getElem h]

/-- The world after a dial was added to. -/
theorem close_first {w W0 w2 w3 : World} {g5 : Nat} {x y x' y' : Value} {z : Array Value} (G0 : W0.heap[w.heap.size]? = some (.cells z 24 (0, 0))) (GN5 : w.heap.size < g5) (GB : Below w.heap.size w W0) (HB2 : Below W0.drew.heap.size W0.drew w2) (HB3 : Below w2.heap.size w2 w3) (G5 : w3.heap[g5]? = some (.cells #[x, y] 72 (0, 0))) {v : Value} (hv : v = y') :
    Hid (((w3.setCell ⟨g5, 0, none⟩ x').setCell ⟨g5, 1, none⟩ v).heap[w.heap.size]? = some (.cells z 24 (0, 0))) ∧ Hid (((w3.setCell ⟨g5, 0, none⟩ x').setCell ⟨g5, 1, none⟩ v).heap[g5]? = some (.cells #[x', y'] 72 (0, 0))) ∧ Hid (Below w.heap.size w ((w3.setCell ⟨g5, 0, none⟩ x').setCell ⟨g5, 1, none⟩ v)) := by
  subst hv
  have hs : w.heap.size ≤ W0.heap.size := GB.size
  have hb := HB2.trans (HB3.mono HB2.size)
  refine ⟨Lib.hid (blk_far (blk_far (blk_below (w := W0.drew) G0 hb) (p := ⟨g5, 0, none⟩) (by show w.heap.size ≠ g5; omega) x') (p := ⟨g5, 1, none⟩) (by show w.heap.size ≠ g5; omega) v), Lib.hid (blk_put (blk_put G5 0 x' rfl) 1 v rfl), Lib.hid ?_⟩
  exact ((GB.drew.trans (hb.mono hs)).setCell (p := ⟨g5, 0, none⟩) (by show w.heap.size ≤ g5; omega) x').setCell (p := ⟨g5, 1, none⟩) (by show w.heap.size ≤ g5; omega) v

set_option maxHeartbeats 2000000 in
set_option maxRecDepth 100000 in
theorem Sum_any (A : Option Addr) (c : Nat) (l : List S24) (w : World) (hr : Kd.C k24 w A l.length l) :
    Calls Tryz.prog 8 #[.slice A l.length c] w fun e w' => e = .returned (.tuple #[.agg #[.int .i64 (sumG l).1, .int .i64 (sumG l).2.1, .int .i64 (sumG l).2.2.1], .int .i64 (sumG l).2.2.2]) ∧ Below w.heap.size w w' := by
  have C := fun W h => checked_any A c l W h
  have HR := Lib.hid hr
  have hm : l.length ≤ 9223372036854775807 := hr.2.1
  have hu24 := Tryz.underlying24
  have hu72 := Tryz.underlying72
  clear hr
  cases hall : allG l with
  | false =>
    rw [hall] at C
    have HC := Lib.hid C
    have e : sumG l = (0, 0, 0, 2) := by unfold sumG; rw [hall]; rfl
    have HE := Lib.hid e
    clear C e hall
    go_enter Tryz.func8, Tryz.ntmps8
    go_wp2_with (first | (go_at_call 32; refine (HC.out _ ?_).mono ?_; (exact Kd.C_below HR.out ((Below.refl _ _).alloc (Nat.le_refl _) _)); rintro e w1 ⟨rfl, hb1⟩; have hh := blk_below (blk_new w _) hb1; have k0 := blk_cell hh 0; have k1 := blk_cell hh 1; have k2 := blk_cell hh 2; have kf := fun i => blk_frozen hh i; have HB1 := Lib.hid hb1; have HH := Lib.hid hh; clear hb1 hh))
    refine bodyPost_ret (results_ct rfl _ _ w.heap.size 24 #[.int .i64 0, .int .i64 0, .int .i64 0] (0, 0) _ rfl (blk_put (blk_put (blk_put HH.out 0 _ rfl) 1 _ rfl) 2 _ rfl) Tryz.underlying24 rfl (by kernel_rfl)) rfl ?_
    exact ⟨by rw [HE.out]; rfl, ((((Below.refl _ _).alloc (Nat.le_refl _) _).trans (HB1.out.mono (by simp))).setCell (Nat.le_refl _) _ |>.setCell (Nat.le_refl _) _ |>.setCell (Nat.le_refl _) _)⟩
  | true =>
    rw [hall] at C
    have HC := Lib.hid C
    have e : sumG l = goG l 0 0 0 := by unfold sumG; rw [hall]; rfl
    have HE := Lib.hid e
    have HALL := Lib.hid hall
    clear C e hall
    go_enter Tryz.func8, Tryz.ntmps8
    go_wp2_with (first | (go_at_call 32; refine (HC.out _ ?_).mono ?_; (exact Kd.C_below HR.out ((Below.refl _ _).alloc (Nat.le_refl _) _)); rintro e w1 ⟨rfl, hb1⟩; have HB1 := Lib.hid (((Below.refl w.heap.size w).alloc (Nat.le_refl _) _).trans (hb1.mono (by simp))); have HH := Lib.hid (blk_below (blk_new w _) hb1); clear hb1))
    clear HC
    obtain ⟨g5, hg5⟩ : ∃ g5, w1.heap.size = g5 := ⟨_, rfl⟩
    have HG5 := Lib.hid hg5
    rw [hg5]
    clear hg5
    go_loopw [16] (fun v wr => ∃ (k i b d : Nat), v = .int .i64 k ∧ k ≤ l.length ∧ i ≤ 65536 ∧ b ≤ 1099511627776 ∧ d ≤ i ∧ Hid (wr.heap[w.heap.size]? = some (.cells #[.int .i64 0, .int .i64 0, .int .i64 0] 24 (0, 0))) ∧ Hid (wr.heap[g5]? = some (.cells #[.complex .f64 (fl i) (fl b), .int .i64 d] 72 (0, 0))) ∧ Hid (Below w.heap.size w wr) ∧ Hid (sumG l = goG (l.drop k) i b d)) (fun v _ => l.length - (intOf v).toNat)
    case atStart =>
      refine ⟨0, 0, 0, 0, rfl, by omega, by omega, by omega, by omega, Lib.hid (blk_alloc HH.out _), Lib.hid ?_, Lib.hid (HB1.out.alloc HB1.out.size _), Lib.hid HE.out⟩
      rw [← HG5.out]
      exact blk_new w1 _
    case round =>
      obtain ⟨k, i, b, d, rfl, hk, hi, hb, hd, H0, H5, HB, HS⟩ := hrel
      by_cases hlt : k < l.length
      · obtain ⟨ad, rfl, c0, c1, c2⟩ := at_T24 HR.out (k : Int) (by omega) (by omega)
        replace c0 := (HB.out.cell (World.block_lt_of_cell? w _ c0)).trans c0
        replace c1 := (HB.out.cell (World.block_lt_of_cell? w _ c1)).trans c1
        replace c2 := (HB.out.cell (World.block_lt_of_cell? w _ c2)).trans c2
        simp only [Int.toNat_natCast] at c0 c1 c2
        obtain ⟨g, hg⟩ : ∃ g, rd_T24 l (k : Int) = g := ⟨_, rfl⟩
        have hok : okG g = true := by
          rw [← hg]
          have h := List.all_eq_true.1 HALL.out l[k] (List.getElem_mem hlt)
          simpa [rd_T24, List.getD_eq_getElem?_getD, List.getElem?_eq_getElem hlt] using h
        have hgo : goG (l.drop k) i b d = if okN (i + g.f0) (b + g.f1) (d + g.f2) = true then goG (l.drop (k + 1)) (i + g.f0.toNat) (b + g.f1.toNat) (d + g.f2.toNat) else (0, 0, 0, 15) := by
          rw [drop_rd24 l k hlt, hg]
          rfl
        rw [hg] at c0 c1 c2
        obtain ⟨p0, p1, p2, p3, p4, p5⟩ := of_decide_eq_true hok
        obtain ⟨n0, e0⟩ := Int.eq_ofNat_of_zero_le p0
        obtain ⟨n1, e1⟩ := Int.eq_ofNat_of_zero_le p1
        obtain ⟨n2, e2⟩ := Int.eq_ofNat_of_zero_le p2
        rw [e0] at c0 hgo p3 p5
        rw [e1] at c1 hgo p4
        rw [e2] at c2 hgo p5
        simp only [Int.toNat_natCast] at hgo
        have HGO := Lib.hid hgo
        have q5 := blk_lt H5.out
        have OF := Lib.hid (fun W => of_any (n0 : Int) (n1 : Int) (n2 : Int) W)
        have AD := Lib.hid (fun W => add_any (fl i) (fl b) (fl n0) (fl n1) (fl (i + n0)) (fl (b + n1)) (d : Int) (n2 : Int) ((d + n2 : Nat) : Int) W (add_num (fl_num i (by omega)) (fl_num n0 (by omega)) (by omega)) (add_num (fl_num b (by omega)) (fl_num n1 (by omega)) (by omega)) (by rw [IntKind.wrap_i64]; omega))
        have GA := Lib.hid (fun W => gauge_any (fl (i + n0)) (fl (b + n1)) ((d + n2 : Nat) : Int) ((i + n0 : Nat) : Int) ((b + n1 : Nat) : Int) W (back_num (fl_num _ (by omega)) (by omega)) (back_num (fl_num _ (by omega)) (by omega)))
        have B1 := Lib.hid (show i + n0 ≤ 131072 by omega)
        have B2 := Lib.hid (show b + n1 ≤ 2199023255552 by omega)
        have HLT := Lib.hid hlt
        have z1 : (k : Int) < (l.length : Int) := by omega
        clear hg hok hgo p0 p1 p2 p3 p4 p5 e0 e1 e2 hlt hk hi hb hd
        go_upto_region 8 with fail
        have G0 := Lib.hid (blk_alloc H0.out (.cells #[.int .i64 (n0 : Int), .int .i64 (n1 : Int), .int .i64 (n2 : Int)] 24))
        have G5 := Lib.hid (blk_alloc H5.out (.cells #[.int .i64 (n0 : Int), .int .i64 (n1 : Int), .int .i64 (n2 : Int)] 24))
        have GN := Lib.hid (blk_new wr (.cells #[.int .i64 (n0 : Int), .int .i64 (n1 : Int), .int .i64 (n2 : Int)] 24))
        have GB := Lib.hid (HB.out.alloc HB.out.size (.cells #[.int .i64 (n0 : Int), .int .i64 (n1 : Int), .int .i64 (n2 : Int)] 24))
        have GG := Lib.hid (show w.heap.size ≤ g5 by rw [← HG5.out]; exact HB1.out.size)
        have GN5 := Lib.hid (show w.heap.size < g5 by
          rw [← HG5.out]
          have := blk_lt HH.out
          exact this)
        clear c0 c1 c2 q5
        obtain ⟨gn, hgn⟩ : ∃ gn, wr.heap.size = gn := ⟨_, rfl⟩
        rw [hgn] at GN ⊢
        clear hgn
        generalize wr.alloc (Obj.cells #[.int .i64 (n0 : Int), .int .i64 (n1 : Int), .int .i64 (n2 : Int)] 24) = W0 at G0 G5 GN GB ⊢
        go_cut [] (fun wc => Hid (wc.heap[w.heap.size]? = some (.cells #[.int .i64 0, .int .i64 0, .int .i64 0] 24 (0, 0))) ∧ Hid (wc.heap[g5]? = some (.cells #[.complex .f64 (fl (i + n0)) (fl (b + n1)), .int .i64 ((d + n2 : Nat) : Int)] 72 (0, 0))) ∧ Hid (Below w.heap.size w wc))
        case first =>
          have x50 := blk_cell G5.out 0
          have x51 := blk_cell G5.out 1
          have xg0 := blk_cell GN.out 0
          have xg1 := blk_cell GN.out 1
          have xg2 := blk_cell GN.out 2
          go_region_with (first | (go_at_call 34; refine (OF.out _).mono ?_; rintro e w2 ⟨rfl, hb2⟩; have G5a := blk_below (w := W0.drew) G5.out hb2; have y50 := blk_cell G5a 0; have y51 := blk_cell G5a 1; have HB2 := Lib.hid hb2; have G5A := Lib.hid G5a; clear hb2 G5a) | (go_at_call 33; refine (AD.out _).mono ?_; rintro e w3 ⟨rfl, hb3⟩; have G5b := blk_below G5A.out hb3; have u50 := blk_cell G5b 0; have u51 := blk_cell G5b 1; have uf := fun j => blk_frozen G5b j; have HB3 := Lib.hid hb3; have G5B := Lib.hid G5b; clear hb3 G5b))
          all_goals (go_wp2_with fail; go_meet)
          all_goals exact close_first G0.out GN5.out GB.out HB2.out HB3.out G5B.out (congrArg (Value.int .i64) (by omega))
        case rest =>
          obtain ⟨H0', H5', HB'⟩ := hcut
          have v50 := blk_cell H5'.out 0
          have v51 := blk_cell H5'.out 1
          have CK := Lib.hid (fun W => Check_any ((i + n0 : Nat) : Int) ((b + n1 : Nat) : Int) ((d + n2 : Nat) : Int) W)
          cases hok2 : okN ((i + n0 : Nat) : Int) ((b + n1 : Nat) : Int) ((d + n2 : Nat) : Int) with
          | true =>
            have CK' := CK.out
            rw [hok2] at CK'
            simp only [if_true] at CK'
            have CK2 := Lib.hid CK'
            clear CK CK'
            go_wp2_with (first | (go_at_call 35; refine (GA.out _).mono ?_; rintro e w2 ⟨rfl, hb2⟩; have HB2 := Lib.hid hb2; clear hb2) | (go_at_call 14; refine (CK2.out _).mono ?_; rintro e w3 ⟨rfl, hb3⟩; have HB3 := Lib.hid hb3; clear hb3))
            obtain ⟨-, -, -, r1, r2, r3⟩ := of_decide_eq_true hok2
            have hb := HB2.out.trans (HB3.out.mono HB2.out.size)
            refine ⟨⟨k + 1, i + n0, b + n1, d + n2, by go_num, HLT.out, by omega, by omega, by omega, Lib.hid (blk_below H0'.out hb), Lib.hid (blk_below H5'.out hb), Lib.hid (HB'.out.trans (hb.mono HB'.out.size)), Lib.hid ?_⟩, ?_⟩
            · rw [HS.out, HGO.out, ← Int.natCast_add, ← Int.natCast_add, ← Int.natCast_add, if_pos hok2]
            · have h := HLT.out
              simp only [intOf]
              omega
          | false =>
            have CK' := CK.out
            rw [hok2] at CK'
            simp only [Bool.false_eq_true, if_false] at CK'
            have CK2 := Lib.hid CK'
            clear CK CK'
            go_wp2_with (first | (go_at_call 35; refine (GA.out _).mono ?_; rintro e w2 ⟨rfl, hb2⟩; have HB2 := Lib.hid hb2; clear hb2) | (go_at_call 14; refine (CK2.out _).mono ?_; rintro e w3 ⟨rfl, hb3⟩; have H0b := blk_below H0'.out (HB2.out.trans (hb3.mono HB2.out.size)); have o0 := blk_cell H0b 0; have o1 := blk_cell H0b 1; have o2 := blk_cell H0b 2; have of := fun j => blk_frozen H0b j; have H0B := Lib.hid H0b; have HB3 := Lib.hid hb3; clear hb3 H0b))
            refine bodyPost_ret (results_ct rfl _ _ w.heap.size 24 #[.int .i64 0, .int .i64 0, .int .i64 0] (0, 0) _ rfl (blk_put (blk_put (blk_put H0B.out 0 _ rfl) 1 _ rfl) 2 _ rfl) Tryz.underlying24 rfl (by kernel_rfl)) rfl ?_
            have hb := HB2.out.trans (HB3.out.mono HB2.out.size)
            have e : sumG l = (0, 0, 0, 15) := by rw [HS.out, HGO.out, ← Int.natCast_add, ← Int.natCast_add, ← Int.natCast_add, if_neg (by rw [hok2]; decide)]
            exact ⟨by rw [e]; rfl, (((HB'.out.trans (hb.mono HB'.out.size)).setCell (Nat.le_refl _) _).setCell (Nat.le_refl _) _).setCell (Nat.le_refl _) _⟩
      · have hke : k = l.length := by omega
        have w50 := blk_cell H5.out 0
        have w51 := blk_cell H5.out 1
        have GA := Lib.hid (fun W => gauge_any (fl i) (fl b) (d : Int) (i : Int) (b : Int) W (back_num (fl_num _ (by omega)) (by omega)) (back_num (fl_num _ (by omega)) (by omega)))
        have z1 : ¬ ((k : Int) < (l.length : Int)) := by omega
        go_wp2_with (first | (go_at_call 35; refine (GA.out _).mono ?_; rintro e w2 ⟨rfl, hb2⟩; have H0b := blk_below H0.out hb2; have o0 := blk_cell H0b 0; have o1 := blk_cell H0b 1; have o2 := blk_cell H0b 2; have of := fun j => blk_frozen H0b j; have H0B := Lib.hid H0b; have HB2 := Lib.hid hb2; clear hb2 H0b))
        refine bodyPost_ret (results_ct rfl _ _ w.heap.size 24 #[.int .i64 (i : Int), .int .i64 (b : Int), .int .i64 (d : Int)] (0, 0) _ rfl (blk_put (blk_put (blk_put H0B.out 0 _ rfl) 1 _ rfl) 2 _ rfl) Tryz.underlying24 rfl (by kernel_rfl)) rfl ?_
        have e : sumG l = (↑i, ↑b, ↑d, 0) := by rw [HS.out, List.drop_of_length_le (by omega)]; rfl
        exact ⟨by rw [e]; rfl, (((HB.out.trans (HB2.out.mono HB.out.size)).setCell (Nat.le_refl _) _).setCell (Nat.le_refl _) _).setCell (Nat.le_refl _) _⟩
end Go.Proofs.YtfkckhliffbcjaaGreatDoor.Meas
