/- What the proof of LawMailWider builds upon, part 6: contracts of the program's functions, by walks through their code. -/
import Derived.Sort.Walk7
import Derived.Sort.Walk11
import Derived.Sort.Walk13
import Derived.Sort.WalkC4
import Derived.Sort.AssemblyPlain
import Derived.Test.YtigcbajcifhinaaGreatDoorSe
set_option maxRecDepth 1000000
set_option maxHeartbeats 8000000
set_option linter.unusedVariables false
set_option linter.unusedSimpArgs false
namespace Go.Proofs.YtigcbajcifhinaaGreatDoor.V
open Go.RowKit Go.Proofs.YtigcbajcifhinaaGreatDoorW.PrintWords Go.Proofs.YtigcbajcifhinaaGreatDoorW.PrintLast Go.Proofs.YtigcbajcifhinaaGreatDoorW.PrintMore
attribute [local go_sem] max2_int min2_int max_two min_two max_three min_three max_four min_four
mutual
def mime_pieces.l0 : Nat → ByteArray → ByteArray → List ByteArray → Int → ByteArray → Option (List ByteArray)
 | 0, _, _, _, _, _ => none
 | k + 1, x0, x1, x5, x6, x7 => if x7.toList = ([] : List UInt8) then (if x6 ≥ 0 then (if 0 ≤ x6 then (if x6 ≤ (x0.size : Int) then (if x5.length < 8796093022208 then (some (x5 ++ [x0.extract (x6 : Int).toNat x0.size])) else (none)) else (none)) else (none)) else (some x5)) else ((head_Line.f x7).bind fun bt233 => ((strings_TrimRight.f bt233.1 (⟨#[32, 9]⟩ : ByteArray)).bind fun t235 => (if 2 + x1.size ≤ 9223372036854775807 then ((strings_CutPrefix.f t235 ((⟨#[45, 45]⟩ : ByteArray) ++ x1)).bind fun bt236 => (if bt236.2 = true then (if bt236.1.toList = ([] : List UInt8) then (mime_pieces.j1 k x0 x1 x5 x6 bt233.2 (wrap64 ((x0.size : Int) - (x7.size : Int))) bt233.2 bt236.1 false) else (mime_pieces.j1 k x0 x1 x5 x6 bt233.2 (wrap64 ((x0.size : Int) - (x7.size : Int))) bt233.2 bt236.1 (bt236.1.toList != ([45, 45] : List UInt8)))) else (mime_pieces.j1 k x0 x1 x5 x6 bt233.2 (wrap64 ((x0.size : Int) - (x7.size : Int))) bt233.2 bt236.1 true))) else (none))))
def mime_pieces.j1 : Nat → ByteArray → ByteArray → List ByteArray → Int → ByteArray → Int → ByteArray → ByteArray → Bool → Option (List ByteArray)
 | 0, _, _, _, _, _, _, _, _, _ => none
 | k + 1, x0, x1, x5, x6, x7, x8, x10, x11, x44 => if x44 = true then (mime_pieces.l0 k x0 x1 x5 x6 x7) else (if x6 ≥ 0 then (if 0 ≤ x6 then (if x6 ≤ x8 then (if x8 ≤ (x0.size : Int) then ((mime_cut.f (x0.extract (x6 : Int).toNat (x8 : Int).toNat)).bind fun t238 => (if x5.length < 8796093022208 then ((some (x5 ++ [t238] : List ByteArray)).bind fun y239 => (if x11.toList = ([] : List UInt8) then (mime_pieces.l0 k x0 x1 y239 (wrap64 ((x0.size : Int) - (x10.size : Int))) x7) else (some y239))) else (none))) else (none)) else (none)) else (none)) else (if x11.toList = ([] : List UInt8) then (mime_pieces.l0 k x0 x1 x5 (wrap64 ((x0.size : Int) - (x10.size : Int))) x7) else (some x5)))
end
def mime_pieces.f (k : Nat) (a0 : ByteArray) (a1 : ByteArray) : Option (List ByteArray) := mime_pieces.l0 k a0 a1 ([] : List ByteArray) (-1) a0
theorem mime_pieces.mono_l : ∀ k, (∀ y0 y1 y2 y3 y4, LeO (mime_pieces.l0 k y0 y1 y2 y3 y4) (mime_pieces.l0 (k + 1) y0 y1 y2 y3 y4)) ∧ (∀ y0 y1 y2 y3 y4 y5 y6 y7 y8, LeO (mime_pieces.j1 k y0 y1 y2 y3 y4 y5 y6 y7 y8) (mime_pieces.j1 (k + 1) y0 y1 y2 y3 y4 y5 y6 y7 y8))
 | 0 => ⟨fun _ _ _ _ _ r h => by simp [mime_pieces.l0] at h, fun _ _ _ _ _ _ _ _ _ r h => by simp [mime_pieces.j1] at h⟩
 | k + 1 => by
  obtain ⟨ih0, ih1⟩ := mime_pieces.mono_l k
  refine ⟨?_, ?_⟩
  ·
   intro y0 y1 y2 y3 y4
   unfold mime_pieces.l0
   repeat' (with_reducible first | apply ih0 | apply ih1 | apply LeO.refl | exact LeO.none _ | apply LeO.ite | refine LeO.bind ?_ fun _ => ?_)
  ·
   intro y0 y1 y2 y3 y4 y5 y6 y7 y8
   unfold mime_pieces.j1
   repeat' (with_reducible first | apply ih0 | apply ih1 | apply LeO.refl | exact LeO.none _ | apply LeO.ite | refine LeO.bind ?_ fun _ => ?_)
theorem mime_pieces.mono : ∀ a0 a1 k, LeO (mime_pieces.f k a0 a1) (mime_pieces.f (k + 1) a0 a1) := by
 intro a0 a1 k
 obtain ⟨ih0, ih1⟩ := mime_pieces.mono_l k
 unfold mime_pieces.f
 repeat' (with_reducible first | apply ih0 | apply ih1 | apply LeO.refl | exact LeO.none _ | apply LeO.ite | refine LeO.bind ?_ fun _ => ?_)
theorem mime_pieces.calls (k : Nat) (a0 : ByteArray) (a1 : ByteArray) (r : List ByteArray) (w : World) (hT : Tabs w) (h : mime_pieces.f k a0 a1 = some r) :
  Calls Tryz.prog 88 #[.string a0, .string a1] w fun e w' => ∃ v0_ : Value, e = .returned (v0_) ∧ Kd.R Kd.string 9 w' w.heap.size (fun _ => True) v0_ r ∧ Below w.heap.size w w' := by
 have HTAB := Aside0.mk hT
 clear hT
 have HB := Aside0.mk (Below.refl w.heap.size w)
 have H : (mime_pieces.l0 k a0 a1 ([] : List ByteArray) (-1) a0) = some r := h
 clear h
 have H' := Aside0.mk H
 clear H
 go_enter Tryz.func88, Tryz.ntmps88
 go_wp2
 go_loopg [5, 6, 7] k (fun kq v5 v6 v7 w' => ∃ (x5_1 : List ByteArray) (x6_1 : Int) (x7_1 : ByteArray), v6 = .int .i64 x6_1 ∧ v7 = .string x7_1 ∧ Aside0 (mime_pieces.l0 kq a0 a1 x5_1 x6_1 x7_1 = some r) ∧ Aside0 (kq ≤ k) ∧ Aside0 (Kd.R Kd.string 9 w' w.heap.size (fun _ => True) v5 x5_1) ∧ Aside0 (Below w.heap.size w w'))
 case atStart => exact ⟨(([] : List ByteArray)), ((-1)), (a0), (by first | rfl | (simp [*]; done)), (by first | rfl | (simp [*]; done)), H', ⟨Nat.le_refl _⟩, ⟨by first | exact Kd.R_nil _ _ _ _ _ | exact Kd.N_nil _ _ _ _ _ | exact Kd.V_nil _ _ _ _ _ | exact Kd.Q_nil _ _ _ _ _ | exact Kd.S_nil _ _ _ _ _⟩, ⟨LX HB⟩⟩
 case round =>
  clear H'
  obtain ⟨x5_1, x6_1, x7_1, rfl, rfl, HA, HK1, HO_5, HB⟩ := hrel
  cases gk with
  | zero => exact absurd HA.out (by simp [mime_pieces.l0])
  | succ k1 =>
   have H := HA.out
   clear HA
   simp only [mime_pieces.l0] at H
   by_cases c3 : x7_1.toList = ([] : List UInt8)
   ·
    rw [if_pos c3] at H
    have c3b0 : (x7_1.toList == ([] : List UInt8)) = true := beq_iff_eq.mpr c3
    have c3b1 : (x7_1.toList != ([] : List UInt8)) = false := bne_eq_false_iff_eq.mpr c3
    clear c3
    by_cases c4 : x6_1 ≥ 0
    ·
     rw [if_pos c4] at H
     have c4b0 : decide (0 ≤ x6_1) = true := decide_eq_true c4
     clear c4
     by_cases c5 : 0 ≤ x6_1
     ·
      rw [if_pos c5] at H
      have c5b0 := eq_true c5
      have c5b1 : decide (0 ≤ x6_1) = true := decide_eq_true c5
      clear c5
      by_cases c6 : x6_1 ≤ (a0.size : Int)
      ·
       rw [if_pos c6] at H
       have c6b0 := eq_true c6
       have c6b1 : decide (x6_1 ≤ (a0.size : Int)) = true := decide_eq_true c6
       clear c6
       by_cases c7 : x5_1.length < 8796093022208
       ·
        rw [if_pos c7] at H
        have LMc7 := Aside0.mk c7
        clear c7
        obtain ⟨y230, hy230⟩ : ∃ y_ : List ByteArray, y_ = (x5_1 ++ [a0.extract (x6_1 : Int).toNat a0.size]) := ⟨_, rfl⟩
        replace H : (some y230) = some r := by first | (rw [hy230]; with_reducible exact H) | (have H2_ := (Option.bind_some _ _).symm.trans H; rw [hy230]; with_reducible exact H2_) | (have H2_ := (Option.bind_some _ _).symm.trans H; with_reducible exact H2_) | with_reducible exact H | (rw [hy230]; exact H) | exact H
        have Ny230 := Aside0.mk hy230
        clear hy230
        obtain rfl := Option.some.inj H
        go_wp2_with (first | ((with_reducible refine gate_builtin (b := .append) (xs := #[.tmp 65, .tmp 69]) rfl ?_); at_builtin; refine Kd.R_append Kd.string (w0 := w) w.heap.size rfl (.tmp 65) (.tmp 69) 24 9 (.string ⟨#[]⟩) 16 rfl Tryz.underlying24 info9 rfl (by decide) (by omega) u5 x5_1 (a0.extract (x6_1 : Int).toNat a0.size) [.string (a0.extract (x6_1 : Int).toNat a0.size)] (fun _ => True) (fun _ => False) rfl rfl ?aP (fun _ hk => hk.elim) ?aF ?aO ?aB ?aS ?aL ?_; (case aP => exact rfl); (case aB => exact (LX HB)); (case aF => exact (fun _ _ => trivial)); (case aO => exact (RX HO_5)); (case aS => exact (below_size (LX HB))); (case aL => have := LMc7.out; omega); intro v231 w8 ho hb hg hat; rw [← Ny230.out] at ho; replace HB := Aside0.mk (hb); have HO232 := Aside0.mk (ho); clear HO_5; clear ho hb hg hat))
        go_ret
        exact ⟨_, by first | rfl | (simp [errW_none, errW_some] <;> rfl) | (simp [*, errW_none, errW_some] <;> rfl), by (with_reducible repeat (first | apply Kd.R_alloc | apply Kd.R_drewN | apply Kd.R_drew)); exact HO232.out, LX HB⟩
       ·
        rw [if_neg c7] at H
        exact absurd H (by simp)
      ·
       rw [if_neg c6] at H
       exact absurd H (by simp)
     ·
      rw [if_neg c5] at H
      exact absurd H (by simp)
    ·
     rw [if_neg c4] at H
     have c4b0 : decide (0 ≤ x6_1) = false := decide_eq_false c4
     clear c4
     obtain rfl := Option.some.inj H
     go_wp2
     go_ret
     exact ⟨_, by first | rfl | (simp [errW_none, errW_some] <;> rfl) | (simp [*, errW_none, errW_some] <;> rfl), by (with_reducible repeat (first | apply Kd.R_alloc | apply Kd.R_drewN | apply Kd.R_drew)); exact HO_5.out, LX HB⟩
   ·
    rw [if_neg c3] at H
    have c3b0 : (x7_1.toList == ([] : List UInt8)) = false := beq_eq_false_iff_ne.mpr c3
    have c3b1 : (x7_1.toList != ([] : List UInt8)) = true := bne_iff_ne.mpr c3
    obtain ⟨⟨t233, t234⟩, A9, H⟩ := bindQ H
    replace H : ((strings_TrimRight.f t233 (⟨#[32, 9]⟩ : ByteArray)).bind fun t235 => (if 2 + a1.size ≤ 9223372036854775807 then ((strings_CutPrefix.f t235 ((⟨#[45, 45]⟩ : ByteArray) ++ a1)).bind fun bt236 => (if bt236.2 = true then (if bt236.1.toList = ([] : List UInt8) then (mime_pieces.j1 k1 a0 a1 x5_1 x6_1 t234 (wrap64 ((a0.size : Int) - (x7_1.size : Int))) t234 bt236.1 false) else (mime_pieces.j1 k1 a0 a1 x5_1 x6_1 t234 (wrap64 ((a0.size : Int) - (x7_1.size : Int))) t234 bt236.1 (bt236.1.toList != ([45, 45] : List UInt8)))) else (mime_pieces.j1 k1 a0 a1 x5_1 x6_1 t234 (wrap64 ((a0.size : Int) - (x7_1.size : Int))) t234 bt236.1 true))) else (none))) = some r := H
    obtain ⟨t235, A10, H⟩ := bindQ H
    replace H : (if 2 + a1.size ≤ 9223372036854775807 then ((strings_CutPrefix.f t235 ((⟨#[45, 45]⟩ : ByteArray) ++ a1)).bind fun bt236 => (if bt236.2 = true then (if bt236.1.toList = ([] : List UInt8) then (mime_pieces.j1 k1 a0 a1 x5_1 x6_1 t234 (wrap64 ((a0.size : Int) - (x7_1.size : Int))) t234 bt236.1 false) else (mime_pieces.j1 k1 a0 a1 x5_1 x6_1 t234 (wrap64 ((a0.size : Int) - (x7_1.size : Int))) t234 bt236.1 (bt236.1.toList != ([45, 45] : List UInt8)))) else (mime_pieces.j1 k1 a0 a1 x5_1 x6_1 t234 (wrap64 ((a0.size : Int) - (x7_1.size : Int))) t234 bt236.1 true))) else (none)) = some r := H
    by_cases c11 : 2 + a1.size ≤ 9223372036854775807
    ·
     rw [if_pos c11] at H
     have c11b0 := eq_true c11
     have c11b1 : decide (2 + a1.size ≤ 9223372036854775807) = true := decide_eq_true c11
     try have c11b2 : (9223372036854775807 < 2 + a1.size) = False := eq_false (Nat.not_lt.2 c11)
     obtain ⟨⟨t236, t237⟩, A12, H⟩ := bindQ H
     replace H : (if t237 = true then (if t236.toList = ([] : List UInt8) then (mime_pieces.j1 k1 a0 a1 x5_1 x6_1 t234 (wrap64 ((a0.size : Int) - (x7_1.size : Int))) t234 t236 false) else (mime_pieces.j1 k1 a0 a1 x5_1 x6_1 t234 (wrap64 ((a0.size : Int) - (x7_1.size : Int))) t234 t236 (t236.toList != ([45, 45] : List UInt8)))) else (mime_pieces.j1 k1 a0 a1 x5_1 x6_1 t234 (wrap64 ((a0.size : Int) - (x7_1.size : Int))) t234 t236 true)) = some r := H
     have HC13 := Aside0.mk H
     clear H
     go_upto_region 9 with (first | ((with_reducible refine gate_callee (f := 38) rfl ?_); refine goesLQ (some 23) Tryz.func38 #[.string x7_1] ?_; (with_reducible refine (head_Line.calls x7_1 t233 t234 _ ?side1 A9.out).mono ?_); (case side1 => first | exact TX HTAB HB | exact TD HTAB); rintro e w' ⟨rfl, ⟨nd, rfl⟩⟩; refine ⟨_, rfl, ?_⟩) | ((with_reducible refine gate_callee (f := 120) rfl ?_); refine goesLQ (some 29) Tryz.func120 #[.string t233, .string (⟨#[32, 9]⟩ : ByteArray)] ?_; (with_reducible refine (strings_TrimRight.calls t233 (⟨#[32, 9]⟩ : ByteArray) t235 _ A10.out).mono ?_); rintro e w14 ⟨rfl, hb⟩; refine ⟨_, rfl, ?_⟩; replace HO_5 := RB HO_5 hb; replace HB := LB HB hb) | ((with_reducible refine gate_callee (f := 109) rfl ?_); refine goesLQ (some 32) Tryz.func109 #[.string t235, .string ((⟨#[45, 45]⟩ : ByteArray) ++ a1)] ?_; (with_reducible refine (strings_CutPrefix.calls t235 ((⟨#[45, 45]⟩ : ByteArray) ++ a1) t236 t237 _ A12.out).mono ?_); rintro e w' ⟨rfl, ⟨nd, rfl⟩⟩; refine ⟨_, rfl, ?_⟩))
     (try simp only [Act.put, List.setIfInBounds_toArray, List.set_cons_zero, List.set_cons_succ])
     go_cut [44] (fun v44 wc => ∃ (kq : Nat) (x44_12 : Bool), v44 = .bool x44_12 ∧ Aside0 (mime_pieces.j1 kq a0 a1 x5_1 x6_1 t234 (wrap64 ((a0.size : Int) - (x7_1.size : Int))) t234 t236 x44_12 = some r) ∧ Aside0 (kq ≤ k1) ∧ Aside0 (Kd.R Kd.string 9 wc w.heap.size (fun _ => True) u5 x5_1) ∧ Aside0 (Below w.heap.size w wc))
     case first =>
      have H := HC13.out
      clear HC13
      by_cases c15 : t237 = true
      ·
       subst c15
       have H1 : (if t236.toList = ([] : List UInt8) then (mime_pieces.j1 k1 a0 a1 x5_1 x6_1 t234 (wrap64 ((a0.size : Int) - (x7_1.size : Int))) t234 t236 false) else (mime_pieces.j1 k1 a0 a1 x5_1 x6_1 t234 (wrap64 ((a0.size : Int) - (x7_1.size : Int))) t234 t236 (t236.toList != ([45, 45] : List UInt8)))) = some r := by rw [if_pos rfl] at H; exact H
       clear H
       have H := H1
       clear H1
       by_cases c16 : t236.toList = ([] : List UInt8)
       ·
        rw [if_pos c16] at H
        have c16b0 : (t236.toList == ([] : List UInt8)) = true := beq_iff_eq.mpr c16
        have c16b1 : (t236.toList != ([] : List UInt8)) = false := bne_eq_false_iff_eq.mpr c16
        clear c16
        (first | rw [c16b0] | (simp only [i64_w, i32_w]; rw [c16b0]) | skip)
        have H' := Aside0.mk H
        clear H
        go_wp2
        go_meet
        case rel => exact ⟨_, (false), (by first | rfl | (simp [*]; done)), H', ⟨by have := HK1.out; first | omega | exact Nat.le_refl _⟩, ⟨RX HO_5⟩, ⟨LX HB⟩⟩
       ·
        rw [if_neg c16] at H
        have c16b0 : (t236.toList == ([] : List UInt8)) = false := beq_eq_false_iff_ne.mpr c16
        have c16b1 : (t236.toList != ([] : List UInt8)) = true := bne_iff_ne.mpr c16
        (first | rw [c16b0] | (simp only [i64_w, i32_w]; rw [c16b0]) | skip)
        have H' := Aside0.mk H
        clear H
        go_wp2
        go_meet
        case rel => exact ⟨_, ((t236.toList != ([45, 45] : List UInt8))), (by first | rfl | (simp [*]; done)), H', ⟨by have := HK1.out; first | omega | exact Nat.le_refl _⟩, ⟨RX HO_5⟩, ⟨LX HB⟩⟩
      ·
       replace c15 := Bool.eq_false_iff.mpr c15
       subst c15
       have H1 : (mime_pieces.j1 k1 a0 a1 x5_1 x6_1 t234 (wrap64 ((a0.size : Int) - (x7_1.size : Int))) t234 t236 true) = some r := by rw [if_neg (show ¬ (false = true) by decide)] at H; exact H
       clear H
       have H := H1
       clear H1
       have H' := Aside0.mk H
       clear H
       go_wp2
       go_meet
       case rel => exact ⟨_, (true), (by first | rfl | (simp [*]; done)), H', ⟨by have := HK1.out; first | omega | exact Nat.le_refl _⟩, ⟨RX HO_5⟩, ⟨LX HB⟩⟩
     case rest =>
      clear HC13
      obtain ⟨kq, x44_12, rfl, HA, HJ12, HO_5, HB⟩ := hcut
      cases kq with
      | zero => exact absurd HA.out (by simp [mime_pieces.j1])
      | succ kj12 =>
       have H := HA.out
       clear HA
       simp only [mime_pieces.j1] at H
       by_cases c17 : x44_12 = true
       ·
        subst c17
        have H1 : (mime_pieces.l0 kj12 a0 a1 x5_1 x6_1 t234) = some r := by rw [if_pos rfl] at H; exact H
        clear H
        have H := H1
        clear H1
        have H' := Aside0.mk H
        clear H
        go_wp2
        go_roundg kj12
        case measure => have := HK1.out; have := HJ12.out; omega
        case rel => exact ⟨(x5_1), (x6_1), (t234), (by first | rfl | (simp [*]; done)), (by first | rfl | (simp [*]; done)), H', ⟨by have := HK1.out; have := HJ12.out; omega⟩, ⟨RX HO_5⟩, ⟨LX HB⟩⟩
       ·
        replace c17 := Bool.eq_false_iff.mpr c17
        subst c17
        have H1 : (if x6_1 ≥ 0 then (if 0 ≤ x6_1 then (if x6_1 ≤ (wrap64 ((a0.size : Int) - (x7_1.size : Int))) then (if (wrap64 ((a0.size : Int) - (x7_1.size : Int))) ≤ (a0.size : Int) then ((mime_cut.f (a0.extract (x6_1 : Int).toNat ((wrap64 ((a0.size : Int) - (x7_1.size : Int))) : Int).toNat)).bind fun t238 => (if x5_1.length < 8796093022208 then ((some (x5_1 ++ [t238] : List ByteArray)).bind fun y239 => (if t236.toList = ([] : List UInt8) then (mime_pieces.l0 kj12 a0 a1 y239 (wrap64 ((a0.size : Int) - (t234.size : Int))) t234) else (some y239))) else (none))) else (none)) else (none)) else (none)) else (if t236.toList = ([] : List UInt8) then (mime_pieces.l0 kj12 a0 a1 x5_1 (wrap64 ((a0.size : Int) - (t234.size : Int))) t234) else (some x5_1))) = some r := by rw [if_neg (show ¬ (false = true) by decide)] at H; exact H
        clear H
        have H := H1
        clear H1
        by_cases c18 : x6_1 ≥ 0
        ·
         rw [if_pos c18] at H
         have c18b0 : decide (0 ≤ x6_1) = true := decide_eq_true c18
         clear c18
         by_cases c19 : 0 ≤ x6_1
         ·
          rw [if_pos c19] at H
          have c19b0 := eq_true c19
          have c19b1 : decide (0 ≤ x6_1) = true := decide_eq_true c19
          clear c19
          by_cases c20 : x6_1 ≤ (wrap64 ((a0.size : Int) - (x7_1.size : Int)))
          ·
           rw [if_pos c20] at H
           have c20b0 := eq_true c20
           have c20b1 : decide (x6_1 ≤ (wrap64 ((a0.size : Int) - (x7_1.size : Int)))) = true := decide_eq_true c20
           clear c20
           by_cases c21 : (wrap64 ((a0.size : Int) - (x7_1.size : Int))) ≤ (a0.size : Int)
           ·
            rw [if_pos c21] at H
            have c21b0 := eq_true c21
            have c21b1 : decide ((wrap64 ((a0.size : Int) - (x7_1.size : Int))) ≤ (a0.size : Int)) = true := decide_eq_true c21
            clear c21
            obtain ⟨t238, A22, H⟩ := bindQ H
            replace H : (if x5_1.length < 8796093022208 then ((some (x5_1 ++ [t238] : List ByteArray)).bind fun y239 => (if t236.toList = ([] : List UInt8) then (mime_pieces.l0 kj12 a0 a1 y239 (wrap64 ((a0.size : Int) - (t234.size : Int))) t234) else (some y239))) else (none)) = some r := H
            by_cases c23 : x5_1.length < 8796093022208
            ·
             rw [if_pos c23] at H
             have LMc23 := Aside0.mk c23
             clear c23
             obtain ⟨y239, hy239⟩ : ∃ y_ : List ByteArray, y_ = (x5_1 ++ [t238]) := ⟨_, rfl⟩
             replace H : (if t236.toList = ([] : List UInt8) then (mime_pieces.l0 kj12 a0 a1 y239 (wrap64 ((a0.size : Int) - (t234.size : Int))) t234) else (some y239)) = some r := by first | (rw [hy239]; with_reducible exact H) | (have H2_ := (Option.bind_some _ _).symm.trans H; rw [hy239]; with_reducible exact H2_) | (have H2_ := (Option.bind_some _ _).symm.trans H; with_reducible exact H2_) | with_reducible exact H | (rw [hy239]; exact H) | exact H
             have Ny239 := Aside0.mk hy239
             clear hy239
             by_cases c24 : t236.toList = ([] : List UInt8)
             ·
              rw [if_pos c24] at H
              have c24b0 : (t236.toList == ([] : List UInt8)) = true := beq_iff_eq.mpr c24
              have c24b1 : (t236.toList != ([] : List UInt8)) = false := bne_eq_false_iff_eq.mpr c24
              clear c24
              have H' := Aside0.mk H
              clear H
              go_wp2_with (first | ((with_reducible refine gate_callee (f := 121) rfl ?_); refine goesLQ (some 52) Tryz.func121 #[.string (a0.extract (x6_1 : Int).toNat ((wrap64 ((a0.size : Int) - (x7_1.size : Int))) : Int).toNat)] ?_; (with_reducible refine (mime_cut.calls (a0.extract (x6_1 : Int).toNat ((wrap64 ((a0.size : Int) - (x7_1.size : Int))) : Int).toNat) t238 _ A22.out).mono ?_); rintro e w' ⟨rfl, ⟨nd, rfl⟩⟩; refine ⟨_, rfl, ?_⟩) | ((with_reducible refine gate_builtin (b := .append) (xs := #[.tmp 47, .tmp 53]) rfl ?_); at_builtin; refine Kd.R_append Kd.string (w0 := w) w.heap.size rfl (.tmp 47) (.tmp 53) 24 9 (.string ⟨#[]⟩) 16 rfl Tryz.underlying24 info9 rfl (by decide) (by omega) u5 x5_1 t238 [.string t238] (fun _ => True) (fun _ => False) rfl rfl ?aP (fun _ hk => hk.elim) ?aF ?aO ?aB ?aS ?aL ?_; (case aP => exact rfl); (case aB => exact (LX HB)); (case aF => exact (fun _ _ => trivial)); (case aO => exact (RX HO_5)); (case aS => exact (below_size (LX HB))); (case aL => have := LMc23.out; omega); intro v240 w25 ho hb hg hat; rw [← Ny239.out] at ho; replace HB := Aside0.mk (hb); have HO241 := Aside0.mk (ho); clear HO_5; clear ho hb hg hat))
              go_roundg kj12
              case measure => have := HK1.out; have := HJ12.out; omega
              case rel => exact ⟨(y239), (wrap64 ((a0.size : Int) - (t234.size : Int))), (t234), (by first | rfl | (simp [*]; done)), (by first | rfl | (simp [*]; done)), H', ⟨by have := HK1.out; have := HJ12.out; omega⟩, ⟨RX HO241⟩, ⟨LX HB⟩⟩
             ·
              rw [if_neg c24] at H
              have c24b0 : (t236.toList == ([] : List UInt8)) = false := beq_eq_false_iff_ne.mpr c24
              have c24b1 : (t236.toList != ([] : List UInt8)) = true := bne_iff_ne.mpr c24
              obtain rfl := Option.some.inj H
              go_wp2_with (first | ((with_reducible refine gate_callee (f := 121) rfl ?_); refine goesLQ (some 52) Tryz.func121 #[.string (a0.extract (x6_1 : Int).toNat ((wrap64 ((a0.size : Int) - (x7_1.size : Int))) : Int).toNat)] ?_; (with_reducible refine (mime_cut.calls (a0.extract (x6_1 : Int).toNat ((wrap64 ((a0.size : Int) - (x7_1.size : Int))) : Int).toNat) t238 _ A22.out).mono ?_); rintro e w' ⟨rfl, ⟨nd, rfl⟩⟩; refine ⟨_, rfl, ?_⟩) | ((with_reducible refine gate_builtin (b := .append) (xs := #[.tmp 47, .tmp 53]) rfl ?_); at_builtin; refine Kd.R_append Kd.string (w0 := w) w.heap.size rfl (.tmp 47) (.tmp 53) 24 9 (.string ⟨#[]⟩) 16 rfl Tryz.underlying24 info9 rfl (by decide) (by omega) u5 x5_1 t238 [.string t238] (fun _ => True) (fun _ => False) rfl rfl ?aP (fun _ hk => hk.elim) ?aF ?aO ?aB ?aS ?aL ?_; (case aP => exact rfl); (case aB => exact (LX HB)); (case aF => exact (fun _ _ => trivial)); (case aO => exact (RX HO_5)); (case aS => exact (below_size (LX HB))); (case aL => have := LMc23.out; omega); intro v240 w26 ho hb hg hat; rw [← Ny239.out] at ho; replace HB := Aside0.mk (hb); have HO241 := Aside0.mk (ho); clear HO_5; clear ho hb hg hat))
              go_ret
              exact ⟨_, by first | rfl | (simp [errW_none, errW_some] <;> rfl) | (simp [*, errW_none, errW_some] <;> rfl), by (with_reducible repeat (first | apply Kd.R_alloc | apply Kd.R_drewN | apply Kd.R_drew)); exact HO241.out, LX HB⟩
            ·
             rw [if_neg c23] at H
             exact absurd H (by simp)
           ·
            rw [if_neg c21] at H
            exact absurd H (by simp)
          ·
           rw [if_neg c20] at H
           exact absurd H (by simp)
         ·
          rw [if_neg c19] at H
          exact absurd H (by simp)
        ·
         rw [if_neg c18] at H
         have c18b0 : decide (0 ≤ x6_1) = false := decide_eq_false c18
         clear c18
         by_cases c27 : t236.toList = ([] : List UInt8)
         ·
          rw [if_pos c27] at H
          have c27b0 : (t236.toList == ([] : List UInt8)) = true := beq_iff_eq.mpr c27
          have c27b1 : (t236.toList != ([] : List UInt8)) = false := bne_eq_false_iff_eq.mpr c27
          clear c27
          have H' := Aside0.mk H
          clear H
          go_wp2
          go_roundg kj12
          case measure => have := HK1.out; have := HJ12.out; omega
          case rel => exact ⟨(x5_1), (wrap64 ((a0.size : Int) - (t234.size : Int))), (t234), (by first | rfl | (simp [*]; done)), (by first | rfl | (simp [*]; done)), H', ⟨by have := HK1.out; have := HJ12.out; omega⟩, ⟨RX HO_5⟩, ⟨LX HB⟩⟩
         ·
          rw [if_neg c27] at H
          have c27b0 : (t236.toList == ([] : List UInt8)) = false := beq_eq_false_iff_ne.mpr c27
          have c27b1 : (t236.toList != ([] : List UInt8)) = true := bne_iff_ne.mpr c27
          obtain rfl := Option.some.inj H
          go_wp2
          go_ret
          exact ⟨_, by first | rfl | (simp [errW_none, errW_some] <;> rfl) | (simp [*, errW_none, errW_some] <;> rfl), by (with_reducible repeat (first | apply Kd.R_alloc | apply Kd.R_drewN | apply Kd.R_drew)); exact HO_5.out, LX HB⟩
    ·
     rw [if_neg c11] at H
     exact absurd H (by simp)
def mime_Parts.mf (k : Nat) : Go.Proofs.YtigcbajcifhinaaGreatDoor.Txt.Mf := ⟨head_Find.f k, mime_Type.f k, mime_Param.f k, mime_or.f, mime_pieces.f k⟩
theorem mime_Parts.ok (k : Nat) : Go.Proofs.YtigcbajcifhinaaGreatDoor.Txt.MfOK (mime_Parts.mf k) :=
 ⟨fun A c l a r w hC hc h => head_Find.calls k A c l a r.1 r.2 w hC hc h, fun a r w hT h => mime_Type.calls k a r.1 r.2 w hT h, fun A c l a r w hC hc h => mime_Param.calls k A c l a r.1 r.2 w hC hc h, fun a b c r w h => mime_or.calls a b c r w h, fun a b r w hT h => mime_pieces.calls k a b r w hT h⟩
def mime_Parts.f (k : Nat) (a0 : ByteArray) : Option (List S53) := Go.Proofs.YtigcbajcifhinaaGreatDoor.Txt.partsF (mime_Parts.mf k) a0
theorem mime_Parts.mono : ∀ a0 k, LeO (mime_Parts.f k a0) (mime_Parts.f (k + 1) a0) := fun a0 k =>
 Go.Proofs.YtigcbajcifhinaaGreatDoor.Txt.partsF_le (mime_Parts.mf k) (mime_Parts.mf (k + 1)) ⟨fun a b => head_Find.mono a b k, fun a => mime_Type.mono a k, fun a b => mime_Param.mono a b k, fun a b c => LeO.refl _, fun a b => mime_pieces.mono a b k⟩ a0
theorem mime_Parts.calls (k : Nat) (a0 : ByteArray) (r : List S53) (w : World) (hT : Tabs w) (h : mime_Parts.f k a0 = some r) :
  Calls Tryz.prog 21 #[.string a0] w fun e w' => ∃ v0_ : Value, e = .returned v0_ ∧ Kd.R k53 53 w' w.heap.size (fun _ => True) v0_ r ∧ Below w.heap.size w w' :=
 Go.Proofs.YtigcbajcifhinaaGreatDoor.Txt.parts_core (mime_Parts.mf k) (mime_Parts.ok k) a0 r w hT h
def enc_FromQuoted.f (s0 : ByteArray) : Option (ByteArray × Int) := if s0.size ≤ 17592186044416 then some (Go.Proofs.YtigcbajcifhinaaGreatDoor.Txt.fromQuotedF s0) else none
theorem enc_FromQuoted.calls (s0 : ByteArray) (r1 : ByteArray) (r2 : Int) (w : World) (h : enc_FromQuoted.f s0 = some (r1, r2)) :
  Calls Tryz.prog 93 #[.string s0] w fun e w' => e = .returned (.tuple #[.string r1, .int .i64 r2]) ∧ Below w.heap.size w w' := by
 unfold enc_FromQuoted.f at h
 split at h
 ·
  rename_i hc
  injection h with h
  have hx := Go.Proofs.YtigcbajcifhinaaGreatDoor.Txt.fromQuoted_any s0 w hc
  rw [h] at hx
  exact hx
 · cases h
def mime_Bytes.f (a0_0 : Int) (a0_1 : ByteArray) (a0_2 : ByteArray) (a0_3 : ByteArray) (a0_4 : ByteArray) : Option (ByteArray × Int) := if a0_3.toList = ([98, 97, 115, 101, 54, 52] : List UInt8) then ((enc_FromBase64.f a0_4).bind fun bt243 => (some (bt243.1, bt243.2))) else (if a0_3.toList = ([113, 117, 111, 116, 101, 100, 45, 112, 114, 105, 110, 116, 97, 98, 108, 101] : List UInt8) then ((enc_FromQuoted.f a0_4).bind fun bt245 => (some (bt245.1, bt245.2))) else (some (a0_4, 0)))
theorem mime_Bytes.calls (a0_0 : Int) (a0_1 : ByteArray) (a0_2 : ByteArray) (a0_3 : ByteArray) (a0_4 : ByteArray) (r1 : ByteArray) (r2 : Int) (w : World) (h : mime_Bytes.f a0_0 a0_1 a0_2 a0_3 a0_4 = some (r1, r2)) :
  Calls Tryz.prog 54 #[.agg #[.int .i64 a0_0, .string a0_1, .string a0_2, .string a0_3, .string a0_4]] w fun e w' => e = .returned (.tuple #[.string r1, .int .i64 r2]) ∧ Below w.heap.size w w' := by
 have hu53 := Tryz.underlying53
 have HB := Aside0.mk (Below.refl w.heap.size w)
 have H : (if a0_3.toList = ([98, 97, 115, 101, 54, 52] : List UInt8) then ((enc_FromBase64.f a0_4).bind fun bt243 => (some (bt243.1, bt243.2))) else (if a0_3.toList = ([113, 117, 111, 116, 101, 100, 45, 112, 114, 105, 110, 116, 97, 98, 108, 101] : List UInt8) then ((enc_FromQuoted.f a0_4).bind fun bt245 => (some (bt245.1, bt245.2))) else (some (a0_4, 0)))) = some (r1, r2) := h
 clear h
 by_cases c2 : a0_3.toList = ([98, 97, 115, 101, 54, 52] : List UInt8)
 ·
  rw [if_pos c2] at H
  have c2b0 : (a0_3.toList == ([98, 97, 115, 101, 54, 52] : List UInt8)) = true := beq_iff_eq.mpr c2
  have c2b1 : (a0_3.toList != ([98, 97, 115, 101, 54, 52] : List UInt8)) = false := bne_eq_false_iff_eq.mpr c2
  clear c2
  obtain ⟨⟨t243, t244⟩, A3, H⟩ := bindQ H
  replace H : (some (t243, t244)) = some (r1, r2) := H
  simp only [Option.some.injEq, Prod.mk.injEq] at H
  obtain ⟨rfl, rfl⟩ := H
  go_enter Tryz.func54, Tryz.ntmps54
  go_wp2_with (first | ((with_reducible refine gate_dst (N := 1) rfl ?_); refine box_event ?hg (N := 1) ?hd (cs := #[.int .i64 a0_0, .string a0_1, .string a0_2, .string a0_3, .string a0_4]) (t := 53) ?hr ?_; (case hd => rfl); (case hg => rfl); (case hr => first | (go_simp; done) | (go_simp; rfl)); intro gb242 hg w4 hbox hb; have BK242 := Aside0.mk (hbox); have GW242 := gwQ HB hg; have GE242 := gwQ HB hg; replace HB := LB HB hb; clear hb hbox hg; obtain ⟨hcz5_0, hcz5_1, hcz5_2, hcz5_3, hcz5_4, hfz5_0, hfz5_1, hfz5_2, hfz5_3, hfz5_4⟩ := cf5 BK242) | ((with_reducible refine gate_callee (f := 92) rfl ?_); refine goesLQ (some 10) Tryz.func92 #[.string a0_4] ?_; (with_reducible refine (enc_FromBase64.calls a0_4 t243 t244 _ A3.out).mono ?_); rintro e w6 ⟨rfl, hb⟩; refine ⟨_, rfl, ?_⟩; replace BK242 := BB BK242 hb; replace HB := LB HB hb))
  go_ret2
  exact retQ HB
 ·
  rw [if_neg c2] at H
  have c2b0 : (a0_3.toList == ([98, 97, 115, 101, 54, 52] : List UInt8)) = false := beq_eq_false_iff_ne.mpr c2
  have c2b1 : (a0_3.toList != ([98, 97, 115, 101, 54, 52] : List UInt8)) = true := bne_iff_ne.mpr c2
  by_cases c7 : a0_3.toList = ([113, 117, 111, 116, 101, 100, 45, 112, 114, 105, 110, 116, 97, 98, 108, 101] : List UInt8)
  ·
   rw [if_pos c7] at H
   have c7b0 : (a0_3.toList == ([113, 117, 111, 116, 101, 100, 45, 112, 114, 105, 110, 116, 97, 98, 108, 101] : List UInt8)) = true := beq_iff_eq.mpr c7
   have c7b1 : (a0_3.toList != ([113, 117, 111, 116, 101, 100, 45, 112, 114, 105, 110, 116, 97, 98, 108, 101] : List UInt8)) = false := bne_eq_false_iff_eq.mpr c7
   clear c7
   obtain ⟨⟨t245, t246⟩, A8, H⟩ := bindQ H
   replace H : (some (t245, t246)) = some (r1, r2) := H
   simp only [Option.some.injEq, Prod.mk.injEq] at H
   obtain ⟨rfl, rfl⟩ := H
   go_enter Tryz.func54, Tryz.ntmps54
   go_wp2_with (first | ((with_reducible refine gate_dst (N := 1) rfl ?_); refine box_event ?hg (N := 1) ?hd (cs := #[.int .i64 a0_0, .string a0_1, .string a0_2, .string a0_3, .string a0_4]) (t := 53) ?hr ?_; (case hd => rfl); (case hg => rfl); (case hr => first | (go_simp; done) | (go_simp; rfl)); intro gb242 hg w9 hbox hb; have BK242 := Aside0.mk (hbox); have GW242 := gwQ HB hg; have GE242 := gwQ HB hg; replace HB := LB HB hb; clear hb hbox hg; obtain ⟨hcz10_0, hcz10_1, hcz10_2, hcz10_3, hcz10_4, hfz10_0, hfz10_1, hfz10_2, hfz10_3, hfz10_4⟩ := cf5 BK242) | ((with_reducible refine gate_callee (f := 93) rfl ?_); refine goesLQ (some 17) Tryz.func93 #[.string a0_4] ?_; (with_reducible refine (enc_FromQuoted.calls a0_4 t245 t246 _ A8.out).mono ?_); rintro e w11 ⟨rfl, hb⟩; refine ⟨_, rfl, ?_⟩; replace BK242 := BB BK242 hb; replace HB := LB HB hb))
   go_ret2
   exact retQ HB
  ·
   rw [if_neg c7] at H
   have c7b0 : (a0_3.toList == ([113, 117, 111, 116, 101, 100, 45, 112, 114, 105, 110, 116, 97, 98, 108, 101] : List UInt8)) = false := beq_eq_false_iff_ne.mpr c7
   have c7b1 : (a0_3.toList != ([113, 117, 111, 116, 101, 100, 45, 112, 114, 105, 110, 116, 97, 98, 108, 101] : List UInt8)) = true := bne_iff_ne.mpr c7
   simp only [Option.some.injEq, Prod.mk.injEq] at H
   obtain ⟨rfl, rfl⟩ := H
   go_enter Tryz.func54, Tryz.ntmps54
   go_wp2_with (first | ((with_reducible refine gate_dst (N := 1) rfl ?_); refine box_event ?hg (N := 1) ?hd (cs := #[.int .i64 a0_0, .string a0_1, .string a0_2, .string a0_3, .string a0_4]) (t := 53) ?hr ?_; (case hd => rfl); (case hg => rfl); (case hr => first | (go_simp; done) | (go_simp; rfl)); intro gb242 hg w12 hbox hb; have BK242 := Aside0.mk (hbox); have GW242 := gwQ HB hg; have GE242 := gwQ HB hg; replace HB := LB HB hb; clear hb hbox hg; obtain ⟨hcz13_0, hcz13_1, hcz13_2, hcz13_3, hcz13_4, hfz13_0, hfz13_1, hfz13_2, hfz13_3, hfz13_4⟩ := cf5 BK242))
   go_ret2
   exact retQ HB
def mime_Letters.f (k : Nat) (a0_0 : Int) (a0_1 : ByteArray) (a0_2 : ByteArray) (a0_3 : ByteArray) (a0_4 : ByteArray) : Option (List Int × Bool) := (strings_HasPrefix.f a0_1 (⟨#[116, 101, 120, 116, 47]⟩ : ByteArray)).bind fun t248 => (if t248 = true then ((runes_Named.f k a0_2).bind fun bt249 => (if bt249.2 = 0 then ((mime_Bytes.f a0_0 a0_1 a0_2 a0_3 a0_4).bind fun bt251 => ((runes_Decode.f k bt249.1 bt251.1).bind fun bt253 => (some (bt253.1, true)))) else ((mime_Bytes.f a0_0 a0_1 a0_2 a0_3 a0_4).bind fun bt257 => ((runes_Decode.f k 1 bt257.1).bind fun bt259 => (some (bt259.1, true)))))) else (some (([] : List Int), false)))
theorem mime_Letters.mono : ∀ a0 a1 a2 a3 a4 k, LeO (mime_Letters.f k a0 a1 a2 a3 a4) (mime_Letters.f (k + 1) a0 a1 a2 a3 a4) := by
 intro a0 a1 a2 a3 a4 k
 unfold mime_Letters.f
 repeat' (with_reducible first | apply runes_Decode.mono | apply runes_Named.mono | apply LeO.refl | exact LeO.none _ | apply LeO.ite | refine LeO.bind ?_ fun _ => ?_)
theorem mime_Letters.calls (k : Nat) (a0_0 : Int) (a0_1 : ByteArray) (a0_2 : ByteArray) (a0_3 : ByteArray) (a0_4 : ByteArray) (r1 : List Int) (r2 : Bool) (w : World) (hT : Tabs w) (h : mime_Letters.f k a0_0 a0_1 a0_2 a0_3 a0_4 = some (r1, r2)) :
  Calls Tryz.prog 22 #[.agg #[.int .i64 a0_0, .string a0_1, .string a0_2, .string a0_3, .string a0_4]] w fun e w' => ∃ v0_ : Value, e = .returned (.tuple #[v0_, .bool r2]) ∧ Kd.R (Kd.int .i32) 21 w' w.heap.size (fun _ => True) v0_ r1 ∧ Below w.heap.size w w' := by
 have hu53 := Tryz.underlying53
 have HTAB := Aside0.mk hT
 clear hT
 have HB := Aside0.mk (Below.refl w.heap.size w)
 have H : ((strings_HasPrefix.f a0_1 (⟨#[116, 101, 120, 116, 47]⟩ : ByteArray)).bind fun t248 => (if t248 = true then ((runes_Named.f k a0_2).bind fun bt249 => (if bt249.2 = 0 then ((mime_Bytes.f a0_0 a0_1 a0_2 a0_3 a0_4).bind fun bt251 => ((runes_Decode.f k bt249.1 bt251.1).bind fun bt253 => (some (bt253.1, true)))) else ((mime_Bytes.f a0_0 a0_1 a0_2 a0_3 a0_4).bind fun bt257 => ((runes_Decode.f k 1 bt257.1).bind fun bt259 => (some (bt259.1, true)))))) else (some (([] : List Int), false)))) = some (r1, r2) := h
 clear h
 obtain ⟨t248, A2, H⟩ := bindQ H
 replace H : (if t248 = true then ((runes_Named.f k a0_2).bind fun bt249 => (if bt249.2 = 0 then ((mime_Bytes.f a0_0 a0_1 a0_2 a0_3 a0_4).bind fun bt251 => ((runes_Decode.f k bt249.1 bt251.1).bind fun bt253 => (some (bt253.1, true)))) else ((mime_Bytes.f a0_0 a0_1 a0_2 a0_3 a0_4).bind fun bt257 => ((runes_Decode.f k 1 bt257.1).bind fun bt259 => (some (bt259.1, true)))))) else (some (([] : List Int), false))) = some (r1, r2) := H
 by_cases c3 : t248 = true
 ·
  subst c3
  have H1 : ((runes_Named.f k a0_2).bind fun bt249 => (if bt249.2 = 0 then ((mime_Bytes.f a0_0 a0_1 a0_2 a0_3 a0_4).bind fun bt251 => ((runes_Decode.f k bt249.1 bt251.1).bind fun bt253 => (some (bt253.1, true)))) else ((mime_Bytes.f a0_0 a0_1 a0_2 a0_3 a0_4).bind fun bt257 => ((runes_Decode.f k 1 bt257.1).bind fun bt259 => (some (bt259.1, true)))))) = some (r1, r2) := by rw [if_pos rfl] at H; exact H
  clear H
  have H := H1
  clear H1
  obtain ⟨⟨t249, t250⟩, A4, H⟩ := bindQ H
  replace H : (if t250 = 0 then ((mime_Bytes.f a0_0 a0_1 a0_2 a0_3 a0_4).bind fun bt251 => ((runes_Decode.f k t249 bt251.1).bind fun bt253 => (some (bt253.1, true)))) else ((mime_Bytes.f a0_0 a0_1 a0_2 a0_3 a0_4).bind fun bt257 => ((runes_Decode.f k 1 bt257.1).bind fun bt259 => (some (bt259.1, true))))) = some (r1, r2) := H
  by_cases c5 : t250 = 0
  ·
   rw [if_pos c5] at H
   have c5b0 : (t250 == 0) = true := beq_iff_eq.mpr c5
   have c5b1 : (t250 != 0) = false := bne_eq_false_iff_eq.mpr c5
   clear c5
   obtain ⟨⟨t251, t252⟩, A6, H⟩ := bindQ H
   replace H : ((runes_Decode.f k t249 t251).bind fun bt253 => (some (bt253.1, true))) = some (r1, r2) := H
   obtain ⟨⟨t253, t254⟩, A7, H⟩ := bindQ H
   replace H : (some (t253, true)) = some (r1, r2) := H
   simp only [Option.some.injEq, Prod.mk.injEq] at H
   obtain ⟨rfl, rfl⟩ := H
   go_enter Tryz.func22, Tryz.ntmps22
   go_wp2_with (first | ((with_reducible refine gate_dst (N := 1) rfl ?_); refine box_event ?hg (N := 1) ?hd (cs := #[.int .i64 a0_0, .string a0_1, .string a0_2, .string a0_3, .string a0_4]) (t := 53) ?hr ?_; (case hd => rfl); (case hg => rfl); (case hr => first | (go_simp; done) | (go_simp; rfl)); intro gb247 hg w8 hbox hb; have BK247 := Aside0.mk (hbox); have GW247 := gwQ HB hg; have GE247 := gwQ HB hg; replace HB := LB HB hb; clear hb hbox hg; obtain ⟨hcz9_0, hcz9_1, hcz9_2, hcz9_3, hcz9_4, hfz9_0, hfz9_1, hfz9_2, hfz9_3, hfz9_4⟩ := cf5 BK247) | ((with_reducible refine gate_callee (f := 52) rfl ?_); refine goesLQ (some 12) Tryz.func52 #[.string a0_1, .string (⟨#[116, 101, 120, 116, 47]⟩ : ByteArray)] ?_; (with_reducible refine (strings_HasPrefix.calls a0_1 (⟨#[116, 101, 120, 116, 47]⟩ : ByteArray) true _ A2.out).mono ?_); rintro e w' ⟨rfl, ⟨nd, rfl⟩⟩; refine ⟨_, rfl, ?_⟩) | ((with_reducible refine gate_callee (f := 53) rfl ?_); refine goesLQ (some 17) Tryz.func53 #[.string a0_2] ?_; (with_reducible refine (runes_Named.calls k a0_2 t249 t250 _ A4.out).mono ?_); rintro e w10 ⟨rfl, hb⟩; refine ⟨_, rfl, ?_⟩; replace BK247 := BB BK247 hb; replace HB := LB HB hb; obtain ⟨hcz11_0, hcz11_1, hcz11_2, hcz11_3, hcz11_4, hfz11_0, hfz11_1, hfz11_2, hfz11_3, hfz11_4⟩ := cf5 BK247) | ((with_reducible refine gate_callee (f := 54) rfl ?_); refine goesLQ (some 24) Tryz.func54 #[.agg #[.int .i64 a0_0, .string a0_1, .string a0_2, .string a0_3, .string a0_4]] ?_; (with_reducible refine (mime_Bytes.calls a0_0 a0_1 a0_2 a0_3 a0_4 t251 t252 _ A6.out).mono ?_); rintro e w12 ⟨rfl, hb⟩; refine ⟨_, rfl, ?_⟩; replace BK247 := BB BK247 hb; replace HB := LB HB hb) | ((with_reducible refine gate_callee (f := 55) rfl ?_); refine goesLQ (some 30) Tryz.func55 #[.int .u8 t249, .string t251] ?_; (with_reducible refine (runes_Decode.calls k t249 t251 t253 t254 _ ?side1 A7.out).mono ?_); (case side1 => first | exact TX HTAB HB | exact TD HTAB); rintro e w13 ⟨v255, rfl, ho0, hb⟩; refine ⟨_, rfl, ?_⟩; have HO256 := Aside0.mk (Kd.R_lower ho0 (below_size (LX HB))); replace BK247 := BB BK247 hb; replace HB := LB HB hb))
   go_ret2
   exact ⟨_, by first | rfl | (simp [errW_none, errW_some] <;> rfl) | (simp [*, errW_none, errW_some] <;> rfl), by (with_reducible repeat (first | apply Kd.R_alloc | apply Kd.R_drewN | apply Kd.R_drew)); exact HO256.out, LX HB⟩
  ·
   rw [if_neg c5] at H
   have c5b0 : (t250 == 0) = false := beq_eq_false_iff_ne.mpr c5
   have c5b1 : (t250 != 0) = true := bne_iff_ne.mpr c5
   obtain ⟨⟨t257, t258⟩, A14, H⟩ := bindQ H
   replace H : ((runes_Decode.f k 1 t257).bind fun bt259 => (some (bt259.1, true))) = some (r1, r2) := H
   obtain ⟨⟨t259, t260⟩, A15, H⟩ := bindQ H
   replace H : (some (t259, true)) = some (r1, r2) := H
   simp only [Option.some.injEq, Prod.mk.injEq] at H
   obtain ⟨rfl, rfl⟩ := H
   go_enter Tryz.func22, Tryz.ntmps22
   go_wp2_with (first | ((with_reducible refine gate_dst (N := 1) rfl ?_); refine box_event ?hg (N := 1) ?hd (cs := #[.int .i64 a0_0, .string a0_1, .string a0_2, .string a0_3, .string a0_4]) (t := 53) ?hr ?_; (case hd => rfl); (case hg => rfl); (case hr => first | (go_simp; done) | (go_simp; rfl)); intro gb247 hg w16 hbox hb; have BK247 := Aside0.mk (hbox); have GW247 := gwQ HB hg; have GE247 := gwQ HB hg; replace HB := LB HB hb; clear hb hbox hg; obtain ⟨hcz17_0, hcz17_1, hcz17_2, hcz17_3, hcz17_4, hfz17_0, hfz17_1, hfz17_2, hfz17_3, hfz17_4⟩ := cf5 BK247) | ((with_reducible refine gate_callee (f := 52) rfl ?_); refine goesLQ (some 12) Tryz.func52 #[.string a0_1, .string (⟨#[116, 101, 120, 116, 47]⟩ : ByteArray)] ?_; (with_reducible refine (strings_HasPrefix.calls a0_1 (⟨#[116, 101, 120, 116, 47]⟩ : ByteArray) true _ A2.out).mono ?_); rintro e w' ⟨rfl, ⟨nd, rfl⟩⟩; refine ⟨_, rfl, ?_⟩) | ((with_reducible refine gate_callee (f := 53) rfl ?_); refine goesLQ (some 17) Tryz.func53 #[.string a0_2] ?_; (with_reducible refine (runes_Named.calls k a0_2 t249 t250 _ A4.out).mono ?_); rintro e w18 ⟨rfl, hb⟩; refine ⟨_, rfl, ?_⟩; replace BK247 := BB BK247 hb; replace HB := LB HB hb; obtain ⟨hcz19_0, hcz19_1, hcz19_2, hcz19_3, hcz19_4, hfz19_0, hfz19_1, hfz19_2, hfz19_3, hfz19_4⟩ := cf5 BK247) | ((with_reducible refine gate_callee (f := 54) rfl ?_); refine goesLQ (some 24) Tryz.func54 #[.agg #[.int .i64 a0_0, .string a0_1, .string a0_2, .string a0_3, .string a0_4]] ?_; (with_reducible refine (mime_Bytes.calls a0_0 a0_1 a0_2 a0_3 a0_4 t257 t258 _ A14.out).mono ?_); rintro e w20 ⟨rfl, hb⟩; refine ⟨_, rfl, ?_⟩; replace BK247 := BB BK247 hb; replace HB := LB HB hb) | ((with_reducible refine gate_callee (f := 55) rfl ?_); refine goesLQ (some 30) Tryz.func55 #[.int .u8 1, .string t257] ?_; (with_reducible refine (runes_Decode.calls k 1 t257 t259 t260 _ ?side1 A15.out).mono ?_); (case side1 => first | exact TX HTAB HB | exact TD HTAB); rintro e w21 ⟨v261, rfl, ho0, hb⟩; refine ⟨_, rfl, ?_⟩; have HO262 := Aside0.mk (Kd.R_lower ho0 (below_size (LX HB))); replace BK247 := BB BK247 hb; replace HB := LB HB hb))
   go_ret2
   exact ⟨_, by first | rfl | (simp [errW_none, errW_some] <;> rfl) | (simp [*, errW_none, errW_some] <;> rfl), by (with_reducible repeat (first | apply Kd.R_alloc | apply Kd.R_drewN | apply Kd.R_drew)); exact HO262.out, LX HB⟩
 ·
  replace c3 := Bool.eq_false_iff.mpr c3
  subst c3
  have H1 : (some (([] : List Int), false)) = some (r1, r2) := by rw [if_neg (show ¬ (false = true) by decide)] at H; exact H
  clear H
  have H := H1
  clear H1
  simp only [Option.some.injEq, Prod.mk.injEq] at H
  obtain ⟨rfl, rfl⟩ := H
  go_enter Tryz.func22, Tryz.ntmps22
  go_wp2_with (first | ((with_reducible refine gate_dst (N := 1) rfl ?_); refine box_event ?hg (N := 1) ?hd (cs := #[.int .i64 a0_0, .string a0_1, .string a0_2, .string a0_3, .string a0_4]) (t := 53) ?hr ?_; (case hd => rfl); (case hg => rfl); (case hr => first | (go_simp; done) | (go_simp; rfl)); intro gb247 hg w22 hbox hb; have BK247 := Aside0.mk (hbox); have GW247 := gwQ HB hg; have GE247 := gwQ HB hg; replace HB := LB HB hb; clear hb hbox hg; obtain ⟨hcz23_0, hcz23_1, hcz23_2, hcz23_3, hcz23_4, hfz23_0, hfz23_1, hfz23_2, hfz23_3, hfz23_4⟩ := cf5 BK247) | ((with_reducible refine gate_callee (f := 52) rfl ?_); refine goesLQ (some 12) Tryz.func52 #[.string a0_1, .string (⟨#[116, 101, 120, 116, 47]⟩ : ByteArray)] ?_; (with_reducible refine (strings_HasPrefix.calls a0_1 (⟨#[116, 101, 120, 116, 47]⟩ : ByteArray) false _ A2.out).mono ?_); rintro e w' ⟨rfl, ⟨nd, rfl⟩⟩; refine ⟨_, rfl, ?_⟩))
  go_ret2
  exact ⟨_, by first | rfl | (simp [errW_none, errW_some] <;> rfl) | (simp [*, errW_none, errW_some] <;> rfl), by first | exact Kd.R_nil _ _ _ _ _ | exact Kd.N_nil _ _ _ _ _ | exact Kd.V_nil _ _ _ _ _ | exact Kd.Q_nil _ _ _ _ _ | exact Kd.S_nil _ _ _ _ _, LX HB⟩
mutual
def mail_Read.l0 : Nat → ByteArray → List (S43) → List (S43) → Int → Int → Int → Int → Bool → List ByteArray → List ByteArray → Option (Int × Int × Bool × List ByteArray × List ByteArray × List ByteArray)
 | 0, _, _, _, _, _, _, _, _, _, _ => none
 | k + 1, x0, x4, x24, x25, x26, x265000, x265001, x265002, x265003, x265004 => if x26 < x25 then (if 0 ≤ x26 then (if x26 < (x24.length : Int) then ((mail_name.f k ((rd_T43 x24 x26).f0)).bind fun t271 => (if x265003.length < 8796093022208 then ((word_Decode.f k ((rd_T43 x24 x26).f1)).bind fun t275 => ((mail_What.f k t275).bind fun t278 => (if x265004.length < 8796093022208 then (mail_Read.l0 k x0 x4 x24 x25 (wrap64 (x26 + 1)) x265000 x265001 x265002 (x265003 ++ [t271]) (x265004 ++ [t278])) else (none)))) else (none))) else (none)) else (none)) else ((head_Find.f k x4 (⟨#[68, 97, 116, 101]⟩ : ByteArray)).bind fun bt282 => (if bt282.2 = 0 then ((date_Mail.f k bt282.1).bind fun bt284 => (mail_Read.j1 k x0 x265000 bt284.1 (bt284.2 == 0) x265003 x265004)) else (mail_Read.j1 k x0 x265000 x265001 x265002 x265003 x265004)))
def mail_Read.j1 : Nat → ByteArray → Int → Int → Bool → List ByteArray → List ByteArray → Option (Int × Int × Bool × List ByteArray × List ByteArray × List ByteArray)
 | 0, _, _, _, _, _, _ => none
 | k + 1, x0, x265000, x265001, x265002, x265003, x265004 => (mime_Parts.f k x0).bind fun t286 => (mail_Read.l1 k t286 (t286.length : Int) 0 x265000 x265001 x265002 x265003 x265004 ([] : List ByteArray))
def mail_Read.l1 : Nat → List (S53) → Int → Int → Int → Int → Bool → List ByteArray → List ByteArray → List ByteArray → Option (Int × Int × Bool × List ByteArray × List ByteArray × List ByteArray)
 | 0, _, _, _, _, _, _, _, _, _ => none
 | k + 1, x66, x67, x68, x265000, x265001, x265002, x265003, x265004, x265005 => if x68 < x67 then (if 0 ≤ x68 then (if x68 < (x66.length : Int) then ((mime_Letters.f k ((rd_T53 x66 x68).f0) ((rd_T53 x66 x68).f1) ((rd_T53 x66 x68).f2) ((rd_T53 x66 x68).f3) ((rd_T53 x66 x68).f4)).bind fun bt291 => (if bt291.2 = true then ((mail_What.f k bt291.1).bind fun t295 => (if x265005.length < 8796093022208 then (mail_Read.l1 k x66 x67 (wrap64 (x68 + 1)) x265000 x265001 x265002 x265003 x265004 (x265005 ++ [t295])) else (none))) else (mail_Read.l1 k x66 x67 (wrap64 (x68 + 1)) x265000 x265001 x265002 x265003 x265004 x265005))) else (none)) else (none)) else (some (x265000, x265001, x265002, x265003, x265004, x265005))
end
def mail_Read.f (k : Nat) (a0 : ByteArray) : Option (Int × Int × Bool × List ByteArray × List ByteArray × List ByteArray) := (head_Parse.f a0).bind fun bt265 => (mail_Read.l0 k a0 bt265.1 bt265.1 (bt265.1.length : Int) 0 (a0.size : Int) 0 false ([] : List ByteArray) ([] : List ByteArray))
theorem mail_Read.mono_l : ∀ k, (∀ y0 y1 y2 y3 y4 y5 y6 y7 y8 y9, LeO (mail_Read.l0 k y0 y1 y2 y3 y4 y5 y6 y7 y8 y9) (mail_Read.l0 (k + 1) y0 y1 y2 y3 y4 y5 y6 y7 y8 y9)) ∧ (∀ y0 y1 y2 y3 y4 y5, LeO (mail_Read.j1 k y0 y1 y2 y3 y4 y5) (mail_Read.j1 (k + 1) y0 y1 y2 y3 y4 y5)) ∧ (∀ y0 y1 y2 y3 y4 y5 y6 y7 y8, LeO (mail_Read.l1 k y0 y1 y2 y3 y4 y5 y6 y7 y8) (mail_Read.l1 (k + 1) y0 y1 y2 y3 y4 y5 y6 y7 y8))
 | 0 => ⟨fun _ _ _ _ _ _ _ _ _ _ r h => by simp [mail_Read.l0] at h, fun _ _ _ _ _ _ r h => by simp [mail_Read.j1] at h, fun _ _ _ _ _ _ _ _ _ r h => by simp [mail_Read.l1] at h⟩
 | k + 1 => by
  obtain ⟨ih0, ih1, ih2⟩ := mail_Read.mono_l k
  refine ⟨?_, ?_, ?_⟩
  ·
   intro y0 y1 y2 y3 y4 y5 y6 y7 y8 y9
   unfold mail_Read.l0
   repeat' (with_reducible first | apply ih0 | apply ih1 | apply ih2 | apply date_Mail.mono | apply head_Find.mono | apply mail_What.mono | apply mail_name.mono | apply mime_Letters.mono | apply mime_Parts.mono | apply word_Decode.mono | apply LeO.refl | exact LeO.none _ | apply LeO.ite | refine LeO.bind ?_ fun _ => ?_)
  ·
   intro y0 y1 y2 y3 y4 y5
   unfold mail_Read.j1
   repeat' (with_reducible first | apply ih0 | apply ih1 | apply ih2 | apply date_Mail.mono | apply head_Find.mono | apply mail_What.mono | apply mail_name.mono | apply mime_Letters.mono | apply mime_Parts.mono | apply word_Decode.mono | apply LeO.refl | exact LeO.none _ | apply LeO.ite | refine LeO.bind ?_ fun _ => ?_)
  ·
   intro y0 y1 y2 y3 y4 y5 y6 y7 y8
   unfold mail_Read.l1
   repeat' (with_reducible first | apply ih0 | apply ih1 | apply ih2 | apply date_Mail.mono | apply head_Find.mono | apply mail_What.mono | apply mail_name.mono | apply mime_Letters.mono | apply mime_Parts.mono | apply word_Decode.mono | apply LeO.refl | exact LeO.none _ | apply LeO.ite | refine LeO.bind ?_ fun _ => ?_)
theorem mail_Read.mono : ∀ a0 k, LeO (mail_Read.f k a0) (mail_Read.f (k + 1) a0) := by
 intro a0 k
 obtain ⟨ih0, ih1, ih2⟩ := mail_Read.mono_l k
 unfold mail_Read.f
 repeat' (with_reducible first | apply ih0 | apply ih1 | apply ih2 | apply date_Mail.mono | apply head_Find.mono | apply mail_What.mono | apply mail_name.mono | apply mime_Letters.mono | apply mime_Parts.mono | apply word_Decode.mono | apply LeO.refl | exact LeO.none _ | apply LeO.ite | refine LeO.bind ?_ fun _ => ?_)
def mail_Read.T6 : Bool × List (List Nat × List Nat) := (true, [([], []), ([0], [0]), ([], []), ([2], [2]), ([3], [3]), ([4], [4]), ([1, 5, 4], [1, 5]), ([0, 1, 2, 3, 4, 5, 6], []), ([7, 6, 6, 0, 1, 2, 3, 4, 5, 6], [6, 7])])
def mail_Read.B6 : List Nat := [0, 1, 0, 4, 12, 28, 63, 127, 255]
theorem mail_Read.tab6 : rtab .any (opsOf Tryz.f7 6) = mail_Read.T6 := by kernel_rfl
theorem mail_Read.bits6 : waitsOk mail_Read.T6.2 mail_Read.B6 = true := by kernel_rfl
def mail_Read.T7 : Bool × List (List Nat × List Nat) := (true, [([], []), ([0], [0]), ([], []), ([2], [2]), ([3], [3]), ([4, 4], [4]), ([5], [5]), ([1, 6, 5], [1, 6]), ([0, 1, 2, 3, 4, 5, 6, 7], []), ([8, 7, 7, 0, 1, 2, 3, 4, 5, 6, 7], [7, 8])])
def mail_Read.B7 : List Nat := [0, 1, 0, 4, 12, 28, 60, 127, 255, 511]
theorem mail_Read.tab7 : rtab .any (opsOf Tryz.f7 7) = mail_Read.T7 := by kernel_rfl
theorem mail_Read.bits7 : waitsOk mail_Read.T7.2 mail_Read.B7 = true := by kernel_rfl
def mail_Read.T18 : Bool × List (List Nat × List Nat) := (true, [([], []), ([0], [0]), ([], []), ([2], [2]), ([3], [3]), ([1, 4, 3], [1, 4]), ([0, 1, 2, 3, 4, 5], []), ([6, 5, 5, 0, 1, 2, 3, 4, 5], [5, 6])])
def mail_Read.B18 : List Nat := [0, 1, 0, 4, 12, 31, 63, 127]
theorem mail_Read.tab18 : rtab .any (opsOf Tryz.f7 18) = mail_Read.T18 := by kernel_rfl
theorem mail_Read.bits18 : waitsOk mail_Read.T18.2 mail_Read.B18 = true := by kernel_rfl
theorem mail_Read.calls (k : Nat) (a0 : ByteArray) (r1 : Int) (r2 : Int) (r3 : Bool) (r4 : List ByteArray) (r5 : List ByteArray) (r6 : List ByteArray) (w : World) (hT : Tabs w) (h : mail_Read.f k a0 = some (r1, r2, r3, r4, r5, r6)) :
  Calls Tryz.prog 7 #[.string a0] w fun e w' => ∃ v3_ v4_ v5_ : Value, e = .returned (.agg #[.int .i64 r1, .int .i64 r2, .bool r3, v3_, v4_, v5_]) ∧ Kd.R Kd.string 9 w' w.heap.size (fun k_ => some k_ ≠ (v4_ : Value).ownBlock ∧ some k_ ≠ (v5_ : Value).ownBlock) v3_ r4 ∧ Kd.R Kd.string 9 w' w.heap.size (fun k_ => some k_ ≠ (v3_ : Value).ownBlock ∧ some k_ ≠ (v5_ : Value).ownBlock) v4_ r5 ∧ Kd.R Kd.string 9 w' w.heap.size (fun k_ => some k_ ≠ (v3_ : Value).ownBlock ∧ some k_ ≠ (v4_ : Value).ownBlock) v5_ r6 ∧ Below w.heap.size w w' := by
 have hu26 := Tryz.underlying26
 have hu43 := Tryz.underlying43
 have hu53 := Tryz.underlying53
 have HTAB := Aside0.mk hT
 clear hT
 have HB := Aside0.mk (Below.refl w.heap.size w)
 have H : ((head_Parse.f a0).bind fun bt265 => (mail_Read.l0 k a0 bt265.1 bt265.1 (bt265.1.length : Int) 0 (a0.size : Int) 0 false ([] : List ByteArray) ([] : List ByteArray))) = some (r1, r2, r3, r4, r5, r6) := h
 clear h
 obtain ⟨⟨t265, t266⟩, A2, H⟩ := bindQ H
 replace H : (mail_Read.l0 k a0 t265 t265 (t265.length : Int) 0 (a0.size : Int) 0 false ([] : List ByteArray) ([] : List ByteArray)) = some (r1, r2, r3, r4, r5, r6) := H
 have H' := Aside0.mk H
 clear H
 go_enter Tryz.func7, Tryz.ntmps7
 go_wp2_with (first | ((with_reducible refine gate_dst (N := 2) rfl ?_); refine box_event ?hg (N := 2) ?hd (cs := #[.int .i64 0, .int .i64 0, .bool false, .slice none 0 0, .slice none 0 0, .slice none 0 0]) (t := 26) ?hr ?_; (case hd => rfl); (case hg => rfl); (case hr => first | (go_simp; done) | (go_simp; rfl)); intro gb263 hg w3 hbox hb; have BK263 := Aside0.mk (hbox); have GW263 := gwQ HB hg; have GE263 := gwQ HB hg; replace HB := LB HB hb; clear hb hbox hg) | ((with_reducible refine gate_dst (N := 3) rfl ?_); refine box_event ?hg (N := 3) ?hd (cs := #[.int .i64 0, .int .i64 0, .bool false, .slice none 0 0, .slice none 0 0, .slice none 0 0]) (t := 26) ?hr ?_; (case hd => rfl); (case hg => rfl); (case hr => first | (go_simp; done) | (go_simp; rfl)); intro gb264 hg w4 hbox hb; have BK264 := Aside0.mk (hbox); have GW264 := gwQ HB hg; have GE264 := gwQ HB hg; have NB263_264 := nlQ BK263 hg; have NB264_263 := ngQ BK263 hg; replace BK263 := BB BK263 hb; replace HB := LB HB hb; clear hb hbox hg; have hnb5 := NB264_263.out; have hnc5 := NB263_264.out; obtain ⟨hcz6_0, hcz6_1, hcz6_2, hcz6_3, hcz6_4, hcz6_5, hfz6_0, hfz6_1, hfz6_2, hfz6_3, hfz6_4, hfz6_5⟩ := cf6 BK264) | ((with_reducible refine gate_callee (f := 16) rfl ?_); refine goesLQ (some 21) Tryz.func16 #[.string a0] ?_; (with_reducible refine (head_Parse.calls a0 t265 t266 _ ?side1 A2.out).mono ?_); (case side1 => first | exact TX HTAB HB | exact TD HTAB); rintro e w7 ⟨v267, rfl, ho0, hb⟩; refine ⟨_, rfl, ?_⟩; have HO268 := Aside0.mk (Kd.R_lower ho0 (below_size (LX HB))); replace BK263 := Aside0.mk (blk_below (FX BK263) hb); replace BK264 := Aside0.mk (blk_below (g := gb264) (o := .cells #[.int .i64 (a0.size : Int), .int .i64 0, .bool false, .slice none 0 0, .slice none 0 0, .slice none 0 0] 26 (0, 0)) (PX6 BK264) hb); replace HB := LB HB hb; obtain ⟨Ao8, co8, eo8⟩ := Kd.R_slice HO268.out; subst eo8))
 go_loopg [26] k (fun kq v26 w' => ∃ (x26_1 : Int) (x265003_1 : List ByteArray) (x265004_1 : List ByteArray) (u265003 : Value) (u265004 : Value), v26 = .int .i64 x26_1 ∧ Aside0 (mail_Read.l0 kq a0 t265 t265 (t265.length : Int) x26_1 (a0.size : Int) 0 false x265003_1 x265004_1 = some (r1, r2, r3, r4, r5, r6)) ∧ Aside0 (kq ≤ k) ∧ Aside0 (Kd.R k43 43 w' w.heap.size (fun _ => True) (.slice Ao8 t265.length co8) t265) ∧ Aside0 (Kd.R k43 43 w' w.heap.size (fun _ => True) (.slice Ao8 t265.length co8) t265) ∧ Aside0 (Kd.R Kd.string 9 w' w.heap.size (fun k_ => some k_ ≠ (u265004 : Value).ownBlock) u265003 x265003_1) ∧ Aside0 (Kd.R Kd.string 9 w' w.heap.size (fun k_ => some k_ ≠ (u265003 : Value).ownBlock) u265004 x265004_1) ∧ Aside0 (w'.heap[gb263]? = some (.cells #[.int .i64 0, .int .i64 0, .bool false, (.slice none 0 0), (.slice none 0 0), (.slice none 0 0)] 26 (0, 0))) ∧ Aside0 (w'.heap[gb264]? = some (.cells #[.int .i64 (a0.size : Int), .int .i64 0, .bool false, u265003, u265004, (.slice none 0 0)] 26 (0, 0))) ∧ Aside0 (Below w.heap.size w w'))
 case atStart => exact ⟨(0), (([] : List ByteArray)), (([] : List ByteArray)), (.slice none 0 0), (.slice none 0 0), (by first | rfl | (simp [*]; done)), H', ⟨Nat.le_refl _⟩, ⟨RX HO268⟩, ⟨RX HO268⟩, ⟨by first | exact Kd.R_nil _ _ _ _ _ | exact Kd.N_nil _ _ _ _ _ | exact Kd.V_nil _ _ _ _ _ | exact Kd.Q_nil _ _ _ _ _ | exact Kd.S_nil _ _ _ _ _⟩, ⟨by first | exact Kd.R_nil _ _ _ _ _ | exact Kd.N_nil _ _ _ _ _ | exact Kd.V_nil _ _ _ _ _ | exact Kd.Q_nil _ _ _ _ _ | exact Kd.S_nil _ _ _ _ _⟩, ⟨BX BK263⟩, ⟨BX BK264⟩, ⟨LX HB⟩⟩
 case round =>
  clear H'
  obtain ⟨x26_1, x265003_1, x265004_1, u265003, u265004, rfl, HA, HK1, HO_4, HO_24, HO_265003, HO_265004, BK263, BK264, HB⟩ := hrel
  cases gk with
  | zero => exact absurd HA.out (by simp [mail_Read.l0])
  | succ k1 =>
   have H := HA.out
   clear HA
   simp only [mail_Read.l0] at H
   by_cases c9 : x26_1 < (t265.length : Int)
   ·
    rw [if_pos c9] at H
    have c9b0 : decide (x26_1 < (t265.length : Int)) = true := decide_eq_true c9
    clear c9
    by_cases c10 : 0 ≤ x26_1
    ·
     rw [if_pos c10] at H
     have c10b0 : decide (0 ≤ x26_1) = true := decide_eq_true c10
     clear c10
     by_cases c11 : x26_1 < (t265.length : Int)
     ·
      rw [if_pos c11] at H
      have c11b0 : decide (x26_1 < (t265.length : Int)) = true := decide_eq_true c11
      clear c11
      obtain ⟨t271, A12, H⟩ := bindQ H
      replace H : (if x265003_1.length < 8796093022208 then ((word_Decode.f k1 ((rd_T43 t265 x26_1).f1)).bind fun t275 => ((mail_What.f k1 t275).bind fun t278 => (if x265004_1.length < 8796093022208 then (mail_Read.l0 k1 a0 t265 t265 (t265.length : Int) (wrap64 (x26_1 + 1)) (a0.size : Int) 0 false (x265003_1 ++ [t271]) (x265004_1 ++ [t278])) else (none)))) else (none)) = some (r1, r2, r3, r4, r5, r6) := H
      by_cases c13 : x265003_1.length < 8796093022208
      ·
       rw [if_pos c13] at H
       have LMc13 := Aside0.mk c13
       clear c13
       obtain ⟨y272, hy272⟩ : ∃ y_ : List ByteArray, y_ = (x265003_1 ++ [t271]) := ⟨_, rfl⟩
       replace H : ((word_Decode.f k1 ((rd_T43 t265 x26_1).f1)).bind fun t275 => ((mail_What.f k1 t275).bind fun t278 => (if x265004_1.length < 8796093022208 then (mail_Read.l0 k1 a0 t265 t265 (t265.length : Int) (wrap64 (x26_1 + 1)) (a0.size : Int) 0 false y272 (x265004_1 ++ [t278])) else (none)))) = some (r1, r2, r3, r4, r5, r6) := by first | (rw [hy272]; with_reducible exact H) | (have H2_ := (Option.bind_some _ _).symm.trans H; rw [hy272]; with_reducible exact H2_) | (have H2_ := (Option.bind_some _ _).symm.trans H; with_reducible exact H2_) | with_reducible exact H | (rw [hy272]; exact H) | exact H
       have Ny272 := Aside0.mk hy272
       clear hy272
       obtain ⟨t275, A14, H⟩ := bindQ H
       replace H : ((mail_What.f k1 t275).bind fun t278 => (if x265004_1.length < 8796093022208 then (mail_Read.l0 k1 a0 t265 t265 (t265.length : Int) (wrap64 (x26_1 + 1)) (a0.size : Int) 0 false y272 (x265004_1 ++ [t278])) else (none))) = some (r1, r2, r3, r4, r5, r6) := H
       obtain ⟨t278, A15, H⟩ := bindQ H
       replace H : (if x265004_1.length < 8796093022208 then (mail_Read.l0 k1 a0 t265 t265 (t265.length : Int) (wrap64 (x26_1 + 1)) (a0.size : Int) 0 false y272 (x265004_1 ++ [t278])) else (none)) = some (r1, r2, r3, r4, r5, r6) := H
       by_cases c16 : x265004_1.length < 8796093022208
       ·
        rw [if_pos c16] at H
        have LMc16 := Aside0.mk c16
        clear c16
        obtain ⟨y279, hy279⟩ : ∃ y_ : List ByteArray, y_ = (x265004_1 ++ [t278]) := ⟨_, rfl⟩
        replace H : (mail_Read.l0 k1 a0 t265 t265 (t265.length : Int) (wrap64 (x26_1 + 1)) (a0.size : Int) 0 false y272 y279) = some (r1, r2, r3, r4, r5, r6) := by first | (rw [hy279]; with_reducible exact H) | (have H2_ := (Option.bind_some _ _).symm.trans H; rw [hy279]; with_reducible exact H2_) | (have H2_ := (Option.bind_some _ _).symm.trans H; with_reducible exact H2_) | with_reducible exact H | (rw [hy279]; exact H) | exact H
        have Ny279 := Aside0.mk hy279
        clear hy279
        have H' := Aside0.mk H
        clear H
        have p269 : 0 ≤ (x26_1 : Int) := ofD
        have q269 : x26_1 < (t265.length : Int) := ofD
        obtain ⟨ad269, e269, hx269_0, hx269_1⟩ := at_T43 (Kd.R_reads' HO_24.out).2.2 x26_1 p269 q269
        cases e269
        replace p269 := eq_true p269
        replace q269 := eq_true q269
        try go_wp2_with (first | ((with_reducible refine gate_dst (N := 7) rfl ?_); refine box_event ?hg (N := 7) ?hd (cs := #[.string (⟨#[]⟩ : ByteArray), .string (⟨#[]⟩ : ByteArray)]) (t := 43) ?hr ?_; (case hd => rfl); (case hg => rfl); (case hr => first | (go_simp; done) | (go_simp; rfl)); intro gb270 hg w17 hbox hb; replace HO_4 := Aside0.mk (Kd.R_below (Kd.R_elderB (RX HO_4) gb270 (Nat.le_of_eq hg.symm)) hb); replace HO_24 := Aside0.mk (Kd.R_below (Kd.R_elderB (RX HO_24) gb270 (Nat.le_of_eq hg.symm)) hb); replace HO_265003 := RB HO_265003 hb; replace HO_265004 := RB HO_265004 hb; have BK270 := Aside0.mk (hbox); have GW270 := gwQ HB hg; have GE270 := gwQ HB hg; have NB263_270 := nlQ BK263 hg; have NB270_263 := ngQ BK263 hg; have NB264_270 := nlQ BK264 hg; have NB270_264 := ngQ BK264 hg; replace BK263 := BB BK263 hb; replace BK264 := BB BK264 hb; replace HB := LB HB hb; clear hb hbox hg; have hnb18 := NB270_263.out; have hnc18 := NB263_270.out; have hnb19 := NB270_264.out; have hnc19 := NB264_270.out; obtain ⟨hcz20_0, hcz20_1, hfz20_0, hfz20_1⟩ := cf2 BK270))
        have n0_ : Aside0 (Kd.R k43 43 ((w17.setCell ⟨gb270, 0, none⟩ (.string ((rd_T43 t265 x26_1).f0))).setCell ⟨gb270, 1, none⟩ (.string ((rd_T43 t265 x26_1).f1))) w.heap.size (fun k_ => k_ ≠ gb270) (.slice (some ad269) t265.length co8) t265) := ⟨by (with_reducible repeat (first | apply Kd.R_alloc | apply Kd.R_drewN | apply Kd.R_drew)); exact Kd.R_mono (far2 gb270 (Kd.R_mono HO_4.out (fun k_ hk => (⟨hk, hk.2⟩ : _ ∧ k_ ≠ gb270)))) (fun _ hk => hk.1.2)⟩
        have n1_ : Aside0 (Kd.R k43 43 ((w17.setCell ⟨gb270, 0, none⟩ (.string ((rd_T43 t265 x26_1).f0))).setCell ⟨gb270, 1, none⟩ (.string ((rd_T43 t265 x26_1).f1))) w.heap.size (fun k_ => k_ ≠ gb270) (.slice (some ad269) t265.length co8) t265) := ⟨by (with_reducible repeat (first | apply Kd.R_alloc | apply Kd.R_drewN | apply Kd.R_drew)); exact Kd.R_mono (far2 gb270 (Kd.R_mono HO_24.out (fun k_ hk => (⟨hk, hk.2⟩ : _ ∧ k_ ≠ gb270)))) (fun _ hk => hk.1.2)⟩
        have n2_ : Aside0 (Kd.R Kd.string 9 ((w17.setCell ⟨gb270, 0, none⟩ (.string ((rd_T43 t265 x26_1).f0))).setCell ⟨gb270, 1, none⟩ (.string ((rd_T43 t265 x26_1).f1))) w.heap.size (fun k_ => some k_ ≠ (u265004 : Value).ownBlock) u265003 x265003_1) := ⟨by (with_reducible repeat (first | apply Kd.R_alloc | apply Kd.R_drewN | apply Kd.R_drew)); exact Kd.R_mono (far2 gb270 (Kd.R_types HO_265003.out BK270.out (by decide))) (fun _ hk => hk.1)⟩
        have n3_ : Aside0 (Kd.R Kd.string 9 ((w17.setCell ⟨gb270, 0, none⟩ (.string ((rd_T43 t265 x26_1).f0))).setCell ⟨gb270, 1, none⟩ (.string ((rd_T43 t265 x26_1).f1))) w.heap.size (fun k_ => some k_ ≠ (u265003 : Value).ownBlock) u265004 x265004_1) := ⟨by (with_reducible repeat (first | apply Kd.R_alloc | apply Kd.R_drewN | apply Kd.R_drew)); exact Kd.R_mono (far2 gb270 (Kd.R_types HO_265004.out BK270.out (by decide))) (fun _ hk => hk.1)⟩
        have n4_ : Aside0 (((w17.setCell ⟨gb270, 0, none⟩ (.string ((rd_T43 t265 x26_1).f0))).setCell ⟨gb270, 1, none⟩ (.string ((rd_T43 t265 x26_1).f1))).heap[gb263]? = some (.cells #[.int .i64 0, .int .i64 0, .bool false, .slice none 0 0, .slice none 0 0, .slice none 0 0] 26 (0, 0))) := ⟨FX BK263⟩
        have n5_ : Aside0 (((w17.setCell ⟨gb270, 0, none⟩ (.string ((rd_T43 t265 x26_1).f0))).setCell ⟨gb270, 1, none⟩ (.string ((rd_T43 t265 x26_1).f1))).heap[gb264]? = some (.cells #[.int .i64 (a0.size : Int), .int .i64 0, .bool false, u265003, u265004, .slice none 0 0] 26 (0, 0))) := ⟨FX BK264⟩
        have n6_ : Aside0 (((w17.setCell ⟨gb270, 0, none⟩ (.string ((rd_T43 t265 x26_1).f0))).setCell ⟨gb270, 1, none⟩ (.string ((rd_T43 t265 x26_1).f1))).heap[gb270]? = some (.cells #[.string ((rd_T43 t265 x26_1).f0), .string ((rd_T43 t265 x26_1).f1)] 43 (0, 0))) := ⟨PX2 BK270⟩
        have n7_ : Aside0 (Below w.heap.size w ((w17.setCell ⟨gb270, 0, none⟩ (.string ((rd_T43 t265 x26_1).f0))).setCell ⟨gb270, 1, none⟩ (.string ((rd_T43 t265 x26_1).f1)))) := ⟨LX HB⟩
        generalize ((w17.setCell ⟨gb270, 0, none⟩ (.string ((rd_T43 t265 x26_1).f0))).setCell ⟨gb270, 1, none⟩ (.string ((rd_T43 t265 x26_1).f1))) = w21 at n0_ n1_ n2_ n3_ n4_ n5_ n6_ n7_ ⊢
        have HO_4 := n0_
        have HO_24 := n1_
        have HO_265003 := n2_
        have HO_265004 := n3_
        have BK263 := n4_
        have BK264 := n5_
        have BK270 := n6_
        have HB := n7_
        clear n0_ n1_ n2_ n3_ n4_ n5_ n6_ n7_
        replace HO_4 := Aside0.mk (Kd.R_drew HO_4.out)
        replace HO_24 := Aside0.mk (Kd.R_drew HO_24.out)
        replace HO_265003 := Aside0.mk (Kd.R_drew HO_265003.out)
        replace HO_265004 := Aside0.mk (Kd.R_drew HO_265004.out)
        replace BK263 := Aside0.mk (blk_drew BK263.out)
        replace BK264 := Aside0.mk (blk_drew BK264.out)
        replace BK270 := Aside0.mk (blk_drew BK270.out)
        replace HB := Aside0.mk (below_drew1 HB.out)
        refine start_ (n := 9) (S := fun w' => w'.cell? ⟨gb264, 0, none⟩ = some (.int .i64 (a0.size : Int)) ∧ w'.cell? ⟨gb264, 1, none⟩ = some (.int .i64 0) ∧ w'.cell? ⟨gb264, 2, none⟩ = some (.bool false) ∧ w'.cell? ⟨gb264, 3, none⟩ = some (u265003) ∧ w'.cell? ⟨gb264, 4, none⟩ = some (u265004) ∧ w'.cell? ⟨gb264, 5, none⟩ = some (.slice none 0 0) ∧ w'.cell? ⟨gb270, 0, none⟩ = some (.string ((rd_T43 t265 x26_1).f0)) ∧ w'.cell? ⟨gb270, 1, none⟩ = some (.string ((rd_T43 t265 x26_1).f1))) (ds := [8]) #[false, false, false, false, false, false, false, false, false] (by kernel_rfl) rfl rfl ⟨(blk_cell BK264.out 0).trans rfl, (blk_cell BK264.out 1).trans rfl, (blk_cell BK264.out 2).trans rfl, (blk_cell BK264.out 3).trans rfl, (blk_cell BK264.out 4).trans rfl, (blk_cell BK264.out 5).trans rfl, (blk_cell BK270.out 0).trans rfl, (blk_cell BK270.out 1).trans rfl⟩ (fun hHeld => ?_); refine with_tabW mail_Read.tab6 mail_Read.bits6 (fun HT_ HW_ => ?_)
        generalize w21.drew = w22 at HO_4 HO_24 HO_265003 HO_265004 BK263 BK264 BK270 HB hHeld ⊢
        refine pureQ 0 (some 30) HT_ ?_
        refine pureQ 2 (some 32) HT_ ?_
        refine takeQ 1 (some 31) HT_ HW_ hHeld ?_
        refine takeQ 3 (some 33) HT_ HW_ hHeld ?_
        refine oneQ 4 (some 34) HT_ (fun K hK => ?_)
        refine goesQ Tryz.func17 #[.string ((rd_T43 t265 x26_1).f0)] ?_
        with_reducible refine (mail_name.calls k1 ((rd_T43 t265 x26_1).f0) t271 _ ?side1 A12.out).mono ?_
        (case side1 => first | exact TX HTAB HB | exact TD HTAB)
        rintro e w23 ⟨rfl, hb⟩
        refine ⟨_, rfl, ?_⟩
        replace HO_4 := RB HO_4 hb
        replace HO_24 := RB HO_24 hb
        replace HO_265003 := RB HO_265003 hb
        replace HO_265004 := RB HO_265004 hb
        replace BK263 := BB BK263 hb
        replace BK264 := BB BK264 hb
        replace BK270 := BB BK270 hb
        replace HB := LB HB hb
        refine hK.out _ _ ⟨(blk_cell BK264.out 0).trans rfl, (blk_cell BK264.out 1).trans rfl, (blk_cell BK264.out 2).trans rfl, (blk_cell BK264.out 3).trans rfl, (blk_cell BK264.out 4).trans rfl, (blk_cell BK264.out 5).trans rfl, (blk_cell BK270.out 0).trans rfl, (blk_cell BK270.out 1).trans rfl⟩ (fun hHeld => ?_)
        clear hK K
        refine normQ (some 34) ?_
        refine oneQ 5 (some 35) HT_ (fun K hK => ?_)
        refine value_ (w1 := ?_) (v := ?_) (by rfl) rfl ?_ ?_
        rotate_left 2
        ·
         go_simp
         constructor
         · rfl
         · rfl
        refine hK.out _ _ ⟨(blk_cell (blk_alloc BK264.out _) 0).trans rfl, (blk_cell (blk_alloc BK264.out _) 1).trans rfl, (blk_cell (blk_alloc BK264.out _) 2).trans rfl, (blk_cell (blk_alloc BK264.out _) 3).trans rfl, (blk_cell (blk_alloc BK264.out _) 4).trans rfl, (blk_cell (blk_alloc BK264.out _) 5).trans rfl, (blk_cell (blk_alloc BK270.out _) 0).trans rfl, (blk_cell (blk_alloc BK270.out _) 1).trans rfl⟩ (fun hHeld => ?_)
        clear hK K
        refine normQ (some 35) ?_
        refine oneQ 6 (some 36) HT_ (fun K hK => ?_)
        refine Kd.R_append_step Kd.string (w0 := w) w.heap.size (by rfl) (.tmp 31) (.tmp 35) 24 9 (.string ⟨#[]⟩) 16 rfl Tryz.underlying24 info9 rfl (by decide) (by omega) u265003 x265003_1 t271 [.string t271] (fun k_ => some k_ ≠ (u265004 : Value).ownBlock) (fun _ => False) rfl rfl ?aP (fun _ hk => hk.elim) ?aF ?aO ?aB ?aS ?aL ?_
        (case aP => exact rfl)
        (case aB => exact (LX HB))
        (case aF => exact (fun k_ hk => Kd.fresh' (Kd.R_lt (RX HO_265004)) k_ hk))
        (case aO => exact (RX HO_265003))
        (case aS => exact (below_size (LX HB)))
        (case aL => have := LMc13.out; omega)
        intro v273 w24 ho hb hg hat
        rw [← Ny272.out] at ho
        replace HO_4 := Aside0.mk (Kd.R_over' (RX HO_4) (Kd.R_typed (RX HO_265003)) (by decide) hg)
        replace HO_24 := Aside0.mk (Kd.R_over' (RX HO_24) (Kd.R_typed (RX HO_265003)) (by decide) hg)
        replace HO_265004 := Aside0.mk (Kd.R_after (ok := (fun _ => True)) (by (with_reducible repeat (first | apply Kd.R_alloc | apply Kd.R_drewN | apply Kd.R_drew)); exact Kd.R_mono HO_265004.out (fun _ hk => ⟨trivial, hk⟩)) hg hat)
        replace BK263 := Aside0.mk (blk_grown (g := gb263) (o := .cells #[.int .i64 0, .int .i64 0, .bool false, .slice none 0 0, .slice none 0 0, .slice none 0 0] 26 (0, 0)) (BX BK263) hg (Kd.R_ne HO_265003.out BK263.out (by decide)))
        replace BK264 := Aside0.mk (blk_grown (g := gb264) (o := .cells #[.int .i64 (a0.size : Int), .int .i64 0, .bool false, u265003, u265004, .slice none 0 0] 26 (0, 0)) (BX BK264) hg (Kd.R_ne HO_265003.out BK264.out (by decide)))
        replace BK270 := Aside0.mk (blk_grown (g := gb270) (o := .cells #[.string ((rd_T43 t265 x26_1).f0), .string ((rd_T43 t265 x26_1).f1)] 43 (0, 0)) (BX BK270) hg (Kd.R_ne HO_265003.out BK270.out (by decide)))
        replace HB := Aside0.mk (hb)
        have HO274 := Aside0.mk (ho)
        clear HO_265003
        clear ho hb hg hat
        obtain ⟨Ao25, co25, eo25⟩ := Kd.R_slice HO274.out
        (first | subst eo25 | (injection eo25 with f1_ f2_ f3_; have f4_ := f1_.symm; have f5_ := f3_.symm; clear f1_ f2_ f3_; subst f4_; subst f5_))
        refine hK.out _ _ ⟨(blk_cell BK264.out 0).trans rfl, (blk_cell BK264.out 1).trans rfl, (blk_cell BK264.out 2).trans rfl, (blk_cell BK264.out 3).trans rfl, (blk_cell BK264.out 4).trans rfl, (blk_cell BK264.out 5).trans rfl, (blk_cell BK270.out 0).trans rfl, (blk_cell BK270.out 1).trans rfl⟩ (fun hHeld => ?_)
        clear hK K
        refine normQ (some 36) ?_
        refine pureQ 7 (some 37) HT_ ?_
        refine last_ (i := 8) (N := none) #[true, true, true, true, true, true, true, true, true] rfl rfl (one_of HT_.out (by kernel_rfl)) (by decide) (fun K hK => ?_)
        have hs26 : w24.cell? ⟨gb264, 3, none⟩ = some (u265003) := (blk_cell BK264.out 3).trans rfl
        have hfs26 := blk_frozen BK264.out 3
        have hns26_0 := NB263_264.out
        have hns26_2 := NB270_264.out
        have hms26_0 := NB264_263.out
        have hms26_2 := NB264_270.out
        refine skip_ (w1 := ?_) (by rfl) rfl ?_ ?_
        rotate_left
        ·
         go_simp
         rfl
        refine hK.out _ _ ?_
        clear hK K
        refine done_ (done_of HT_.out (by kernel_rfl)) ?_
        try go_wp2
        have n0_ : Aside0 (Kd.R k43 43 (w24.setCell ⟨gb264, 3, none⟩ (.slice Ao25 y272.length co25)) w.heap.size (fun k_ => k_ ≠ gb270) (.slice (some ad269) t265.length co8) t265) := ⟨by (with_reducible repeat (first | apply Kd.R_alloc | apply Kd.R_drewN | apply Kd.R_drew)); exact Kd.R_mono (Kd.R_far (p := ⟨gb264, 3, none⟩) (Kd.R_types HO_4.out BK264.out (by decide)) (fun _ hk => hk.2) (.slice Ao25 y272.length co25)) (fun _ hk => hk.1)⟩
        have n1_ : Aside0 (Kd.R k43 43 (w24.setCell ⟨gb264, 3, none⟩ (.slice Ao25 y272.length co25)) w.heap.size (fun k_ => k_ ≠ gb270) (.slice (some ad269) t265.length co8) t265) := ⟨by (with_reducible repeat (first | apply Kd.R_alloc | apply Kd.R_drewN | apply Kd.R_drew)); exact Kd.R_mono (Kd.R_far (p := ⟨gb264, 3, none⟩) (Kd.R_types HO_24.out BK264.out (by decide)) (fun _ hk => hk.2) (.slice Ao25 y272.length co25)) (fun _ hk => hk.1)⟩
        have n2_ : Aside0 (Kd.R Kd.string 9 (w24.setCell ⟨gb264, 3, none⟩ (.slice Ao25 y272.length co25)) w.heap.size (fun k_ => some k_ ≠ (.slice Ao25 y272.length co25 : Value).ownBlock) u265004 x265004_1) := ⟨by (with_reducible repeat (first | apply Kd.R_alloc | apply Kd.R_drewN | apply Kd.R_drew)); exact Kd.R_mono (Kd.R_far (p := ⟨gb264, 3, none⟩) (Kd.R_types HO_265004.out BK264.out (by decide)) (fun _ hk => hk.2) (.slice Ao25 y272.length co25)) (fun _ hk => hk.1.2)⟩
        have n3_ : Aside0 (Kd.R Kd.string 9 (w24.setCell ⟨gb264, 3, none⟩ (.slice Ao25 y272.length co25)) w.heap.size (fun k_ => some k_ ≠ (u265004 : Value).ownBlock) (.slice Ao25 y272.length co25) y272) := ⟨by (with_reducible repeat (first | apply Kd.R_alloc | apply Kd.R_drewN | apply Kd.R_drew)); exact Kd.R_mono (Kd.R_far (p := ⟨gb264, 3, none⟩) (Kd.R_types HO274.out BK264.out (by decide)) (fun _ hk => hk.2) (.slice Ao25 y272.length co25)) (fun _ hk => hk.1)⟩
        have n4_ : Aside0 ((w24.setCell ⟨gb264, 3, none⟩ (.slice Ao25 y272.length co25)).heap[gb263]? = some (.cells #[.int .i64 0, .int .i64 0, .bool false, .slice none 0 0, .slice none 0 0, .slice none 0 0] 26 (0, 0))) := ⟨FX BK263⟩
        have n5_ : Aside0 ((w24.setCell ⟨gb264, 3, none⟩ (.slice Ao25 y272.length co25)).heap[gb264]? = some (.cells #[.int .i64 (a0.size : Int), .int .i64 0, .bool false, .slice Ao25 y272.length co25, u265004, .slice none 0 0] 26 (0, 0))) := ⟨by (with_reducible repeat (first | refine blk_drewN ?_ _ | refine blk_drew ?_ | refine blk_alloc ?_ _)); refine blk_put (cs := #[.int .i64 (a0.size : Int), .int .i64 0, .bool false, u265003, u265004, .slice none 0 0]) ?_ 3 _ rfl; (with_reducible repeat (first | refine blk_drewN ?_ _ | refine blk_drew ?_ | refine blk_alloc ?_ _)); exact BK264.out⟩
        have n6_ : Aside0 ((w24.setCell ⟨gb264, 3, none⟩ (.slice Ao25 y272.length co25)).heap[gb270]? = some (.cells #[.string ((rd_T43 t265 x26_1).f0), .string ((rd_T43 t265 x26_1).f1)] 43 (0, 0))) := ⟨FX BK270⟩
        have n7_ : Aside0 (Below w.heap.size w (w24.setCell ⟨gb264, 3, none⟩ (.slice Ao25 y272.length co25))) := ⟨LX HB⟩
        generalize (w24.setCell ⟨gb264, 3, none⟩ (.slice Ao25 y272.length co25)) = w27 at n0_ n1_ n2_ n3_ n4_ n5_ n6_ n7_ ⊢
        have HO_4 := n0_
        have HO_24 := n1_
        have HO_265004 := n2_
        have HO274 := n3_
        have BK263 := n4_
        have BK264 := n5_
        have BK270 := n6_
        have HB := n7_
        clear n0_ n1_ n2_ n3_ n4_ n5_ n6_ n7_
        replace HO_4 := Aside0.mk (Kd.R_drew HO_4.out)
        replace HO_24 := Aside0.mk (Kd.R_drew HO_24.out)
        replace HO_265004 := Aside0.mk (Kd.R_drew HO_265004.out)
        replace HO274 := Aside0.mk (Kd.R_drew HO274.out)
        replace BK263 := Aside0.mk (blk_drew BK263.out)
        replace BK264 := Aside0.mk (blk_drew BK264.out)
        replace BK270 := Aside0.mk (blk_drew BK270.out)
        replace HB := Aside0.mk (below_drew1 HB.out)
        refine start_ (n := 10) (S := fun w' => w'.cell? ⟨gb264, 0, none⟩ = some (.int .i64 (a0.size : Int)) ∧ w'.cell? ⟨gb264, 1, none⟩ = some (.int .i64 0) ∧ w'.cell? ⟨gb264, 2, none⟩ = some (.bool false) ∧ w'.cell? ⟨gb264, 3, none⟩ = some (.slice Ao25 y272.length co25) ∧ w'.cell? ⟨gb264, 4, none⟩ = some (u265004) ∧ w'.cell? ⟨gb264, 5, none⟩ = some (.slice none 0 0) ∧ w'.cell? ⟨gb270, 0, none⟩ = some (.string ((rd_T43 t265 x26_1).f0)) ∧ w'.cell? ⟨gb270, 1, none⟩ = some (.string ((rd_T43 t265 x26_1).f1))) (ds := [9]) #[false, false, false, false, false, false, false, false, false, false] (by kernel_rfl) rfl rfl ⟨(blk_cell BK264.out 0).trans rfl, (blk_cell BK264.out 1).trans rfl, (blk_cell BK264.out 2).trans rfl, (blk_cell BK264.out 3).trans rfl, (blk_cell BK264.out 4).trans rfl, (blk_cell BK264.out 5).trans rfl, (blk_cell BK270.out 0).trans rfl, (blk_cell BK270.out 1).trans rfl⟩ (fun hHeld => ?_); refine with_tabW mail_Read.tab7 mail_Read.bits7 (fun HT_ HW_ => ?_)
        generalize w27.drew = w28 at HO_4 HO_24 HO_265004 HO274 BK263 BK264 BK270 HB hHeld ⊢
        refine pureQ 0 (some 38) HT_ ?_
        refine pureQ 2 (some 40) HT_ ?_
        refine takeQ 1 (some 39) HT_ HW_ hHeld ?_
        refine takeQ 3 (some 41) HT_ HW_ hHeld ?_
        refine oneQ 4 (some 42) HT_ (fun K hK => ?_)
        refine goesQ Tryz.func18 #[.string ((rd_T43 t265 x26_1).f1)] ?_
        with_reducible refine (word_Decode.calls k1 ((rd_T43 t265 x26_1).f1) t275 _ ?side1 A14.out).mono ?_
        (case side1 => first | exact TX HTAB HB | exact TD HTAB)
        rintro e w29 ⟨v276, rfl, ho0, hb⟩
        refine ⟨_, rfl, ?_⟩
        replace HO_4 := RB HO_4 hb
        replace HO_24 := RB HO_24 hb
        replace HO_265004 := RB HO_265004 hb
        replace HO274 := RB HO274 hb
        have HO277 := Aside0.mk (Kd.R_lower ho0 (below_size (LX HB)))
        replace BK263 := BB BK263 hb
        replace BK264 := BB BK264 hb
        replace BK270 := BB BK270 hb
        replace HB := LB HB hb
        obtain ⟨Ao30, co30, eo30⟩ := Kd.R_slice HO277.out
        (first | subst eo30 | (injection eo30 with f1_ f2_ f3_; have f4_ := f1_.symm; have f5_ := f3_.symm; clear f1_ f2_ f3_; subst f4_; subst f5_))
        refine hK.out _ _ ⟨(blk_cell BK264.out 0).trans rfl, (blk_cell BK264.out 1).trans rfl, (blk_cell BK264.out 2).trans rfl, (blk_cell BK264.out 3).trans rfl, (blk_cell BK264.out 4).trans rfl, (blk_cell BK264.out 5).trans rfl, (blk_cell BK270.out 0).trans rfl, (blk_cell BK270.out 1).trans rfl⟩ (fun hHeld => ?_)
        clear hK K
        refine normQ (some 42) ?_
        refine oneQ 5 (some 43) HT_ (fun K hK => ?_)
        refine goesQ Tryz.func8 #[.slice Ao30 t275.length co30] ?_
        with_reducible refine (mail_What.calls k1 _ _ t275 t278 _ ?side1 ?side2 A15.out).mono ?_
        (case side1 => exact CX HO277)
        (case side2 => exact (cyQ HO277))
        rintro e w31 ⟨rfl, hb⟩
        refine ⟨_, rfl, ?_⟩
        replace HO_4 := RB HO_4 hb
        replace HO_24 := RB HO_24 hb
        replace HO_265004 := RB HO_265004 hb
        replace HO274 := RB HO274 hb
        replace HO277 := RB HO277 hb
        replace BK263 := BB BK263 hb
        replace BK264 := BB BK264 hb
        replace BK270 := BB BK270 hb
        replace HB := LB HB hb
        refine hK.out _ _ ⟨(blk_cell BK264.out 0).trans rfl, (blk_cell BK264.out 1).trans rfl, (blk_cell BK264.out 2).trans rfl, (blk_cell BK264.out 3).trans rfl, (blk_cell BK264.out 4).trans rfl, (blk_cell BK264.out 5).trans rfl, (blk_cell BK270.out 0).trans rfl, (blk_cell BK270.out 1).trans rfl⟩ (fun hHeld => ?_)
        clear hK K
        refine normQ (some 43) ?_
        refine oneQ 6 (some 44) HT_ (fun K hK => ?_)
        refine value_ (w1 := ?_) (v := ?_) (by rfl) rfl ?_ ?_
        rotate_left 2
        ·
         go_simp
         constructor
         · rfl
         · rfl
        refine hK.out _ _ ⟨(blk_cell (blk_alloc BK264.out _) 0).trans rfl, (blk_cell (blk_alloc BK264.out _) 1).trans rfl, (blk_cell (blk_alloc BK264.out _) 2).trans rfl, (blk_cell (blk_alloc BK264.out _) 3).trans rfl, (blk_cell (blk_alloc BK264.out _) 4).trans rfl, (blk_cell (blk_alloc BK264.out _) 5).trans rfl, (blk_cell (blk_alloc BK270.out _) 0).trans rfl, (blk_cell (blk_alloc BK270.out _) 1).trans rfl⟩ (fun hHeld => ?_)
        clear hK K
        refine normQ (some 44) ?_
        refine oneQ 7 (some 45) HT_ (fun K hK => ?_)
        refine Kd.R_append_step Kd.string (w0 := w) w.heap.size (by rfl) (.tmp 39) (.tmp 44) 24 9 (.string ⟨#[]⟩) 16 rfl Tryz.underlying24 info9 rfl (by decide) (by omega) u265004 x265004_1 t278 [.string t278] (fun k_ => some k_ ≠ (.slice Ao25 y272.length co25 : Value).ownBlock) (fun _ => False) rfl rfl ?aP (fun _ hk => hk.elim) ?aF ?aO ?aB ?aS ?aL ?_
        (case aP => exact rfl)
        (case aB => exact (LX HB))
        (case aF => exact (fun k_ hk => Kd.fresh' (Kd.R_lt (RX HO274)) k_ hk))
        (case aO => exact (RX HO_265004))
        (case aS => exact (below_size (LX HB)))
        (case aL => have := LMc16.out; omega)
        intro v280 w32 ho hb hg hat
        rw [← Ny279.out] at ho
        replace HO_4 := Aside0.mk (Kd.R_over' (RX HO_4) (Kd.R_typed (RX HO_265004)) (by decide) hg)
        replace HO_24 := Aside0.mk (Kd.R_over' (RX HO_24) (Kd.R_typed (RX HO_265004)) (by decide) hg)
        replace BK263 := Aside0.mk (blk_grown (g := gb263) (o := .cells #[.int .i64 0, .int .i64 0, .bool false, .slice none 0 0, .slice none 0 0, .slice none 0 0] 26 (0, 0)) (BX BK263) hg (Kd.R_ne HO_265004.out BK263.out (by decide)))
        replace BK264 := Aside0.mk (blk_grown (g := gb264) (o := .cells #[.int .i64 (a0.size : Int), .int .i64 0, .bool false, .slice Ao25 y272.length co25, u265004, .slice none 0 0] 26 (0, 0)) (BX BK264) hg (Kd.R_ne HO_265004.out BK264.out (by decide)))
        replace BK270 := Aside0.mk (blk_grown (g := gb270) (o := .cells #[.string ((rd_T43 t265 x26_1).f0), .string ((rd_T43 t265 x26_1).f1)] 43 (0, 0)) (BX BK270) hg (Kd.R_ne HO_265004.out BK270.out (by decide)))
        replace HO274 := Aside0.mk (Kd.R_after (ok := (fun _ => True)) (by (with_reducible repeat (first | apply Kd.R_alloc | apply Kd.R_drewN | apply Kd.R_drew)); exact Kd.R_mono HO274.out (fun _ hk => ⟨trivial, hk⟩)) hg hat)
        replace HO277 := Aside0.mk (Kd.R_over' (RX HO277) (Kd.R_typed (RX HO_265004)) (by decide) hg)
        replace HB := Aside0.mk (hb)
        have HO281 := Aside0.mk (ho)
        clear HO_265004
        clear ho hb hg hat
        obtain ⟨Ao33, co33, eo33⟩ := Kd.R_slice HO281.out
        (first | subst eo33 | (injection eo33 with f1_ f2_ f3_; have f4_ := f1_.symm; have f5_ := f3_.symm; clear f1_ f2_ f3_; subst f4_; subst f5_))
        refine hK.out _ _ ⟨(blk_cell BK264.out 0).trans rfl, (blk_cell BK264.out 1).trans rfl, (blk_cell BK264.out 2).trans rfl, (blk_cell BK264.out 3).trans rfl, (blk_cell BK264.out 4).trans rfl, (blk_cell BK264.out 5).trans rfl, (blk_cell BK270.out 0).trans rfl, (blk_cell BK270.out 1).trans rfl⟩ (fun hHeld => ?_)
        clear hK K
        refine normQ (some 45) ?_
        refine pureQ 8 (some 46) HT_ ?_
        refine last_ (i := 9) (N := none) #[true, true, true, true, true, true, true, true, true, true] rfl rfl (one_of HT_.out (by kernel_rfl)) (by decide) (fun K hK => ?_)
        have hs34 : w32.cell? ⟨gb264, 4, none⟩ = some (u265004) := (blk_cell BK264.out 4).trans rfl
        have hfs34 := blk_frozen BK264.out 4
        have hns34_0 := NB263_264.out
        have hns34_2 := NB270_264.out
        have hms34_0 := NB264_263.out
        have hms34_2 := NB264_270.out
        refine skip_ (w1 := ?_) (by rfl) rfl ?_ ?_
        rotate_left
        ·
         go_simp
         rfl
        refine hK.out _ _ ?_
        clear hK K
        refine done_ (done_of HT_.out (by kernel_rfl)) ?_
        try go_wp2
        go_roundg k1
        case measure => have := HK1.out; omega
        case rel => exact ⟨(wrap64 (x26_1 + 1)), (y272), (y279), (.slice Ao25 y272.length co25), (.slice Ao33 y279.length co33), (by first | rfl | (simp [*]; done)), H', ⟨by have := HK1.out; omega⟩, ⟨by (with_reducible repeat (first | apply Kd.R_alloc | apply Kd.R_drewN | apply Kd.R_drew)); exact Kd.R_mono (Kd.R_far (p := ⟨gb264, 4, none⟩) (Kd.R_types HO_4.out BK264.out (by decide)) (fun _ hk => hk.2) (.slice Ao33 y279.length co33)) (fun _ hk => trivial)⟩, ⟨by (with_reducible repeat (first | apply Kd.R_alloc | apply Kd.R_drewN | apply Kd.R_drew)); exact Kd.R_mono (Kd.R_far (p := ⟨gb264, 4, none⟩) (Kd.R_types HO_24.out BK264.out (by decide)) (fun _ hk => hk.2) (.slice Ao33 y279.length co33)) (fun _ hk => trivial)⟩, ⟨by (with_reducible repeat (first | apply Kd.R_alloc | apply Kd.R_drewN | apply Kd.R_drew)); exact Kd.R_mono (Kd.R_far (p := ⟨gb264, 4, none⟩) (Kd.R_types HO274.out BK264.out (by decide)) (fun _ hk => hk.2) (.slice Ao33 y279.length co33)) (fun _ hk => hk.1.2)⟩, ⟨by (with_reducible repeat (first | apply Kd.R_alloc | apply Kd.R_drewN | apply Kd.R_drew)); exact Kd.R_mono (Kd.R_far (p := ⟨gb264, 4, none⟩) (Kd.R_types HO281.out BK264.out (by decide)) (fun _ hk => hk.2) (.slice Ao33 y279.length co33)) (fun _ hk => hk.1)⟩, ⟨FX BK263⟩, ⟨by (with_reducible repeat (first | refine blk_drewN ?_ _ | refine blk_drew ?_ | refine blk_alloc ?_ _)); refine blk_put (cs := #[.int .i64 (a0.size : Int), .int .i64 0, .bool false, .slice Ao25 y272.length co25, u265004, .slice none 0 0]) ?_ 4 _ rfl; (with_reducible repeat (first | refine blk_drewN ?_ _ | refine blk_drew ?_ | refine blk_alloc ?_ _)); exact BK264.out⟩, ⟨LX HB⟩⟩
       ·
        rw [if_neg c16] at H
        exact absurd H (by simp)
      ·
       rw [if_neg c13] at H
       exact absurd H (by simp)
     ·
      rw [if_neg c11] at H
      exact absurd H (by simp)
    ·
     rw [if_neg c10] at H
     exact absurd H (by simp)
   ·
    rw [if_neg c9] at H
    have c9b0 : decide (x26_1 < (t265.length : Int)) = false := decide_eq_false c9
    clear c9
    obtain ⟨⟨t282, t283⟩, A35, H⟩ := bindQ H
    replace H : (if t283 = 0 then ((date_Mail.f k1 t282).bind fun bt284 => (mail_Read.j1 k1 a0 (a0.size : Int) bt284.1 (bt284.2 == 0) x265003_1 x265004_1)) else (mail_Read.j1 k1 a0 (a0.size : Int) 0 false x265003_1 x265004_1)) = some (r1, r2, r3, r4, r5, r6) := H
    have HC36 := Aside0.mk H
    clear H
    go_upto_if 54 with (first | ((with_reducible refine gate_callee (f := 19) rfl ?_); refine goesLQ (some 50) Tryz.func19 #[.slice Ao8 t265.length co8, .string (⟨#[68, 97, 116, 101]⟩ : ByteArray)] ?_; (with_reducible refine (head_Find.calls k1 _ _ t265 (⟨#[68, 97, 116, 101]⟩ : ByteArray) t282 t283 _ ?side1 ?side2 A35.out).mono ?_); (case side1 => exact CX HO_4); (case side2 => exact (cyQ HO_4)); rintro e w37 ⟨rfl, hb⟩; refine ⟨_, rfl, ?_⟩; replace HO_4 := RB HO_4 hb; replace HO_24 := RB HO_24 hb; replace HO_265003 := RB HO_265003 hb; replace HO_265004 := RB HO_265004 hb; replace BK263 := BB BK263 hb; replace BK264 := BB BK264 hb; replace HB := LB HB hb))
    (try simp only [Act.put, List.setIfInBounds_toArray, List.set_cons_zero, List.set_cons_succ])
    go_cut [] (fun wc => ∃ (kq : Nat) (x265001_35 : Int) (x265002_35 : Bool), Aside0 (mail_Read.j1 kq a0 (a0.size : Int) x265001_35 x265002_35 x265003_1 x265004_1 = some (r1, r2, r3, r4, r5, r6)) ∧ Aside0 (kq ≤ k1) ∧ Aside0 (Kd.R Kd.string 9 wc w.heap.size (fun k_ => some k_ ≠ (u265004 : Value).ownBlock) u265003 x265003_1) ∧ Aside0 (Kd.R Kd.string 9 wc w.heap.size (fun k_ => some k_ ≠ (u265003 : Value).ownBlock) u265004 x265004_1) ∧ Aside0 (wc.heap[gb263]? = some (.cells #[.int .i64 0, .int .i64 0, .bool false, (.slice none 0 0), (.slice none 0 0), (.slice none 0 0)] 26 (0, 0))) ∧ Aside0 (wc.heap[gb264]? = some (.cells #[.int .i64 (a0.size : Int), .int .i64 x265001_35, .bool x265002_35, u265003, u265004, (.slice none 0 0)] 26 (0, 0))) ∧ Aside0 (Below w.heap.size w wc))
    case first =>
     have H := HC36.out
     clear HC36
     by_cases c38 : t283 = 0
     ·
      rw [if_pos c38] at H
      have c38b0 : (t283 == 0) = true := beq_iff_eq.mpr c38
      have c38b1 : (t283 != 0) = false := bne_eq_false_iff_eq.mpr c38
      clear c38
      (first | rw [c38b0] | (simp only [i64_w, i32_w]; rw [c38b0]) | skip)
      obtain ⟨⟨t284, t285⟩, A39, H⟩ := bindQ H
      replace H : (mail_Read.j1 k1 a0 (a0.size : Int) t284 (t285 == 0) x265003_1 x265004_1) = some (r1, r2, r3, r4, r5, r6) := H
      have H' := Aside0.mk H
      clear H
      go_wp2_with (first | ((with_reducible refine gate_callee (f := 20) rfl ?_); refine goesLQ (some 57) Tryz.func20 #[.string t282] ?_; (with_reducible refine (date_Mail.calls k1 t282 t284 t285 _ ?side1 A39.out).mono ?_); (case side1 => first | exact TX HTAB HB | exact TD HTAB); rintro e w40 ⟨rfl, hb⟩; refine ⟨_, rfl, ?_⟩; replace HO_4 := RB HO_4 hb; replace HO_24 := RB HO_24 hb; replace HO_265003 := RB HO_265003 hb; replace HO_265004 := RB HO_265004 hb; replace BK263 := BB BK263 hb; replace BK264 := BB BK264 hb; replace HB := LB HB hb; have hnb41 := NB264_263.out; have hnc41 := NB263_264.out; obtain ⟨hcz42_0, hcz42_1, hcz42_2, hcz42_3, hcz42_4, hcz42_5, hfz42_0, hfz42_1, hfz42_2, hfz42_3, hfz42_4, hfz42_5⟩ := cf6 BK264))
      go_meet
      case rel => exact ⟨_, (t284), ((t285 == 0)), H', ⟨by have := HK1.out; first | omega | exact Nat.le_refl _⟩, ⟨by (with_reducible repeat (first | apply Kd.R_alloc | apply Kd.R_drewN | apply Kd.R_drew)); exact Kd.R_mono (Kd.R_far (p := ⟨gb264, 2, none⟩) (Kd.R_far (p := ⟨gb264, 1, none⟩) (Kd.R_types HO_265003.out BK264.out (by decide)) (fun _ hk => hk.2) (.int .i64 t284)) (fun _ hk => hk.2) (.bool (t285 == 0))) (fun _ hk => hk.1)⟩, ⟨by (with_reducible repeat (first | apply Kd.R_alloc | apply Kd.R_drewN | apply Kd.R_drew)); exact Kd.R_mono (Kd.R_far (p := ⟨gb264, 2, none⟩) (Kd.R_far (p := ⟨gb264, 1, none⟩) (Kd.R_types HO_265004.out BK264.out (by decide)) (fun _ hk => hk.2) (.int .i64 t284)) (fun _ hk => hk.2) (.bool (t285 == 0))) (fun _ hk => hk.1)⟩, ⟨FX BK263⟩, ⟨by (with_reducible repeat (first | refine blk_drewN ?_ _ | refine blk_drew ?_ | refine blk_alloc ?_ _)); refine blk_put (cs := #[.int .i64 (a0.size : Int), .int .i64 t284, .bool false, u265003, u265004, .slice none 0 0]) ?_ 2 _ rfl; (with_reducible repeat (first | refine blk_drewN ?_ _ | refine blk_drew ?_ | refine blk_alloc ?_ _)); refine blk_put (cs := #[.int .i64 (a0.size : Int), .int .i64 0, .bool false, u265003, u265004, .slice none 0 0]) ?_ 1 _ rfl; (with_reducible repeat (first | refine blk_drewN ?_ _ | refine blk_drew ?_ | refine blk_alloc ?_ _)); exact BK264.out⟩, ⟨LX HB⟩⟩
     ·
      rw [if_neg c38] at H
      have c38b0 : (t283 == 0) = false := beq_eq_false_iff_ne.mpr c38
      have c38b1 : (t283 != 0) = true := bne_iff_ne.mpr c38
      (first | rw [c38b0] | (simp only [i64_w, i32_w]; rw [c38b0]) | skip)
      have H' := Aside0.mk H
      clear H
      go_wp2
      go_meet
      case rel => exact ⟨_, (0), (false), H', ⟨by have := HK1.out; first | omega | exact Nat.le_refl _⟩, ⟨RX HO_265003⟩, ⟨RX HO_265004⟩, ⟨BX BK263⟩, ⟨BX BK264⟩, ⟨LX HB⟩⟩
    case rest =>
     clear HC36
     obtain ⟨kq, x265001_35, x265002_35, HA, HJ35, HO_265003, HO_265004, BK263, BK264, HB⟩ := hcut
     cases kq with
     | zero => exact absurd HA.out (by simp [mail_Read.j1])
     | succ kj35 =>
      have H := HA.out
      clear HA
      simp only [mail_Read.j1] at H
      obtain ⟨t286, A43, H⟩ := bindQ H
      replace H : (mail_Read.l1 kj35 t286 (t286.length : Int) 0 (a0.size : Int) x265001_35 x265002_35 x265003_1 x265004_1 ([] : List ByteArray)) = some (r1, r2, r3, r4, r5, r6) := H
      have H' := Aside0.mk H
      clear H
      go_wp2_with (first | ((with_reducible refine gate_callee (f := 21) rfl ?_); refine goesLQ (some 66) Tryz.func21 #[.string a0] ?_; (with_reducible refine (mime_Parts.calls kj35 a0 t286 _ ?side1 A43.out).mono ?_); (case side1 => first | exact TX HTAB HB | exact TD HTAB); rintro e w44 ⟨v287, rfl, ho0, hb⟩; refine ⟨_, rfl, ?_⟩; replace HO_265003 := RB HO_265003 hb; replace HO_265004 := RB HO_265004 hb; have HO288 := Aside0.mk (Kd.R_lower ho0 (below_size (LX HB))); replace BK263 := BB BK263 hb; replace BK264 := BB BK264 hb; replace HB := LB HB hb; obtain ⟨Ao45, co45, eo45⟩ := Kd.R_slice HO288.out; subst eo45))
      go_loopg [68] kj35 (fun kq v68 w' => ∃ (x68_3 : Int) (x265005_3 : List ByteArray) (u265005 : Value), v68 = .int .i64 x68_3 ∧ Aside0 (mail_Read.l1 kq t286 (t286.length : Int) x68_3 (a0.size : Int) x265001_35 x265002_35 x265003_1 x265004_1 x265005_3 = some (r1, r2, r3, r4, r5, r6)) ∧ Aside0 (kq ≤ kj35) ∧ Aside0 (Kd.R k53 53 w' w.heap.size (fun _ => True) (.slice Ao45 t286.length co45) t286) ∧ Aside0 (Kd.R Kd.string 9 w' w.heap.size (fun k_ => some k_ ≠ (u265004 : Value).ownBlock ∧ some k_ ≠ (u265005 : Value).ownBlock) u265003 x265003_1) ∧ Aside0 (Kd.R Kd.string 9 w' w.heap.size (fun k_ => some k_ ≠ (u265003 : Value).ownBlock ∧ some k_ ≠ (u265005 : Value).ownBlock) u265004 x265004_1) ∧ Aside0 (Kd.R Kd.string 9 w' w.heap.size (fun k_ => some k_ ≠ (u265003 : Value).ownBlock ∧ some k_ ≠ (u265004 : Value).ownBlock) u265005 x265005_3) ∧ Aside0 (w'.heap[gb263]? = some (.cells #[.int .i64 0, .int .i64 0, .bool false, (.slice none 0 0), (.slice none 0 0), (.slice none 0 0)] 26 (0, 0))) ∧ Aside0 (w'.heap[gb264]? = some (.cells #[.int .i64 (a0.size : Int), .int .i64 x265001_35, .bool x265002_35, u265003, u265004, u265005] 26 (0, 0))) ∧ Aside0 (Below w.heap.size w w'))
      case atStart => exact ⟨(0), (([] : List ByteArray)), (.slice none 0 0), (by first | rfl | (simp [*]; done)), H', ⟨Nat.le_refl _⟩, ⟨RX HO288⟩, ⟨by (with_reducible repeat (first | apply Kd.R_alloc | apply Kd.R_drewN | apply Kd.R_drew)); exact Kd.R_mono HO_265003.out (fun _ hk => ⟨hk, (by simp [Value.ownBlock])⟩)⟩, ⟨by (with_reducible repeat (first | apply Kd.R_alloc | apply Kd.R_drewN | apply Kd.R_drew)); exact Kd.R_mono HO_265004.out (fun _ hk => ⟨hk, (by simp [Value.ownBlock])⟩)⟩, ⟨by first | exact Kd.R_nil _ _ _ _ _ | exact Kd.N_nil _ _ _ _ _ | exact Kd.V_nil _ _ _ _ _ | exact Kd.Q_nil _ _ _ _ _ | exact Kd.S_nil _ _ _ _ _⟩, ⟨BX BK263⟩, ⟨BX BK264⟩, ⟨LX HB⟩⟩
      case round =>
       clear H'
       obtain ⟨x68_3, x265005_3, u265005, rfl, HA, HK3, HO_66, HO_265003, HO_265004, HO_265005, BK263, BK264, HB⟩ := hrel
       cases gk with
       | zero => exact absurd HA.out (by simp [mail_Read.l1])
       | succ k3 =>
        have H := HA.out
        clear HA
        simp only [mail_Read.l1] at H
        by_cases c46 : x68_3 < (t286.length : Int)
        ·
         rw [if_pos c46] at H
         have c46b0 : decide (x68_3 < (t286.length : Int)) = true := decide_eq_true c46
         clear c46
         by_cases c47 : 0 ≤ x68_3
         ·
          rw [if_pos c47] at H
          have c47b0 : decide (0 ≤ x68_3) = true := decide_eq_true c47
          clear c47
          by_cases c48 : x68_3 < (t286.length : Int)
          ·
           rw [if_pos c48] at H
           have c48b0 : decide (x68_3 < (t286.length : Int)) = true := decide_eq_true c48
           clear c48
           obtain ⟨⟨t291, t294⟩, A49, H⟩ := bindQ H
           replace H : (if t294 = true then ((mail_What.f k3 t291).bind fun t295 => (if x265005_3.length < 8796093022208 then (mail_Read.l1 k3 t286 (t286.length : Int) (wrap64 (x68_3 + 1)) (a0.size : Int) x265001_35 x265002_35 x265003_1 x265004_1 (x265005_3 ++ [t295])) else (none))) else (mail_Read.l1 k3 t286 (t286.length : Int) (wrap64 (x68_3 + 1)) (a0.size : Int) x265001_35 x265002_35 x265003_1 x265004_1 x265005_3)) = some (r1, r2, r3, r4, r5, r6) := H
           by_cases c50 : t294 = true
           ·
            subst c50
            have H1 : ((mail_What.f k3 t291).bind fun t295 => (if x265005_3.length < 8796093022208 then (mail_Read.l1 k3 t286 (t286.length : Int) (wrap64 (x68_3 + 1)) (a0.size : Int) x265001_35 x265002_35 x265003_1 x265004_1 (x265005_3 ++ [t295])) else (none))) = some (r1, r2, r3, r4, r5, r6) := by rw [if_pos rfl] at H; exact H
            clear H
            have H := H1
            clear H1
            obtain ⟨t295, A51, H⟩ := bindQ H
            replace H : (if x265005_3.length < 8796093022208 then (mail_Read.l1 k3 t286 (t286.length : Int) (wrap64 (x68_3 + 1)) (a0.size : Int) x265001_35 x265002_35 x265003_1 x265004_1 (x265005_3 ++ [t295])) else (none)) = some (r1, r2, r3, r4, r5, r6) := H
            by_cases c52 : x265005_3.length < 8796093022208
            ·
             rw [if_pos c52] at H
             have LMc52 := Aside0.mk c52
             clear c52
             obtain ⟨y296, hy296⟩ : ∃ y_ : List ByteArray, y_ = (x265005_3 ++ [t295]) := ⟨_, rfl⟩
             replace H : (mail_Read.l1 k3 t286 (t286.length : Int) (wrap64 (x68_3 + 1)) (a0.size : Int) x265001_35 x265002_35 x265003_1 x265004_1 y296) = some (r1, r2, r3, r4, r5, r6) := by first | (rw [hy296]; with_reducible exact H) | (have H2_ := (Option.bind_some _ _).symm.trans H; rw [hy296]; with_reducible exact H2_) | (have H2_ := (Option.bind_some _ _).symm.trans H; with_reducible exact H2_) | with_reducible exact H | (rw [hy296]; exact H) | exact H
             have Ny296 := Aside0.mk hy296
             clear hy296
             have H' := Aside0.mk H
             clear H
             have p289 : 0 ≤ (x68_3 : Int) := ofD
             have q289 : x68_3 < (t286.length : Int) := ofD
             obtain ⟨ad289, e289, hx289_0, hx289_1, hx289_2, hx289_3, hx289_4⟩ := at_T53 (Kd.R_reads' HO_66.out).2.2 x68_3 p289 q289
             cases e289
             replace p289 := eq_true p289
             replace q289 := eq_true q289
             try go_wp2_with (first | ((with_reducible refine gate_dst (N := 13) rfl ?_); refine box_event ?hg (N := 13) ?hd (cs := #[.int .i64 0, .string (⟨#[]⟩ : ByteArray), .string (⟨#[]⟩ : ByteArray), .string (⟨#[]⟩ : ByteArray), .string (⟨#[]⟩ : ByteArray)]) (t := 53) ?hr ?_; (case hd => rfl); (case hg => rfl); (case hr => first | (go_simp; done) | (go_simp; rfl)); intro gb290 hg w53 hbox hb; replace HO_66 := Aside0.mk (Kd.R_below (Kd.R_elderB (RX HO_66) gb290 (Nat.le_of_eq hg.symm)) hb); replace HO_265003 := RB HO_265003 hb; replace HO_265004 := RB HO_265004 hb; replace HO_265005 := RB HO_265005 hb; have BK290 := Aside0.mk (hbox); have GW290 := gwQ HB hg; have GE290 := gwQ HB hg; have NB263_290 := nlQ BK263 hg; have NB290_263 := ngQ BK263 hg; have NB264_290 := nlQ BK264 hg; have NB290_264 := ngQ BK264 hg; replace BK263 := BB BK263 hb; replace BK264 := BB BK264 hb; replace HB := LB HB hb; clear hb hbox hg; have hnb54 := NB290_263.out; have hnc54 := NB263_290.out; have hnb55 := NB290_264.out; have hnc55 := NB264_290.out; obtain ⟨hcz56_0, hcz56_1, hcz56_2, hcz56_3, hcz56_4, hfz56_0, hfz56_1, hfz56_2, hfz56_3, hfz56_4⟩ := cf5 BK290) | ((with_reducible refine gate_callee (f := 22) rfl ?_); refine goesLQ (some 74) Tryz.func22 #[.agg #[.int .i64 ((rd_T53 t286 x68_3).f0), .string ((rd_T53 t286 x68_3).f1), .string ((rd_T53 t286 x68_3).f2), .string ((rd_T53 t286 x68_3).f3), .string ((rd_T53 t286 x68_3).f4)]] ?_; (with_reducible refine (mime_Letters.calls k3 ((rd_T53 t286 x68_3).f0) ((rd_T53 t286 x68_3).f1) ((rd_T53 t286 x68_3).f2) ((rd_T53 t286 x68_3).f3) ((rd_T53 t286 x68_3).f4) t291 true _ ?side1 A49.out).mono ?_); (case side1 => first | exact TX HTAB HB | exact TD HTAB); rintro e w57 ⟨v292, rfl, ho0, hb⟩; refine ⟨_, rfl, ?_⟩; replace HO_66 := Aside0.mk (Kd.R_below (by (with_reducible repeat (first | apply Kd.R_alloc | apply Kd.R_drewN | apply Kd.R_drew)); exact (Kd.R_mono (far5 gb290 (Kd.R_mono HO_66.out (fun k_ hk => (⟨hk, hk.2⟩ : _ ∧ k_ ≠ gb290)))) (fun _ h_ => h_.1))) hb); replace HO_265003 := Aside0.mk (Kd.R_below (by (with_reducible repeat (first | apply Kd.R_alloc | apply Kd.R_drewN | apply Kd.R_drew)); exact (Kd.R_mono (far5 gb290 (Kd.R_types HO_265003.out BK290.out (by decide))) (fun _ h_ => h_.1))) hb); replace HO_265004 := Aside0.mk (Kd.R_below (by (with_reducible repeat (first | apply Kd.R_alloc | apply Kd.R_drewN | apply Kd.R_drew)); exact (Kd.R_mono (far5 gb290 (Kd.R_types HO_265004.out BK290.out (by decide))) (fun _ h_ => h_.1))) hb); replace HO_265005 := Aside0.mk (Kd.R_below (by (with_reducible repeat (first | apply Kd.R_alloc | apply Kd.R_drewN | apply Kd.R_drew)); exact (Kd.R_mono (far5 gb290 (Kd.R_types HO_265005.out BK290.out (by decide))) (fun _ h_ => h_.1))) hb); have HO293 := Aside0.mk (Kd.R_lower ho0 (below_size (LX HB))); replace BK263 := Aside0.mk (blk_below (FX BK263) hb); replace BK264 := Aside0.mk (blk_below (FX BK264) hb); replace BK290 := Aside0.mk (blk_below (g := gb290) (o := .cells #[.int .i64 ((rd_T53 t286 x68_3).f0), .string ((rd_T53 t286 x68_3).f1), .string ((rd_T53 t286 x68_3).f2), .string ((rd_T53 t286 x68_3).f3), .string ((rd_T53 t286 x68_3).f4)] 53 (0, 0)) (PX5 BK290) hb); replace HB := LB HB hb))
             replace HO_66 := Aside0.mk (Kd.R_drew HO_66.out)
             replace HO_265003 := Aside0.mk (Kd.R_drew HO_265003.out)
             replace HO_265004 := Aside0.mk (Kd.R_drew HO_265004.out)
             replace HO_265005 := Aside0.mk (Kd.R_drew HO_265005.out)
             replace HO293 := Aside0.mk (Kd.R_drew HO293.out)
             replace BK263 := Aside0.mk (blk_drew BK263.out)
             replace BK264 := Aside0.mk (blk_drew BK264.out)
             replace BK290 := Aside0.mk (blk_drew BK290.out)
             replace HB := Aside0.mk (below_drew1 HB.out)
             obtain ⟨Ao59, co59, eo59⟩ := Kd.R_slice HO293.out
             (first | subst eo59 | (injection eo59 with f1_ f2_ f3_; have f4_ := f1_.symm; have f5_ := f3_.symm; clear f1_ f2_ f3_; subst f4_; subst f5_))
             refine start_ (n := 8) (S := fun w' => w'.cell? ⟨gb264, 0, none⟩ = some (.int .i64 (a0.size : Int)) ∧ w'.cell? ⟨gb264, 1, none⟩ = some (.int .i64 x265001_35) ∧ w'.cell? ⟨gb264, 2, none⟩ = some (.bool x265002_35) ∧ w'.cell? ⟨gb264, 3, none⟩ = some (u265003) ∧ w'.cell? ⟨gb264, 4, none⟩ = some (u265004) ∧ w'.cell? ⟨gb264, 5, none⟩ = some (u265005)) (ds := [7]) #[false, false, false, false, false, false, false, false] (by kernel_rfl) rfl rfl ⟨(blk_cell BK264.out 0).trans rfl, (blk_cell BK264.out 1).trans rfl, (blk_cell BK264.out 2).trans rfl, (blk_cell BK264.out 3).trans rfl, (blk_cell BK264.out 4).trans rfl, (blk_cell BK264.out 5).trans rfl⟩ (fun hHeld => ?_); refine with_tabW mail_Read.tab18 mail_Read.bits18 (fun HT_ HW_ => ?_)
             generalize w57.drew = w58 at HO_66 HO_265003 HO_265004 HO_265005 HO293 BK263 BK264 BK290 HB hHeld ⊢
             refine pureQ 0 (some 78) HT_ ?_
             refine pureQ 2 (some 80) HT_ ?_
             refine takeQ 1 (some 79) HT_ HW_ hHeld ?_
             refine oneQ 3 (some 81) HT_ (fun K hK => ?_)
             refine goesQ Tryz.func8 #[.slice Ao59 t291.length co59] ?_
             with_reducible refine (mail_What.calls k3 _ _ t291 t295 _ ?side1 ?side2 A51.out).mono ?_
             (case side1 => exact CX HO293)
             (case side2 => exact (cyQ HO293))
             rintro e w60 ⟨rfl, hb⟩
             refine ⟨_, rfl, ?_⟩
             replace HO_66 := RB HO_66 hb
             replace HO_265003 := RB HO_265003 hb
             replace HO_265004 := RB HO_265004 hb
             replace HO_265005 := RB HO_265005 hb
             replace HO293 := RB HO293 hb
             replace BK263 := BB BK263 hb
             replace BK264 := BB BK264 hb
             replace BK290 := BB BK290 hb
             replace HB := LB HB hb
             refine hK.out _ _ ⟨(blk_cell BK264.out 0).trans rfl, (blk_cell BK264.out 1).trans rfl, (blk_cell BK264.out 2).trans rfl, (blk_cell BK264.out 3).trans rfl, (blk_cell BK264.out 4).trans rfl, (blk_cell BK264.out 5).trans rfl⟩ (fun hHeld => ?_)
             clear hK K
             refine normQ (some 81) ?_
             refine oneQ 4 (some 82) HT_ (fun K hK => ?_)
             refine value_ (w1 := ?_) (v := ?_) (by rfl) rfl ?_ ?_
             rotate_left 2
             ·
              go_simp
              constructor
              · rfl
              · rfl
             refine hK.out _ _ ⟨(blk_cell (blk_alloc BK264.out _) 0).trans rfl, (blk_cell (blk_alloc BK264.out _) 1).trans rfl, (blk_cell (blk_alloc BK264.out _) 2).trans rfl, (blk_cell (blk_alloc BK264.out _) 3).trans rfl, (blk_cell (blk_alloc BK264.out _) 4).trans rfl, (blk_cell (blk_alloc BK264.out _) 5).trans rfl⟩ (fun hHeld => ?_)
             clear hK K
             refine normQ (some 82) ?_
             refine oneQ 5 (some 83) HT_ (fun K hK => ?_)
             refine Kd.R_append_step Kd.string (w0 := w) w.heap.size (by rfl) (.tmp 79) (.tmp 82) 24 9 (.string ⟨#[]⟩) 16 rfl Tryz.underlying24 info9 rfl (by decide) (by omega) u265005 x265005_3 t295 [.string t295] (fun k_ => some k_ ≠ (u265003 : Value).ownBlock ∧ some k_ ≠ (u265004 : Value).ownBlock) (fun _ => False) rfl rfl ?aP (fun _ hk => hk.elim) ?aF ?aO ?aB ?aS ?aL ?_
             (case aP => exact rfl)
             (case aB => exact (LX HB))
             (case aF => exact (fun k_ hk => ⟨Kd.fresh' (Kd.R_lt (RX HO_265003)) k_ hk, Kd.fresh' (Kd.R_lt (RX HO_265004)) k_ hk⟩))
             (case aO => exact (RX HO_265005))
             (case aS => exact (below_size (LX HB)))
             (case aL => have := LMc52.out; omega)
             intro v297 w61 ho hb hg hat
             rw [← Ny296.out] at ho
             replace HO_66 := Aside0.mk (Kd.R_over' (RX HO_66) (Kd.R_typed (RX HO_265005)) (by decide) hg)
             replace HO_265003 := Aside0.mk (Kd.R_after (ok := (fun k_ => some k_ ≠ (u265004 : Value).ownBlock)) (RX HO_265003) hg hat)
             replace HO_265004 := Aside0.mk (Kd.R_after (ok := (fun k_ => some k_ ≠ (u265003 : Value).ownBlock)) (RX HO_265004) hg hat)
             replace BK263 := Aside0.mk (blk_grown (g := gb263) (o := .cells #[.int .i64 0, .int .i64 0, .bool false, .slice none 0 0, .slice none 0 0, .slice none 0 0] 26 (0, 0)) (BX BK263) hg (Kd.R_ne HO_265005.out BK263.out (by decide)))
             replace BK264 := Aside0.mk (blk_grown (g := gb264) (o := .cells #[.int .i64 (a0.size : Int), .int .i64 x265001_35, .bool x265002_35, u265003, u265004, u265005] 26 (0, 0)) (BX BK264) hg (Kd.R_ne HO_265005.out BK264.out (by decide)))
             replace BK290 := Aside0.mk (blk_grown (g := gb290) (o := .cells #[.int .i64 ((rd_T53 t286 x68_3).f0), .string ((rd_T53 t286 x68_3).f1), .string ((rd_T53 t286 x68_3).f2), .string ((rd_T53 t286 x68_3).f3), .string ((rd_T53 t286 x68_3).f4)] 53 (0, 0)) (BX BK290) hg (Kd.R_ne HO_265005.out BK290.out (by decide)))
             replace HO293 := Aside0.mk (Kd.R_over' (RX HO293) (Kd.R_typed (RX HO_265005)) (by decide) hg)
             replace HB := Aside0.mk (hb)
             have HO298 := Aside0.mk (ho)
             clear HO_265005
             clear ho hb hg hat
             obtain ⟨Ao62, co62, eo62⟩ := Kd.R_slice HO298.out
             (first | subst eo62 | (injection eo62 with f1_ f2_ f3_; have f4_ := f1_.symm; have f5_ := f3_.symm; clear f1_ f2_ f3_; subst f4_; subst f5_))
             refine hK.out _ _ ⟨(blk_cell BK264.out 0).trans rfl, (blk_cell BK264.out 1).trans rfl, (blk_cell BK264.out 2).trans rfl, (blk_cell BK264.out 3).trans rfl, (blk_cell BK264.out 4).trans rfl, (blk_cell BK264.out 5).trans rfl⟩ (fun hHeld => ?_)
             clear hK K
             refine normQ (some 83) ?_
             refine pureQ 6 (some 84) HT_ ?_
             refine last_ (i := 7) (N := none) #[true, true, true, true, true, true, true, true] rfl rfl (one_of HT_.out (by kernel_rfl)) (by decide) (fun K hK => ?_)
             have hs63 : w61.cell? ⟨gb264, 5, none⟩ = some (u265005) := (blk_cell BK264.out 5).trans rfl
             have hfs63 := blk_frozen BK264.out 5
             have hns63_0 := NB263_264.out
             have hns63_2 := NB290_264.out
             have hms63_0 := NB264_263.out
             have hms63_2 := NB264_290.out
             refine skip_ (w1 := ?_) (by rfl) rfl ?_ ?_
             rotate_left
             ·
              go_simp
              rfl
             refine hK.out _ _ ?_
             clear hK K
             refine done_ (done_of HT_.out (by kernel_rfl)) ?_
             try go_wp2
             go_roundg k3
             case measure => have := HK1.out; have := HJ35.out; have := HK3.out; omega
             case rel => exact ⟨(wrap64 (x68_3 + 1)), (y296), (.slice Ao62 y296.length co62), (by first | rfl | (simp [*]; done)), H', ⟨by have := HK1.out; have := HJ35.out; have := HK3.out; omega⟩, ⟨by (with_reducible repeat (first | apply Kd.R_alloc | apply Kd.R_drewN | apply Kd.R_drew)); exact Kd.R_mono (Kd.R_far (p := ⟨gb264, 5, none⟩) (Kd.R_types HO_66.out BK264.out (by decide)) (fun _ hk => hk.2) (.slice Ao62 y296.length co62)) (fun _ hk => trivial)⟩, ⟨by (with_reducible repeat (first | apply Kd.R_alloc | apply Kd.R_drewN | apply Kd.R_drew)); exact Kd.R_mono (Kd.R_far (p := ⟨gb264, 5, none⟩) (Kd.R_types HO_265003.out BK264.out (by decide)) (fun _ hk => hk.2) (.slice Ao62 y296.length co62)) (fun _ hk => ⟨hk.1.1, hk.1.2⟩)⟩, ⟨by (with_reducible repeat (first | apply Kd.R_alloc | apply Kd.R_drewN | apply Kd.R_drew)); exact Kd.R_mono (Kd.R_far (p := ⟨gb264, 5, none⟩) (Kd.R_types HO_265004.out BK264.out (by decide)) (fun _ hk => hk.2) (.slice Ao62 y296.length co62)) (fun _ hk => ⟨hk.1.1, hk.1.2⟩)⟩, ⟨by (with_reducible repeat (first | apply Kd.R_alloc | apply Kd.R_drewN | apply Kd.R_drew)); exact Kd.R_mono (Kd.R_far (p := ⟨gb264, 5, none⟩) (Kd.R_types HO298.out BK264.out (by decide)) (fun _ hk => hk.2) (.slice Ao62 y296.length co62)) (fun _ hk => ⟨hk.1.1, hk.1.2⟩)⟩, ⟨FX BK263⟩, ⟨by (with_reducible repeat (first | refine blk_drewN ?_ _ | refine blk_drew ?_ | refine blk_alloc ?_ _)); refine blk_put (cs := #[.int .i64 (a0.size : Int), .int .i64 x265001_35, .bool x265002_35, u265003, u265004, u265005]) ?_ 5 _ rfl; (with_reducible repeat (first | refine blk_drewN ?_ _ | refine blk_drew ?_ | refine blk_alloc ?_ _)); exact BK264.out⟩, ⟨LX HB⟩⟩
            ·
             rw [if_neg c52] at H
             exact absurd H (by simp)
           ·
            replace c50 := Bool.eq_false_iff.mpr c50
            subst c50
            have H1 : (mail_Read.l1 k3 t286 (t286.length : Int) (wrap64 (x68_3 + 1)) (a0.size : Int) x265001_35 x265002_35 x265003_1 x265004_1 x265005_3) = some (r1, r2, r3, r4, r5, r6) := by rw [if_neg (show ¬ (false = true) by decide)] at H; exact H
            clear H
            have H := H1
            clear H1
            have H' := Aside0.mk H
            clear H
            have p289 : 0 ≤ (x68_3 : Int) := ofD
            have q289 : x68_3 < (t286.length : Int) := ofD
            obtain ⟨ad289, e289, hx289_0, hx289_1, hx289_2, hx289_3, hx289_4⟩ := at_T53 (Kd.R_reads' HO_66.out).2.2 x68_3 p289 q289
            cases e289
            replace p289 := eq_true p289
            replace q289 := eq_true q289
            go_wp2_with (first | ((with_reducible refine gate_dst (N := 13) rfl ?_); refine box_event ?hg (N := 13) ?hd (cs := #[.int .i64 0, .string (⟨#[]⟩ : ByteArray), .string (⟨#[]⟩ : ByteArray), .string (⟨#[]⟩ : ByteArray), .string (⟨#[]⟩ : ByteArray)]) (t := 53) ?hr ?_; (case hd => rfl); (case hg => rfl); (case hr => first | (go_simp; done) | (go_simp; rfl)); intro gb290 hg w64 hbox hb; replace HO_66 := Aside0.mk (Kd.R_below (Kd.R_elderB (RX HO_66) gb290 (Nat.le_of_eq hg.symm)) hb); replace HO_265003 := RB HO_265003 hb; replace HO_265004 := RB HO_265004 hb; replace HO_265005 := RB HO_265005 hb; have BK290 := Aside0.mk (hbox); have GW290 := gwQ HB hg; have GE290 := gwQ HB hg; have NB263_290 := nlQ BK263 hg; have NB290_263 := ngQ BK263 hg; have NB264_290 := nlQ BK264 hg; have NB290_264 := ngQ BK264 hg; replace BK263 := BB BK263 hb; replace BK264 := BB BK264 hb; replace HB := LB HB hb; clear hb hbox hg; have hnb65 := NB290_263.out; have hnc65 := NB263_290.out; have hnb66 := NB290_264.out; have hnc66 := NB264_290.out; obtain ⟨hcz67_0, hcz67_1, hcz67_2, hcz67_3, hcz67_4, hfz67_0, hfz67_1, hfz67_2, hfz67_3, hfz67_4⟩ := cf5 BK290) | ((with_reducible refine gate_callee (f := 22) rfl ?_); refine goesLQ (some 74) Tryz.func22 #[.agg #[.int .i64 ((rd_T53 t286 x68_3).f0), .string ((rd_T53 t286 x68_3).f1), .string ((rd_T53 t286 x68_3).f2), .string ((rd_T53 t286 x68_3).f3), .string ((rd_T53 t286 x68_3).f4)]] ?_; (with_reducible refine (mime_Letters.calls k3 ((rd_T53 t286 x68_3).f0) ((rd_T53 t286 x68_3).f1) ((rd_T53 t286 x68_3).f2) ((rd_T53 t286 x68_3).f3) ((rd_T53 t286 x68_3).f4) t291 false _ ?side1 A49.out).mono ?_); (case side1 => first | exact TX HTAB HB | exact TD HTAB); rintro e w68 ⟨v292, rfl, ho0, hb⟩; refine ⟨_, rfl, ?_⟩; replace HO_66 := Aside0.mk (Kd.R_below (by (with_reducible repeat (first | apply Kd.R_alloc | apply Kd.R_drewN | apply Kd.R_drew)); exact (Kd.R_mono (far5 gb290 (Kd.R_mono HO_66.out (fun k_ hk => (⟨hk, hk.2⟩ : _ ∧ k_ ≠ gb290)))) (fun _ h_ => h_.1))) hb); replace HO_265003 := Aside0.mk (Kd.R_below (by (with_reducible repeat (first | apply Kd.R_alloc | apply Kd.R_drewN | apply Kd.R_drew)); exact (Kd.R_mono (far5 gb290 (Kd.R_types HO_265003.out BK290.out (by decide))) (fun _ h_ => h_.1))) hb); replace HO_265004 := Aside0.mk (Kd.R_below (by (with_reducible repeat (first | apply Kd.R_alloc | apply Kd.R_drewN | apply Kd.R_drew)); exact (Kd.R_mono (far5 gb290 (Kd.R_types HO_265004.out BK290.out (by decide))) (fun _ h_ => h_.1))) hb); replace HO_265005 := Aside0.mk (Kd.R_below (by (with_reducible repeat (first | apply Kd.R_alloc | apply Kd.R_drewN | apply Kd.R_drew)); exact (Kd.R_mono (far5 gb290 (Kd.R_types HO_265005.out BK290.out (by decide))) (fun _ h_ => h_.1))) hb); have HO293 := Aside0.mk (Kd.R_lower ho0 (below_size (LX HB))); replace BK263 := Aside0.mk (blk_below (FX BK263) hb); replace BK264 := Aside0.mk (blk_below (FX BK264) hb); replace BK290 := Aside0.mk (blk_below (g := gb290) (o := .cells #[.int .i64 ((rd_T53 t286 x68_3).f0), .string ((rd_T53 t286 x68_3).f1), .string ((rd_T53 t286 x68_3).f2), .string ((rd_T53 t286 x68_3).f3), .string ((rd_T53 t286 x68_3).f4)] 53 (0, 0)) (PX5 BK290) hb); replace HB := LB HB hb))
            go_roundg k3
            case measure => have := HK1.out; have := HJ35.out; have := HK3.out; omega
            case rel => exact ⟨(wrap64 (x68_3 + 1)), (x265005_3), (u265005), (by first | rfl | (simp [*]; done)), H', ⟨by have := HK1.out; have := HJ35.out; have := HK3.out; omega⟩, ⟨by (with_reducible repeat (first | apply Kd.R_alloc | apply Kd.R_drewN | apply Kd.R_drew)); exact Kd.R_mono HO_66.out (fun _ hk => trivial)⟩, ⟨RX HO_265003⟩, ⟨RX HO_265004⟩, ⟨RX HO_265005⟩, ⟨BX BK263⟩, ⟨BX BK264⟩, ⟨LX HB⟩⟩
          ·
           rw [if_neg c48] at H
           exact absurd H (by simp)
         ·
          rw [if_neg c47] at H
          exact absurd H (by simp)
        ·
         rw [if_neg c46] at H
         have c46b0 : decide (x68_3 < (t286.length : Int)) = false := decide_eq_false c46
         clear c46
         simp only [Option.some.injEq, Prod.mk.injEq] at H
         obtain ⟨rfl, rfl, rfl, rfl, rfl, rfl⟩ := H
         have hnb69 := NB264_263.out
         have hnc69 := NB263_264.out
         obtain ⟨hcz70_0, hcz70_1, hcz70_2, hcz70_3, hcz70_4, hcz70_5, hfz70_0, hfz70_1, hfz70_2, hfz70_3, hfz70_4, hfz70_5⟩ := cf6 BK264
         obtain ⟨hcz71_0, hcz71_1, hcz71_2, hcz71_3, hcz71_4, hcz71_5, hfz71_0, hfz71_1, hfz71_2, hfz71_3, hfz71_4, hfz71_5⟩ := cf6 BK263
         obtain ⟨Ao72, co72, eo72⟩ := Kd.R_slice HO_265003.out
         subst eo72
         obtain ⟨Ao73, co73, eo73⟩ := Kd.R_slice HO_265004.out
         subst eo73
         obtain ⟨Ao74, co74, eo74⟩ := Kd.R_slice HO_265005.out
         subst eo74
         go_wp2
         refine bodyPost_ret (results_cell_row rfl _ _ gb263 26 #[.int .i64 (a0.size : Int), .int .i64 x265001_35, .bool x265002_35, .slice Ao72 x265003_1.length co72, .slice Ao73 x265004_1.length co73, .slice Ao74 x265005_3.length co74] (0, 0) _ rfl (PX6 BK263) Tryz.underlying26 rfl (by kernel_rfl)) rfl ?_
         exact ⟨_, _, _, by first | rfl | (simp [errW_none, errW_some] <;> rfl) | (simp [*, errW_none, errW_some] <;> rfl), by (with_reducible repeat (first | apply Kd.R_alloc | apply Kd.R_drewN | apply Kd.R_drew)); exact Kd.R_mono (far6 gb263 (Kd.R_types HO_265003.out BK263.out (by decide))) (fun _ hk => ⟨hk.1.1, hk.1.2⟩), by (with_reducible repeat (first | apply Kd.R_alloc | apply Kd.R_drewN | apply Kd.R_drew)); exact Kd.R_mono (far6 gb263 (Kd.R_types HO_265004.out BK263.out (by decide))) (fun _ hk => ⟨hk.1.1, hk.1.2⟩), by (with_reducible repeat (first | apply Kd.R_alloc | apply Kd.R_drewN | apply Kd.R_drew)); exact Kd.R_mono (far6 gb263 (Kd.R_types HO_265005.out BK263.out (by decide))) (fun _ hk => ⟨hk.1.1, hk.1.2⟩), LX HB⟩
end Go.Proofs.YtigcbajcifhinaaGreatDoor.V
namespace Go.Proofs.YtigcbajcifhinaaGreatDoor.Sou64
open Go.RowKit Go.Sort Go.Proofs
abbrev encU : Int → Value := fun x => Value.int .u64 x
theorem cmp_isNaN_u64 (x : Int) (w : World) : Calls Tryz.prog 167 #[.int .u64 x] w fun e w' => e = .returned (.bool false) ∧ w' = w := by
 go_enter Tryz.func167, Tryz.ntmps167
 go_wp2
 go_ret
 exact ⟨by simp, rfl⟩
theorem cmp_Less_u64 (x y : Int) (w : World) : Calls Tryz.prog 136 #[.int .u64 x, .int .u64 y] w fun e w' => e = .returned (.bool (Sort.ltInt x y)) ∧ w' = w := by
 go_enter Tryz.func136, Tryz.ntmps136
 go_wp2_with (go_at_call 167; refine (cmp_isNaN_u64 _ _).mono ?_; rintro e w' ⟨rfl, rfl⟩)
 go_ret
 exact ⟨rfl, rfl⟩
theorem insertionSort_u64 (blk off cap a b : Nat) (d : Array Int) (w : World) (hH : Holds (Value.int .u64) w blk off d) (hab : a ≤ b) (hb : b ≤ d.size) (hsz : d.size < 4611686018427387904) :
  Calls Tryz.prog 130 #[.slice (some ⟨blk, off, none⟩) d.size cap, .int .i64 a, .int .i64 b] w fun e w' =>
   e = .returned (.tuple #[]) ∧ ∃ n, w' = putRow (Value.int .u64) (Sort.ahead w n) blk off (Sort.insertionSort ltInt d a b) := by
 go_enter Tryz.func130, Tryz.ntmps130
 go_wp2
 go_loopw [6] (fun vi wr => ∃ (i n : Nat) (dk : Array Int), vi = .int .i64 i ∧ a < i ∧ i ≤ b + 1 ∧ dk.size = d.size ∧ wr = putRow (Value.int .u64) (Sort.ahead w n) blk off dk ∧
   insOuter ltInt a b i dk = insOuter ltInt a b (a + 1) d) (fun vi _ => b + 1 - (intOf vi).toNat)
 case atStart => exact ⟨a + 1, 0, d, by go_num, by omega, by omega, rfl, (putRow_self _ _ _ _ _ hH).symm, rfl⟩
 case round =>
  obtain ⟨i, n, dk, rfl, hai, hib, hsk, hwr, hO⟩ := hrel
  have HO : Hid (insOuter ltInt a b i dk = insOuter ltInt a b (a + 1) d) := hO
  clear hO
  go_wp2
  ·
   go_loopw [7] (fun vj wr2 => ∃ (j m : Nat) (dj : Array Int), vj = .int .i64 j ∧ a ≤ j ∧ j ≤ i ∧ dj.size = d.size ∧ wr2 = putRow (Value.int .u64) (Sort.ahead w m) blk off dj ∧
     insInner ltInt a j dj = insInner ltInt a i dk) (fun vj _ => (intOf vj).toNat)
   case atStart => exact ⟨i, n, dk, rfl, by omega, Nat.le_refl _, hsk, rfl, rfl⟩
   case round =>
    obtain ⟨j, m, dj, rfl, haj, hji, hsj, hw2, hI⟩ := hrel
    have hlt : i < b := by assumption
    obtain ⟨G, hG⟩ : ∃ G : Nat → Int, ∀ t, G t = dj[t]! := ⟨fun t => dj[t]!, fun _ => rfl⟩
    have hcw : ∀ t, t < d.size → wr.cell? ⟨blk, off + t, none⟩ = some (.int .u64 (G t)) := fun t ht => by
     rw [hw2, hG]; exact cell?_putRow _ _ _ _ d dj (holds_ahead _ _ _ _ _ _ hH) hsj t (by omega)
    have hfw : ∀ t, t < d.size → wr.frozen? ⟨blk, off + t, none⟩ = false := fun t ht => by
     rw [hw2, frozen?_putRow]; exact ((holds_ahead _ _ m _ _ _ hH) t ht).2
    have HW : Hid (wr = putRow (Value.int .u64) (Sort.ahead w m) blk off dj) := hw2
    have HG : Hid (∀ t, G t = dj[t]!) := hG
    have HI : Hid (insInner ltInt a j dj = insInner ltInt a i dk) := hI
    clear hw2 hG hI hH
    have out : (j ≤ a ∨ ltInt dj[j]! dj[j - 1]! = false) → ∀ q, ∃ i' n' dk', Value.int .i64 ((i : Int) + 1) = .int .i64 (i' : Nat) ∧ a < i' ∧ i' ≤ b + 1 ∧ dk'.size = d.size ∧
      wr.drewN q = putRow (Value.int .u64) (Sort.ahead w n') blk off dk' ∧ insOuter ltInt a b i' dk' = insOuter ltInt a b (a + 1) d := fun hs q =>
     ⟨i + 1, m + q, dj, by go_num, by omega, by omega, hsj, by rw [HW.out]; exact putRow_drewN _ _ _ _ _ _ _,
      by rw [← HO.out, insOuter_go _ _ _ _ _ hlt, ← HI.out, insInner_stop _ _ _ _ hs]⟩
    have OUT : Hid _ := out
    clear out
    go_wp2
    by_cases hja : a < j
    ·
     go_quiet (first | (go_at_call 136; refine Calls.quiet_of_same (cmp_Less_u64 _ _ _)))
     go_wp2
     ·
      have hl : ltInt (G j) (G (j - 1)) = true := by assumption
      go_region
      all_goals go_wp2
      go_roundw
      case rel =>
       refine ⟨j - 1, m + (nq + 1), swp dj j (j - 1), by congr 1; omega, by omega, by omega, by rw [size_swp]; exact hsj, ?_, ?_⟩
       ·
        rw [HW.out, HG.out, HG.out]
        exact swap_worldA _ w m (nq + 1) blk off dj j (j - 1) (by omega) (by omega)
       · rw [← HI.out, insInner_go ltInt a j dj hja (by rw [← HG.out, ← HG.out]; exact hl)]
      case measure => simp [intOf]; omega
     ·
      have hl : ltInt (G j) (G (j - 1)) = false := by assumption
      go_roundw
      case rel => exact OUT.out (Or.inr (by rw [← HG.out, ← HG.out]; exact hl)) nq
      case measure => simp [intOf]; omega
    ·
     go_quiet (first | (go_at_call 136; refine Calls.quiet_of_same (cmp_Less_u64 _ _ _)))
     go_wp2
     go_roundw
     case rel => exact OUT.out (Or.inl (by omega)) nq
     case measure => simp [intOf]; omega
  ·
   have hge : ¬ i < b := by assumption
   go_end0
   exact ⟨rfl, n, by unfold Sort.insertionSort; rw [← HO.out, insOuter_stop _ _ _ _ _ hge]⟩
theorem partialInsertionSort_u64 (blk off cap a b : Nat) (d : Array Int) (w : World) (hH : Holds (Value.int .u64) w blk off d) (hab : a < b) (hb : b ≤ d.size) (hsz : d.size < 4611686018427387904) :
    Calls Tryz.prog 135 #[.slice (some ⟨blk, off, none⟩) d.size cap, .int .i64 a, .int .i64 b] w fun e w' =>
      e = .returned (.bool (Sort.partialInsertionSort ltInt d a b).2) ∧ ∃ n, w' = putRow (Value.int .u64) (Sort.ahead w n) blk off (Sort.partialInsertionSort ltInt d a b).1 := by
  have HH : Hid (Holds (Value.int .u64) w blk off d) := hH
  have HST : Hid (w = putRow (Value.int .u64) (Sort.ahead w 0) blk off d) := (putRow_self _ _ _ _ _ hH).symm
  clear hH
  go_enter Tryz.func135, Tryz.ntmps135
  go_wp2
  go_loopw [7, 8] (fun vi vs wr => ∃ (i s n : Nat) (dk : Array Int), vi = .int .i64 i ∧ vs = .int .i64 s ∧ s ≤ 5 ∧ a < i ∧ i ≤ b ∧ dk.size = d.size ∧ wr = putRow (Value.int .u64) (Sort.ahead w n) blk off dk ∧
      partialIns ltInt a b (5 - s) i dk = partialIns ltInt a b 5 (a + 1) d) (fun _ vs _ => 5 - (intOf vs).toNat)
  case atStart => exact ⟨a + 1, 0, 0, d, by go_num, rfl, by omega, by omega, by omega, rfl, HST.out, rfl⟩
  case round =>
    obtain ⟨i, s, n, dk, rfl, rfl, hs5, hai, hib, hsk, hwr, hO⟩ := hrel
    have HO : Hid (partialIns ltInt a b (5 - s) i dk = partialIns ltInt a b 5 (a + 1) d) := hO
    clear hO
    go_wp2
    ·
      have hs : s < 5 := by omega
      go_loopw [7] (fun vi wr2 => ∃ (k m : Nat), vi = .int .i64 k ∧ i ≤ k ∧ k ≤ b ∧ wr2 = putRow (Value.int .u64) (Sort.ahead w m) blk off dk ∧ scanSorted ltInt dk b k = scanSorted ltInt dk b i) (fun vi _ => b - (intOf vi).toNat)
      case atStart => exact ⟨i, n, rfl, Nat.le_refl _, hib, rfl, rfl⟩
      case round =>
        obtain ⟨k, m, rfl, hik, hkb, hw2, hS⟩ := hrel
        obtain ⟨G, hG⟩ : ∃ G : Nat → Int, ∀ t, G t = dk[t]! := ⟨fun t => dk[t]!, fun _ => rfl⟩
        have hcw : ∀ t, t < d.size → wr.cell? ⟨blk, off + t, none⟩ = some (.int .u64 (G t)) := fun t ht => by
          rw [hw2, hG]; exact cell?_putRow _ _ _ _ d dk (holds_ahead _ _ _ _ _ _ HH.out) hsk t (by omega)
        have hfw : ∀ t, t < d.size → wr.frozen? ⟨blk, off + t, none⟩ = false := fun t ht => by
          rw [hw2, frozen?_putRow]; exact ((holds_ahead _ _ m _ _ _ HH.out) t ht).2
        have HW : Hid (wr = putRow (Value.int .u64) (Sort.ahead w m) blk off dk) := hw2
        have HG : Hid (∀ t, G t = dk[t]!) := hG
        have HS : Hid (scanSorted ltInt dk b k = scanSorted ltInt dk b i) := hS
        clear hw2 hG hS
        go_wp2
        by_cases hkb' : k < b
        · go_quiet (first | (go_at_call 136; refine Calls.quiet_of_same (cmp_Less_u64 _ _ _)))
          go_wp2
          all_goals first
            | (at_end
               have hl : ltInt (G k) (G (k - 1)) = false := by
                 have h : (!ltInt (G k) (G (k - 1))) = true := by assumption
                 simpa using h
               go_roundw
               case rel => exact ⟨k + 1, m + nq, by go_num, by omega, by omega, by rw [HW.out]; exact putRow_drewN _ _ _ _ _ _ _, by rw [← HS.out, scanSorted_go ltInt dk b k hkb' (by rw [← HG.out, ← HG.out]; exact hl)]⟩
               case measure => simp [intOf]; omega)
            | (have hl : ltInt (G k) (G (k - 1)) = true := by
                 have h : (!ltInt (G k) (G (k - 1))) = false := by assumption
                 simpa using h
               have HK : Hid (scanSorted ltInt dk b i = k) := by
                 show scanSorted ltInt dk b i = k
                 rw [← HS.out, scanSorted_stop ltInt dk b k (Or.inr (by rw [← HG.out, ← HG.out]; exact hl))]
               first
                 | (at_ret
                    have hv : Sort.partialInsertionSort ltInt d a b = (dk, false) := by
                      unfold Sort.partialInsertionSort
                      rw [← HO.out, pi_short ltInt a b s i dk hs (by rw [HK.out]; omega) (by omega)]
                    rw [hv]
                    go_ret
                    exact ⟨rfl, m + nq, by rw [HW.out]; exact putRow_drewN _ _ _ _ _ _ _⟩)
                 | (at_region 11
                    have h50 : ¬ b - a < 50 := by omega
                    go_region
                    have hsw : ((wr.drewN (nq + 1)).setCell ⟨blk, off + k, none⟩ (.int .u64 (G (k - 1)))).setCell ⟨blk, off + (k - 1), none⟩ (.int .u64 (G k)) = putRow (Value.int .u64) (Sort.ahead w (m + (nq + 1))) blk off (swp dk k (k - 1)) := by
                      rw [HW.out, HG.out, HG.out]
                      exact swap_worldA _ w m (nq + 1) blk off dk k (k - 1) (by omega) (by omega)
                    have hs1 : (swp dk k (k - 1)).size = d.size := by rw [size_swp]; exact hsk
                    go_wp2
                    all_goals first
                      | (at_loop
                         have hka : k - a ≥ 2 := by omega
                         go_loopw [9] (fun vj wr2 => ∃ (j m2 : Nat) (dj : Array Int), vj = .int .i64 j ∧ j ≤ k - 1 ∧ dj.size = d.size ∧ wr2 = putRow (Value.int .u64) (Sort.ahead w m2) blk off dj ∧
                             shiftDown ltInt j dj = shiftDown ltInt (k - 1) (swp dk k (k - 1))) (fun vj _ => (intOf vj).toNat)
                         case atStart => exact ⟨k - 1, _, (swp dk k (k - 1)), by congr 1; omega, Nat.le_refl _, hs1, rfl, rfl⟩
                         case round =>
                           obtain ⟨j, m2, dj, rfl, hjk, hsj, hw2, hDn⟩ := hrel
                           obtain ⟨G, hG⟩ : ∃ G : Nat → Int, ∀ t, G t = dj[t]! := ⟨fun t => dj[t]!, fun _ => rfl⟩
                           have hcw : ∀ t, t < d.size → wr.cell? ⟨blk, off + t, none⟩ = some (.int .u64 (G t)) := fun t ht => by
                             rw [hw2, hG]; exact cell?_putRow _ _ _ _ d dj (holds_ahead _ _ _ _ _ _ HH.out) hsj t (by omega)
                           have hfw : ∀ t, t < d.size → wr.frozen? ⟨blk, off + t, none⟩ = false := fun t ht => by
                             rw [hw2, frozen?_putRow]; exact ((holds_ahead _ _ m2 _ _ _ HH.out) t ht).2
                           have HW : Hid (wr = putRow (Value.int .u64) (Sort.ahead w m2) blk off dj) := hw2
                           have HG : Hid (∀ t, G t = dj[t]!) := hG
                           have HDn : Hid (shiftDown ltInt j dj = shiftDown ltInt (k - 1) (swp dk k (k - 1))) := hDn
                           clear hw2 hG hDn hsw
                           go_wp2
                           all_goals first
                             | (at_region 16
                                go_quiet (first | (go_at_call 136; refine Calls.quiet_of_same (cmp_Less_u64 _ _ _)))
                                go_wp2
                                all_goals first
                                  | (at_region 17
                                     have hl : ltInt (G j) (G (j - 1)) = true := by
                                       have h : (!ltInt (G j) (G (j - 1))) = false := by assumption
                                       simpa using h
                                     go_region
                                     all_goals go_wp2
                                     go_roundw
                                     case rel =>
                                       refine ⟨j - 1, m2 + (nq + 1), swp dj j (j - 1), by congr 1; omega, by omega, by rw [size_swp]; exact hsj, ?_, ?_⟩
                                       · rw [HW.out, HG.out, HG.out]
                                         exact swap_worldA _ w m2 (nq + 1) blk off dj j (j - 1) (by omega) (by omega)
                                       · rw [← HDn.out, shiftDown_go ltInt j dj (by omega) (by rw [← HG.out, ← HG.out]; exact hl)]
                                     case measure => simp [intOf]; omega)
                                  | (-- break
                                     have hl : ltInt (G j) (G (j - 1)) = false := by
                                       have h : (!ltInt (G j) (G (j - 1))) = true := by assumption
                                       simpa using h
                                     have HD : Hid (fixDown ltInt a k (swp dk k (k - 1)) = dj) := by
                                       show fixDown ltInt a k (swp dk k (k - 1)) = dj
                                       unfold fixDown; rw [if_pos hka, ← HDn.out, shiftDown_stop ltInt j dj (Or.inr (by rw [← HG.out, ← HG.out]; exact hl))]
                                     first
                                       | (at_end
                                          go_roundw
                                          case rel =>
                                            refine ⟨k, s + 1, _, dj, rfl, by go_num, by omega, by omega, by omega, hsj, (by first | rfl | exact HW.out | (rw [HW.out]; exact putRow_drewN _ _ _ _ _ _ _)), ?_⟩
                                            rw [← HO.out, pi_go ltInt a b s i k dk hs HK.out (by omega) (by omega), HD.out, show fixUp ltInt b k dj = dj from by unfold fixUp; rw [if_neg (by omega)]]
                                          case measure => simp [intOf]; omega)
                                       | (at_loop
                                          go_loopw [10] (fun vj wr2 => ∃ (j m3 : Nat) (du : Array Int), vj = .int .i64 j ∧ k + 1 ≤ j ∧ j ≤ b ∧ du.size = d.size ∧ wr2 = putRow (Value.int .u64) (Sort.ahead w m3) blk off du ∧
                                              shiftUp ltInt b j du = shiftUp ltInt b (k + 1) dj) (fun vj _ => b - (intOf vj).toNat)
                                          case atStart => exact ⟨k + 1, _, dj, by go_num, Nat.le_refl _, by omega, hsj, (by first | rfl | exact HW.out | (rw [HW.out]; exact putRow_drewN _ _ _ _ _ _ _)), rfl⟩
                                          case round =>
                                            obtain ⟨j, m3, du, rfl, hkj, hjb, hsu, hw3, hU⟩ := hrel
                                            obtain ⟨G, hG⟩ : ∃ G : Nat → Int, ∀ t, G t = du[t]! := ⟨fun t => du[t]!, fun _ => rfl⟩
                                            have hcw : ∀ t, t < d.size → wr.cell? ⟨blk, off + t, none⟩ = some (.int .u64 (G t)) := fun t ht => by
                                              rw [hw3, hG]; exact cell?_putRow _ _ _ _ d du (holds_ahead _ _ _ _ _ _ HH.out) hsu t (by omega)
                                            have hfw : ∀ t, t < d.size → wr.frozen? ⟨blk, off + t, none⟩ = false := fun t ht => by
                                              rw [hw3, frozen?_putRow]; exact ((holds_ahead _ _ m3 _ _ _ HH.out) t ht).2
                                            have HW : Hid (wr = putRow (Value.int .u64) (Sort.ahead w m3) blk off du) := hw3
                                            have HG : Hid (∀ t, G t = du[t]!) := hG
                                            have HU : Hid (shiftUp ltInt b j du = shiftUp ltInt b (k + 1) dj) := hU
                                            clear hw3 hG hU
                                            go_wp2
                                            all_goals first
                                              | (at_region 22
                                                 go_quiet (first | (go_at_call 136; refine Calls.quiet_of_same (cmp_Less_u64 _ _ _)))
                                                 go_wp2
                                                 all_goals first
                                                   | (at_region 23
                                                      have hl : ltInt (G j) (G (j - 1)) = true := by
                                                        have h : (!ltInt (G j) (G (j - 1))) = false := by assumption
                                                        simpa using h
                                                      go_region
                                                      all_goals go_wp2
                                                      go_roundw
                                                      case rel =>
                                                        refine ⟨j + 1, m3 + (nq + 1), swp du j (j - 1), by go_num, by omega, by omega, by rw [size_swp]; exact hsu, ?_, ?_⟩
                                                        · rw [HW.out, HG.out, HG.out]
                                                          exact swap_worldA _ w m3 (nq + 1) blk off du j (j - 1) (by omega) (by omega)
                                                        · rw [← HU.out, shiftUp_go ltInt b j du (by omega) (by rw [← HG.out, ← HG.out]; exact hl)]
                                                      case measure => simp [intOf]; omega)
                                                   | (at_end
                                                      have hl : ltInt (G j) (G (j - 1)) = false := by
                                                        have h : (!ltInt (G j) (G (j - 1))) = true := by assumption
                                                        simpa using h
                                                      go_roundw
                                                      case rel =>
                                                        refine ⟨k, s + 1, _, du, rfl, by go_num, by omega, by omega, by omega, hsu, (by first | rfl | exact HW.out | (rw [HW.out]; exact putRow_drewN _ _ _ _ _ _ _)), ?_⟩
                                                        rw [← HO.out, pi_go ltInt a b s i k dk hs HK.out (by omega) (by omega), HD.out, show fixUp ltInt b k dj = du from by unfold fixUp; rw [if_pos (by omega), ← HU.out, shiftUp_stop ltInt b j du (Or.inr (by rw [← HG.out, ← HG.out]; exact hl))]]
                                                      case measure => simp [intOf]; omega))
                                              | (at_end
                                                 go_roundw
                                                 case rel =>
                                                   refine ⟨k, s + 1, _, du, rfl, by go_num, by omega, by omega, by omega, hsu, (by first | rfl | exact HW.out | (rw [HW.out]; exact putRow_drewN _ _ _ _ _ _ _)), ?_⟩
                                                   rw [← HO.out, pi_go ltInt a b s i k dk hs HK.out (by omega) (by omega), HD.out, show fixUp ltInt b k dj = du from by unfold fixUp; rw [if_pos (by omega), ← HU.out, shiftUp_stop ltInt b j du (Or.inl (by omega))]]
                                                 case measure => simp [intOf]; omega))))
                             | (-- j < 1
                                have HD : Hid (fixDown ltInt a k (swp dk k (k - 1)) = dj) := by
                                  show fixDown ltInt a k (swp dk k (k - 1)) = dj
                                  unfold fixDown; rw [if_pos hka, ← HDn.out, shiftDown_stop ltInt j dj (Or.inl (by omega))]
                                first
                                  | (at_end
                                     go_roundw
                                     case rel =>
                                       refine ⟨k, s + 1, _, dj, rfl, by go_num, by omega, by omega, by omega, hsj, (by first | rfl | exact HW.out | (rw [HW.out]; exact putRow_drewN _ _ _ _ _ _ _)), ?_⟩
                                       rw [← HO.out, pi_go ltInt a b s i k dk hs HK.out (by omega) (by omega), HD.out, show fixUp ltInt b k dj = dj from by unfold fixUp; rw [if_neg (by omega)]]
                                     case measure => simp [intOf]; omega)
                                  | (at_loop
                                     go_loopw [10] (fun vj wr2 => ∃ (j m3 : Nat) (du : Array Int), vj = .int .i64 j ∧ k + 1 ≤ j ∧ j ≤ b ∧ du.size = d.size ∧ wr2 = putRow (Value.int .u64) (Sort.ahead w m3) blk off du ∧
                                         shiftUp ltInt b j du = shiftUp ltInt b (k + 1) dj) (fun vj _ => b - (intOf vj).toNat)
                                     case atStart => exact ⟨k + 1, _, dj, by go_num, Nat.le_refl _, by omega, hsj, (by first | rfl | exact HW.out | (rw [HW.out]; exact putRow_drewN _ _ _ _ _ _ _)), rfl⟩
                                     case round =>
                                       obtain ⟨j, m3, du, rfl, hkj, hjb, hsu, hw3, hU⟩ := hrel
                                       obtain ⟨G, hG⟩ : ∃ G : Nat → Int, ∀ t, G t = du[t]! := ⟨fun t => du[t]!, fun _ => rfl⟩
                                       have hcw : ∀ t, t < d.size → wr.cell? ⟨blk, off + t, none⟩ = some (.int .u64 (G t)) := fun t ht => by
                                         rw [hw3, hG]; exact cell?_putRow _ _ _ _ d du (holds_ahead _ _ _ _ _ _ HH.out) hsu t (by omega)
                                       have hfw : ∀ t, t < d.size → wr.frozen? ⟨blk, off + t, none⟩ = false := fun t ht => by
                                         rw [hw3, frozen?_putRow]; exact ((holds_ahead _ _ m3 _ _ _ HH.out) t ht).2
                                       have HW : Hid (wr = putRow (Value.int .u64) (Sort.ahead w m3) blk off du) := hw3
                                       have HG : Hid (∀ t, G t = du[t]!) := hG
                                       have HU : Hid (shiftUp ltInt b j du = shiftUp ltInt b (k + 1) dj) := hU
                                       clear hw3 hG hU
                                       go_wp2
                                       all_goals first
                                         | (at_region 22
                                            go_quiet (first | (go_at_call 136; refine Calls.quiet_of_same (cmp_Less_u64 _ _ _)))
                                            go_wp2
                                            all_goals first
                                              | (at_region 23
                                                 have hl : ltInt (G j) (G (j - 1)) = true := by
                                                   have h : (!ltInt (G j) (G (j - 1))) = false := by assumption
                                                   simpa using h
                                                 go_region
                                                 all_goals go_wp2
                                                 go_roundw
                                                 case rel =>
                                                   refine ⟨j + 1, m3 + (nq + 1), swp du j (j - 1), by go_num, by omega, by omega, by rw [size_swp]; exact hsu, ?_, ?_⟩
                                                   · rw [HW.out, HG.out, HG.out]
                                                     exact swap_worldA _ w m3 (nq + 1) blk off du j (j - 1) (by omega) (by omega)
                                                   · rw [← HU.out, shiftUp_go ltInt b j du (by omega) (by rw [← HG.out, ← HG.out]; exact hl)]
                                                 case measure => simp [intOf]; omega)
                                              | (at_end
                                                 have hl : ltInt (G j) (G (j - 1)) = false := by
                                                   have h : (!ltInt (G j) (G (j - 1))) = true := by assumption
                                                   simpa using h
                                                 go_roundw
                                                 case rel =>
                                                   refine ⟨k, s + 1, _, du, rfl, by go_num, by omega, by omega, by omega, hsu, (by first | rfl | exact HW.out | (rw [HW.out]; exact putRow_drewN _ _ _ _ _ _ _)), ?_⟩
                                                   rw [← HO.out, pi_go ltInt a b s i k dk hs HK.out (by omega) (by omega), HD.out, show fixUp ltInt b k dj = du from by unfold fixUp; rw [if_pos (by omega), ← HU.out, shiftUp_stop ltInt b j du (Or.inr (by rw [← HG.out, ← HG.out]; exact hl))]]
                                                 case measure => simp [intOf]; omega))
                                         | (at_end
                                            go_roundw
                                            case rel =>
                                              refine ⟨k, s + 1, _, du, rfl, by go_num, by omega, by omega, by omega, hsu, (by first | rfl | exact HW.out | (rw [HW.out]; exact putRow_drewN _ _ _ _ _ _ _)), ?_⟩
                                              rw [← HO.out, pi_go ltInt a b s i k dk hs HK.out (by omega) (by omega), HD.out, show fixUp ltInt b k dj = du from by unfold fixUp; rw [if_pos (by omega), ← HU.out, shiftUp_stop ltInt b j du (Or.inl (by omega))]]
                                            case measure => simp [intOf]; omega))))
                      | (-- i - a < 2
                         have HD : Hid (fixDown ltInt a k (swp dk k (k - 1)) = (swp dk k (k - 1))) := by
                           show fixDown ltInt a k (swp dk k (k - 1)) = (swp dk k (k - 1))
                           unfold fixDown; rw [if_neg (by omega)]
                         first
                           | (at_end
                              go_roundw
                              case rel =>
                                refine ⟨k, s + 1, _, (swp dk k (k - 1)), rfl, by go_num, by omega, by omega, by omega, hs1, (by first | rfl | exact HW.out | (rw [HW.out]; exact putRow_drewN _ _ _ _ _ _ _)), ?_⟩
                                rw [← HO.out, pi_go ltInt a b s i k dk hs HK.out (by omega) (by omega), HD.out, show fixUp ltInt b k (swp dk k (k - 1)) = (swp dk k (k - 1)) from by unfold fixUp; rw [if_neg (by omega)]]
                              case measure => simp [intOf]; omega)
                           | (at_loop
                              go_loopw [10] (fun vj wr2 => ∃ (j m3 : Nat) (du : Array Int), vj = .int .i64 j ∧ k + 1 ≤ j ∧ j ≤ b ∧ du.size = d.size ∧ wr2 = putRow (Value.int .u64) (Sort.ahead w m3) blk off du ∧
                                  shiftUp ltInt b j du = shiftUp ltInt b (k + 1) (swp dk k (k - 1))) (fun vj _ => b - (intOf vj).toNat)
                              case atStart => exact ⟨k + 1, _, (swp dk k (k - 1)), by go_num, Nat.le_refl _, by omega, hs1, (by first | rfl | exact HW.out | (rw [HW.out]; exact putRow_drewN _ _ _ _ _ _ _)), rfl⟩
                              case round =>
                                obtain ⟨j, m3, du, rfl, hkj, hjb, hsu, hw3, hU⟩ := hrel
                                obtain ⟨G, hG⟩ : ∃ G : Nat → Int, ∀ t, G t = du[t]! := ⟨fun t => du[t]!, fun _ => rfl⟩
                                have hcw : ∀ t, t < d.size → wr.cell? ⟨blk, off + t, none⟩ = some (.int .u64 (G t)) := fun t ht => by
                                  rw [hw3, hG]; exact cell?_putRow _ _ _ _ d du (holds_ahead _ _ _ _ _ _ HH.out) hsu t (by omega)
                                have hfw : ∀ t, t < d.size → wr.frozen? ⟨blk, off + t, none⟩ = false := fun t ht => by
                                  rw [hw3, frozen?_putRow]; exact ((holds_ahead _ _ m3 _ _ _ HH.out) t ht).2
                                have HW : Hid (wr = putRow (Value.int .u64) (Sort.ahead w m3) blk off du) := hw3
                                have HG : Hid (∀ t, G t = du[t]!) := hG
                                have HU : Hid (shiftUp ltInt b j du = shiftUp ltInt b (k + 1) (swp dk k (k - 1))) := hU
                                clear hw3 hG hU
                                go_wp2
                                all_goals first
                                  | (at_region 22
                                     go_quiet (first | (go_at_call 136; refine Calls.quiet_of_same (cmp_Less_u64 _ _ _)))
                                     go_wp2
                                     all_goals first
                                       | (at_region 23
                                          have hl : ltInt (G j) (G (j - 1)) = true := by
                                            have h : (!ltInt (G j) (G (j - 1))) = false := by assumption
                                            simpa using h
                                          go_region
                                          all_goals go_wp2
                                          go_roundw
                                          case rel =>
                                            refine ⟨j + 1, m3 + (nq + 1), swp du j (j - 1), by go_num, by omega, by omega, by rw [size_swp]; exact hsu, ?_, ?_⟩
                                            · rw [HW.out, HG.out, HG.out]
                                              exact swap_worldA _ w m3 (nq + 1) blk off du j (j - 1) (by omega) (by omega)
                                            · rw [← HU.out, shiftUp_go ltInt b j du (by omega) (by rw [← HG.out, ← HG.out]; exact hl)]
                                          case measure => simp [intOf]; omega)
                                       | (at_end
                                          have hl : ltInt (G j) (G (j - 1)) = false := by
                                            have h : (!ltInt (G j) (G (j - 1))) = true := by assumption
                                            simpa using h
                                          go_roundw
                                          case rel =>
                                            refine ⟨k, s + 1, _, du, rfl, by go_num, by omega, by omega, by omega, hsu, (by first | rfl | exact HW.out | (rw [HW.out]; exact putRow_drewN _ _ _ _ _ _ _)), ?_⟩
                                            rw [← HO.out, pi_go ltInt a b s i k dk hs HK.out (by omega) (by omega), HD.out, show fixUp ltInt b k (swp dk k (k - 1)) = du from by unfold fixUp; rw [if_pos (by omega), ← HU.out, shiftUp_stop ltInt b j du (Or.inr (by rw [← HG.out, ← HG.out]; exact hl))]]
                                          case measure => simp [intOf]; omega))
                                  | (at_end
                                     go_roundw
                                     case rel =>
                                       refine ⟨k, s + 1, _, du, rfl, by go_num, by omega, by omega, by omega, hsu, (by first | rfl | exact HW.out | (rw [HW.out]; exact putRow_drewN _ _ _ _ _ _ _)), ?_⟩
                                       rw [← HO.out, pi_go ltInt a b s i k dk hs HK.out (by omega) (by omega), HD.out, show fixUp ltInt b k (swp dk k (k - 1)) = du from by unfold fixUp; rw [if_pos (by omega), ← HU.out, shiftUp_stop ltInt b j du (Or.inl (by omega))]]
                                     case measure => simp [intOf]; omega)))))
        ·
          go_quiet (first | (go_at_call 136; refine Calls.quiet_of_same (cmp_Less_u64 _ _ _)))
          go_wp2
          obtain rfl : k = b := by omega
          have hv : Sort.partialInsertionSort ltInt d a k = (dk, true) := by
            unfold Sort.partialInsertionSort
            rw [← HO.out, pi_true ltInt a k s i dk hs (by rw [← HS.out, scanSorted_stop ltInt dk k k (Or.inl (by omega))])]
          rw [hv]
          go_ret
          exact ⟨rfl, m + nq, by rw [HW.out]; exact putRow_drewN _ _ _ _ _ _ _⟩
    ·
      obtain rfl : s = 5 := by omega
      have hv : Sort.partialInsertionSort ltInt d a b = (dk, false) := by
        unfold Sort.partialInsertionSort
        rw [← HO.out, pi_end]
      rw [hv]
      go_ret
      exact ⟨rfl, n, rfl⟩
theorem xorshift_Next (rb ro X : Nat) (hX : X < 18446744073709551616) (w : World) (hc : w.cell? ⟨rb, ro, none⟩ = some (.int .u64 X)) (hf : w.frozen? ⟨rb, ro, none⟩ = false) :
  Calls Tryz.prog 164 #[.pointer (some ⟨rb, ro, none⟩)] w fun e w' => e = .returned (.int .u64 (xorNextN X : Nat)) ∧ w' = (w.setCell ⟨rb, ro, none⟩ (.int .u64 (xorNextN X : Nat))).drewN 3 := by
 obtain ⟨A, hA⟩ : ∃ A : Nat, A = X ^^^ (X * 8192 % 18446744073709551616) := ⟨_, rfl⟩
 obtain ⟨B, hB⟩ : ∃ B : Nat, B = A ^^^ (A / 128) := ⟨_, rfl⟩
 obtain ⟨C, hC⟩ : ∃ C : Nat, C = B ^^^ (B * 131072 % 18446744073709551616) := ⟨_, rfl⟩
 have lA : A < 18446744073709551616 := by rw [hA]; exact Nat.xor_lt_two_pow (n := 64) (by omega) (by omega)
 have lB : B < 18446744073709551616 := by rw [hB]; exact Nat.xor_lt_two_pow (n := 64) (by omega) (by omega)
 have e1 : bits .xor .u64 (X : Int) (IntKind.u64.wrap ((X : Int) * 8192)) = (A : Int) := by
  rw [IntKind.wrap_u64, show ((X : Int) * 8192 % 18446744073709551616) = ((X * 8192 % 18446744073709551616 : Nat) : Int) by omega, bits_xor_u64_nat _ _ hX (by omega), hA]
 have e2 : bits .xor .u64 (A : Int) ((A : Int) / 128) = (B : Int) := by
  rw [show ((A : Int) / 128) = ((A / 128 : Nat) : Int) by omega, bits_xor_u64_nat _ _ lA (by omega), hB]
 have e3 : bits .xor .u64 (B : Int) (IntKind.u64.wrap ((B : Int) * 131072)) = (C : Int) := by
  rw [IntKind.wrap_u64, show ((B : Int) * 131072 % 18446744073709551616) = ((B * 131072 % 18446744073709551616 : Nat) : Int) by omega, bits_xor_u64_nat _ _ lB (by omega), hC]
 have hv : xorNextN X = C := by unfold xorNextN; simp only []; rw [← hA, ← hB, ← hC]
 rw [hv]
 clear hA hB hC hv
 have hss : ∀ v v', (w.setCell ⟨rb, ro, none⟩ v).setCell ⟨rb, ro, none⟩ v' = w.setCell ⟨rb, ro, none⟩ v' := setCell_setCell w rb ro
 go_enter Tryz.func164, Tryz.ntmps164
 go_wp2
 go_region
 all_goals go_wp2
 all_goals go_region
 all_goals go_wp2
 all_goals go_region
 all_goals go_wp2
 go_ret
 exact ⟨rfl, rfl⟩
theorem nextPowerOfTwo (n : Nat) (hn : n < 4611686018427387904) (w : World) :
  Calls Tryz.prog 163 #[.int .i64 n] w fun e w' => e = .returned (.int .u64 ((1 <<< bitsLen n : Nat) : Int)) ∧ w' = w := by
 have hLen : ∀ w, Calls Tryz.prog 100 #[.int .u64 (n : Int)] w fun e w' => e = .returned (.int .i64 (bitsLen n : Nat)) ∧ w' = w := fun w => by
  have h := Tryz.bits_Len (n : Int) w (by omega) (by omega)
  rwa [Int.toNat_natCast, bitLen_eq _ (by omega)] at h
 have hk : bitsLen n ≤ 62 := (bitsLen_le_iff n 62).2 (by omega)
 have hp := wrap_two_pow (bitsLen n) hk
 go_enter Tryz.func163, Tryz.ntmps163
 go_wp2_with (first | (go_at_call 100; refine (hLen _).mono ?_; rintro e w' ⟨rfl, rfl⟩))
 go_ret
 exact ⟨rfl, rfl⟩
theorem breakPatterns_u64_go (blk off cap a L : Nat) (d : Array Int) (w : World) (hH : Holds (Value.int .u64) w blk off d) (hblk : blk < w.heap.size) (hb : a + L ≤ d.size) (hsz : d.size < 4611686018427387904) (h8 : 8 ≤ L) :
  Calls Tryz.prog 132 #[.slice (some ⟨blk, off, none⟩) d.size cap, .int .i64 a, .int .i64 ((a + L : Nat) : Int)] w fun e w' =>
   e = .returned (.tuple #[]) ∧ ∃ n os, w' = grow (putRow (Value.int .u64) (Sort.ahead w n) blk off (breakPatterns d a (a + L))) os := by
 rw [breakPatterns_eq d a L h8]
 obtain ⟨M, hM⟩ : ∃ M : Nat, M = 1 <<< bitsLen L := ⟨_, rfl⟩
 have hM1 : 1 ≤ M := by rw [hM, Nat.one_shiftLeft]; exact Nat.two_pow_pos _
 have hM2 : M ≤ 2 * L := by rw [hM, Nat.one_shiftLeft]; exact two_pow_bitsLen_le (by omega)
 have hNP : ∀ w, Calls Tryz.prog 163 #[.int .i64 (L : Int)] w fun e w' => e = .returned (.int .u64 (M : Int)) ∧ w' = w := by rw [hM]; exact fun w => nextPowerOfTwo L (by omega) w
 rw [← hM]
 clear hM
 have HH : Hid (Holds (Value.int .u64) w blk off d) := hH
 have HST : Hid (w.alloc (Obj.cells #[.int .u64 (L : Int)] 197) = grow (putRow (Value.int .u64) (Sort.ahead w 0) blk off d) #[Obj.cells #[.int .u64 ((UInt64.ofNat L).toNat : Int)] 197]) := by
  show _ = _
  rw [show Sort.ahead w 0 = w from rfl, putRow_self _ _ _ _ _ hH, alloc_eq_grow, show (UInt64.ofNat L).toNat = L from by simp; omega]
 clear hH
 go_enter Tryz.func132, Tryz.ntmps132
 go_wp2_with (first | (go_at_call 163; rw [show ((a : Int) + (L : Int) - (a : Int)) = (L : Int) by omega]; refine (hNP _).mono ?_; rintro e w' ⟨rfl, rfl⟩))
 go_loopw [9] (fun vi wr => ∃ (t n : Nat) (r : UInt64) (dk : Array Int), vi = .int .i64 ((a + L / 4 * 2 - 1 + t : Nat) : Int) ∧ t ≤ 3 ∧ dk.size = d.size ∧
   wr = grow (putRow (Value.int .u64) (Sort.ahead w n) blk off dk) #[Obj.cells #[.int .u64 (r.toNat : Int)] 197] ∧
   bpRest a L M (a + L / 4 * 2 - 1) (3 - t) t (r, dk) = bpRest a L M (a + L / 4 * 2 - 1) 3 0 (UInt64.ofNat L, d)) (fun vi _ => a + L / 4 * 2 + 3 - (intOf vi).toNat)
 case atStart => exact ⟨0, 0, UInt64.ofNat L, d, by congr 1; omega, by omega, rfl, HST.out, rfl⟩
 case round =>
  obtain ⟨t, n, r, dk, rfl, ht, hsk, hw, hR⟩ := hrel
  obtain ⟨R, hRr⟩ : ∃ R : Nat, R = r.toNat := ⟨_, rfl⟩
  have lR : R < 18446744073709551616 := by rw [hRr]; exact r.toNat_lt
  obtain ⟨R', hR'⟩ : ∃ R' : Nat, R' = xorNextN R := ⟨_, rfl⟩
  have lR' : R' < 18446744073709551616 := by rw [hR']; exact xorNextN_lt R lR
  obtain ⟨O, hO⟩ : ∃ O : Nat, O = R' &&& (M - 1) := ⟨_, rfl⟩
  have lO : O ≤ M - 1 := by rw [hO]; exact Nat.and_le_right
  have eAnd : bits .and .u64 (R' : Int) ((M : Int) - 1) = (O : Int) := by
   rw [show ((M : Int) - 1) = ((M - 1 : Nat) : Int) by omega, bits_and_u64_nat _ _ lR' (by omega), hO]
  obtain ⟨G, hG⟩ : ∃ G : Nat → Int, ∀ x, G x = dk[x]! := ⟨fun x => dk[x]!, fun _ => rfl⟩
  have hz : (putRow (Value.int .u64) (Sort.ahead w n) blk off dk).heap.size = w.heap.size := by simp
  have hcw : ∀ x, x < d.size → wr.cell? ⟨blk, off + x, none⟩ = some (.int .u64 (G x)) := fun x hx => by
   rw [hw, cell?_grow _ _ _ (by rw [hz]; exact hblk), hG]; exact cell?_putRow _ _ _ _ d dk (holds_ahead _ _ _ _ _ _ HH.out) hsk x (by omega)
  have hfw : ∀ x, x < d.size → wr.frozen? ⟨blk, off + x, none⟩ = false := fun x hx => by
   rw [hw, frozen?_grow _ _ _ (by rw [hz]; exact hblk), frozen?_putRow]; exact ((holds_ahead _ _ n _ _ _ HH.out) x hx).2
  have hcB : wr.cell? ⟨w.heap.size, 0, none⟩ = some (.int .u64 (R : Int)) := by rw [hw, hRr, ← hz]; exact grow_one_cell _ _ _
  have hfB : wr.frozen? ⟨w.heap.size, 0, none⟩ = false := by rw [hw, ← hz]; exact grow_one_frozen _ _ _
  have hNext : Calls Tryz.prog 164 #[.pointer (some ⟨w.heap.size, 0, none⟩)] wr fun e w' => e = .returned (.int .u64 (R' : Int)) ∧ w' = (wr.setCell ⟨w.heap.size, 0, none⟩ (.int .u64 (R' : Int))).drewN 3 := by
   rw [hR']; exact xorshift_Next _ _ R lR wr hcB hfB
  have HW : Hid (wr = grow (putRow (Value.int .u64) (Sort.ahead w n) blk off dk) #[Obj.cells #[.int .u64 (r.toNat : Int)] 197]) := hw
  have HG : Hid (∀ x, G x = dk[x]!) := hG
  have HR : Hid (bpRest a L M (a + L / 4 * 2 - 1) (3 - t) t (r, dk) = bpRest a L M (a + L / 4 * 2 - 1) 3 0 (UInt64.ofNat L, d)) := hR
  have HN : Hid (R' = (xorNext r).toNat ∧ O = (xorNext r).toNat &&& (M - 1)) := by
   have e : R' = (xorNext r).toNat := by rw [hR', hRr, xorNext_toNat]
   exact ⟨e, by rw [hO, e]⟩
  clear hw hG hR hRr hR' hO
  go_wp2_with (first | (go_at_call 164; refine hNext.mono ?_; rintro e w' ⟨rfl, rfl⟩))
  ·
   have hLO : L ≤ O := by omega
   by_cases hEq : a + L / 4 * 2 - 1 + t = a + (O - L)
   all_goals
    go_region
    all_goals go_wp2
    go_roundw
    case rel =>
     refine ⟨t + 1, n + 4, xorNext r, swp dk (a + L / 4 * 2 - 1 + t) (a + (O - L)), by first | rfl | (congr 1 <;> omega), by omega, by rw [size_swp]; exact hsk, ?_, ?_⟩
     ·
      (try rw [hEq])
      rw [HW.out, HN.out.1]
      simp only [HG.out]
      exact step_world (Value.int .u64) w n 4 blk off dk _ _ hblk (by omega) (by omega) _ _ _
     · rw [← HR.out, bp_step a L M _ t r dk (O - L) (by omega) (by rw [← HN.out.2, if_pos (by omega)])]
    case measure => simp [intOf]; omega
  ·
   have hLO : ¬ L ≤ O := by omega
   by_cases hEq : a + L / 4 * 2 - 1 + t = a + O
   all_goals
    go_region
    all_goals go_wp2
    go_roundw
    case rel =>
     refine ⟨t + 1, n + 4, xorNext r, swp dk (a + L / 4 * 2 - 1 + t) (a + O), by first | rfl | (congr 1 <;> omega), by omega, by rw [size_swp]; exact hsk, ?_, ?_⟩
     ·
      (try rw [hEq])
      rw [HW.out, HN.out.1]
      simp only [HG.out]
      exact step_world (Value.int .u64) w n 4 blk off dk _ _ hblk (by omega) (by omega) _ _ _
     · rw [← HR.out, bp_step a L M _ t r dk O (by omega) (by rw [← HN.out.2, if_neg (by omega)])]
    case measure => simp [intOf]; omega
  ·
   obtain rfl : t = 3 := by omega
   go_end0
   exact ⟨rfl, n, _, by rw [← HR.out, HW.out]; rfl⟩
theorem breakPatterns_u64 (blk off cap a b : Nat) (d : Array Int) (w : World) (hH : Holds (Value.int .u64) w blk off d) (hblk : blk < w.heap.size) (hab : a ≤ b) (hb : b ≤ d.size) (hsz : d.size < 4611686018427387904) :
  Calls Tryz.prog 132 #[.slice (some ⟨blk, off, none⟩) d.size cap, .int .i64 a, .int .i64 b] w fun e w' =>
   e = .returned (.tuple #[]) ∧ ∃ n os, w' = grow (putRow (Value.int .u64) (Sort.ahead w n) blk off (breakPatterns d a b)) os := by
 obtain ⟨L, rfl⟩ : ∃ L, b = a + L := ⟨b - a, by omega⟩
 by_cases h8 : 8 ≤ L
 · exact breakPatterns_u64_go blk off cap a L d w hH hblk hb hsz h8
 ·
  have hv : breakPatterns d a (a + L) = d := by unfold breakPatterns; simp only [Nat.add_sub_cancel_left]; rw [if_neg h8]
  rw [hv]
  have HST : Hid (w = grow (putRow (Value.int .u64) (Sort.ahead w 0) blk off d) #[]) := by
   show _ = _
   rw [grow_empty, show Sort.ahead w 0 = w from rfl, putRow_self _ _ _ _ _ hH]
  clear hH
  go_enter Tryz.func132, Tryz.ntmps132
  go_wp2
  go_end0
  exact ⟨rfl, 0, #[], HST.out⟩
theorem reverseRange_u64 (blk off cap : Nat) (d : Array Int) (a b : Nat) (w : World) (hH : Holds encU w blk off d) (hab : a ≤ b) (hb : b ≤ d.size) (hsz : d.size < 4611686018427387904) :
  Calls Tryz.prog 134 #[.slice (some ⟨blk, off, none⟩) d.size cap, .int .i64 a, .int .i64 b] w fun e w' => e = .returned (.tuple #[]) ∧ ∃ n, w' = putRow encU (Sort.ahead w n) blk off (reverseRange d a b) := by
 go_enter Tryz.func134, Tryz.ntmps134
 go_wp2
 go_loopg [6, 7] (b - a) (fun k s6 s7 wr => ∃ (i jn : Nat) (jz : Int) (dk : Array Int) (n : Nat), s6 = .int .i64 i ∧ s7 = .int .i64 jz ∧ ((i : Int) < jz → jz = jn ∧ jn < d.size) ∧ (¬ (i : Int) < jz → ¬ i < jn) ∧ jn - i ≤ k ∧
  dk.size = d.size ∧ wr = putRow encU (Sort.ahead w n) blk off dk ∧ reverseLoop i jn dk = reverseLoop a (b - 1) d)
 case atStart => exact ⟨a, b - 1, (b : Int) - 1, d, 0, rfl, rfl, fun h => ⟨by omega, by omega⟩, fun h => by omega, by omega, rfl, (putRow_self encU w blk off d hH).symm, rfl⟩
 case round =>
  obtain ⟨i, jn, jz, dk, n, rfl, rfl, h1, h2, hk, hds, hwr, heq⟩ := hrel
  by_cases hlt : (i : Int) < jz
  ·
   obtain ⟨rfl, hjn⟩ := h1 hlt
   have hij : i < jn := by omega
   have hHk : Holds encU wr blk off dk := by rw [hwr]; exact holds_putRow encU _ blk off d dk (holds_ahead encU w n blk off d hH) hds
   obtain ⟨ci, fi⟩ := hHk i (by omega)
   obtain ⟨cj, fj⟩ := hHk jn (by omega)
   have A : Aside (wr = putRow encU (Sort.ahead w n) blk off dk) := hwr
   clear hwr hHk hH h1 h2
   go_wp2_with fail
   go_region
   go_wp2
   go_roundg (jn - 1 - (i + 1))
   case measure => omega
   case rel =>
    rw [reverseLoop, if_pos hij] at heq
    exact ⟨i + 1, jn - 1, (jn : Int) - 1, swp dk i jn, n + 1, by simp, rfl, fun h => ⟨by omega, by omega⟩, fun h => by omega, Nat.le_refl _, by rw [size_swp]; exact hds,
     swap_world encU (by omega) (by omega) A.out (by simp [encU, getElem!_pos, show jn < dk.size by omega]) rfl, heq⟩
  ·
   have hnot := h2 hlt
   go_wp2
   go_end0
   refine ⟨rfl, n, ?_⟩
   rw [reverseLoop, if_neg hnot] at heq
   rw [reverseRange, ← heq]
theorem siftDown_u64 (blk off len cap : Nat) (d : Array Int) (hlen : d.size = len) (lo hi first : Nat) (w : World) (hH : Holds encU w blk off d) (hlo : lo ≤ hi) (hb : first + hi ≤ d.size) (hsz : d.size < 4611686018427387904) :
  Calls Tryz.prog 162 #[.slice (some ⟨blk, off, none⟩) len cap, .int .i64 lo, .int .i64 hi, .int .i64 first] w fun e w' => e = .returned (.tuple #[]) ∧ ∃ n, w' = putRow encU (Sort.ahead w n) blk off (siftDown ltInt hi first lo d) := by
 subst hlen
 go_enter Tryz.func162, Tryz.ntmps162
 go_wp2
 go_loopg [8] (hi - lo) (fun k s8 wr => ∃ (root : Nat) (dk : Array Int) (n : Nat), s8 = .int .i64 root ∧ root ≤ hi ∧ hi - root ≤ k ∧ dk.size = d.size ∧ wr = putRow encU (Sort.ahead w n) blk off dk ∧ siftDown ltInt hi first root dk = siftDown ltInt hi first lo d)
 case atStart => exact ⟨lo, d, 0, rfl, hlo, Nat.le_refl _, rfl, (putRow_self encU w blk off d hH).symm, rfl⟩
 case round =>
  obtain ⟨root, dk, n, rfl, hr, hk, hds, hwr, heq⟩ := hrel
  have hHk : Holds encU wr blk off dk := by rw [hwr]; exact holds_putRow encU _ blk off d dk (holds_ahead encU w n blk off d hH) hds
  have hcw : ∀ t, t < d.size → wr.cell? ⟨blk, off + t, none⟩ = some (.int .u64 dk[t]!) := fun t ht => (hHk t (by omega)).1
  have hfw : ∀ t, t < d.size → wr.frozen? ⟨blk, off + t, none⟩ = false := fun t ht => (hHk t (by omega)).2
  have A : Aside (wr = putRow encU (Sort.ahead w n) blk off dk) := hwr
  clear hwr hH hHk
  by_cases h0 : hi ≤ 2 * root + 1
  ·
   have h0z : (hi : Int) ≤ 2 * (root : Int) + 1 := by omega
   go_wp2
   go_end0
   refine ⟨rfl, n, ?_⟩
   rw [A.out, ← heq, sd_end ltInt dk h0]
  ·
   have h0z : ¬ ((hi : Int) ≤ 2 * (root : Int) + 1) := by omega
   by_cases h1 : 2 * root + 2 < hi
   ·
    have h1z : 2 * (root : Int) + 1 + 1 < (hi : Int) := by omega
    go_wp2_with fail
    go_big_quiet (first | (go_at_call 136; refine Calls.quiet_of_same (cmp_Less_u64 _ _ _)))
    go_wp2_with fail
    ·
     have hL : ltInt dk[first + 2 * root + 1]! dk[first + 2 * root + 2]! = true := by assumption
     revert nq; intro nq1
     have hcw2 : ∀ t, t < d.size → (wr.drewN nq1).cell? ⟨blk, off + t, none⟩ = some (.int .u64 dk[t]!) := hcw
     have hfw2 : ∀ t, t < d.size → (wr.drewN nq1).frozen? ⟨blk, off + t, none⟩ = false := hfw
     have A2 : Aside (wr.drewN nq1 = putRow encU (Sort.ahead w (n + nq1)) blk off dk) := drewN_world encU A.out nq1
     clear hcw hfw A
     generalize wr.drewN nq1 = wr2 at hcw2 hfw2 A2 ⊢
     go_big_quiet (first | (go_at_call 136; refine Calls.quiet_of_same (cmp_Less_u64 _ _ _)))
     go_wp2_with fail
     ·
      have hS : ltInt dk[first + root]! dk[first + 2 * root + 2]! = false := by
       have : (!ltInt dk[first + root]! dk[first + 2 * root + 2]!) = true := by assumption
       simpa using this
      (try simp only [Exit.inBlock, Exit.then]); refine bodyPost_ret (results_none rfl _ _ _) rfl ?_
      refine ⟨rfl, n + nq1 + nq, ?_⟩
      rw [drewN_world encU A2.out nq, ← heq, sd_right_stop ltInt dk h1 hL hS]
     ·
      have hG : ltInt dk[first + root]! dk[first + 2 * root + 2]! = true := by
       have : (!ltInt dk[first + root]! dk[first + 2 * root + 2]!) = false := by assumption
       simpa using this
      have hcw3 : ∀ t, t < d.size → (wr2.drewN nq).cell? ⟨blk, off + t, none⟩ = some (.int .u64 dk[t]!) := hcw2
      have hfw3 : ∀ t, t < d.size → (wr2.drewN nq).frozen? ⟨blk, off + t, none⟩ = false := hfw2
      have A3 : Aside (wr2.drewN nq = putRow encU (Sort.ahead w (n + nq1 + nq)) blk off dk) := drewN_world encU A2.out nq
      clear hcw2 hfw2 A2
      generalize wr2.drewN nq = wr3 at hcw3 hfw3 A3 ⊢
      go_region
      go_wp2
      go_roundg (hi - (2 * root + 2))
      case measure => omega
      case rel =>
       refine ⟨2 * root + 2, swp dk (first + root) (first + (2 * root + 1 + 1)), n + nq1 + nq + 1, by simp <;> omega, by omega, Nat.le_refl _, by rw [size_swp]; exact hds, swap_world encU (by omega) (by omega) A3.out rfl rfl, ?_⟩
       rw [← heq, sd_right_go ltInt dk h1 hL hG]
    ·
     have hL : ltInt dk[first + 2 * root + 1]! dk[first + 2 * root + 2]! = false := by assumption
     revert nq; intro nq1
     have hcw2 : ∀ t, t < d.size → (wr.drewN nq1).cell? ⟨blk, off + t, none⟩ = some (.int .u64 dk[t]!) := hcw
     have hfw2 : ∀ t, t < d.size → (wr.drewN nq1).frozen? ⟨blk, off + t, none⟩ = false := hfw
     have A2 : Aside (wr.drewN nq1 = putRow encU (Sort.ahead w (n + nq1)) blk off dk) := drewN_world encU A.out nq1
     clear hcw hfw A
     generalize wr.drewN nq1 = wr2 at hcw2 hfw2 A2 ⊢
     go_big_quiet (first | (go_at_call 136; refine Calls.quiet_of_same (cmp_Less_u64 _ _ _)))
     go_wp2_with fail
     ·
      have hS : ltInt dk[first + root]! dk[first + 2 * root + 1]! = false := by
       have : (!ltInt dk[first + root]! dk[first + 2 * root + 1]!) = true := by assumption
       simpa using this
      (try simp only [Exit.inBlock, Exit.then]); refine bodyPost_ret (results_none rfl _ _ _) rfl ?_
      refine ⟨rfl, n + nq1 + nq, ?_⟩
      rw [drewN_world encU A2.out nq, ← heq, sd_left_stop ltInt dk (by omega) (fun _ => hL) hS]
     ·
      have hG : ltInt dk[first + root]! dk[first + 2 * root + 1]! = true := by
       have : (!ltInt dk[first + root]! dk[first + 2 * root + 1]!) = false := by assumption
       simpa using this
      have hcw3 : ∀ t, t < d.size → (wr2.drewN nq).cell? ⟨blk, off + t, none⟩ = some (.int .u64 dk[t]!) := hcw2
      have hfw3 : ∀ t, t < d.size → (wr2.drewN nq).frozen? ⟨blk, off + t, none⟩ = false := hfw2
      have A3 : Aside (wr2.drewN nq = putRow encU (Sort.ahead w (n + nq1 + nq)) blk off dk) := drewN_world encU A2.out nq
      clear hcw2 hfw2 A2
      generalize wr2.drewN nq = wr3 at hcw3 hfw3 A3 ⊢
      go_region
      go_wp2
      go_roundg (hi - (2 * root + 1))
      case measure => omega
      case rel =>
       refine ⟨2 * root + 1, swp dk (first + root) (first + (2 * root + 1)), n + nq1 + nq + 1, by simp <;> omega, by omega, Nat.le_refl _, by rw [size_swp]; exact hds, swap_world encU (by omega) (by omega) A3.out rfl rfl, ?_⟩
       rw [← heq, sd_left_go ltInt dk (by omega) (fun _ => hL) hG]
   ·
    have h1z : decide (2 * (root : Int) + 1 + 1 < (hi : Int)) = false := decide_eq_false (by omega)
    go_wp2_with fail
    go_big_quiet (first | (go_at_call 136; refine Calls.quiet_of_same (cmp_Less_u64 _ _ _)))
    go_wp2_with fail
    revert nq; intro nq1
    have hcw2 : ∀ t, t < d.size → (wr.drewN nq1).cell? ⟨blk, off + t, none⟩ = some (.int .u64 dk[t]!) := hcw
    have hfw2 : ∀ t, t < d.size → (wr.drewN nq1).frozen? ⟨blk, off + t, none⟩ = false := hfw
    have A2 : Aside (wr.drewN nq1 = putRow encU (Sort.ahead w (n + nq1)) blk off dk) := drewN_world encU A.out nq1
    clear hcw hfw A
    generalize wr.drewN nq1 = wr2 at hcw2 hfw2 A2 ⊢
    go_big_quiet (first | (go_at_call 136; refine Calls.quiet_of_same (cmp_Less_u64 _ _ _)))
    go_wp2_with fail
    ·
     have hS : ltInt dk[first + root]! dk[first + 2 * root + 1]! = false := by
      have : (!ltInt dk[first + root]! dk[first + 2 * root + 1]!) = true := by assumption
      simpa using this
     (try simp only [Exit.inBlock, Exit.then]); refine bodyPost_ret (results_none rfl _ _ _) rfl ?_
     refine ⟨rfl, n + nq1 + nq, ?_⟩
     rw [drewN_world encU A2.out nq, ← heq, sd_left_stop ltInt dk (by omega) (fun h => absurd h h1) hS]
    ·
     have hG : ltInt dk[first + root]! dk[first + 2 * root + 1]! = true := by
      have : (!ltInt dk[first + root]! dk[first + 2 * root + 1]!) = false := by assumption
      simpa using this
     have hcw3 : ∀ t, t < d.size → (wr2.drewN nq).cell? ⟨blk, off + t, none⟩ = some (.int .u64 dk[t]!) := hcw2
     have hfw3 : ∀ t, t < d.size → (wr2.drewN nq).frozen? ⟨blk, off + t, none⟩ = false := hfw2
     have A3 : Aside (wr2.drewN nq = putRow encU (Sort.ahead w (n + nq1 + nq)) blk off dk) := drewN_world encU A2.out nq
     clear hcw2 hfw2 A2
     generalize wr2.drewN nq = wr3 at hcw3 hfw3 A3 ⊢
     go_region
     go_wp2
     go_roundg (hi - (2 * root + 1))
     case measure => omega
     case rel =>
      refine ⟨2 * root + 1, swp dk (first + root) (first + (2 * root + 1)), n + nq1 + nq + 1, by simp <;> omega, by omega, Nat.le_refl _, by rw [size_swp]; exact hds, swap_world encU (by omega) (by omega) A3.out rfl rfl, ?_⟩
      rw [← heq, sd_left_go ltInt dk (by omega) (fun h => absurd h h1) hG]
theorem heapSort_u64 (blk off len cap : Nat) (d : Array Int) (hlen : d.size = len) (a b : Nat) (w : World) (hH : Holds encU w blk off d) (hab : a ≤ b) (hb : b ≤ d.size) (hsz : d.size < 4611686018427387904) :
  Calls Tryz.prog 131 #[.slice (some ⟨blk, off, none⟩) len cap, .int .i64 a, .int .i64 b] w fun e w' => e = .returned (.tuple #[]) ∧ ∃ n, w' = putRow encU (Sort.ahead w n) blk off (heapSort ltInt d a b) := by
 subst hlen
 have ecast : ((b - a : Nat) : Int) = (b : Int) - (a : Int) := by omega
 go_enter Tryz.func131, Tryz.ntmps131
 go_wp2
 go_loopg [9] ((b - a - 1) / 2 + 1) (fun k s9 wr => s9 = .int .i64 ((k : Int) - 1) ∧ k ≤ (b - a - 1) / 2 + 1 ∧ ∃ (dk : Array Int) (n : Nat), dk.size = d.size ∧ wr = putRow encU (Sort.ahead w n) blk off dk ∧
  heapBuild ltInt (b - a) a k dk = heapBuild ltInt (b - a) a ((b - a - 1) / 2 + 1) d)
 case atStart => exact ⟨by rw [half_start hab], Nat.le_refl _, d, 0, rfl, (putRow_self encU w blk off d hH).symm, rfl⟩
 case round =>
  obtain ⟨rfl, hkk, dk, n, hds, hwr, heq⟩ := hrel
  have hHk : Holds encU wr blk off dk := by rw [hwr]; exact holds_putRow encU _ blk off d dk (holds_ahead encU w n blk off d hH) hds
  have A : Aside (wr = putRow encU (Sort.ahead w n) blk off dk) := hwr
  clear hwr
  cases gk with
  | zero =>
   have hB : dk = heapBuild ltInt (b - a) a ((b - a - 1) / 2 + 1) d := heq
   clear heq hHk hkk
   go_wp2
   go_loopg [10] (b - a) (fun k s10 wr2 => s10 = .int .i64 ((k : Int) - 1) ∧ k ≤ b - a ∧ ∃ (dj : Array Int) (n2 : Nat), dj.size = d.size ∧ wr2 = putRow encU (Sort.ahead w n2) blk off dj ∧ heapPop ltInt a k dj = heapPop ltInt a (b - a) dk)
   case atStart => exact ⟨by rw [ecast], Nat.le_refl _, dk, n, hds, A.out, rfl⟩
   case round =>
    obtain ⟨rfl, hkk, dj, n2, hdj, hwr2, heq2⟩ := hrel
    cases gk with
    | zero =>
     go_wp2
     go_end0
     refine ⟨rfl, n2, ?_⟩
     have e : dj = heapSort ltInt d a b := by rw [heapSort, ← hB, ← heq2]; rfl
     rw [← e]
    | succ k =>
     have hHj : Holds encU wr blk off dj := by rw [hwr2]; exact holds_putRow encU _ blk off d dj (holds_ahead encU w n2 blk off d hH) hdj
     have hcw : ∀ t, t < d.size → wr.cell? ⟨blk, off + t, none⟩ = some (.int .u64 dj[t]!) := fun t ht => (hHj t (by omega)).1
     have hfw : ∀ t, t < d.size → wr.frozen? ⟨blk, off + t, none⟩ = false := fun t ht => (hHj t (by omega)).2
     have A2 : Aside (wr = putRow encU (Sort.ahead w n2) blk off dj) := hwr2
     clear hwr2 hHj
     rcases Nat.eq_zero_or_pos k with hk0 | hkp
     ·
      subst hk0
      go_wp2_with fail
      go_region
      go_wp2_with fail
      rw [swap_world encU (i := a) (j := a) (by omega) (by omega) A2.out rfl rfl]
      refine (siftDown_u64 blk off d.size cap (swp dj a (a)) (by rw [size_swp]; exact hdj) 0 0 a _ (holds_putRow encU _ blk off d _ (holds_ahead encU w (n2 + 1) blk off d hH) (by rw [size_swp]; exact hdj)) (Nat.zero_le _) (by rw [size_swp]; omega) (by rw [size_swp]; omega)).mono ?_
      rintro e w1 ⟨rfl, m, hw1⟩
      go_wp2
      go_roundg 0
      case measure => omega
      case rel =>
       refine ⟨by simp, by omega, siftDown ltInt 0 a 0 (swp dj a (a)), n2 + 1 + m, by rw [size_siftDown ltInt _ _ _ _ _ (Nat.le_refl _), size_swp]; exact hdj, ?_, heq2⟩
       first
        | rw [hw1, putRow_ahead_putRow encU w (n2 + 1) m blk off _ _ (size_siftDown ltInt _ _ _ _ _ (Nat.le_refl _))]
        | rw [putRow_ahead_putRow encU w (n2 + 1) m blk off _ _ (size_siftDown ltInt _ _ _ _ _ (Nat.le_refl _))]
     ·
      skip
      go_wp2_with fail
      go_region
      go_wp2_with fail
      rw [swap_world encU (i := a) (j := a + k) (by omega) (by omega) A2.out rfl rfl]
      refine (siftDown_u64 blk off d.size cap (swp dj a (a + k)) (by rw [size_swp]; exact hdj) 0 k a _ (holds_putRow encU _ blk off d _ (holds_ahead encU w (n2 + 1) blk off d hH) (by rw [size_swp]; exact hdj)) (Nat.zero_le _) (by rw [size_swp]; omega) (by rw [size_swp]; omega)).mono ?_
      rintro e w1 ⟨rfl, m, hw1⟩
      go_wp2
      go_roundg k
      case measure => omega
      case rel =>
       refine ⟨by simp, by omega, siftDown ltInt k a 0 (swp dj a (a + k)), n2 + 1 + m, by rw [size_siftDown ltInt _ _ _ _ _ (Nat.le_refl _), size_swp]; exact hdj, ?_, heq2⟩
       first
        | rw [hw1, putRow_ahead_putRow encU w (n2 + 1) m blk off _ _ (size_siftDown ltInt _ _ _ _ _ (Nat.le_refl _))]
        | rw [putRow_ahead_putRow encU w (n2 + 1) m blk off _ _ (size_siftDown ltInt _ _ _ _ _ (Nat.le_refl _))]
  | succ k =>
   have hcall := siftDown_u64 blk off d.size cap dk hds k (b - a) a wr hHk (by omega) (by omega) (by omega)
   rw [ecast] at hcall
   go_wp2_with (go_at_call 162; refine hcall.mono ?_; rintro e w1 ⟨rfl, m, hw1⟩)
   go_roundg k
   case measure => omega
   case rel =>
    refine ⟨by simp, by omega, siftDown ltInt (b - a) a k dk, n + m, by rw [size_siftDown ltInt _ _ _ _ _ (Nat.le_refl _)]; exact hds, ?_, heq⟩
    rw [A.out, putRow_ahead_putRow encU w n m blk off dk _ (size_siftDown ltInt _ _ _ _ _ (Nat.le_refl _))]
end Go.Proofs.YtigcbajcifhinaaGreatDoor.Sou64
