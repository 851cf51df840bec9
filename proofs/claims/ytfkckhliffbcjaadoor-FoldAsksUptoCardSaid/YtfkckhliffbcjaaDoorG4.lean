/- A list's parts: the code's walk, at any list. -/
import Derived.Test.YtfkckhliffbcjaaDoorSou64
import Derived.Test.YtfkckhliffbcjaaDoorSoR
import Derived.Test.YtfkckhliffbcjaaDoorF1
namespace Go.Proofs.YtfkckhliffbcjaaDoor.Fold
open Go.RowKit Go.Proofs.YtfkckhliffbcjaaDoorW.PrintWords
set_option linter.unusedVariables false
set_option linter.unusedSimpArgs false

theorem norm_eq (l : List Int) : Lib.compactUpTo (l.mergeSort fun x y => decide (x ≤ y)).toArray (l.mergeSort fun x y => decide (x ≤ y)).toArray.size = Plain.norm l := by
  unfold Plain.norm
  rw [List.size_toArray, List.length_mergeSort]

set_option maxRecDepth 100000 in
/-- Compact of fewer than two. -/
theorem compact_few (A : Option Addr) (n c : Nat) (w : World) (h : n < 2) : Calls Tryd.prog 39 #[.slice A n c] w fun e w' => e = .returned (.slice A n c) ∧ w' = w := by
  have h2 : (n : Int) < 2 := by omega
  go_enter Tryd.func39, Tryd.ntmps39
  go_wp2_with fail
  go_ret
  exact ⟨rfl, rfl⟩

set_option maxRecDepth 100000 in
set_option maxHeartbeats 1000000 in
/-- What is sorted, each once. -/
theorem once_any (w : World) (base : Nat) (ok : Nat → Prop) (v : Value) (l : List Int) (hR : (Kd.int .u64).R 35 w base ok v l) (hs : base ≤ w.heap.size) (hl : l.length < 4611686018427387904) :
    Calls Tryd.prog 31 #[v] w fun e w' => ∃ v', e = .returned v' ∧ (Kd.int .u64).R 35 w' base ok v' (Plain.norm l) ∧ Below base w w' := by
  by_cases h0 : l.length = 0
  · obtain ⟨A, c, rfl⟩ := Kd.R_slice hR
    have hn : l = [] := List.length_eq_zero_iff.1 h0
    subst hn
    have HR := Lib.hid hR
    clear hR
    go_enter Tryd.func31, Tryd.ntmps31
    go_wp2_with (first | (go_at_call 38; refine (Sou64.Sort_u64_nil A c _).mono ?_; rintro e w' ⟨rfl, rfl⟩) | (go_at_call 39; refine (compact_few A 0 c _ (by omega)).mono ?_; rintro e w' ⟨rfl, rfl⟩))
    go_ret
    exact ⟨_, rfl, HR.out, Below.refl _ _⟩
  · obtain ⟨g, cap, cur, rfl, hok, hb, hg, hh, hn, hm, hc, hH⟩ := SoR.open_R hR (by omega)
    have S := Sou64.slices_Sort_u64 g 0 cap l w hH hg hl
    obtain ⟨d, hd⟩ : ∃ d, (l.mergeSort fun x y => decide (x ≤ y)) = d := ⟨_, rfl⟩
    have hdl : d.length = l.length := by rw [← hd]; exact List.length_mergeSort _
    rw [hd] at S
    have N := norm_eq l
    rw [hd, List.size_toArray] at N
    have hcl : (Plain.norm l).length ≤ d.length := by rw [hdl]; exact (Plain.norm_facts l).2.2
    have C : ∀ (n : Nat) (os : Array Obj), Calls Tryd.prog 39 #[.slice (some ⟨g, 0, none⟩) l.length cap] (Sort.grow (Sort.putRow (Value.int .u64) (Sort.ahead w n) g 0 d.toArray) os) fun e w' => e = .returned (.slice (some ⟨g, 0, none⟩) (Plain.norm l).length cap) ∧ ((Kd.int .u64).R 35 w' base ok (.slice (some ⟨g, 0, none⟩) (Plain.norm l).length cap) (Plain.norm l) ∧ Below base w w') := by
      intro n os
      have hh1 := SoR.heap_put (k := .u64) g d.toArray n os hh
      have hH1 : Sort.Holds (Value.int .u64) (Sort.grow (Sort.putRow (Value.int .u64) (Sort.ahead w n) g 0 d.toArray) os) g 0 d.toArray := Sort.holds_grow _ _ _ _ _ _ (by simpa using hg) (Sort.holds_putRow _ _ _ _ l.toArray d.toArray (Sort.holds_ahead _ _ _ _ _ _ hH) (by simpa using hdl))
      have K := Tryd.slices_Compact (α := Int) (Value.int .u64) (fun _ => rfl) (.intD _ _ _) (.intD _ _ _) 0 (fun w => by kernel_rfl) g 0 cap d.toArray _ hH1 (by simp; omega) (by simp; omega)
      rw [List.size_toArray, N, hdl] at K
      refine K.mono ?_
      rintro e w' ⟨rfl, q, rfl⟩
      refine ⟨rfl, ?_, ?_⟩
      · refine SoR.compact_R (d := Plain.norm l ++ List.replicate (l.length - (Plain.norm l).length) 0) (by rw [List.length_append]; omega) (by rw [List.take_append_of_le_length (Nat.le_refl _), List.take_length]) hok hb hh1 (by rw [List.length_append, List.length_replicate]; omega) hm (by simpa [Sort.putCells] using hc) q
      · have b1 := SoR.below_put (k := .u64) (w := w) g d.toArray n os hb hs
        refine b1.trans ?_
        have b2 := SoR.below_put (k := .u64) (w := Sort.grow (Sort.putRow (Value.int .u64) (Sort.ahead w n) g 0 d.toArray) os) g (Plain.norm l ++ List.replicate (l.length - (Plain.norm l).length) 0).toArray q #[] hb (by simp; omega)
        rw [Sort.grow_empty] at b2
        exact b2
    have HS := Lib.hid S
    have HC := Lib.hid C
    clear S C hR hH hh hd N hcl hdl hok hb hg hn hm hc hs h0 hl
    go_enter Tryd.func31, Tryd.ntmps31
    go_wp2_with (first | (go_at_call 38; refine HS.out.mono ?_; rintro e w' ⟨rfl, n, os, rfl⟩) | (go_at_call 39; refine (HC.out _ _).mono ?_; rintro e w' ⟨rfl, hpost⟩; have HP := Lib.hid hpost; clear hpost))
    go_ret
    exact ⟨_, rfl, HP.out⟩

/-- A letter as a part of a number. -/
def digF (c : Int) : Int := if Lib.validRune c = true then c else 65533
theorem digF_range (c : Int) : 0 ≤ digF c ∧ digF c < 2097152 := by
  unfold digF
  by_cases h : Lib.validRune c = true
  · rw [if_pos h]
    have := of_decide_eq_true h
    omega
  · rw [if_neg h]
    omega

set_option maxRecDepth 100000 in
set_option maxHeartbeats 1000000 in
theorem digit_any (c : Int) (w : World) : Calls Tryd.prog 30 #[.int .i32 c] w fun e w' => e = .returned (.int .u64 (digF c)) ∧ w' = w := by
  have V := Tryd.utf8_ValidRune c w
  unfold digF
  cases hv : Lib.validRune c with
  | true =>
    have hw : IntKind.u64.wrap c = c := by
      have := of_decide_eq_true hv
      simp only [IntKind.wrap, IntKind.bits, IntKind.signed]
      simp
      omega
    rw [hv] at V
    have HV := Lib.hid V
    have HW := Lib.hid hw
    clear V hv hw
    go_enter Tryd.func30, Tryd.ntmps30
    go_wp2_with (first | (go_at_call 37; refine HV.out.mono ?_; rintro e w' ⟨rfl, rfl⟩))
    go_ret
    exact ⟨by simp [HW.out], rfl⟩
  | false =>
    rw [hv] at V
    have HV := Lib.hid V
    clear V hv
    go_enter Tryd.func30, Tryd.ntmps30
    go_wp2_with (first | (go_at_call 37; refine HV.out.mono ?_; rintro e w' ⟨rfl, rfl⟩))
    go_ret
    exact ⟨by simp [IntKind.wrap, IntKind.bits, IntKind.signed], rfl⟩

/-- The number behind one letter more. -/
def stepN (n c : Int) : Int := n % 4398046511104 * 2097152 + digF c
/-- The number behind k letters. -/
def nAt (l : List Int) (k : Nat) : Int := (l.take k).foldl stepN 0
/-- The parts that k letters end. -/
def outF (l : List Int) : Nat → List Int
  | 0 => []
  | k + 1 => outF l k ++ (if 2 ≤ k then [nAt l (k + 1)] else [])

theorem outF_length (l : List Int) : ∀ k, (outF l k).length ≤ k
  | 0 => Nat.le_refl _
  | k + 1 => by
    have := outF_length l k
    unfold outF
    rw [List.length_append]
    split <;> simp <;> omega

theorem nAt_range (l : List Int) : ∀ k, 0 ≤ nAt l k ∧ nAt l k < 9223372036854775808
  | 0 => by simp [nAt]
  | k + 1 => by
    unfold nAt
    by_cases h : k < l.length
    · rw [List.take_succ_eq_append_getElem h, List.foldl_append]
      simp only [List.foldl_cons, List.foldl_nil, stepN]
      have := digF_range l[k]
      omega
    · rw [List.take_of_length_le (by omega), ← List.take_of_length_le (show l.length ≤ k by omega)]
      exact nAt_range l k
theorem nAt_succ (l : List Int) (k : Nat) (h : k < l.length) : nAt l (k + 1) = stepN (nAt l k) (rd l (k : Int)) := by
  unfold nAt
  rw [List.take_succ_eq_append_getElem h, List.foldl_append]
  simp [rd, List.getD_eq_getElem?_getD, h]

theorem wrap_u64 (n : Int) : IntKind.u64.wrap n = n % 18446744073709551616 := by simp [IntKind.wrap, IntKind.bits, IntKind.signed]
theorem wraps_u64 (n : Int) (h₀ : 0 ≤ n) (h₁ : n < 2 ^ 64) : IntKind.u64.wrap n = n := by rw [wrap_u64]; omega

/-- The shift, the mask, the letter. -/
theorem bits_step (n c : Int) (h0 : 0 ≤ n) (h1 : n < 9223372036854775808) : bits .or .u64 (bits .and .u64 (IntKind.u64.wrap (n * 2097152)) 9223372036854775807) (digF c) = stepN n c := by
  have hc := digF_range c
  unfold stepN
  revert hc
  generalize digF c = x
  intro hc
  have e1 : bits .and .u64 (IntKind.u64.wrap (n * 2097152)) 9223372036854775807 = n % 4398046511104 * 2097152 := by
    have h := bits_mask .u64 64 (by decide) wraps_u64 63 (by decide) (IntKind.u64.wrap (n * 2097152)) (by rw [wrap_u64]; omega) (by rw [wrap_u64]; omega)
    have p : (2 : Int) ^ 63 = 9223372036854775808 := by decide
    rw [p] at h
    refine (show bits .and .u64 (IntKind.u64.wrap (n * 2097152)) 9223372036854775807 = _ from h).trans ?_
    rw [wrap_u64]
    omega
  rw [e1]
  have p21 : (2 : Int) ^ 21 = 2097152 := by decide
  have p64 : (2 : Int) ^ 64 = 18446744073709551616 := by decide
  exact bits_join .u64 64 (by decide) wraps_u64 21 _ x (by omega) (by rw [p21]; omega) (by rw [p64]; omega) hc.1 (by rw [p21]; omega) (by rw [p64]; omega)

set_option maxRecDepth 100000 in
set_option maxHeartbeats 2000000 in
/-- The parts of any list. -/
theorem Parts_any (A0 : Option Addr) (c0 : Nat) (l : List Int) (w : World) (hr0 : Kd.C (Kd.int .i32) w A0 l.length l) (hc0 : l.length ≤ c0) (hl : l.length ≤ 17592186044416) :
    Calls Tryd.prog 17 #[.slice A0 l.length c0] w fun e w' => ∃ v, e = .returned v ∧ Kd.R (Kd.int .u64) 35 w' w.heap.size (fun _ => True) v (Plain.norm (outF l l.length)) ∧ Below w.heap.size w w' := by
  have HR0 := Lib.hid hr0
  have HL := Lib.hid hl
  clear hr0 hc0 hl
  go_enter Tryd.func17, Tryd.ntmps17
  go_wp2
  go_loopw [3, 4, 9] (fun v vn vi wr => ∃ k : Nat, k ≤ l.length ∧ vn = .int .u64 (nAt l k) ∧ vi = .int .i64 k ∧ Hid ((Kd.int .u64).R 35 wr w.heap.size (fun _ => True) v (outF l k)) ∧ Hid (Below w.heap.size w wr)) (fun _ _ vi _ => l.length - (intOf vi).toNat)
  case atStart => exact ⟨0, by omega, rfl, rfl, Lib.hid (Kd.R_nil _ _ _ _ _), Lib.hid (Below.refl _ _)⟩
  case round =>
    obtain ⟨k, hk, rfl, rfl, HO, HB⟩ := hrel
    by_cases k5 : k = l.length
    · subst k5
      have hsz : w.heap.size ≤ wr.heap.size := HB.out.size
      have OC := Lib.hid (once_any wr w.heap.size (fun _ => True) u3 (outF l l.length) HO.out hsz (by have := outF_length l l.length; have := HL.out; omega))
      clear hsz
      go_wp2_with (first | (go_at_call 31; refine OC.out.mono ?_; rintro e w' ⟨v', rfl, hp1, hp2⟩; have HP1 := Lib.hid hp1; have HP2 := Lib.hid hp2; clear hp1 hp2))
      go_ret
      exact ⟨_, rfl, HP1.out, HB.out.trans HP2.out⟩
    · obtain ⟨c, hc⟩ : ∃ c, rd l (k : Int) = c := ⟨_, rfl⟩
      obtain ⟨ad, e, hx⟩ := Kd.at_int HR0.out (k : Int) (by omega) (by omega)
      cases e
      replace hx := (HB.out.cell (World.block_lt_of_cell? w _ hx)).trans hx
      rw [hc, Int.toNat_natCast] at hx
      obtain ⟨n, hn⟩ : ∃ n, nAt l k = n := ⟨_, rfl⟩
      obtain ⟨y, hy⟩ : ∃ y, nAt l (k + 1) = y := ⟨_, rfl⟩
      have hnr := nAt_range l k
      rw [hn] at hnr
      obtain ⟨x, hdx⟩ : ∃ x, digF c = x := ⟨_, rfl⟩
      have bx : bits .or .u64 (bits .and .u64 (IntKind.u64.wrap (n * 2097152)) 9223372036854775807) x = y := by
        rw [← hdx, bits_step n c hnr.1 hnr.2, ← hy, nAt_succ l k (by omega), hn, hc]
      have DG := Lib.hid (fun W => digit_any c W)
      rw [hdx] at DG
      rw [hn]
      have HN := Lib.hid hn
      have HY := Lib.hid hy
      have HC := Lib.hid hc
      have K5 := Lib.hid k5
      have HK := Lib.hid hk
      have e1 : (k : Int) < (l.length : Int) := by omega
      have hk64 : (k : Int) ≤ 17592186044416 := by have := HL.out; omega
      clear hc k5 hk hn hy hdx hnr
      by_cases h2 : (2 : Int) ≤ (k : Int)
      · have HK2 := Lib.hid h2
        have e2 : decide ((2 : Int) ≤ (k : Int)) = true := decide_eq_true h2
        clear h2
        go_wp2_with (first | (go_at_call 30; refine (DG.out _).mono ?_; rintro e w' ⟨rfl, rfl⟩) | ((with_reducible refine gate_builtin (b := .append) (xs := #[.tmp 22, .tmp 24]) rfl ?_); (go_loud (at_builtin; refine Kd.R_append (Kd.int .u64) (w0 := w) w.heap.size rfl (.tmp 22) (.tmp 24) 30 35 (.int .u64 0) 8 rfl Tryd.underlying30 X.info35 rfl (by decide) (by omega) u3 (outF l k) y [.int .u64 y] (fun _ => True) (fun _ => False) rfl rfl ?aP (fun _ hk => hk.elim) ?aF ?aO ?aB ?aS ?aL ?_; (case aP => exact rfl); (case aB => exact HB.out); (case aF => exact (fun _ _ => trivial)); (case aO => exact HO.out); (case aS => exact below_size HB.out); (case aL => exact (by have h1 := HK.out; have h2 := HL.out; have h3 := outF_length l k; omega)); intro v1 w1 ho hb hg hat))))
        go_roundw
        case measure =>
          have h1 := HK.out
          have h2 := K5.out
          simp [intOf]
          omega
        case rel =>
          have h1 := HK.out
          have h2 := K5.out
          have h3 := HK2.out
          refine ⟨k + 1, by omega, by rw [HY.out], by go_num, Lib.hid ?_, Lib.hid hb⟩
          have h4 : outF l (k + 1) = outF l k ++ [y] := by
            show outF l k ++ (if 2 ≤ k then [nAt l (k + 1)] else []) = _
            rw [if_pos (by omega), HY.out]
          rw [h4]
          exact ho
      · have HK2 := Lib.hid h2
        have e2 : decide ((2 : Int) ≤ (k : Int)) = false := decide_eq_false h2
        clear h2
        go_wp2_with (first | (go_at_call 30; refine (DG.out _).mono ?_; rintro e w' ⟨rfl, rfl⟩))
        go_roundw
        case measure =>
          have h1 := HK.out
          have h2 := K5.out
          simp [intOf]
          omega
        case rel =>
          have h1 := HK.out
          have h2 := K5.out
          have h3 := HK2.out
          refine ⟨k + 1, by omega, by rw [HY.out], by go_num, Lib.hid ?_, HB⟩
          have h4 : outF l (k + 1) = outF l k := by
            show outF l k ++ (if 2 ≤ k then [nAt l (k + 1)] else []) = _
            rw [if_neg (by omega), List.append_nil]
          rw [h4]
          exact HO.out
end Go.Proofs.YtfkckhliffbcjaaDoor.Fold
