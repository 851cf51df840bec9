/- Sizes are settled: the code's walk. -/
import Derived.Test.YtfkckhliffbcjaaQ2
import Derived.ScopeJumps
import Derived.WalkMore
import Derived.WalkSpells
import Derived.Deep.DeepFit
namespace Go.Proofs.Ytfkckhliffbcjaa.Tier
open Go.RowKit Go.Proofs.YtfkckhliffbcjaaW.PrintWords

theorem Clone_calls (A : Option Addr) (c : Nat) (l : List Int) (w : World) (hr : (Kd.int .i64).C w A l.length l) (hn : l.length ≤ 256) :
    Calls Try.prog 19 #[.slice A l.length c] w fun e w' => ∃ v, e = .returned v ∧ w'.ownsRow w.heap.size 3 1 v l.length (nums .i64 l) ∧ Below w.heap.size w w' := by
  cases A with
  | none =>
    have hl : l = [] := by
      cases l with
      | nil => rfl
      | cons x l =>
        obtain ⟨ad, h, _⟩ := Kd.at_int hr 0 (by omega) (by simp)
        cases h
    subst hl
    refine (Try.slices_Clone_int_nil 0 c w).mono ?_
    rintro e w' ⟨rfl, rfl⟩
    exact ⟨_, rfl, own_nil _ _ _ _, Below.refl _ _⟩
  | some ad =>
    by_cases hl : l.length = 0
    · have hl' : l = [] := List.eq_nil_of_length_eq_zero hl
      subst hl'
      refine (Try.slices_Clone_int_zero ad c w).mono ?_
      rintro e w' ⟨v, rfl, ho, _, hb⟩
      exact ⟨v, rfl, ho, hb⟩
    · have hall : ∀ j, j < l.length → w.cell? (ad.add j) = some (.int .i64 (l.getD j 0)) := by
        intro j hj
        obtain ⟨ad', e, h⟩ := Kd.at_int hr (j : Int) (by omega) (by omega)
        cases e
        rw [Int.toNat_natCast] at h
        rw [h]
        simp [rd]
      obtain ⟨b, off, sub⟩ := ad
      cases sub with
      | some s =>
        have h0 := hall 0 (by omega)
        exfalso
        simp only [World.cell?, Addr.add, if_true] at h0
        cases hh : w.heap[b]? with
        | none => rw [hh] at h0; cases h0
        | some o => rw [hh] at h0; cases o <;> simp at h0
      | none =>
        have hc : ∀ j, j < l.length → w.cell? ⟨b, off + j, none⟩ = some (.int .i64 (l.getD j 0)) := by
          intro j hj
          have h := hall j hj
          have e : (⟨b, off, none⟩ : Addr).add j = ⟨b, off + j, none⟩ := by unfold Addr.add; split <;> simp_all
          rwa [e] at h
        refine (Try.slices_Clone_int b off l.length c l w (Nat.le_refl _) (by omega) hc).mono ?_
        rintro e w' ⟨v, rfl, ho, _, hb⟩
        rw [List.take_of_length_le (Nat.le_refl _)] at ho
        exact ⟨v, rfl, ho, hb⟩

set_option maxHeartbeats 4000000 in
set_option maxRecDepth 100000 in
theorem Settle_walk (A : Option Addr) (c : Nat) (l : List Int) (f : Nat) (w : World) (hr : (Kd.int .i64).C w A l.length l) (h2 : 2 ≤ f) (h16 : f ≤ 16) (hn : l.length ≤ 256) (hg : Good l) (hc : checkE l f = 0) :
    Calls Try.prog 7 #[.slice A l.length c, .int .i64 (f : Int)] w fun e w' => ∃ v : Value, e = .returned (.tuple #[v, .int .i64 ((settleF f l.length l 0).2 : Nat), .int .i64 0]) ∧ (Kd.int .i64).R 3 w' w.heap.size (fun _ => True) v (settleF f l.length l 0).1 ∧ Below w.heap.size w w' := by
  have HR := Lib.hid hr
  have HC := Lib.hid hc
  have HG := Lib.hid hg
  clear hr hc hg
  go_enter Try.func7, Try.ntmps7
  go_wp2
  refine wp_scope_jumps 0 (fun a' wr => ∃ (cur : List Int) (k n : Nat) (A8 : Option Addr) (c8 : Nat) (u7 u10 u11 u12 u13 u14 u15 u16 u17 u18 u19 u20 u21 u22 u23 u24 u25 u26 u27 u28 u29 u30 : Value), a' = { tmps := #[.slice A l.length c, .int .i64 (f : Int), undef, undef, .slice none 0 0, .int .i64 0, .int .i64 0, u7, .slice A8 cur.length c8, .int .i64 (n : Int), u10, u11, u12, u13, u14, u15, u16, u17, u18, u19, u20, u21, u22, u23, u24, u25, u26, u27, u28, u29, u30], defers := [] } ∧
      Hid (Good cur) ∧ cur.length ≤ 256 ∧ cur.length ≤ k ∧ n + k ≤ 256 ∧ Hid (settleF f l.length l 0 = settleF f k cur n) ∧ Hid (wr.ownsRow w.heap.size 3 1 (.slice A8 cur.length c8) cur.length (nums .i64 cur)) ∧ Hid (Below w.heap.size w wr)) (fun a' _ => match a'.tmps.getD 8 undef with | .slice _ n _ => n | _ => 0) rfl ?first ?pass
  case first =>
    go_wp2_with (first | (go_at_call 15; refine (check_calls _ _ _ _ _ HR.out).mono ?_; rintro e w' ⟨rfl, rfl⟩; rw [HC.out]) | (go_at_call 19; refine (Clone_calls _ _ _ _ HR.out hn).mono ?_; rintro e w1 ⟨v, rfl, ho, hb⟩))
    obtain ⟨A8, c8, rfl⟩ := own_slice ho
    go_step3
    have hC : (Kd.int .i64).C w1 A8 l.length l := by
      obtain ⟨A', c', e, h⟩ := own_reads ho
      cases e
      exact Kd.C_of_reads (d := (0 : Int)) (h1 := fun _ => rfl) h
    have hpk := pick_calls sort_said A8 c8 l f w1 hC h2 h16 hn (fun x hx => by have := sum_pos_le l HG.out.pos x hx; have := HG.out.sum; omega)
    have hpr := pick_rises f l hn h2
    have HO := Lib.hid ho
    have HB := Lib.hid hb
    clear ho hb
    by_cases hp : pickF l f = []
    · have hfin : settleF f l.length l 0 = (l, 0) := by
        cases l.length with
        | zero => rfl
        | succ k => unfold settleF; rw [if_pos hp]
      have HFIN := Lib.hid hfin
      rw [hp] at hpk
      have HP := Lib.hid hpk
      clear hpk hfin hpr hC hp
      go_wp2_with fail
      refine HP.out.mono ?_
      rintro e w2 ⟨v, rfl, hR, hB, hnil⟩
      obtain rfl := hnil (by first | rfl | trivial)
      clear hnil hR
      have hne := fun W => run_neq_slice_nil (P := Try.prog) W 22 3 none 0 0 Try.underlying22
      go_wp2
      simp only [Exit.jump]
      go_ret3
      refine ⟨.slice A8 l.length c8, by simp [HFIN.out], ?_, below_then HB.out HB.out.size hB⟩
      rw [HFIN.out]
      exact Kd.R_of_own (enc := Value.int .i64) (pw_own_below HO.out hB) (fun _ _ => trivial)
    · obtain ⟨hri, hpl⟩ := hpr hp
      have hgs := stepF_good l (pickF l f) HG.out hri
      have hfin : settleF f l.length l 0 = settleF f (l.length - 1) (stepF l (pickF l f)) 1 := by
        obtain ⟨k, hk⟩ : ∃ k, l.length = k + 1 := ⟨l.length - 1, by omega⟩
        rw [hk]
        conv => lhs; unfold settleF; rw [if_neg hp]
        rfl
      have HFIN := Lib.hid hfin
      have HGS := Lib.hid hgs
      have HRI := Lib.hid hri
      have HP := Lib.hid hpk
      generalize pickF l f = pp at *
      clear hpk hfin hpr hC hp hgs hri
      go_wp2_with fail
      refine HP.out.mono ?_
      rintro e w2 ⟨v, rfl, hR, hB, _⟩
      have hop := Kd.own_of_R hR
      obtain ⟨gp, cp, rfl, hgp1, hgp2⟩ := hop.form (by omega)
      have hl3 := HGS.out.2.2
      obtain ⟨g, cg, e8, hg1, hg2⟩ := HO.out.form (by omega)
      cases e8
      have ho2 := pw_own_below HO.out hB
      have hbs := HB.out.size
      have hst := callsIn_wide.1 (step_in 5 (by omega) w.heap.size g c8 gp cp l pp w2 ho2 (own_weaken hop (by omega)) (by omega) (by omega) hn HRI.out.zero HRI.out.rest)
      rw [hpl] at hst
      have HST := Lib.hid hst
      have HB2 := Lib.hid hB
      clear hst ho2 hop hR hB HP
      have hne := fun W => run_neq_slice_nil (P := Try.prog) W 22 3 (some ⟨gp, 0, none⟩) pp.length cp Try.underlying22
      go_wp2_with fail
      refine HST.out.mono ?_
      rintro e w3 ⟨rfl, hr3, hg3⟩
      go_wp2
      go_step3
      have hgood2 := HGS.out
      have hlen2 : (stepF l pp).length < l.length := by omega
      refine ⟨rfl, stepF l pp, l.length - 1, 1, some ⟨g, 0, none⟩, c8, _, _, _, _, _, _, _, _, _, _, _, _, _, _, _, _, _, _, _, _, _, _, rfl, Lib.hid hgood2.1, by omega, by omega, by omega, Lib.hid HFIN.out, Lib.hid hr3, Lib.hid ?_⟩
      exact (below_then HB.out HB.out.size HB2.out).grown hg3 (Nat.le_trans HB.out.size HB2.out.size) (fun q hq => by cases hq; omega)
  case pass =>
    rintro a' wr ⟨cur, k, n, A8, c8, u7, u10, u11, u12, u13, u14, u15, u16, u17, u18, u19, u20, u21, u22, u23, u24, u25, u26, u27, u28, u29, u30, rfl, hgood, hlen, hk, hnk, hset, ho, hb⟩
    have hC : (Kd.int .i64).C wr A8 cur.length cur := by
      obtain ⟨A', c', e, h⟩ := own_reads ho.out
      cases e
      exact Kd.C_of_reads (d := (0 : Int)) (h1 := fun _ => rfl) h
    have hpk := pick_calls sort_said A8 c8 cur f wr hC h2 h16 hlen (fun x hx => by have := sum_pos_le cur hgood.out.pos x hx; have := hgood.out.sum; omega)
    have hpr := pick_rises f cur hlen h2
    by_cases hp : pickF cur f = []
    · have hfin : settleF f k cur n = (cur, n) := by
        cases k with
        | zero => rfl
        | succ k => unfold settleF; rw [if_pos hp]
      have HFIN := Lib.hid hfin
      rw [hp] at hpk
      have HP := Lib.hid hpk
      clear hpk hfin hpr hC hp
      go_wp2_with fail
      refine HP.out.mono ?_
      rintro e w2 ⟨v, rfl, hR, hB, hnil⟩
      obtain rfl := hnil (by first | rfl | trivial)
      clear hnil hR
      have hne := fun W => run_neq_slice_nil (P := Try.prog) W 22 3 none 0 0 Try.underlying22
      go_wp2
      simp only [Exit.jump]
      go_ret3
      refine ⟨.slice A8 cur.length c8, by simp [hset.out, HFIN.out], ?_, below_then hb.out hb.out.size hB⟩
      rw [hset.out, HFIN.out]
      exact Kd.R_of_own (enc := Value.int .i64) (pw_own_below ho.out hB) (fun _ _ => trivial)
    · obtain ⟨hri, hpl⟩ := hpr hp
      have hgs := stepF_good cur (pickF cur f) hgood.out hri
      have hk0 : k ≠ 0 := by
        rintro rfl
        have : cur.length = 0 := by omega
        omega
      obtain ⟨k, rfl⟩ : ∃ m, k = m + 1 := ⟨k - 1, by omega⟩
      have hfin : settleF f (k + 1) cur n = settleF f k (stepF cur (pickF cur f)) (n + 1) := by conv => lhs; unfold settleF; rw [if_neg hp]
      have HFIN := Lib.hid hfin
      have HGS := Lib.hid hgs
      have HRI := Lib.hid hri
      have HP := Lib.hid hpk
      generalize pickF cur f = pp at *
      clear hpk hfin hpr hC hp hgs hri
      go_wp2_with fail
      refine HP.out.mono ?_
      rintro e w2 ⟨v, rfl, hR, hB, _⟩
      have hop := Kd.own_of_R hR
      obtain ⟨gp, cp, rfl, hgp1, hgp2⟩ := hop.form (by omega)
      have hl3 := HGS.out.2.2
      obtain ⟨g, cg, e8, hg1, hg2⟩ := ho.out.form (by omega)
      cases e8
      have ho2 := pw_own_below ho.out hB
      have hbs := hb.out.size
      have hst := callsIn_wide.1 (step_in 5 (by omega) w.heap.size g c8 gp cp cur pp w2 ho2 (own_weaken hop (by omega)) (by omega) (by omega) hlen HRI.out.zero HRI.out.rest)
      rw [hpl] at hst
      have HST := Lib.hid hst
      have HB2 := Lib.hid hB
      clear hst ho2 hop hR hB HP
      have hne := fun W => run_neq_slice_nil (P := Try.prog) W 22 3 (some ⟨gp, 0, none⟩) pp.length cp Try.underlying22
      go_wp2_with fail
      refine HST.out.mono ?_
      rintro e w3 ⟨rfl, hr3, hg3⟩
      go_wp2
      go_step3
      have hgood2 := HGS.out
      have hlen2 : (stepF cur pp).length < cur.length := by omega
      rw [show ((n : Int) + 1) = ((n + 1 : Nat) : Int) from by omega]
      refine ⟨rfl, ⟨stepF cur pp, k, n + 1, some ⟨g, 0, none⟩, c8, _, _, _, _, _, _, _, _, _, _, _, _, _, _, _, _, _, _, _, _, _, _, rfl, Lib.hid hgood2.1, by omega, by omega, by omega, Lib.hid (by rw [hset.out, HFIN.out]), Lib.hid hr3, Lib.hid ?_⟩, ?_⟩
      · exact (below_then hb.out hb.out.size HB2.out).grown hg3 (Nat.le_trans hb.out.size HB2.out.size) (fun q hq => by cases hq; omega)
      · simp [Array.getD]
        omega
end Go.Proofs.Ytfkckhliffbcjaa.Tier
