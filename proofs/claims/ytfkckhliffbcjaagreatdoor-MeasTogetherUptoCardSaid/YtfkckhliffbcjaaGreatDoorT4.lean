/- What is picked of sizes: the code's walk. -/
import Derived.Test.YtfkckhliffbcjaaGreatDoorT0
import Derived.Test.YtfkckhliffbcjaaGreatDoorT3
import Derived.Deep.LoopGhost
import Derived.Deep.DeepCutAuto
import Derived.Laws.MakeOwn
import Derived.IntWalk
namespace Go.Proofs.YtfkckhliffbcjaaGreatDoor.Tier
open Go.RowKit Go.Proofs.YtfkckhliffbcjaaGreatDoorW.PrintWords

section
variable {P : Program} {w : World} {a : Addr} {m : Mode}
theorem run_store_complex (k : FloatKind) (x y : Nat) : (store a (.complex k x y) m).run P w = stored P w a (.complex k x y) m := run_store P w a _ m rfl
end
attribute [local go_sem] run_store_complex

def markM (fan s : Int) (i : Nat) : Mk := (Fin.ofNat 256 (tierF fan 63 s), Fin.ofNat 256 i)
def marksL (fan : Int) (l : List Int) : List Mk := l.mapIdx fun i s => markM fan s i
def zeroC : Value := .complex .f64 0 0
def rowK (fan : Int) (l : List Int) (k : Nat) : List Value := ((marksL fan l).take k).map encC ++ List.replicate (l.length - k) zeroC

theorem marksL_length (fan : Int) (l : List Int) : (marksL fan l).length = l.length := by simp [marksL]
theorem rowK_length (fan : Int) (l : List Int) (k : Nat) (h : k ≤ l.length) : (rowK fan l k).length = l.length := by
  simp [rowK, marksL_length]; omega
theorem encC_mark (fan s : Int) (i : Nat) (hi : i < 256) : encC (markM fan s i) = .complex .f64 (fl (tierF fan 63 s)) (fl i) := by
  have := tierF_le fan 63 s
  simp only [encC, markM, Fin.ofNat]
  rw [Nat.mod_eq_of_lt (by omega), Nat.mod_eq_of_lt hi]
theorem rowK_set (fan : Int) (l : List Int) (k : Nat) (h : k < l.length) : (rowK fan l k).set k (encC (markM fan (rd l k) k)) = rowK fan l (k + 1) := by
  have hm : k < (marksL fan l).length := by rw [marksL_length]; exact h
  have hg : (marksL fan l)[k] = markM fan (rd l k) k := by
    simp [marksL, rd, List.getD_eq_getElem?_getD, List.getElem?_eq_getElem h]
  unfold rowK
  rw [List.set_append_right _ _ (by simp; omega)]
  rw [List.take_succ_eq_append_getElem hm, hg, List.map_append]
  have hl : (((marksL fan l).take k).map encC).length = k := by simp; omega
  rw [hl, Nat.sub_self, show l.length - k = (l.length - (k + 1)) + 1 from by omega, List.replicate_succ, List.set_cons_zero]
  simp


/-- A cell of a row of the call's own, and that it isn't frozen. -/
theorem owns_cell {w : World} {base g n cap : Nat} {e : TypeId} {xs : List Value} (h : w.ownsRow base e 1 (.slice (some ⟨g, 0, none⟩) n cap) n xs) (i : Nat) (v : Value) (hi : xs[i]? = some v) :
    w.cell? ⟨g, i, none⟩ = some v ∧ w.frozen? ⟨g, i, none⟩ = false := by
  constructor
  · have hc := h.cells (g := g) rfl i v hi
    rwa [add_plain] at hc
  · rcases h.2 with ⟨h', _⟩ | ⟨g', cap', cur, h', _, hh, _⟩
    · cases h'
    · have : g = g' := by injection h' with h'; injection h' with h'; injection h' with h'
      subst this
      simp [World.frozen?, hh]

/-- Marks in order: by tier, then by place. -/
def leM (x y : Mk) : Bool := decide (x.1.val < y.1.val ∨ (x.1.val = y.1.val ∧ x.2.val ≤ y.2.val))
def sortM (d : List Mk) : List Mk := d.mergeSort leM
theorem sortM_length (d : List Mk) : (sortM d).length = d.length := List.length_mergeSort d

/-- What the library's sort does to marks. -/
def SortSaid : Prop := ∀ (W : World) (base blk cap : Nat) (d : List Mk), W.ownsRow base 70 1 (.slice (some ⟨blk, 0, none⟩) d.length cap) d.length (d.map encC) → d.length ≤ 256 →
  Calls Tryz.prog 109 #[.slice (some ⟨blk, 0, none⟩) d.length cap, .func (.func 110) #[] #[]] W fun e w' => e = .returned (.tuple #[]) ∧ w'.ownsRow base 70 1 (.slice (some ⟨blk, 0, none⟩) d.length cap) d.length ((sortM d).map encC) ∧ W.grownBy w' (some blk)

/-- A mark's tier, and its place, by where it stands. -/
def tAt (S : List Mk) (i : Nat) : Nat := (S.getD i default).1.val
def pAt (S : List Mk) (i : Nat) : Nat := (S.getD i default).2.val
theorem tAt_lt (S : List Mk) (i : Nat) : tAt S i < 256 := (S.getD i default).1.isLt
theorem pAt_lt (S : List Mk) (i : Nat) : pAt S i < 256 := (S.getD i default).2.isLt
theorem cell_at (S : List Mk) (i : Nat) (hi : i < S.length) : (S.map encC)[i]? = some (.complex .f64 (fl (tAt S i)) (fl (pAt S i))) := by
  simp [List.getElem?_eq_getElem hi, encC, tAt, pAt, List.getD_eq_getElem?_getD]

/-- What is picked of marks that rise, from place i on. -/
def scanF (S : List Mk) (fan : Nat) : Nat → Nat → List Int
  | 0, _ => []
  | k + 1, i => if i + fan ≤ S.length then (if tAt S i ≠ tAt S (i + fan - 1) ∨ (0 < i ∧ tAt S (i - 1) = tAt S i) then scanF S fan k (i + 1) else (List.range fan).map fun j => ((pAt S (i + j) : Nat) : Int)) else []
def pickF (l : List Int) (fan : Int) : List Int := scanF (sortM (marksL fan l)) fan.toNat (l.length + 1) 0

/-- The places of a run, j of them told. -/
def rowP (S : List Mk) (i f j : Nat) : List Int := ((List.range j).map fun d => ((pAt S (i + d) : Nat) : Int)) ++ List.replicate (f - j) 0
theorem rowP_length (S : List Mk) (i f j : Nat) (h : j ≤ f) : (rowP S i f j).length = f := by simp [rowP]; omega
theorem rowP_set (S : List Mk) (i f j : Nat) (h : j < f) : (rowP S i f j).set j ((pAt S (i + j) : Nat) : Int) = rowP S i f (j + 1) := by
  unfold rowP
  rw [List.set_append_right _ _ (by simp), List.range_succ, List.map_append]
  simp only [List.length_map, List.length_range, Nat.sub_self]
  rw [show f - j = (f - (j + 1)) + 1 from by omega, List.replicate_succ, List.set_cons_zero]
  simp
theorem rowP_full (S : List Mk) (i f : Nat) : rowP S i f f = (List.range f).map fun d => ((pAt S (i + d) : Nat) : Int) := by simp [rowP]
theorem order_eq_iff (a b : Nat) (ha : a < 256) (hb : b < 256) : (FloatKind.f64.format.order (fl a) (fl b) == some .eq) = decide (a = b) ∧ (FloatKind.f64.format.order (fl a) (fl b) != some .eq) = !decide (a = b) := by
  rw [order_fl a b ha hb]
  rcases Nat.lt_trichotomy a b with h | h | h
  · rw [show compare a b = .lt from Nat.compare_eq_lt.2 h, decide_eq_false (by omega)]; exact ⟨rfl, rfl⟩
  · rw [show compare a b = .eq from Nat.compare_eq_eq.2 h, decide_eq_true h]; exact ⟨rfl, rfl⟩
  · rw [show compare a b = .gt from Nat.compare_eq_gt.2 h, decide_eq_false (by omega)]; exact ⟨rfl, rfl⟩

set_option maxHeartbeats 4000000 in
set_option maxRecDepth 100000 in
theorem pick_calls (hsort : SortSaid) (A : Option Addr) (c : Nat) (l : List Int) (f : Nat) (w : World) (hr : (Kd.int .i64).C w A l.length l) (h2 : 2 ≤ f) (h16 : f ≤ 16) (hn : l.length ≤ 256) (hs : ∀ x ∈ l, x < 2 ^ 63) :
    Calls Tryz.prog 63 #[.slice A l.length c, .int .i64 (f : Int)] w fun e w' => ∃ v : Value, e = .returned v ∧ (Kd.int .i64).R 3 w' w.heap.size (fun _ => True) v (pickF l f) ∧ Below w.heap.size w w' ∧ (pickF l f = [] → v = .slice none 0 0) := by
  have HR := Lib.hid hr
  have HS := Lib.hid hs
  clear hr hs
  have hmk := fun W : World => run_make_row' (P := Tryz.prog) 177 70 zeroC 16 Tryz.underlying177 (by kernel_rfl) rfl .i64 .i64 l.length (by omega) (by omega) W
  have own0 := World.ownsRow_lit (base := w.heap.size) (e := 70) (size := 1) w (madeCells #[zeroC] l.length) l.length (Nat.le_refl _) (by unfold maxLen; omega) (by simp [size_madeCells])
  have hl0 : (madeCells #[zeroC] l.length).toList = rowK f l 0 := by
    apply List.ext_getElem
    · simp [rowK, size_madeCells]
    · intro i h1 h2
      simp [rowK, madeCells, Nat.mod_one]
  rw [hl0] at own0
  have OWN0 := Lib.hid own0
  clear own0 hl0
  have HSO := Lib.hid hsort
  clear hsort
  go_enter Tryz.func63, Tryz.ntmps63
  go_wp2_with fail
  go_loopw [16] (fun v wr => ∃ k : Nat, v = .int .i64 k ∧ k ≤ l.length ∧ Hid (wr.ownsRow w.heap.size 70 1 (.slice (some ⟨w.heap.size, 0, none⟩) l.length l.length) l.length (rowK f l k)) ∧ Hid (Below w.heap.size w wr)) (fun v _ => l.length - (intOf v).toNat)
  case atStart => exact ⟨0, rfl, by omega, OWN0, Lib.hid ((Below.refl _ _).alloc (Nat.le_refl _) _)⟩
  case round =>
    clear OWN0
    obtain ⟨k, rfl, hk, ho, hb⟩ := hrel
    by_cases hlt : k < l.length
    · clear HSO
      obtain ⟨ad, rfl, hc⟩ := Kd.at_int HR.out (k : Int) (by omega) (by omega)
      simp only [Int.toNat_natCast] at hc
      replace hc := (hb.out.cell (World.block_lt_of_cell? w _ hc)).trans hc
      have hxs : rd l (k : Int) < 2 ^ 63 := by
        refine HS.out _ ?_
        simp [rd, List.getD_eq_getElem?_getD, List.getElem?_eq_getElem hlt]
      have HX := Lib.hid hxs
      have hkl := rowK_length f l k hk
      obtain ⟨v0, hv0⟩ : ∃ v0, (rowK f l k)[k]? = some v0 := ⟨_, List.getElem?_eq_getElem (by omega)⟩
      obtain ⟨hcell, hfro⟩ := owns_cell ho.out k v0 hv0
      clear hv0 hxs
      go_wp2_with (first | (go_at_call 108; refine (mark_calls _ _ _ HX.out (by omega) (by omega) (by omega) _).mono ?_; rintro e w' ⟨rfl, rfl⟩))
      go_roundw
      case rel =>
        refine ⟨k + 1, by go_num, by omega, Lib.hid ?_, Lib.hid ?_⟩
        · have h1 := (World.ownsRow.stored ho.out k (encC (markM f (rd l k) k))).1
          rw [rowK_set f l k hlt, encC_mark _ _ _ (by omega)] at h1
          exact h1
        · exact hb.out.setCell (p := ⟨w.heap.size, k, none⟩) (Nat.le_refl _) _
      case measure => simp [intOf]; omega
    · obtain rfl : k = l.length := by omega
      have hrow : rowK f l l.length = (marksL f l).map encC := by
        unfold rowK
        rw [List.take_of_length_le (by rw [marksL_length]; omega), Nat.sub_self]
        simp
      have ho2 := ho.out
      rw [hrow] at ho2
      have hml := marksL_length f l
      obtain ⟨D, hD⟩ : ∃ D, marksL f l = D := ⟨_, rfl⟩
      rw [hD] at ho2 hml
      rw [← hml] at ho2
      have hso := HSO.out wr w.heap.size w.heap.size l.length D (by rw [hml] at ho2 ⊢; exact ho2) (by omega)
      rw [hml] at hso
      have HC := Lib.hid hso
      clear hso ho2 hrow ho HSO
      go_wp2_with fail
      refine HC.out.mono ?_
      rintro e w1 ⟨rfl, ho1, hg1⟩
      clear HC
      have hb1 := Lib.hid (hb.out.grown hg1 hb.out.size (fun k hk => by cases hk; exact Nat.le_refl _))
      clear hg1 hb
      have hSl := sortM_length D
      rw [hml] at hSl
      have hfin : pickF l f = scanF (sortM D) f (l.length + 1) 0 := by unfold pickF; rw [hD]; rfl
      have HF := Lib.hid hfin
      clear hfin
      generalize sortM D = S at *
      have HO := Lib.hid ho1
      clear ho1 hml hD hlt hk
      go_wp2_with fail
      go_loopw [8] (fun v wr => ∃ i k : Nat, v = .int .i64 i ∧ i + k = l.length + 1 ∧ Hid (pickF l f = scanF S f k i) ∧ Hid (∃ q, wr = w1.drewN q)) (fun v _ => l.length + 1 - (intOf v).toNat)
      case atStart => exact ⟨0, l.length + 1, rfl, by omega, HF, Lib.hid ⟨0, rfl⟩⟩
      case round =>
        clear HF
        obtain ⟨i, k, rfl, hk, hf, hw⟩ := hrel
        obtain ⟨q, rfl⟩ := hw.out
        clear hw
        by_cases hin : i + f ≤ l.length
        · cases k with
          | zero => omega
          | succ k =>
          have c1 := (owns_cell HO.out i _ (cell_at S i (by omega))).1
          obtain ⟨j, hj⟩ : ∃ j, i + f - 1 = j := ⟨_, rfl⟩
          have c2 := (owns_cell HO.out j _ (cell_at S j (by omega))).1
          have o1 := order_eq_iff (tAt S i) (tAt S j) (tAt_lt _ _) (tAt_lt _ _)
          by_cases ht : tAt S i = tAt S j
          · have b1 : (FloatKind.f64.format.order (fl (tAt S i)) (fl (tAt S j)) != some .eq) = false := by
              rw [o1.2, decide_eq_true ht]; rfl
            clear o1
            by_cases hp : 0 < i ∧ tAt S (i - 1) = tAt S i
            · have hs1 : scanF S f (k + 1) i = scanF S f k (i + 1) := by conv => lhs; unfold scanF; rw [if_pos (by omega), if_pos (Or.inr hp)]
              have HS1 := Lib.hid hs1
              obtain ⟨hp0, hp1⟩ := hp
              obtain ⟨m, hm⟩ : ∃ m, i - 1 = m := ⟨_, rfl⟩
              rw [hm] at hp1
              have c3 := (owns_cell HO.out m _ (cell_at S m (by omega))).1
              have b2 : (FloatKind.f64.format.order (fl (tAt S m)) (fl (tAt S i)) == some .eq) = true := by
                rw [(order_eq_iff _ _ (tAt_lt _ _) (tAt_lt _ _)).1, decide_eq_true hp1]
              clear hp1 ht hs1
              go_wp2_with fail
              have e0 : decide ((0 : Int) < (i : Int)) = true := decide_eq_true (by omega)
              have e1 : IntKind.i64.wrap ((i : Int) + (f : Int)) = (i : Int) + (f : Int) := IntWalk.i64_in _ (by omega)
              have e2 : IntKind.i64.wrap ((i : Int) + (f : Int) - 1) = (j : Int) := by rw [IntWalk.i64_in _ (by omega)]; omega
              have e3 : IntKind.i64.wrap ((i : Int) - 1) = (m : Int) := by rw [IntWalk.i64_in _ (by omega)]; omega
              have e4 : (j : Int) < (l.length : Int) := by omega
              have e5 : (i : Int) < (l.length : Int) := by omega
              have e6 : (m : Int) < (l.length : Int) := by omega
              go_quiet (fail)
              clear e0 e1 e2 e3 e4 e5 e6
              go_wp2
              go_roundw
              case rel => exact ⟨i + 1, k, by go_num, by omega, Lib.hid (by rw [hf.out, HS1.out]), Lib.hid ⟨_, rfl⟩⟩
              case measure => simp [intOf]; omega
            · have hs1 : scanF S f (k + 1) i = rowP S i f f := by
                conv => lhs; unfold scanF
                rw [if_pos (by omega), if_neg (by intro h; rcases h with h | h; exact h (by rw [hj]; exact ht); exact hp h), rowP_full]
              have HS1 := Lib.hid hs1
              have hmk2 := fun W : World => run_make_row' (P := Tryz.prog) 28 3 (.int .i64 0) 8 Tryz.underlying28 (by kernel_rfl) rfl .i64 .i64 f (by omega) (by omega) W
              clear hs1 ht
              by_cases hi0 : 0 < i
              · have hne : tAt S (i - 1) ≠ tAt S i := fun h => hp ⟨hi0, h⟩
                clear hp
                obtain ⟨m0, hm0⟩ : ∃ m, i - 1 = m := ⟨_, rfl⟩
                rw [hm0] at hne
                have c3 := (owns_cell HO.out m0 _ (cell_at S m0 (by omega))).1
                have b2 : (FloatKind.f64.format.order (fl (tAt S m0)) (fl (tAt S i)) == some .eq) = false := by
                  rw [(order_eq_iff _ _ (tAt_lt _ _) (tAt_lt _ _)).1, decide_eq_false hne]
                clear hne
                go_wp2_with fail
                have e0 : decide ((0 : Int) < (i : Int)) = true := decide_eq_true (by omega)
                have e1 : IntKind.i64.wrap ((i : Int) + (f : Int)) = (i : Int) + (f : Int) := IntWalk.i64_in _ (by omega)
                have e2 : IntKind.i64.wrap ((i : Int) + (f : Int) - 1) = (j : Int) := by rw [IntWalk.i64_in _ (by omega)]; omega
                have e3 : IntKind.i64.wrap ((i : Int) - 1) = (m0 : Int) := by rw [IntWalk.i64_in _ (by omega)]; omega
                have e4 : (j : Int) < (l.length : Int) := by omega
                have e5 : (i : Int) < (l.length : Int) := by omega
                have e6 : (m0 : Int) < (l.length : Int) := by omega
                go_quiet (fail)
                clear e0 e1 e2 e3 e4 e5 e6 hmk c3 b2
                generalize hw2 : w1.drewN (q + nq) = w2
                go_wp2_with fail
                go_loopw [75] (fun v wr => ∃ d : Nat, v = .int .i64 d ∧ d ≤ f ∧ Hid (wr.ownsRow w2.heap.size 3 1 (.slice (some ⟨w2.heap.size, 0, none⟩) f f) f (nums .i64 (rowP S i f d))) ∧ Hid (Below w2.heap.size w2 wr)) (fun v _ => f - (intOf v).toNat)
                case atStart =>
                  refine ⟨0, rfl, by omega, Lib.hid ?_, Lib.hid ((Below.refl _ _).alloc (Nat.le_refl _) _)⟩
                  have h0 := own_made w2 w2.heap.size 3 .i64 f (Nat.le_refl _) (by omega)
                  have hz : rowP S i f 0 = List.replicate f 0 := by simp [rowP]
                  rw [hz]
                  exact h0
                case round =>
                  clear hmk2
                  obtain ⟨d, rfl, hd, ho2, hb2⟩ := hrel
                  by_cases hlt : d < f
                  · obtain ⟨m, hm⟩ : ∃ m, i + d = m := ⟨_, rfl⟩
                    have c4 := (owns_cell HO.out m _ (cell_at S m (by omega))).1
                    replace c4 : w2.cell? ⟨w.heap.size, m, none⟩ = some (.complex .f64 (fl (tAt S m)) (fl (pAt S m))) := by rw [← hw2]; exact c4
                    replace c4 := (hb2.out.cell (World.block_lt_of_cell? w2 _ c4)).trans c4
                    have hlen := rowP_length S i f d hd
                    obtain ⟨v0, hv0⟩ : ∃ v0, (nums .i64 (rowP S i f d))[d]? = some v0 := ⟨_, List.getElem?_eq_getElem (by rw [nums_length]; omega)⟩
                    obtain ⟨hcell, hfro⟩ := owns_cell ho2.out d v0 hv0
                    have hcv := fun W : World => run_convert_float_int (P := Tryz.prog) W 119 3 .f64 .i64 (fl (pAt S m)) (pAt S m : Nat) (by kernel_rfl) Tryz.underlying3 (back_fl _ (pAt_lt _ _))
                    have hidx : (i : Int) + (d : Int) = (m : Int) := by omega
                    clear hv0 hw2
                    go_wp2_with fail
                    go_roundw
                    case rel =>
                      refine ⟨d + 1, by go_num, by omega, Lib.hid ?_, Lib.hid ?_⟩
                      · have h1 := (World.ownsRow.stored ho2.out d (.int .i64 ((pAt S m : Nat) : Int))).1
                        have he : (nums .i64 (rowP S i f d)).set d (.int .i64 ((pAt S m : Nat) : Int)) = nums .i64 (rowP S i f (d + 1)) := by
                          rw [← rowP_set S i f d hlt, hm]
                          simp [nums, List.map_set]
                        rw [he] at h1
                        exact h1
                      · exact hb2.out.setCell (p := ⟨w2.heap.size, d, none⟩) (Nat.le_refl _) _
                    case measure => simp [intOf]; omega
                  · obtain rfl : d = f := by omega
                    go_wp2
                    go_ret
                    refine ⟨_, rfl, ?_, ?_, ?_⟩
                    · rw [hf.out, HS1.out]
                      have hl2 := rowP_length S i d d (Nat.le_refl _)
                      have ho3 := own_weaken ho2.out (Nat.le_trans hb1.out.size (by rw [← hw2]; exact Nat.le_refl _))
                      refine Kd.R_of_own (enc := Value.int .i64) ?_ (fun _ _ => trivial)
                      rw [hl2]
                      exact ho3
                    · have hb3 : Below w.heap.size w w2 := by rw [← hw2]; exact pw_below_drewN hb1.out _
                      exact below_then hb3 hb3.size hb2.out
                    · intro h0
                      rw [hf.out, HS1.out] at h0
                      have := rowP_length S i d d (Nat.le_refl _)
                      rw [h0] at this
                      simp at this
                      omega
              · clear hp
                go_wp2_with fail
                have e0 : decide ((0 : Int) < (i : Int)) = false := decide_eq_false (by omega)
                have e1 : IntKind.i64.wrap ((i : Int) + (f : Int)) = (i : Int) + (f : Int) := IntWalk.i64_in _ (by omega)
                have e2 : IntKind.i64.wrap ((i : Int) + (f : Int) - 1) = (j : Int) := by rw [IntWalk.i64_in _ (by omega)]; omega
                have e4 : (j : Int) < (l.length : Int) := by omega
                have e5 : (i : Int) < (l.length : Int) := by omega
                go_quiet (fail)
                clear e0 e1 e2 e4 e5 hmk
                generalize hw2 : w1.drewN (q + nq) = w2
                go_wp2_with fail
                go_loopw [75] (fun v wr => ∃ d : Nat, v = .int .i64 d ∧ d ≤ f ∧ Hid (wr.ownsRow w2.heap.size 3 1 (.slice (some ⟨w2.heap.size, 0, none⟩) f f) f (nums .i64 (rowP S i f d))) ∧ Hid (Below w2.heap.size w2 wr)) (fun v _ => f - (intOf v).toNat)
                case atStart =>
                  refine ⟨0, rfl, by omega, Lib.hid ?_, Lib.hid ((Below.refl _ _).alloc (Nat.le_refl _) _)⟩
                  have h0 := own_made w2 w2.heap.size 3 .i64 f (Nat.le_refl _) (by omega)
                  have hz : rowP S i f 0 = List.replicate f 0 := by simp [rowP]
                  rw [hz]
                  exact h0
                case round =>
                  clear hmk2
                  obtain ⟨d, rfl, hd, ho2, hb2⟩ := hrel
                  by_cases hlt : d < f
                  · obtain ⟨m, hm⟩ : ∃ m, i + d = m := ⟨_, rfl⟩
                    have c4 := (owns_cell HO.out m _ (cell_at S m (by omega))).1
                    replace c4 : w2.cell? ⟨w.heap.size, m, none⟩ = some (.complex .f64 (fl (tAt S m)) (fl (pAt S m))) := by rw [← hw2]; exact c4
                    replace c4 := (hb2.out.cell (World.block_lt_of_cell? w2 _ c4)).trans c4
                    have hlen := rowP_length S i f d hd
                    obtain ⟨v0, hv0⟩ : ∃ v0, (nums .i64 (rowP S i f d))[d]? = some v0 := ⟨_, List.getElem?_eq_getElem (by rw [nums_length]; omega)⟩
                    obtain ⟨hcell, hfro⟩ := owns_cell ho2.out d v0 hv0
                    have hcv := fun W : World => run_convert_float_int (P := Tryz.prog) W 119 3 .f64 .i64 (fl (pAt S m)) (pAt S m : Nat) (by kernel_rfl) Tryz.underlying3 (back_fl _ (pAt_lt _ _))
                    have hidx : (i : Int) + (d : Int) = (m : Int) := by omega
                    clear hv0 hw2
                    go_wp2_with fail
                    go_roundw
                    case rel =>
                      refine ⟨d + 1, by go_num, by omega, Lib.hid ?_, Lib.hid ?_⟩
                      · have h1 := (World.ownsRow.stored ho2.out d (.int .i64 ((pAt S m : Nat) : Int))).1
                        have he : (nums .i64 (rowP S i f d)).set d (.int .i64 ((pAt S m : Nat) : Int)) = nums .i64 (rowP S i f (d + 1)) := by
                          rw [← rowP_set S i f d hlt, hm]
                          simp [nums, List.map_set]
                        rw [he] at h1
                        exact h1
                      · exact hb2.out.setCell (p := ⟨w2.heap.size, d, none⟩) (Nat.le_refl _) _
                    case measure => simp [intOf]; omega
                  · obtain rfl : d = f := by omega
                    go_wp2
                    go_ret
                    refine ⟨_, rfl, ?_, ?_, ?_⟩
                    · rw [hf.out, HS1.out]
                      have hl2 := rowP_length S i d d (Nat.le_refl _)
                      have ho3 := own_weaken ho2.out (Nat.le_trans hb1.out.size (by rw [← hw2]; exact Nat.le_refl _))
                      refine Kd.R_of_own (enc := Value.int .i64) ?_ (fun _ _ => trivial)
                      rw [hl2]
                      exact ho3
                    · have hb3 : Below w.heap.size w w2 := by rw [← hw2]; exact pw_below_drewN hb1.out _
                      exact below_then hb3 hb3.size hb2.out
                    · intro h0
                      rw [hf.out, HS1.out] at h0
                      have := rowP_length S i d d (Nat.le_refl _)
                      rw [h0] at this
                      simp at this
                      omega
          · have hs1 : scanF S f (k + 1) i = scanF S f k (i + 1) := by conv => lhs; unfold scanF; rw [if_pos (by omega), hj, if_pos (Or.inl ht)]
            have HS1 := Lib.hid hs1
            have b1 : (FloatKind.f64.format.order (fl (tAt S i)) (fl (tAt S j)) != some .eq) = true := by
              rw [o1.2, decide_eq_false ht]; rfl
            clear o1 ht hs1
            go_wp2_with fail
            have e1 : IntKind.i64.wrap ((i : Int) + (f : Int)) = (i : Int) + (f : Int) := IntWalk.i64_in _ (by omega)
            have e2 : IntKind.i64.wrap ((i : Int) + (f : Int) - 1) = (j : Int) := by rw [IntWalk.i64_in _ (by omega)]; omega
            have e4 : (j : Int) < (l.length : Int) := by omega
            have e5 : (i : Int) < (l.length : Int) := by omega
            go_quiet (fail)
            clear e1 e2 e4 e5
            go_wp2
            go_roundw
            case rel => exact ⟨i + 1, k, by go_num, by omega, Lib.hid (by rw [hf.out, HS1.out]), Lib.hid ⟨_, rfl⟩⟩
            case measure => simp [intOf]; omega
        · have hs0 : scanF S f k i = [] := by
            cases k with
            | zero => rfl
            | succ k => unfold scanF; rw [if_neg (by omega)]
          have HS0 := Lib.hid hs0
          clear hs0
          go_wp2
          go_ret
          refine ⟨_, rfl, ?_, ?_, fun _ => rfl⟩
          · rw [hf.out, HS0.out]
            exact Kd.R_nil _ _ _ _ _
          · exact pw_below_drewN hb1.out q
end Go.Proofs.YtfkckhliffbcjaaGreatDoor.Tier
