/- What the proof of LawMailWider builds upon, part 7: contracts of the program's functions, by walks through their code. -/
import Derived.Lib.SlicesCompact
import Derived.Sort.Grow
import Derived.Test.YtigcbajcifhinaaGreatDoorSf
set_option maxRecDepth 1000000
set_option maxHeartbeats 12800000
set_option linter.unusedVariables false
set_option linter.unusedSimpArgs false
namespace Go.Proofs.YtigcbajcifhinaaGreatDoor.Sou64
open Go.RowKit Go.Sort Go.Proofs
theorem partitionEqual_u64 (blk off cap a b pivot : Nat) (d : Array Int) (w : World) (hH : Holds (Value.int .u64) w blk off d) (hap : a ≤ pivot) (hpb : pivot < b) (hb : b ≤ d.size) (hsz : d.size < 4611686018427387904) :
  Calls Tryz.prog 137 #[.slice (some ⟨blk, off, none⟩) d.size cap, .int .i64 a, .int .i64 b, .int .i64 pivot] w fun e w' =>
   e = .returned (.int .i64 (Sort.partitionEqual Sort.ltInt d a b pivot).1) ∧ ∃ n, w' = (putRow (Value.int .u64) w blk off (Sort.partitionEqual Sort.ltInt d a b pivot).2).drewN n := by
 have hla : a < d.size := by omega
 have hlp : pivot < d.size := by omega
 obtain ⟨G, hG⟩ : ∃ G : Nat → Int, ∀ j, G j = d[j]! := ⟨fun j => d[j]!, fun _ => rfl⟩
 have ca : w.cell? ⟨blk, off + a, none⟩ = some (.int .u64 (G a)) := by rw [hG]; exact (hH a hla).1
 have fa := (hH a hla).2
 have cp : w.cell? ⟨blk, off + pivot, none⟩ = some (.int .u64 (G pivot)) := by rw [hG]; exact (hH pivot hlp).1
 have fp := (hH pivot hlp).2
 obtain ⟨v', hy'⟩ := cell?_setCell_some (w := w) (p := ⟨blk, off + a, none⟩) (x := .int .u64 (G pivot)) (q := ⟨blk, off + pivot, none⟩) cp
 have AG : Hid (∀ j, G j = d[j]!) := hG
 have AH : Hid (Holds (Value.int .u64) w blk off d) := hH
 clear hG hH
 go_enter Tryz.func137, Tryz.ntmps137
 go_wp2
 go_region
 go_wp2
 go_loopw [9, 10] (fun vi vj wr => ∃ (i j n : Nat) (dk : Array Int), vi = .int .i64 i ∧ vj = .int .i64 j ∧ a < i ∧ i ≤ j + 1 ∧ j < b ∧ dk.size = d.size ∧ wr = (putRow (Value.int .u64) w blk off dk).drewN n ∧
   Sort.partEqLoop Sort.ltInt a i j dk = Sort.partEqLoop Sort.ltInt a (a + 1) (b - 1) (Sort.swp d a pivot))
  (fun vi vj _ => (intOf vj).toNat + 1 - (intOf vi).toNat)
 case atStart =>
  refine ⟨a + 1, b - 1, 1, Sort.swp d a pivot, by go_num, by go_num, by omega, by omega, by omega, size_swp _ _ _, ?_, rfl⟩
  have e := swap_worldC (Value.int .u64) w blk off d 0 a pivot hla hlp
  rw [putRow_self _ w blk off d AH.out] at e
  rw [AG.out a, AG.out pivot]
  exact e
 case round =>
  obtain ⟨i, j, n, dk, rfl, rfl, hai, hij, hjb, hs, hw, heq⟩ := hrel
  clear ca fa cp fp hy' v' AG
  rename World => W1
  have hHk : Holds (Value.int .u64) W1 blk off dk := by
   rw [hw]
   exact holds_putRow (Value.int .u64) w blk off d dk AH.out hs
  obtain ⟨Gk, hG⟩ : ∃ Gk : Nat → Int, ∀ t, Gk t = dk[t]! := ⟨fun t => dk[t]!, fun _ => rfl⟩
  have hc : ∀ t, t < d.size → W1.cell? ⟨blk, off + t, none⟩ = some (.int .u64 (Gk t)) := fun t ht => by rw [hG]; exact (hHk t (by omega)).1
  have hf : ∀ t, t < d.size → W1.frozen? ⟨blk, off + t, none⟩ = false := fun t ht => (hHk t (by omega)).2
  have AG : Hid (∀ t, Gk t = dk[t]!) := hG
  have AW : Hid (W1 = (putRow (Value.int .u64) w blk off dk).drewN n) := hw
  have AE : Hid (Sort.partEqLoop Sort.ltInt a i j dk = Sort.partEqLoop Sort.ltInt a (a + 1) (b - 1) (Sort.swp d a pivot)) := heq
  clear hG hw heq hHk
  go_wp2
  go_loopw [9] (fun vi w1 => ∃ (i' n1 : Nat), vi = .int .i64 i' ∧ i ≤ i' ∧ i' ≤ j + 1 ∧ w1 = W1.drewN n1 ∧
    Hid (Sort.scanUp (fun x => !Sort.ltInt dk[a]! x) dk j i' = Sort.scanUp (fun x => !Sort.ltInt dk[a]! x) dk j i))
   (fun vi _ => j + 1 - (intOf vi).toNat)
  case atStart => exact ⟨i, 0, rfl, Nat.le_refl _, hij, rfl, rfl⟩
  case round =>
   obtain ⟨i', n1, rfl, hii, hij', hw1, hsc⟩ := hrel
   have hcw : ∀ t, t < d.size → wr.cell? ⟨blk, off + t, none⟩ = some (.int .u64 (Gk t)) := fun t ht => by rw [hw1]; exact hc t ht
   have HW1 : Hid (wr = W1.drewN n1) := hw1
   clear hw1
   by_cases hle : i' ≤ j
   ·
    go_wp2_with fail
    go_big_quiet (first | (go_at_call 136; refine Calls.quiet_of_same (cmp_Less_u64 _ _ _)))
    go_wp2
    ·
     have ht : (!Sort.ltInt (Gk a) (Gk i')) = true := by assumption
     go_roundw
     case rel => exact ⟨i' + 1, n1 + nq, by go_num, by omega, by omega, by rw [HW1.out, World.drewN_drewN], (scanUp_go (fun x => !Sort.ltInt dk[a]! x) dk j i' hle (by rw [← AG.out a, ← AG.out i']; exact ht)).symm.trans hsc.out⟩
     case measure => simp [intOf]; omega
    ·
     have ht : (!Sort.ltInt (Gk a) (Gk i')) = false := by assumption
     have hi2 : Hid (i' = Sort.scanUp (fun x => !Sort.ltInt dk[a]! x) dk j i) := (scanUp_end (fun x => !Sort.ltInt dk[a]! x) dk j i' (Or.inr (by rw [← AG.out a, ← AG.out i']; exact ht))).symm.trans hsc.out
     clear ht
     have hw2 : wr.drewN nq = W1.drewN (n1 + nq) := by rw [HW1.out, World.drewN_drewN]
     clear hcw HW1 hsc
     go_loopw [10] (fun vj w2 => ∃ (j' n2 : Nat), vj = .int .i64 j' ∧ j' ≤ j ∧ i' ≤ j' + 1 ∧ w2 = W1.drewN n2 ∧
       Hid (Sort.scanDown (fun x => Sort.ltInt dk[a]! x) dk i' j' = Sort.scanDown (fun x => Sort.ltInt dk[a]! x) dk i' j))
      (fun vj _ => (intOf vj).toNat)
     case atStart => exact ⟨j, n1 + nq, rfl, Nat.le_refl _, hij', hw2, rfl⟩
     case round =>
      clear hw2
      obtain ⟨j', n2, rfl, hjj, hij2, hw2, hsd⟩ := hrel
      have hcw : ∀ t, t < d.size → wr.cell? ⟨blk, off + t, none⟩ = some (.int .u64 (Gk t)) := fun t ht => by rw [hw2]; exact hc t ht
      have HW2 : Hid (wr = W1.drewN n2) := hw2
      clear hw2
      by_cases hle2 : i' ≤ j'
      ·
       go_wp2_with fail
       go_big_quiet (first | (go_at_call 136; refine Calls.quiet_of_same (cmp_Less_u64 _ _ _)))
       go_wp2
       ·
        have ht : Sort.ltInt (Gk a) (Gk j') = true := by assumption
        go_roundw
        case rel => exact ⟨j' - 1, n2 + nq, by go_num, by omega, by omega, by rw [HW2.out, World.drewN_drewN], (scanDown_go (fun x => Sort.ltInt dk[a]! x) dk i' j' hle2 (by omega) (by rw [← AG.out a, ← AG.out j']; exact ht)).symm.trans hsd.out⟩
        case measure => simp [intOf]; omega
       ·
        have ht : Sort.ltInt (Gk a) (Gk j') = false := by assumption
        have hj2 : Hid (j' = Sort.scanDown (fun x => Sort.ltInt dk[a]! x) dk i' j) := (scanDown_end (fun x => Sort.ltInt dk[a]! x) dk i' j' (Or.inr (by rw [← AG.out a, ← AG.out j']; exact ht))).symm.trans hsd.out
        clear hcw hsd ht
        have hw3 : wr.drewN nq = W1.drewN (n2 + nq) := by rw [HW2.out, World.drewN_drewN]
        generalize wr.drewN nq = W3 at hw3 ⊢
        have hc3 : ∀ t, t < d.size → W3.cell? ⟨blk, off + t, none⟩ = some (.int .u64 (Gk t)) := fun t ht => by rw [hw3]; exact hc t ht
        have hf3 : ∀ t, t < d.size → W3.frozen? ⟨blk, off + t, none⟩ = false := fun t ht => by rw [hw3]; exact hf t ht
        have HW3 : Hid (W3 = W1.drewN (n2 + nq)) := hw3
        clear hw3
        obtain ⟨v3, hy3⟩ := cell?_setCell_some (w := W3) (p := ⟨blk, off + i', none⟩) (x := .int .u64 (Gk j')) (q := ⟨blk, off + j', none⟩) (hc3 j' (by omega))
        have hlt3 := scans_lt Sort.ltInt a i j dk (by omega) hi2.out hj2.out hle2
        go_wp2
        go_region
        all_goals go_wp2
        all_goals go_roundw
        case rel =>
         refine ⟨i' + 1, j' - 1, n + (n2 + nq) + 1, Sort.swp dk i' j', by go_num, by go_num, by omega, by omega, by omega, by rw [size_swp]; exact hs, ?_, ?_⟩
         ·
          rw [HW3.out, AW.out, World.drewN_drewN, AG.out i', AG.out j']
          exact swap_worldC (Value.int .u64) w blk off dk _ i' j' (by omega) (by omega)
         · rw [← AE.out]; exact (partEq_go Sort.ltInt a i j dk hi2.out hj2.out (by omega)).symm
        case measure => simp [intOf]; omega
      ·
       go_wp2_with fail
       go_big_quiet (first | (go_at_call 136; refine Calls.quiet_of_same (cmp_Less_u64 _ _ _)))
       have hj2 : Hid (j' = Sort.scanDown (fun x => Sort.ltInt dk[a]! x) dk i' j) := (scanDown_end (fun x => Sort.ltInt dk[a]! x) dk i' j' (Or.inl hle2)).symm.trans hsd.out
       clear hcw hsd
       have hw3 : wr.drewN nq = W1.drewN (n2 + nq) := by rw [HW2.out, World.drewN_drewN]
       generalize wr.drewN nq = W3 at hw3 ⊢
       have hc3 : ∀ t, t < d.size → W3.cell? ⟨blk, off + t, none⟩ = some (.int .u64 (Gk t)) := fun t ht => by rw [hw3]; exact hc t ht
       have hf3 : ∀ t, t < d.size → W3.frozen? ⟨blk, off + t, none⟩ = false := fun t ht => by rw [hw3]; exact hf t ht
       have HW3 : Hid (W3 = W1.drewN (n2 + nq)) := hw3
       clear hw3
       go_wp2
       go_ret
       have e := partEq_break Sort.ltInt a i j dk hi2.out hj2.out (by omega)
       refine ⟨?_, n + (n2 + nq), ?_⟩
       · unfold Sort.partitionEqual; rw [← AE.out, e]; rfl
       · unfold Sort.partitionEqual; rw [← AE.out, e, HW3.out, AW.out, World.drewN_drewN]
   ·
    go_wp2_with fail
    go_big_quiet (first | (go_at_call 136; refine Calls.quiet_of_same (cmp_Less_u64 _ _ _)))
    go_wp2
    have hi2 : Hid (i' = Sort.scanUp (fun x => !Sort.ltInt dk[a]! x) dk j i) := (scanUp_end (fun x => !Sort.ltInt dk[a]! x) dk j i' (Or.inl hle)).symm.trans hsc.out
    have hw2 : wr.drewN nq = W1.drewN (n1 + nq) := by rw [HW1.out, World.drewN_drewN]
    clear hcw HW1 hsc
    go_loopw [10] (fun vj w2 => ∃ (j' n2 : Nat), vj = .int .i64 j' ∧ j' ≤ j ∧ i' ≤ j' + 1 ∧ w2 = W1.drewN n2 ∧
      Hid (Sort.scanDown (fun x => Sort.ltInt dk[a]! x) dk i' j' = Sort.scanDown (fun x => Sort.ltInt dk[a]! x) dk i' j))
     (fun vj _ => (intOf vj).toNat)
    case atStart => exact ⟨j, n1 + nq, rfl, Nat.le_refl _, hij', hw2, rfl⟩
    case round =>
     clear hw2
     obtain ⟨j', n2, rfl, hjj, hij2, hw2, hsd⟩ := hrel
     have hcw : ∀ t, t < d.size → wr.cell? ⟨blk, off + t, none⟩ = some (.int .u64 (Gk t)) := fun t ht => by rw [hw2]; exact hc t ht
     have HW2 : Hid (wr = W1.drewN n2) := hw2
     clear hw2
     by_cases hle2 : i' ≤ j'
     · exfalso; omega
     ·
      go_wp2_with fail
      go_big_quiet (first | (go_at_call 136; refine Calls.quiet_of_same (cmp_Less_u64 _ _ _)))
      have hj2 : Hid (j' = Sort.scanDown (fun x => Sort.ltInt dk[a]! x) dk i' j) := (scanDown_end (fun x => Sort.ltInt dk[a]! x) dk i' j' (Or.inl hle2)).symm.trans hsd.out
      clear hcw hsd
      have hw3 : wr.drewN nq = W1.drewN (n2 + nq) := by rw [HW2.out, World.drewN_drewN]
      generalize wr.drewN nq = W3 at hw3 ⊢
      have hc3 : ∀ t, t < d.size → W3.cell? ⟨blk, off + t, none⟩ = some (.int .u64 (Gk t)) := fun t ht => by rw [hw3]; exact hc t ht
      have hf3 : ∀ t, t < d.size → W3.frozen? ⟨blk, off + t, none⟩ = false := fun t ht => by rw [hw3]; exact hf t ht
      have HW3 : Hid (W3 = W1.drewN (n2 + nq)) := hw3
      clear hw3
      go_wp2
      go_ret
      have e := partEq_break Sort.ltInt a i j dk hi2.out hj2.out (by omega)
      refine ⟨?_, n + (n2 + nq), ?_⟩
      · unfold Sort.partitionEqual; rw [← AE.out, e]; rfl
      · unfold Sort.partitionEqual; rw [← AE.out, e, HW3.out, AW.out, World.drewN_drewN]
theorem partitionEqualOrdered_u64 (blk off cap a b pivot : Nat) (d : Array Int) (w : World) (hH : Holds (Value.int .u64) w blk off d) (hap : a ≤ pivot) (hpb : pivot < b) (hb : b ≤ d.size) (hsz : d.size < 4611686018427387904) :
  Calls Tryz.prog 137 #[.slice (some ⟨blk, off, none⟩) d.size cap, .int .i64 a, .int .i64 b, .int .i64 pivot] w fun e w' =>
   e = .returned (.int .i64 (Sort.partitionEqual Sort.ltInt d a b pivot).1) ∧ ∃ n, w' = putRow (Value.int .u64) (Sort.ahead w n) blk off (Sort.partitionEqual Sort.ltInt d a b pivot).2 :=
 (partitionEqual_u64 blk off cap a b pivot d w hH hap hpb hb hsz).mono fun _ _ ⟨he, n, hw⟩ => ⟨he, n, hw⟩
theorem partition_u64 (blk off cap a b pivot : Nat) (d : Array Int) (w : World) (hH : Holds (Value.int .u64) w blk off d) (hap : a ≤ pivot) (hpb : pivot < b) (hb : b ≤ d.size) (hsz : d.size < 4611686018427387904) :
  Calls Tryz.prog 138 #[.slice (some ⟨blk, off, none⟩) d.size cap, .int .i64 a, .int .i64 b, .int .i64 pivot] w fun e w' =>
   e = .returned (.tuple #[.int .i64 (Sort.partition Sort.ltInt d a b pivot).1, .bool (Sort.partition Sort.ltInt d a b pivot).2.1]) ∧ ∃ n, w' = (putRow (Value.int .u64) w blk off (Sort.partition Sort.ltInt d a b pivot).2.2).drewN n := by
 have hla : a < d.size := by omega
 have hlp : pivot < d.size := by omega
 obtain ⟨G, hG⟩ : ∃ G : Nat → Int, ∀ j, G j = d[j]! := ⟨fun j => d[j]!, fun _ => rfl⟩
 have ca : w.cell? ⟨blk, off + a, none⟩ = some (.int .u64 (G a)) := by rw [hG]; exact (hH a hla).1
 have fa := (hH a hla).2
 have cp : w.cell? ⟨blk, off + pivot, none⟩ = some (.int .u64 (G pivot)) := by rw [hG]; exact (hH pivot hlp).1
 have fp := (hH pivot hlp).2
 obtain ⟨v', hy'⟩ := cell?_setCell_some (w := w) (p := ⟨blk, off + a, none⟩) (x := .int .u64 (G pivot)) (q := ⟨blk, off + pivot, none⟩) cp
 have hw : ((w.setCell ⟨blk, off + a, none⟩ (.int .u64 (G pivot))).setCell ⟨blk, off + pivot, none⟩ (.int .u64 (G a))).drew = (putRow (Value.int .u64) w blk off (Sort.swp d a pivot)).drewN 1 := by
  have e := swap_worldC (Value.int .u64) w blk off d 0 a pivot hla hlp
  rw [putRow_self _ w blk off d hH] at e
  rw [hG a, hG pivot]
  exact e
 have AH : Hid (Holds (Value.int .u64) w blk off d) := hH
 have HW0 := Hid.mk' hw
 clear hG hH hw
 go_enter Tryz.func138, Tryz.ntmps138
 go_wp2
 go_region
 go_wp2
 clear ca fa cp fp hy' v'
 have hw := HW0.out
 clear HW0
 generalize ((w.setCell ⟨blk, off + a, none⟩ (.int .u64 (G pivot))).setCell ⟨blk, off + pivot, none⟩ (.int .u64 (G a))).drew = W1 at hw ⊢
 obtain ⟨dk, hdk⟩ : ∃ dk, dk = Sort.swp d a pivot := ⟨_, rfl⟩
 obtain ⟨n, hn⟩ : ∃ n : Nat, n = 1 := ⟨_, rfl⟩
 rw [← hdk, ← hn] at hw
 clear hn
 have hs : dk.size = d.size := by rw [hdk, size_swp]
 have e1 : ((a : Int) + 1) = ((a + 1 : Nat) : Int) := by omega
 have e2 : ((b : Int) - 1) = ((b - 1 : Nat) : Int) := by omega
 rw [e1, e2]
 clear e1 e2
 obtain ⟨i, hi⟩ : ∃ i, i = a + 1 := ⟨_, rfl⟩
 obtain ⟨j, hj⟩ : ∃ j, j = b - 1 := ⟨_, rfl⟩
 rw [← hi, ← hj]
 have hai : a < i := by omega
 have hij : i ≤ j + 1 := by omega
 have hjb : j < b := by omega
 have HI := Hid.mk' hi
 have HJ := Hid.mk' hj
 have HDK := Hid.mk' hdk
 clear hi hj hdk
 have hHk : Holds (Value.int .u64) W1 blk off dk := by
  rw [hw]
  exact holds_putRow (Value.int .u64) w blk off d dk AH.out hs
 obtain ⟨Gk, hG⟩ : ∃ Gk : Nat → Int, ∀ t, Gk t = dk[t]! := ⟨fun t => dk[t]!, fun _ => rfl⟩
 have hc : ∀ t, t < d.size → W1.cell? ⟨blk, off + t, none⟩ = some (.int .u64 (Gk t)) := fun t ht => by rw [hG]; exact (hHk t (by omega)).1
 have hf : ∀ t, t < d.size → W1.frozen? ⟨blk, off + t, none⟩ = false := fun t ht => (hHk t (by omega)).2
 have AG : Hid (∀ t, Gk t = dk[t]!) := hG
 have AW : Hid (W1 = (putRow (Value.int .u64) w blk off dk).drewN n) := hw
 clear hG hw hHk
 go_loopw [10] (fun vi w1 => ∃ (i' n1 : Nat), vi = .int .i64 i' ∧ i ≤ i' ∧ i' ≤ j + 1 ∧ w1 = W1.drewN n1 ∧
   Hid (Sort.scanUp (fun x => Sort.ltInt x dk[a]!) dk j i' = Sort.scanUp (fun x => Sort.ltInt x dk[a]!) dk j i))
  (fun vi _ => j + 1 - (intOf vi).toNat)
 case atStart => exact ⟨i, 0, rfl, Nat.le_refl _, hij, rfl, rfl⟩
 case round =>
  obtain ⟨i', n1, rfl, hii, hij', hw1, hsc⟩ := hrel
  have hcw : ∀ t, t < d.size → wr.cell? ⟨blk, off + t, none⟩ = some (.int .u64 (Gk t)) := fun t ht => by rw [hw1]; exact hc t ht
  have HW1 : Hid (wr = W1.drewN n1) := hw1
  clear hw1
  by_cases hle : i' ≤ j
  ·
   go_wp2_with fail
   go_big_quiet (first | (go_at_call 136; refine Calls.quiet_of_same (cmp_Less_u64 _ _ _)))
   go_wp2
   ·
    have ht : Sort.ltInt (Gk i') (Gk a) = true := by assumption
    go_roundw
    case rel => exact ⟨i' + 1, n1 + nq, by go_num, by omega, by omega, by rw [HW1.out, World.drewN_drewN], (scanUp_go (fun x => Sort.ltInt x dk[a]!) dk j i' hle (by rw [← AG.out a, ← AG.out i']; exact ht)).symm.trans hsc.out⟩
    case measure => simp [intOf]; omega
   ·
    have ht : Sort.ltInt (Gk i') (Gk a) = false := by assumption
    have hi2 : Hid (i' = Sort.scanUp (fun x => Sort.ltInt x dk[a]!) dk j i) := (scanUp_end (fun x => Sort.ltInt x dk[a]!) dk j i' (Or.inr (by rw [← AG.out a, ← AG.out i']; exact ht))).symm.trans hsc.out
    clear ht
    have hw2 : wr.drewN nq = W1.drewN (n1 + nq) := by rw [HW1.out, World.drewN_drewN]
    clear hcw HW1 hsc
    go_loopw [11] (fun vj w2 => ∃ (j' n2 : Nat), vj = .int .i64 j' ∧ j' ≤ j ∧ i' ≤ j' + 1 ∧ w2 = W1.drewN n2 ∧
      Hid (Sort.scanDown (fun x => !Sort.ltInt x dk[a]!) dk i' j' = Sort.scanDown (fun x => !Sort.ltInt x dk[a]!) dk i' j))
     (fun vj _ => (intOf vj).toNat)
    case atStart => exact ⟨j, n1 + nq, rfl, Nat.le_refl _, hij', hw2, rfl⟩
    case round =>
     clear hw2
     obtain ⟨j', n2, rfl, hjj, hij2, hw2, hsd⟩ := hrel
     have hcw : ∀ t, t < d.size → wr.cell? ⟨blk, off + t, none⟩ = some (.int .u64 (Gk t)) := fun t ht => by rw [hw2]; exact hc t ht
     have HW2 : Hid (wr = W1.drewN n2) := hw2
     clear hw2
     by_cases hle2 : i' ≤ j'
     ·
      go_wp2_with fail
      go_big_quiet (first | (go_at_call 136; refine Calls.quiet_of_same (cmp_Less_u64 _ _ _)))
      go_wp2
      ·
       have ht : (!Sort.ltInt (Gk j') (Gk a)) = true := by assumption
       go_roundw
       case rel => exact ⟨j' - 1, n2 + nq, by go_num, by omega, by omega, by rw [HW2.out, World.drewN_drewN], (scanDown_go (fun x => !Sort.ltInt x dk[a]!) dk i' j' hle2 (by omega) (by rw [← AG.out a, ← AG.out j']; exact ht)).symm.trans hsd.out⟩
       case measure => simp [intOf]; omega
      ·
       have ht : (!Sort.ltInt (Gk j') (Gk a)) = false := by assumption
       have hj2 : Hid (j' = Sort.scanDown (fun x => !Sort.ltInt x dk[a]!) dk i' j) := (scanDown_end (fun x => !Sort.ltInt x dk[a]!) dk i' j' (Or.inr (by rw [← AG.out a, ← AG.out j']; exact ht))).symm.trans hsd.out
       clear hcw hsd ht
       have hw3 : wr.drewN nq = W1.drewN (n2 + nq) := by rw [HW2.out, World.drewN_drewN]
       generalize wr.drewN nq = W3 at hw3 ⊢
       have hc3 : ∀ t, t < d.size → W3.cell? ⟨blk, off + t, none⟩ = some (.int .u64 (Gk t)) := fun t ht => by rw [hw3]; exact hc t ht
       have hf3 : ∀ t, t < d.size → W3.frozen? ⟨blk, off + t, none⟩ = false := fun t ht => by rw [hw3]; exact hf t ht
       have HW3 : Hid (W3 = W1.drewN (n2 + nq)) := hw3
       clear hw3
       obtain ⟨v3, hy3⟩ := cell?_setCell_some (w := W3) (p := ⟨blk, off + i', none⟩) (x := .int .u64 (Gk j')) (q := ⟨blk, off + j', none⟩) (hc3 j' (by omega))
       have hlt3 := part_scans_lt Sort.ltInt a i j dk (by omega) hi2.out hj2.out hle2
       go_wp2
       go_region
       all_goals go_wp2
       obtain ⟨R, hR⟩ : ∃ R, R = Sort.partLoop Sort.ltInt a (i' + 1) (j' - 1) (Sort.swp dk i' j') := ⟨_, rfl⟩
       have HP : Hid (Sort.partition Sort.ltInt d a b pivot = (R.1, false, Sort.swp R.2 R.1 a)) := by rw [hR]; exact part_first_go Sort.ltInt d a b pivot HI.out HJ.out HDK.out hi2.out hj2.out (by omega)
       have hw0 : ((W3.setCell ⟨blk, off + i', none⟩ (.int .u64 (Gk j'))).setCell ⟨blk, off + j', none⟩ (.int .u64 (Gk i'))).drew = (putRow (Value.int .u64) w blk off (Sort.swp dk i' j')).drewN (n + (n2 + nq) + 1) := by
        rw [HW3.out, AW.out, World.drewN_drewN, AG.out i', AG.out j']
        exact swap_worldC (Value.int .u64) w blk off dk _ i' j' (by omega) (by omega)
       have HR : Hid (R = Sort.partLoop Sort.ltInt a (i' + 1) (j' - 1) (Sort.swp dk i' j')) := hR
       clear hR hc hf hc3 hf3 hy3 HW3 AW AG hi2 hj2
       go_loopw [10, 11] (fun vi vj wr => ∃ (i j n : Nat) (dk : Array Int), vi = .int .i64 i ∧ vj = .int .i64 j ∧ a < i ∧ i ≤ j + 1 ∧ j < b ∧ dk.size = d.size ∧ wr = (putRow (Value.int .u64) w blk off dk).drewN n ∧
         Sort.partLoop Sort.ltInt a i j dk = R)
        (fun vi vj _ => (intOf vj).toNat + 1 - (intOf vi).toNat)
       case atStart => exact ⟨i' + 1, j' - 1, _, Sort.swp dk i' j', by go_num, by go_num, by omega, by omega, by omega, by rw [size_swp]; exact hs, hw0, HR.out.symm⟩
       case round =>
        clear hw0 HR
        obtain ⟨i, j, n, dk, rfl, rfl, hai, hij, hjb, hs, hw, heq⟩ := hrel
        rename World => W1
        have AE : Hid (Sort.partLoop Sort.ltInt a i j dk = R) := heq
        clear heq
        have hHk : Holds (Value.int .u64) W1 blk off dk := by
         rw [hw]
         exact holds_putRow (Value.int .u64) w blk off d dk AH.out hs
        obtain ⟨Gk, hG⟩ : ∃ Gk : Nat → Int, ∀ t, Gk t = dk[t]! := ⟨fun t => dk[t]!, fun _ => rfl⟩
        have hc : ∀ t, t < d.size → W1.cell? ⟨blk, off + t, none⟩ = some (.int .u64 (Gk t)) := fun t ht => by rw [hG]; exact (hHk t (by omega)).1
        have hf : ∀ t, t < d.size → W1.frozen? ⟨blk, off + t, none⟩ = false := fun t ht => (hHk t (by omega)).2
        have AG : Hid (∀ t, Gk t = dk[t]!) := hG
        have AW : Hid (W1 = (putRow (Value.int .u64) w blk off dk).drewN n) := hw
        clear hG hw hHk
        go_wp2
        go_loopw [10] (fun vi w1 => ∃ (i' n1 : Nat), vi = .int .i64 i' ∧ i ≤ i' ∧ i' ≤ j + 1 ∧ w1 = W1.drewN n1 ∧
          Hid (Sort.scanUp (fun x => Sort.ltInt x dk[a]!) dk j i' = Sort.scanUp (fun x => Sort.ltInt x dk[a]!) dk j i))
         (fun vi _ => j + 1 - (intOf vi).toNat)
        case atStart => exact ⟨i, 0, rfl, Nat.le_refl _, hij, rfl, rfl⟩
        case round =>
         obtain ⟨i', n1, rfl, hii, hij', hw1, hsc⟩ := hrel
         have hcw : ∀ t, t < d.size → wr.cell? ⟨blk, off + t, none⟩ = some (.int .u64 (Gk t)) := fun t ht => by rw [hw1]; exact hc t ht
         have HW1 : Hid (wr = W1.drewN n1) := hw1
         clear hw1
         by_cases hle : i' ≤ j
         ·
          go_wp2_with fail
          go_big_quiet (first | (go_at_call 136; refine Calls.quiet_of_same (cmp_Less_u64 _ _ _)))
          go_wp2
          ·
           have ht : Sort.ltInt (Gk i') (Gk a) = true := by assumption
           go_roundw
           case rel => exact ⟨i' + 1, n1 + nq, by go_num, by omega, by omega, by rw [HW1.out, World.drewN_drewN], (scanUp_go (fun x => Sort.ltInt x dk[a]!) dk j i' hle (by rw [← AG.out a, ← AG.out i']; exact ht)).symm.trans hsc.out⟩
           case measure => simp [intOf]; omega
          ·
           have ht : Sort.ltInt (Gk i') (Gk a) = false := by assumption
           have hi2 : Hid (i' = Sort.scanUp (fun x => Sort.ltInt x dk[a]!) dk j i) := (scanUp_end (fun x => Sort.ltInt x dk[a]!) dk j i' (Or.inr (by rw [← AG.out a, ← AG.out i']; exact ht))).symm.trans hsc.out
           clear ht
           have hw2 : wr.drewN nq = W1.drewN (n1 + nq) := by rw [HW1.out, World.drewN_drewN]
           clear hcw HW1 hsc
           go_loopw [11] (fun vj w2 => ∃ (j' n2 : Nat), vj = .int .i64 j' ∧ j' ≤ j ∧ i' ≤ j' + 1 ∧ w2 = W1.drewN n2 ∧
             Hid (Sort.scanDown (fun x => !Sort.ltInt x dk[a]!) dk i' j' = Sort.scanDown (fun x => !Sort.ltInt x dk[a]!) dk i' j))
            (fun vj _ => (intOf vj).toNat)
           case atStart => exact ⟨j, n1 + nq, rfl, Nat.le_refl _, hij', hw2, rfl⟩
           case round =>
            clear hw2
            obtain ⟨j', n2, rfl, hjj, hij2, hw2, hsd⟩ := hrel
            have hcw : ∀ t, t < d.size → wr.cell? ⟨blk, off + t, none⟩ = some (.int .u64 (Gk t)) := fun t ht => by rw [hw2]; exact hc t ht
            have HW2 : Hid (wr = W1.drewN n2) := hw2
            clear hw2
            by_cases hle2 : i' ≤ j'
            ·
             go_wp2_with fail
             go_big_quiet (first | (go_at_call 136; refine Calls.quiet_of_same (cmp_Less_u64 _ _ _)))
             go_wp2
             ·
              have ht : (!Sort.ltInt (Gk j') (Gk a)) = true := by assumption
              go_roundw
              case rel => exact ⟨j' - 1, n2 + nq, by go_num, by omega, by omega, by rw [HW2.out, World.drewN_drewN], (scanDown_go (fun x => !Sort.ltInt x dk[a]!) dk i' j' hle2 (by omega) (by rw [← AG.out a, ← AG.out j']; exact ht)).symm.trans hsd.out⟩
              case measure => simp [intOf]; omega
             ·
              have ht : (!Sort.ltInt (Gk j') (Gk a)) = false := by assumption
              have hj2 : Hid (j' = Sort.scanDown (fun x => !Sort.ltInt x dk[a]!) dk i' j) := (scanDown_end (fun x => !Sort.ltInt x dk[a]!) dk i' j' (Or.inr (by rw [← AG.out a, ← AG.out j']; exact ht))).symm.trans hsd.out
              clear hcw hsd ht
              have hw3 : wr.drewN nq = W1.drewN (n2 + nq) := by rw [HW2.out, World.drewN_drewN]
              generalize wr.drewN nq = W3 at hw3 ⊢
              have hc3 : ∀ t, t < d.size → W3.cell? ⟨blk, off + t, none⟩ = some (.int .u64 (Gk t)) := fun t ht => by rw [hw3]; exact hc t ht
              have hf3 : ∀ t, t < d.size → W3.frozen? ⟨blk, off + t, none⟩ = false := fun t ht => by rw [hw3]; exact hf t ht
              have HW3 : Hid (W3 = W1.drewN (n2 + nq)) := hw3
              clear hw3
              obtain ⟨v3, hy3⟩ := cell?_setCell_some (w := W3) (p := ⟨blk, off + i', none⟩) (x := .int .u64 (Gk j')) (q := ⟨blk, off + j', none⟩) (hc3 j' (by omega))
              have hlt3 := part_scans_lt Sort.ltInt a i j dk (by omega) hi2.out hj2.out hle2
              go_wp2
              go_region
              all_goals go_wp2
              all_goals go_roundw
              case rel =>
               refine ⟨i' + 1, j' - 1, n + (n2 + nq) + 1, Sort.swp dk i' j', by go_num, by go_num, by omega, by omega, by omega, by rw [size_swp]; exact hs, ?_, ?_⟩
               ·
                rw [HW3.out, AW.out, World.drewN_drewN, AG.out i', AG.out j']
                exact swap_worldC (Value.int .u64) w blk off dk _ i' j' (by omega) (by omega)
               · exact (part_go Sort.ltInt a i j dk hi2.out hj2.out (by omega)).symm.trans AE.out
              case measure => simp [intOf]; omega
            ·
             go_wp2_with fail
             go_big_quiet (first | (go_at_call 136; refine Calls.quiet_of_same (cmp_Less_u64 _ _ _)))
             have hj2 : Hid (j' = Sort.scanDown (fun x => !Sort.ltInt x dk[a]!) dk i' j) := (scanDown_end (fun x => !Sort.ltInt x dk[a]!) dk i' j' (Or.inl hle2)).symm.trans hsd.out
             clear hcw hsd
             have hw3 : wr.drewN nq = W1.drewN (n2 + nq) := by rw [HW2.out, World.drewN_drewN]
             generalize wr.drewN nq = W3 at hw3 ⊢
             have hc3 : ∀ t, t < d.size → W3.cell? ⟨blk, off + t, none⟩ = some (.int .u64 (Gk t)) := fun t ht => by rw [hw3]; exact hc t ht
             have hf3 : ∀ t, t < d.size → W3.frozen? ⟨blk, off + t, none⟩ = false := fun t ht => by rw [hw3]; exact hf t ht
             have HW3 : Hid (W3 = W1.drewN (n2 + nq)) := hw3
             clear hw3
             obtain ⟨v3, hy3⟩ := cell?_setCell_some (w := W3) (p := ⟨blk, off + j', none⟩) (x := .int .u64 (Gk a)) (q := ⟨blk, off + a, none⟩) (hc3 a (by omega))
             have hlj : j' < d.size := by omega
             go_wp2
             go_region
             all_goals go_wp2
             all_goals go_ret2
             have e : Sort.partition Sort.ltInt d a b pivot = (j', false, Sort.swp dk j' a) := by
              have e0 := (part_break Sort.ltInt a i j dk hi2.out hj2.out (by omega)).symm.trans AE.out
              rw [HP.out, ← e0]
             refine ⟨?_, n + (n2 + nq) + 1, ?_⟩
             · rw [e]; rfl
             ·
              rw [e, HW3.out, AW.out, World.drewN_drewN, AG.out a, AG.out j']
              exact swap_worldC (Value.int .u64) w blk off dk _ j' a (by omega) (by omega)
         ·
          go_wp2_with fail
          go_big_quiet (first | (go_at_call 136; refine Calls.quiet_of_same (cmp_Less_u64 _ _ _)))
          go_wp2
          have hi2 : Hid (i' = Sort.scanUp (fun x => Sort.ltInt x dk[a]!) dk j i) := (scanUp_end (fun x => Sort.ltInt x dk[a]!) dk j i' (Or.inl hle)).symm.trans hsc.out
          have hw2 : wr.drewN nq = W1.drewN (n1 + nq) := by rw [HW1.out, World.drewN_drewN]
          clear hcw HW1 hsc
          go_loopw [11] (fun vj w2 => ∃ (j' n2 : Nat), vj = .int .i64 j' ∧ j' ≤ j ∧ i' ≤ j' + 1 ∧ w2 = W1.drewN n2 ∧
            Hid (Sort.scanDown (fun x => !Sort.ltInt x dk[a]!) dk i' j' = Sort.scanDown (fun x => !Sort.ltInt x dk[a]!) dk i' j))
           (fun vj _ => (intOf vj).toNat)
          case atStart => exact ⟨j, n1 + nq, rfl, Nat.le_refl _, hij', hw2, rfl⟩
          case round =>
           clear hw2
           obtain ⟨j', n2, rfl, hjj, hij2, hw2, hsd⟩ := hrel
           have hcw : ∀ t, t < d.size → wr.cell? ⟨blk, off + t, none⟩ = some (.int .u64 (Gk t)) := fun t ht => by rw [hw2]; exact hc t ht
           have HW2 : Hid (wr = W1.drewN n2) := hw2
           clear hw2
           by_cases hle2 : i' ≤ j'
           · exfalso; omega
           ·
            go_wp2_with fail
            go_big_quiet (first | (go_at_call 136; refine Calls.quiet_of_same (cmp_Less_u64 _ _ _)))
            have hj2 : Hid (j' = Sort.scanDown (fun x => !Sort.ltInt x dk[a]!) dk i' j) := (scanDown_end (fun x => !Sort.ltInt x dk[a]!) dk i' j' (Or.inl hle2)).symm.trans hsd.out
            clear hcw hsd
            have hw3 : wr.drewN nq = W1.drewN (n2 + nq) := by rw [HW2.out, World.drewN_drewN]
            generalize wr.drewN nq = W3 at hw3 ⊢
            have hc3 : ∀ t, t < d.size → W3.cell? ⟨blk, off + t, none⟩ = some (.int .u64 (Gk t)) := fun t ht => by rw [hw3]; exact hc t ht
            have hf3 : ∀ t, t < d.size → W3.frozen? ⟨blk, off + t, none⟩ = false := fun t ht => by rw [hw3]; exact hf t ht
            have HW3 : Hid (W3 = W1.drewN (n2 + nq)) := hw3
            clear hw3
            obtain ⟨v3, hy3⟩ := cell?_setCell_some (w := W3) (p := ⟨blk, off + j', none⟩) (x := .int .u64 (Gk a)) (q := ⟨blk, off + a, none⟩) (hc3 a (by omega))
            have hlj : j' < d.size := by omega
            go_wp2
            go_region
            all_goals go_wp2
            all_goals go_ret2
            have e : Sort.partition Sort.ltInt d a b pivot = (j', false, Sort.swp dk j' a) := by
             have e0 := (part_break Sort.ltInt a i j dk hi2.out hj2.out (by omega)).symm.trans AE.out
             rw [HP.out, ← e0]
            refine ⟨?_, n + (n2 + nq) + 1, ?_⟩
            · rw [e]; rfl
            ·
             rw [e, HW3.out, AW.out, World.drewN_drewN, AG.out a, AG.out j']
             exact swap_worldC (Value.int .u64) w blk off dk _ j' a (by omega) (by omega)
     ·
      go_wp2_with fail
      go_big_quiet (first | (go_at_call 136; refine Calls.quiet_of_same (cmp_Less_u64 _ _ _)))
      have hj2 : Hid (j' = Sort.scanDown (fun x => !Sort.ltInt x dk[a]!) dk i' j) := (scanDown_end (fun x => !Sort.ltInt x dk[a]!) dk i' j' (Or.inl hle2)).symm.trans hsd.out
      clear hcw hsd
      have hw3 : wr.drewN nq = W1.drewN (n2 + nq) := by rw [HW2.out, World.drewN_drewN]
      generalize wr.drewN nq = W3 at hw3 ⊢
      have hc3 : ∀ t, t < d.size → W3.cell? ⟨blk, off + t, none⟩ = some (.int .u64 (Gk t)) := fun t ht => by rw [hw3]; exact hc t ht
      have hf3 : ∀ t, t < d.size → W3.frozen? ⟨blk, off + t, none⟩ = false := fun t ht => by rw [hw3]; exact hf t ht
      have HW3 : Hid (W3 = W1.drewN (n2 + nq)) := hw3
      clear hw3
      obtain ⟨v3, hy3⟩ := cell?_setCell_some (w := W3) (p := ⟨blk, off + j', none⟩) (x := .int .u64 (Gk a)) (q := ⟨blk, off + a, none⟩) (hc3 a (by omega))
      have hlj : j' < d.size := by omega
      go_wp2
      go_region
      all_goals go_wp2
      all_goals go_ret2
      have e : Sort.partition Sort.ltInt d a b pivot = (j', true, Sort.swp dk j' a) := part_first_break Sort.ltInt d a b pivot HI.out HJ.out HDK.out hi2.out hj2.out (by omega)
      refine ⟨?_, n + (n2 + nq) + 1, ?_⟩
      · rw [e]; rfl
      ·
       rw [e, HW3.out, AW.out, World.drewN_drewN, AG.out a, AG.out j']
       exact swap_worldC (Value.int .u64) w blk off dk _ j' a (by omega) (by omega)
  ·
   go_wp2_with fail
   go_big_quiet (first | (go_at_call 136; refine Calls.quiet_of_same (cmp_Less_u64 _ _ _)))
   go_wp2
   have hi2 : Hid (i' = Sort.scanUp (fun x => Sort.ltInt x dk[a]!) dk j i) := (scanUp_end (fun x => Sort.ltInt x dk[a]!) dk j i' (Or.inl hle)).symm.trans hsc.out
   have hw2 : wr.drewN nq = W1.drewN (n1 + nq) := by rw [HW1.out, World.drewN_drewN]
   clear hcw HW1 hsc
   go_loopw [11] (fun vj w2 => ∃ (j' n2 : Nat), vj = .int .i64 j' ∧ j' ≤ j ∧ i' ≤ j' + 1 ∧ w2 = W1.drewN n2 ∧
     Hid (Sort.scanDown (fun x => !Sort.ltInt x dk[a]!) dk i' j' = Sort.scanDown (fun x => !Sort.ltInt x dk[a]!) dk i' j))
    (fun vj _ => (intOf vj).toNat)
   case atStart => exact ⟨j, n1 + nq, rfl, Nat.le_refl _, hij', hw2, rfl⟩
   case round =>
    clear hw2
    obtain ⟨j', n2, rfl, hjj, hij2, hw2, hsd⟩ := hrel
    have hcw : ∀ t, t < d.size → wr.cell? ⟨blk, off + t, none⟩ = some (.int .u64 (Gk t)) := fun t ht => by rw [hw2]; exact hc t ht
    have HW2 : Hid (wr = W1.drewN n2) := hw2
    clear hw2
    by_cases hle2 : i' ≤ j'
    · exfalso; omega
    ·
     go_wp2_with fail
     go_big_quiet (first | (go_at_call 136; refine Calls.quiet_of_same (cmp_Less_u64 _ _ _)))
     have hj2 : Hid (j' = Sort.scanDown (fun x => !Sort.ltInt x dk[a]!) dk i' j) := (scanDown_end (fun x => !Sort.ltInt x dk[a]!) dk i' j' (Or.inl hle2)).symm.trans hsd.out
     clear hcw hsd
     have hw3 : wr.drewN nq = W1.drewN (n2 + nq) := by rw [HW2.out, World.drewN_drewN]
     generalize wr.drewN nq = W3 at hw3 ⊢
     have hc3 : ∀ t, t < d.size → W3.cell? ⟨blk, off + t, none⟩ = some (.int .u64 (Gk t)) := fun t ht => by rw [hw3]; exact hc t ht
     have hf3 : ∀ t, t < d.size → W3.frozen? ⟨blk, off + t, none⟩ = false := fun t ht => by rw [hw3]; exact hf t ht
     have HW3 : Hid (W3 = W1.drewN (n2 + nq)) := hw3
     clear hw3
     obtain ⟨v3, hy3⟩ := cell?_setCell_some (w := W3) (p := ⟨blk, off + j', none⟩) (x := .int .u64 (Gk a)) (q := ⟨blk, off + a, none⟩) (hc3 a (by omega))
     have hlj : j' < d.size := by omega
     go_wp2
     go_region
     all_goals go_wp2
     all_goals go_ret2
     have e : Sort.partition Sort.ltInt d a b pivot = (j', true, Sort.swp dk j' a) := part_first_break Sort.ltInt d a b pivot HI.out HJ.out HDK.out hi2.out hj2.out (by omega)
     refine ⟨?_, n + (n2 + nq) + 1, ?_⟩
     · rw [e]; rfl
     ·
      rw [e, HW3.out, AW.out, World.drewN_drewN, AG.out a, AG.out j']
      exact swap_worldC (Value.int .u64) w blk off dk _ j' a (by omega) (by omega)
theorem partitionOrdered_u64 (blk off cap a b pivot : Nat) (d : Array Int) (w : World) (hH : Holds (Value.int .u64) w blk off d) (hap : a ≤ pivot) (hpb : pivot < b) (hb : b ≤ d.size) (hsz : d.size < 4611686018427387904) :
  Calls Tryz.prog 138 #[.slice (some ⟨blk, off, none⟩) d.size cap, .int .i64 a, .int .i64 b, .int .i64 pivot] w fun e w' =>
   e = .returned (.tuple #[.int .i64 (Sort.partition Sort.ltInt d a b pivot).1, .bool (Sort.partition Sort.ltInt d a b pivot).2.1]) ∧ ∃ n, w' = putRow (Value.int .u64) (Sort.ahead w n) blk off (Sort.partition Sort.ltInt d a b pivot).2.2 :=
 (partition_u64 blk off cap a b pivot d w hH hap hpb hb hsz).mono fun _ _ ⟨he, n, hw⟩ => ⟨he, n, hw⟩
theorem holds_aside {w : World} {blk off sb so n t : Nat} {d : Array Int} (h : Holds (Value.int .u64) w blk off d) (hne : sb ≠ blk) : Holds (Value.int .u64) (putRow (Value.int .i64) (Sort.ahead w n) sb so (one t)) blk off d := fun j hj =>
 ⟨by rw [cell?_putRow_other _ _ _ _ _ _ (Or.inl (Ne.symm hne))]; exact (h j hj).1, by rw [frozen?_putRow]; exact (h j hj).2⟩
theorem order2_u64 (d : Array Int) (len : Nat) (hlen : d.size = len) (blk off cap a b sb so s : Nat) (w : World) (hH : Holds (Value.int .u64) w blk off d) (ha : a < d.size) (hb : b < d.size)
    (hS : Holds (Value.int .i64) w sb so (one s)) (hs : s < 2 ^ 62) :
    Calls Tryz.prog 178 #[.slice (some ⟨blk, off, none⟩) len cap, .int .i64 a, .int .i64 b, .pointer (some ⟨sb, so, none⟩)] w fun e w' =>
      e = .returned (.tuple #[.int .i64 (order2 ltInt d a b s).1, .int .i64 (order2 ltInt d a b s).2.1]) ∧ ∃ n, w' = putRow (Value.int .i64) (Sort.ahead w n) sb so (one (order2 ltInt d a b s).2.2) := by
  subst hlen
  replace hs : s < 4611686018427387904 := by omega
  have ca := (hH a ha).1
  have cb := (hH b hb).1
  obtain ⟨cs, fs⟩ := one_cell hS
  have ea : d[a]! = d[a] := getElem!_pos d a ha
  have eb : d[b]! = d[b] := getElem!_pos d b hb
  go_enter Tryz.func178, Tryz.ntmps178
  go_wp2
  go_region_with (go_at_call 136; refine (cmp_Less_u64 _ _ _).mono ?_; rintro e w' ⟨rfl, rfl⟩)
  all_goals (try go_wp2)
  all_goals first
    | (have hlt : ltInt d[b] d[a] = true := by assumption
       have e2 : order2 ltInt d a b s = (b, a, s + 1) := by simp [order2, ea, eb, hlt]
       go_ret2
       rw [e2]
       refine ⟨rfl, 1, ?_⟩
       rw [putRow_ahead, ← one_set hS (s + 1)]
       simp [drew_eq_ahead])
    | (have hlt : ltInt d[b] d[a] = false := by assumption
       have e2 : order2 ltInt d a b s = (a, b, s) := by simp [order2, ea, eb, hlt]
       go_ret2
       rw [e2]
       refine ⟨rfl, 1, ?_⟩
       rw [putRow_ahead, putRow_self _ _ _ _ _ hS]
       rfl)
theorem median_u64 (d : Array Int) (len : Nat) (hlen : d.size = len) (blk off cap a b c sb so s : Nat) (w : World) (hH : Holds (Value.int .u64) w blk off d) (ha : a < d.size) (hb : b < d.size) (hc : c < d.size) (hne : sb ≠ blk)
  (hS : Holds (Value.int .i64) w sb so (one s)) (hs : s + 3 < 2 ^ 62) :
  Calls Tryz.prog 166 #[.slice (some ⟨blk, off, none⟩) len cap, .int .i64 a, .int .i64 b, .int .i64 c, .pointer (some ⟨sb, so, none⟩)] w fun e w' =>
   e = .returned (.int .i64 (median ltInt d a b c s).1) ∧ ∃ n, w' = putRow (Value.int .i64) (Sort.ahead w n) sb so (one (median ltInt d a b c s).2) := by
 subst hlen
 have l1 := order2_lt d s ha hb
 have s1 := order2_swaps d a b s
 have l2 := order2_lt d (order2 ltInt d a b s).2.2 l1.2 hc
 have s2 := order2_swaps d (order2 ltInt d a b s).2.1 c (order2 ltInt d a b s).2.2
 go_enter Tryz.func166, Tryz.ntmps166
 go_wp2_with (go_at_call_of 178 (Value.int .i64 (b : Int)); refine (order2_u64 d _ rfl blk off cap a b sb so s w hH ha hb hS (by omega)).mono ?_; rintro e w' ⟨rfl, n1, rfl⟩)
 go_wp2_with (go_at_call_of 178 (Value.int .i64 (c : Int)); refine (order2_u64 d _ rfl blk off cap (order2 ltInt d a b s).2.1 c sb so (order2 ltInt d a b s).2.2 _ (holds_aside hH hne) l1.2 hc (holds_one hS) (by omega)).mono ?_; rintro e w' ⟨rfl, n2, rfl⟩)
 go_wp2_with (go_at_call_of 178 (Value.int .i64 ((order2 ltInt d a b s).1 : Int)); refine (order2_u64 d _ rfl blk off cap (order2 ltInt d a b s).1 (order2 ltInt d (order2 ltInt d a b s).2.1 c (order2 ltInt d a b s).2.2).1 sb so (order2 ltInt d (order2 ltInt d a b s).2.1 c (order2 ltInt d a b s).2.2).2.2 _
  (holds_aside (holds_aside hH hne) hne) l1.1 l2.1 (holds_one (holds_one hS)) (by omega)).mono ?_; rintro e w' ⟨rfl, n3, rfl⟩)
 go_ret
 refine ⟨rfl, n1 + (n2 + n3), ?_⟩
 rw [one_one, one_one]
 rfl
theorem medianAdjacent_u64 (d : Array Int) (len : Nat) (hlen : d.size = len) (blk off cap a sb so s : Nat) (w : World) (hH : Holds (Value.int .u64) w blk off d) (ha0 : 1 ≤ a) (ha : a + 1 < d.size) (hsz : d.size < 2 ^ 62) (hne : sb ≠ blk)
  (hS : Holds (Value.int .i64) w sb so (one s)) (hs : s + 3 < 2 ^ 62) :
  Calls Tryz.prog 165 #[.slice (some ⟨blk, off, none⟩) len cap, .int .i64 a, .pointer (some ⟨sb, so, none⟩)] w fun e w' =>
   e = .returned (.int .i64 (medianAdjacent ltInt d a s).1) ∧ ∃ n, w' = putRow (Value.int .i64) (Sort.ahead w n) sb so (one (medianAdjacent ltInt d a s).2) := by
 subst hlen
 replace hsz : d.size < 4611686018427387904 := by omega
 go_enter Tryz.func165, Tryz.ntmps165
 go_wp2_with (go_at_call 166; rw [show ((a : Int) - 1) = ((a - 1 : Nat) : Int) by omega, show ((a : Int) + 1) = ((a + 1 : Nat) : Int) by omega]; refine (median_u64 d _ rfl blk off cap (a - 1) a (a + 1) sb so s w hH (by omega) (by omega) ha hne hS hs).mono ?_; rintro e w' ⟨rfl, n1, rfl⟩)
 go_ret
 exact ⟨rfl, n1, rfl⟩
theorem counter_grow (w : World) (N S : Nat) : ∃ os, putRow (Value.int .i64) (Sort.ahead (w.alloc (.cells #[.int .i64 0] 3)) N) w.heap.size 0 (one S) = grow (Sort.ahead w N) os := by
 rw [alloc_eq_grow, ahead_grow]
 obtain ⟨os, _, h⟩ := putRow_grow_new (Value.int .i64) (Sort.ahead w N) #[.cells #[.int .i64 0] 3] w.heap.size 0 (one S) (Nat.le_refl _)
 exact ⟨os, h⟩
theorem pivot_world_u64 (blk off cap : Nat) (d : Array Int) (w : World) (hH : Holds (Value.int .u64) w blk off d) (hblk : blk < w.heap.size) (hsz : d.size < 4611686018427387904) :
  ∃ Wc : Nat → Nat → World,
   w.alloc (.cells #[.int .i64 0] 3) = Wc 0 0 ∧
   (∀ N S : Nat, (Wc N S).cell? ⟨w.heap.size, 0, none⟩ = some (.int .i64 (S : Int))) ∧
   (∀ N S : Nat, ∃ os, Wc N S = grow (Sort.ahead w N) os) ∧
   (∀ x s N : Nat, 1 ≤ x → x + 1 < d.size → s + 3 < 4611686018427387904 → Calls Tryz.prog 165 #[.slice (some ⟨blk, off, none⟩) d.size cap, .int .i64 (x : Int), .pointer (some ⟨w.heap.size, 0, none⟩)] (Wc N s) fun e w' =>
    e = .returned (.int .i64 ((medianAdjacent ltInt d x s).1 : Int)) ∧ ∃ N', w' = Wc N' (medianAdjacent ltInt d x s).2) ∧
   (∀ x y z s N : Nat, x < d.size → y < d.size → z < d.size → s + 3 < 4611686018427387904 → Calls Tryz.prog 166 #[.slice (some ⟨blk, off, none⟩) d.size cap, .int .i64 (x : Int), .int .i64 (y : Int), .int .i64 (z : Int), .pointer (some ⟨w.heap.size, 0, none⟩)] (Wc N s) fun e w' =>
    e = .returned (.int .i64 ((median ltInt d x y z s).1 : Int)) ∧ ∃ N', w' = Wc N' (median ltInt d x y z s).2) := by
 have hne : w.heap.size ≠ blk := by omega
 have hH0 : Holds (Value.int .u64) (w.alloc (.cells #[.int .i64 0] 3)) blk off d := by rw [alloc_eq_grow]; exact holds_grow _ _ _ _ _ _ hblk hH
 have hS0 : Holds (Value.int .i64) (w.alloc (.cells #[.int .i64 0] 3)) w.heap.size 0 (one 0) := fun j hj => by
  obtain rfl : j = 0 := by simpa using hj
  simp
 refine ⟨fun N S => putRow (Value.int .i64) (Sort.ahead (w.alloc (.cells #[.int .i64 0] 3)) N) w.heap.size 0 (one S), (putRow_self _ _ _ _ _ hS0).symm, fun N S => (one_cell (holds_one (n := N) (t := S) hS0)).1, fun N S => counter_grow w N S, ?_, ?_⟩
 ·
  intro x s N h1 h2 hs
  refine (medianAdjacent_u64 d _ rfl blk off cap x w.heap.size 0 s _ (holds_aside hH0 hne) h1 h2 (by omega) hne (holds_one hS0) (by omega)).mono ?_
  rintro e w' ⟨he, n, hw⟩
  exact ⟨he, N + n, by rw [hw, one_one]⟩
 ·
  intro x y z s N h1 h2 h3 hs
  refine (median_u64 d _ rfl blk off cap x y z w.heap.size 0 s _ (holds_aside hH0 hne) h1 h2 h3 hne (holds_one hS0) (by omega)).mono ?_
  rintro e w' ⟨he, n, hw⟩
  exact ⟨he, N + n, by rw [hw, one_one]⟩
theorem choosePivot_u64 (blk off cap a b : Nat) (d : Array Int) (w : World) (hH : Holds (Value.int .u64) w blk off d) (hblk : blk < w.heap.size) (hab : a < b) (hb : b ≤ d.size) (hsz : d.size < 4611686018427387904) :
    Calls Tryz.prog 133 #[.slice (some ⟨blk, off, none⟩) d.size cap, .int .i64 a, .int .i64 b] w fun e w' =>
      e = .returned (.tuple #[.int .i64 (choosePivot ltInt d a b).1, .int .i64 (hintCode (choosePivot ltInt d a b).2)]) ∧ ∃ n os, w' = grow (Sort.ahead w n) os := by
  obtain ⟨Wc, hW0, cS, hG, MA, MD⟩ := pivot_world_u64 blk off cap d w hH hblk hsz
  clear hH
  rw [choosePivot_eq]
  obtain ⟨I, hI⟩ : ∃ I : Nat, I = a + (b - a) / 4 * 1 := ⟨_, rfl⟩
  obtain ⟨J, hJ⟩ : ∃ J : Nat, J = a + (b - a) / 4 * 2 := ⟨_, rfl⟩
  obtain ⟨K, hK⟩ : ∃ K : Nat, K = a + (b - a) / 4 * 3 := ⟨_, rfl⟩
  have eI : ((a : Int) + ((b : Int) - (a : Int)) / 4) = (I : Int) := by omega
  have eJ : ((a : Int) + ((b : Int) - (a : Int)) / 4 * 2) = (J : Int) := by omega
  have eK : ((a : Int) + ((b : Int) - (a : Int)) / 4 * 3) = (K : Int) := by omega
  by_cases h8 : b - a ≥ 8
  · by_cases h50 : b - a ≥ 50
    ·
      obtain ⟨i1, s1, h1⟩ : ∃ i1 s1, medianAdjacent ltInt d I 0 = (i1, s1) := ⟨_, _, rfl⟩
      obtain ⟨j1, s2, h2⟩ : ∃ j1 s2, medianAdjacent ltInt d J s1 = (j1, s2) := ⟨_, _, rfl⟩
      obtain ⟨k1, s3, h3⟩ : ∃ k1 s3, medianAdjacent ltInt d K s2 = (k1, s3) := ⟨_, _, rfl⟩
      obtain ⟨p, s, h4⟩ : ∃ p s, median ltInt d i1 j1 k1 s3 = (p, s) := ⟨_, _, rfl⟩
      have hraw : rawPivot ltInt d a b = (p, s) := by simp only [rawPivot, if_pos h8, if_pos h50, ← hI, ← hJ, ← hK, h1, h2, h3, h4]
      have m1 := medianAdjacent_mem ltInt d I 0; rw [h1] at m1
      have m2 := medianAdjacent_mem ltInt d J s1; rw [h2] at m2
      have m3 := medianAdjacent_mem ltInt d K s2; rw [h3] at m3
      have n1 := medianAdjacent_count ltInt d I 0; rw [h1] at n1
      have n2 := medianAdjacent_count ltInt d J s1; rw [h2] at n2
      have n3 := medianAdjacent_count ltInt d K s2; rw [h3] at n3
      simp only [] at m1 m2 m3 n1 n2 n3
      have c1 : Calls Tryz.prog 165 #[.slice (some ⟨blk, off, none⟩) d.size cap, .int .i64 (I : Int), .pointer (some ⟨w.heap.size, 0, none⟩)] (Wc 0 0) fun e w' => e = .returned (.int .i64 (i1 : Int)) ∧ ∃ N', w' = Wc N' s1 := by
        have h := MA I 0 0 (by omega) (by omega) (by omega); rw [h1] at h; exact h
      have c2 : ∀ N, Calls Tryz.prog 165 #[.slice (some ⟨blk, off, none⟩) d.size cap, .int .i64 (J : Int), .pointer (some ⟨w.heap.size, 0, none⟩)] (Wc N s1) fun e w' => e = .returned (.int .i64 (j1 : Int)) ∧ ∃ N', w' = Wc N' s2 := fun N => by
        have h := MA J s1 N (by omega) (by omega) (by omega); rw [h2] at h; exact h
      have c3 : ∀ N, Calls Tryz.prog 165 #[.slice (some ⟨blk, off, none⟩) d.size cap, .int .i64 (K : Int), .pointer (some ⟨w.heap.size, 0, none⟩)] (Wc N s2) fun e w' => e = .returned (.int .i64 (k1 : Int)) ∧ ∃ N', w' = Wc N' s3 := fun N => by
        have h := MA K s2 N (by omega) (by omega) (by omega); rw [h3] at h; exact h
      have c4 : ∀ N, Calls Tryz.prog 166 #[.slice (some ⟨blk, off, none⟩) d.size cap, .int .i64 (i1 : Int), .int .i64 (j1 : Int), .int .i64 (k1 : Int), .pointer (some ⟨w.heap.size, 0, none⟩)] (Wc N s3) fun e w' => e = .returned (.int .i64 (p : Int)) ∧ ∃ N', w' = Wc N' s := fun N => by
        have h := MD i1 j1 k1 s3 N (by omega) (by omega) (by omega) (by omega); rw [h4] at h; exact h
      rw [hraw]
      obtain ⟨Hc, hHc⟩ : ∃ Hc : Int, Hc = hintCode (hintOf s) := ⟨_, rfl⟩
      have hh0 : s = 0 → Hc = 1 := fun h => by rw [hHc, h]; rfl
      have hh12 : s = 12 → Hc = 2 := fun h => by rw [hHc, h]; rfl
      have hhx : s ≠ 0 → s ≠ 12 → Hc = 0 := fun h1 h2 => by rw [hHc]; unfold hintOf; rw [if_neg h1, if_neg h2]; rfl
      show Calls Tryz.prog 133 _ w fun e w' => e = .returned (.tuple #[.int .i64 (p : Int), .int .i64 (hintCode (hintOf s))]) ∧ ∃ n os, w' = grow (Sort.ahead w n) os
      rw [← hHc]
      clear hHc hraw
      clear h1 h2 h3 h4 MA MD hI hJ hK m1 m2 m3
      go_enter Tryz.func133, Tryz.ntmps133
      go_wp2_with (first
        | (go_at_call_has 165 (Value.int .i64 (I : Int)); refine c1.mono ?_; rintro e w' ⟨rfl, N1, rfl⟩)
        | (go_at_call_has 165 (Value.int .i64 (J : Int)); refine (c2 _).mono ?_; rintro e w' ⟨rfl, N2, rfl⟩)
        | (go_at_call_has 165 (Value.int .i64 (K : Int)); refine (c3 _).mono ?_; rintro e w' ⟨rfl, N3, rfl⟩)
        | (go_at_call 166; refine (c4 _).mono ?_; rintro e w' ⟨rfl, N4, rfl⟩))
      all_goals
        go_ret2
        refine ⟨?_, _, hG _ _⟩
        first
          | (have e0 : (s : Int) = 0 := of_beq_int (by assumption)
             rw [hh0 (by omega)]; rfl)
          | (have e1 : (s : Int) = 12 := of_beq_int (by assumption)
             rw [hh12 (by omega)]; rfl)
          | (have e0 : (s : Int) ≠ 0 := of_bne_int (by assumption)
             have e1 : (s : Int) ≠ 12 := of_bne_int (by assumption)
             rw [hhx (by omega) (by omega)]; rfl)
          | (rw [hh0 (by omega)]; rfl)
    ·
      obtain ⟨p, s, h4⟩ : ∃ p s, median ltInt d I J K 0 = (p, s) := ⟨_, _, rfl⟩
      have hraw : rawPivot ltInt d a b = (p, s) := by simp only [rawPivot, if_pos h8, if_neg h50, ← hI, ← hJ, ← hK, h4]
      have c4 : Calls Tryz.prog 166 #[.slice (some ⟨blk, off, none⟩) d.size cap, .int .i64 (I : Int), .int .i64 (J : Int), .int .i64 (K : Int), .pointer (some ⟨w.heap.size, 0, none⟩)] (Wc 0 0) fun e w' => e = .returned (.int .i64 (p : Int)) ∧ ∃ N', w' = Wc N' s := by
        have h := MD I J K 0 0 (by omega) (by omega) (by omega) (by omega); rw [h4] at h; exact h
      rw [hraw]
      obtain ⟨Hc, hHc⟩ : ∃ Hc : Int, Hc = hintCode (hintOf s) := ⟨_, rfl⟩
      have hh0 : s = 0 → Hc = 1 := fun h => by rw [hHc, h]; rfl
      have hh12 : s = 12 → Hc = 2 := fun h => by rw [hHc, h]; rfl
      have hhx : s ≠ 0 → s ≠ 12 → Hc = 0 := fun h1 h2 => by rw [hHc]; unfold hintOf; rw [if_neg h1, if_neg h2]; rfl
      show Calls Tryz.prog 133 _ w fun e w' => e = .returned (.tuple #[.int .i64 (p : Int), .int .i64 (hintCode (hintOf s))]) ∧ ∃ n os, w' = grow (Sort.ahead w n) os
      rw [← hHc]
      clear hHc hraw
      clear h4 MA MD hI hJ hK
      go_enter Tryz.func133, Tryz.ntmps133
      go_wp2_with (first | (go_at_call 166; refine c4.mono ?_; rintro e w' ⟨rfl, N4, rfl⟩))
      all_goals
        go_ret2
        refine ⟨?_, _, hG _ _⟩
        first
          | (have e0 : (s : Int) = 0 := of_beq_int (by assumption)
             rw [hh0 (by omega)]; rfl)
          | (have e1 : (s : Int) = 12 := of_beq_int (by assumption)
             rw [hh12 (by omega)]; rfl)
          | (have e0 : (s : Int) ≠ 0 := of_bne_int (by assumption)
             have e1 : (s : Int) ≠ 12 := of_bne_int (by assumption)
             rw [hhx (by omega) (by omega)]; rfl)
          | (rw [hh0 (by omega)]; rfl)
  ·
    obtain ⟨p, hp⟩ : ∃ p : Nat, p = J := ⟨_, rfl⟩
    obtain ⟨s, hs⟩ : ∃ s : Nat, s = 0 := ⟨_, rfl⟩
    have hraw : rawPivot ltInt d a b = (p, s) := by simp only [rawPivot, if_neg h8, ← hJ, hp, hs]
    rw [hraw]
    obtain ⟨Hc, hHc⟩ : ∃ Hc : Int, Hc = hintCode (hintOf s) := ⟨_, rfl⟩
    have hh0 : s = 0 → Hc = 1 := fun h => by rw [hHc, h]; rfl
    have hh12 : s = 12 → Hc = 2 := fun h => by rw [hHc, h]; rfl
    have hhx : s ≠ 0 → s ≠ 12 → Hc = 0 := fun h1 h2 => by rw [hHc]; unfold hintOf; rw [if_neg h1, if_neg h2]; rfl
    show Calls Tryz.prog 133 _ w fun e w' => e = .returned (.tuple #[.int .i64 (p : Int), .int .i64 (hintCode (hintOf s))]) ∧ ∃ n os, w' = grow (Sort.ahead w n) os
    rw [← hHc]
    clear hHc hraw
    subst hp
    clear MA MD hI hJ hK
    have hW0' : w.alloc (.cells #[.int .i64 0] 3) = Wc 0 s := by rw [hs]; exact hW0
    clear hW0
    go_enter Tryz.func133, Tryz.ntmps133
    go_wp2
    all_goals
      go_ret2
      refine ⟨?_, _, hG _ _⟩
      first
        | (have e0 : (s : Int) = 0 := of_beq_int (by assumption)
           rw [hh0 (by omega)]; rfl)
        | (have e1 : (s : Int) = 12 := of_beq_int (by assumption)
           rw [hh12 (by omega)]; rfl)
        | (have e0 : (s : Int) ≠ 0 := of_bne_int (by assumption)
           have e1 : (s : Int) ≠ 12 := of_bne_int (by assumption)
           rw [hhx (by omega) (by omega)]; rfl)
        | (rw [hh0 (by omega)]; rfl)
structure Callees13 : Prop where
 ins : ∀ (blk off cap a b : Nat) (d : Array Int) (w : World), Holds encU w blk off d → a ≤ b → b ≤ d.size → d.size < 4611686018427387904 →
  Calls Tryz.prog 130 #[.slice (some ⟨blk, off, none⟩) d.size cap, .int .i64 a, .int .i64 b] w fun e w' => e = .returned (.tuple #[]) ∧ ∃ n, w' = putRow encU (Sort.ahead w n) blk off (insertionSort ltInt d a b)
 brk : ∀ (blk off cap a b : Nat) (d : Array Int) (w : World), Holds encU w blk off d → blk < w.heap.size → a ≤ b → b ≤ d.size → d.size < 4611686018427387904 →
  Calls Tryz.prog 132 #[.slice (some ⟨blk, off, none⟩) d.size cap, .int .i64 a, .int .i64 b] w fun e w' => e = .returned (.tuple #[]) ∧ ∃ n os, w' = grow (putRow encU (Sort.ahead w n) blk off (breakPatterns d a b)) os
 piv : ∀ (blk off cap a b : Nat) (d : Array Int) (w : World), Holds encU w blk off d → blk < w.heap.size → a < b → b ≤ d.size → d.size < 4611686018427387904 →
  Calls Tryz.prog 133 #[.slice (some ⟨blk, off, none⟩) d.size cap, .int .i64 a, .int .i64 b] w fun e w' => e = .returned (.tuple #[.int .i64 (choosePivot ltInt d a b).1, .int .i64 (hintCode (choosePivot ltInt d a b).2)]) ∧ ∃ n os, w' = grow (Sort.ahead w n) os
 par : ∀ (blk off cap a b : Nat) (d : Array Int) (w : World), Holds encU w blk off d → a < b → b ≤ d.size → d.size < 4611686018427387904 →
  Calls Tryz.prog 135 #[.slice (some ⟨blk, off, none⟩) d.size cap, .int .i64 a, .int .i64 b] w fun e w' => e = .returned (.bool (partialInsertionSort ltInt d a b).2) ∧ ∃ n, w' = putRow encU (Sort.ahead w n) blk off (partialInsertionSort ltInt d a b).1
 peq : ∀ (blk off cap a b pivot : Nat) (d : Array Int) (w : World), Holds encU w blk off d → a ≤ pivot → pivot < b → b ≤ d.size → d.size < 4611686018427387904 →
  Calls Tryz.prog 137 #[.slice (some ⟨blk, off, none⟩) d.size cap, .int .i64 a, .int .i64 b, .int .i64 pivot] w fun e w' => e = .returned (.int .i64 (partitionEqual ltInt d a b pivot).1) ∧ ∃ n, w' = putRow encU (Sort.ahead w n) blk off (partitionEqual ltInt d a b pivot).2
 prt : ∀ (blk off cap a b pivot : Nat) (d : Array Int) (w : World), Holds encU w blk off d → a ≤ pivot → pivot < b → b ≤ d.size → d.size < 4611686018427387904 →
  Calls Tryz.prog 138 #[.slice (some ⟨blk, off, none⟩) d.size cap, .int .i64 a, .int .i64 b, .int .i64 pivot] w fun e w' => e = .returned (.tuple #[.int .i64 (partition ltInt d a b pivot).1, .bool (partition ltInt d a b pivot).2.1]) ∧ ∃ n, w' = putRow encU (Sort.ahead w n) blk off (partition ltInt d a b pivot).2.2
theorem pdqsort_u64 (C : Callees13) (S : Plain13) : ∀ (N blk off cap a b limit : Nat) (d : Array Int) (w : World), b - a < N → Holds encU w blk off d → blk < w.heap.size → a ≤ b → b ≤ d.size → d.size < 4611686018427387904 → limit < 4611686018427387904 → Below ltInt a b d →
    Calls Tryz.prog 99 #[.slice (some ⟨blk, off, none⟩) d.size cap, .int .i64 a, .int .i64 b, .int .i64 limit] w fun e w' => e = .returned (.tuple #[]) ∧ At encU w blk off (pdq ltInt d a b limit true true) w' := by
  intro N
  induction N with
  | zero => intro _ _ _ _ _ _ _ _ h; exact absurd h (Nat.not_lt_zero _)
  | succ N ih =>
    intro blk off cap a b limit d w hN hH hblk hab hb hsz hlimit hBel0
    go_enter Tryz.func99, Tryz.ntmps99
    go_wp2
    go_loopg [1, 2, 3, 8, 9] (b - a) (fun k s1 s2 s3 s8 s9 wr => ∃ (a' b' lim : Nat) (wb wp : Bool) (dk : Array Int), s1 = .int .i64 a' ∧ s2 = .int .i64 b' ∧ s3 = .int .i64 lim ∧ s8 = .bool wb ∧ s9 = .bool wp ∧
      a' ≤ b' ∧ b' ≤ d.size ∧ b' - a' ≤ k ∧ k ≤ b - a ∧ lim ≤ limit ∧ dk.size = d.size ∧ Below ltInt a' b' dk ∧ At encU w blk off dk wr ∧ pdq ltInt dk a' b' lim wb wp = pdq ltInt d a b limit true true)
    case atStart => exact ⟨a, b, limit, true, true, d, rfl, rfl, rfl, rfl, rfl, hab, hb, Nat.le_refl _, Nat.le_refl _, Nat.le_refl _, rfl, hBel0, At.refl hH, rfl⟩
    case round =>
      obtain ⟨a', b', lim, wb, wp, dk, rfl, rfl, rfl, rfl, rfl, hab', hb', hk, hkN, hlim, hds, hBel, hAt, heq⟩ := hrel
      obtain ⟨hHk, hblk'⟩ := hAt.holds hH hds hblk
      have A : Aside (pdq ltInt dk a' b' lim wb wp = pdq ltInt d a b limit true true) := heq
      clear heq
      by_cases h12 : b' - a' ≤ 12
      ·
        have h12z : (b' : Int) - (a' : Int) ≤ 12 := by omega
        have hc := C.ins blk off cap a' b' dk wr hHk hab' (by omega) (by omega)
        rw [hds] at hc
        go_wp2_with (go_at_call 130; refine hc.mono ?_; rintro e w1 ⟨rfl, hw1⟩)
        (try simp only [Exit.inBlock, Exit.then]); refine bodyPost_ret (results_none rfl _ _ _) rfl ?_
        refine ⟨rfl, ?_⟩
        rw [← A.out, pdq_small h12]
        exact hAt.step hblk (S.ins S.swo dk a' b' hab' (by omega)).1.1 hw1
      · have h12z : ¬ ((b' : Int) - (a' : Int) ≤ 12) := by omega
        by_cases hl0 : lim = 0
        ·
          subst hl0
          have hc := heapSort_u64 blk off d.size cap dk hds a' b' wr hHk hab' (by omega) (by omega)
          go_wp2_with (go_at_call 131; refine hc.mono ?_; rintro e w1 ⟨rfl, hw1⟩)
          (try simp only [Exit.inBlock, Exit.then]); refine bodyPost_ret (results_none rfl _ _ _) rfl ?_
          refine ⟨rfl, ?_⟩
          rw [← A.out, pdq_heap h12 rfl]
          exact hAt.step hblk (heapSort_holds S.swo dk a' b' hab' (by omega)).1.1 hw1
        · have hl0z : ¬ ((lim : Int) = 0) := by omega
          obtain ⟨s1, B1, hc1, s2, B2, hpv, s3, B3⟩ := rd_facts (limit := lim) (wb := wb) (wp := wp) S.swo S.par reverseRange_holds (show a' < b' by omega) (show b' ≤ dk.size by omega) hBel
          go_upto_if 35 with fail
          go_cut [3] from 19 (fun s3 wc => s3 = .int .i64 (rd ltInt dk a' b' lim wb wp).lim ∧ At encU w blk off (rd ltInt dk a' b' lim wb wp).d1 wc)
          case first =>
            cases wb
            · have hc := C.brk blk off cap a' b' dk wr hHk hblk' hab' (by omega) (by omega)
              rw [hds] at hc
              go_wp2_with (go_at_call 132; refine hc.mono ?_; rintro e w1 ⟨rfl, hw1⟩)
              go_meet
              case rel =>
                refine ⟨?_, hAt.stepG hblk s1 hw1⟩
                show Value.int .i64 ((lim : Int) - 1) = Value.int .i64 ((lim - 1 : Nat) : Int)
                congr 1
                omega
            · go_wp2_with fail
              go_meet
              case rel => exact ⟨rfl, hAt⟩
          case rest =>
            obtain ⟨rfl, hAt1⟩ := hcut
            obtain ⟨hH1, hblk1⟩ := hAt1.holds hH (s1.trans hds) hblk
            have hc17 : Calls Tryz.prog 133 #[.slice (some ⟨blk, off, none⟩) d.size cap, .int .i64 a', .int .i64 b'] wc fun e w' => e = .returned (.tuple #[.int .i64 (rd ltInt dk a' b' lim wb wp).c.1, .int .i64 (hintCode (rd ltInt dk a' b' lim wb wp).c.2)]) ∧ ∃ n os, w' = grow (Sort.ahead wc n) os := by
              have := C.piv blk off cap a' b' (rd ltInt dk a' b' lim wb wp).d1 wc hH1 hblk1 (by omega) (by omega) (by omega)
              rw [s1, hds] at this
              exact this
            go_upto_if 50 with (go_at_call 133; refine hc17.mono ?_; rintro e w2 ⟨rfl, hw2⟩)
            have hAt2 : At encU w blk off (rd ltInt dk a' b' lim wb wp).d1 w2 := hAt1.same hH (s1.trans hds) hblk hw2
            obtain ⟨hH2, hblk2⟩ := hAt2.holds hH (s1.trans hds) hblk
            go_cut [11, 12] from 19 (fun s11 s12 wc => s11 = .int .i64 (rd ltInt dk a' b' lim wb wp).pivot ∧ s12 = .int .i64 (hintCode (rd ltInt dk a' b' lim wb wp).hint) ∧ At encU w blk off (rd ltInt dk a' b' lim wb wp).d2 wc)
            case first =>
              by_cases hh : (rd ltInt dk a' b' lim wb wp).c.2 = .decreasing
              · have hcode : hintCode (rd ltInt dk a' b' lim wb wp).c.2 = 2 := by rw [hh]; rfl
                obtain ⟨e2, epv, eht⟩ := rd_dec hh
                have hc18 := reverseRange_u64 blk off cap (rd ltInt dk a' b' lim wb wp).d1 a' b' w2 hH2 hab' (by omega) (by omega)
                rw [s1, hds] at hc18
                go_wp2_with (go_at_call 134; refine hc18.mono ?_; rintro e w3 ⟨rfl, hw3⟩)
                go_meet
                case rel =>
                  refine ⟨?_, by rw [eht]; rfl, by rw [e2]; exact hAt2.step hblk (by rw [← e2, s2, s1]) hw3⟩
                  rw [epv]
                  congr 1
                  omega
              · have hcode : ¬ (hintCode (rd ltInt dk a' b' lim wb wp).c.2 = 2) := fun h => hh (hintCode_two h)
                obtain ⟨e2, epv, eht⟩ := rd_not hh
                go_wp2_with fail
                go_meet
                case rel => exact ⟨by rw [epv], by rw [eht], by rw [e2]; exact hAt2⟩
            case rest =>
              obtain ⟨rfl, rfl, hAt3⟩ := hcut
              obtain ⟨hH3, hblk3⟩ := hAt3.holds hH (s2.trans hds) hblk
              go_upto_region 15 with fail
              go_cut [12, 68] from 19 (fun s12 s68 wx => s12 = .int .i64 (hintCode (rd ltInt dk a' b' lim wb wp).hint) ∧ s68 = .bool (wb && wp && decide ((rd ltInt dk a' b' lim wb wp).hint = .increasing)) ∧ wx = wc)
              case first =>
                cases wb <;> cases wp <;> cases hh3 : (rd ltInt dk a' b' lim _ _).hint <;>
                  (have hcode3 := congrArg hintCode hh3
                   simp only [hintCode] at hcode3
                   go_wp2_with fail
                   go_meet
                   exact ⟨by simp [hh3, hintCode], by simp [hh3, hintCode], rfl⟩)
              case rest =>
                obtain ⟨rfl, rfl, rfl⟩ := hcut
                go_upto_if 68 with fail
                go_cut [] from 19 (fun wx => (rd ltInt dk a' b' lim wb wp).pi.2 = false ∧ At encU w blk off (rd ltInt dk a' b' lim wb wp).pi.1 wx)
                case first =>
                  cases h68 : (wb && wp && decide ((rd ltInt dk a' b' lim wb wp).hint = .increasing))
                  · have epi := rd_pi_no h68
                    go_wp2_with fail
                    go_meet
                    case rel => exact ⟨by rw [epi], by rw [epi]; exact hAt3⟩
                  · have epi := rd_pi_yes h68
                    have hc19 := C.par blk off cap a' b' (rd ltInt dk a' b' lim wb wp).d2 wc hH3 (by omega) (by omega) (by omega)
                    rw [s2, hds, ← epi] at hc19
                    go_wp2_with (go_at_call 135; refine hc19.mono ?_; rintro e w4 ⟨rfl, hw4⟩)
                    all_goals first
                      | (have hp2 : (rd ltInt dk a' b' lim wb wp).pi.2 = false := by rw [epi]; assumption
                         go_meet
                         exact ⟨hp2, hAt3.step hblk (by rw [s3, s2]) hw4⟩)
                      | (have hp2 : (rd ltInt dk a' b' lim wb wp).pi.2 = true := by rw [epi]; assumption
                         (try simp only [Exit.inBlock, Exit.then]); refine bodyPost_ret (results_none rfl _ _ _) rfl ?_
                         refine ⟨rfl, ?_⟩
                         rw [← A.out, pdq_done h12 hl0 hp2]
                         exact hAt3.step hblk (by rw [s3, s2]) hw4)
                case rest =>
                  obtain ⟨hp2, hAt5⟩ := hcut
                  obtain ⟨hH5, hblk5⟩ := hAt5.holds hH (s3.trans hds) hblk
                  have hcw : ∀ t, t < d.size → wc.cell? ⟨blk, off + t, none⟩ = some (.int .u64 (rd ltInt dk a' b' lim wb wp).pi.1[t]!) := fun t ht => (hH5 t (by omega)).1
                  have hfw : ∀ t, t < d.size → wc.frozen? ⟨blk, off + t, none⟩ = false := fun t ht => (hH5 t (by omega)).2
                  go_upto_region 17 with fail
                  go_cut [87] from 19 (fun s87 wx => s87 = .bool (decide (a' > 0) && !ltInt (rd ltInt dk a' b' lim wb wp).pi.1[a' - 1]! (rd ltInt dk a' b' lim wb wp).pi.1[(rd ltInt dk a' b' lim wb wp).pivot]!) ∧ At encU w blk off (rd ltInt dk a' b' lim wb wp).pi.1 wx)
                  case first =>
                    rcases Nat.eq_zero_or_pos a' with ha0 | ha0
                    · have ha0z : decide ((a' : Int) > 0) = false := decide_eq_false (by omega)
                      go_big_quiet (first | (go_at_call 136; refine Calls.quiet_of_same (cmp_Less_u64 _ _ _)))
                      go_wp2_with fail
                      go_meet
                      case rel => exact ⟨by simp [ha0], hAt5.ahead nq⟩
                    · have ha0z : (a' : Int) > 0 := by omega
                      go_big_quiet (first | (go_at_call 136; refine Calls.quiet_of_same (cmp_Less_u64 _ _ _)))
                      go_wp2_with fail
                      go_meet
                      case rel => exact ⟨by simp [ha0], hAt5.ahead nq⟩
                  case rest =>
                    obtain ⟨rfl, hAt6⟩ := hcut
                    obtain ⟨hH6, hblk6⟩ := hAt6.holds hH (s3.trans hds) hblk
                    clear hcw hfw
                    cases h87 : (decide (a' > 0) && !ltInt (rd ltInt dk a' b' lim wb wp).pi.1[a' - 1]! (rd ltInt dk a' b' lim wb wp).pi.1[(rd ltInt dk a' b' lim wb wp).pivot]!)
                    ·
                      obtain ⟨mid, ap, d4, hx⟩ : ∃ mid ap d4, partition ltInt (rd ltInt dk a' b' lim wb wp).pi.1 a' b' (rd ltInt dk a' b' lim wb wp).pivot = (mid, ap, d4) := ⟨(partition ltInt (rd ltInt dk a' b' lim wb wp).pi.1 a' b' (rd ltInt dk a' b' lim wb wp).pivot).1, (partition ltInt (rd ltInt dk a' b' lim wb wp).pi.1 a' b' (rd ltInt dk a' b' lim wb wp).pivot).2.1, (partition ltInt (rd ltInt dk a' b' lim wb wp).pi.1 a' b' (rd ltInt dk a' b' lim wb wp).pivot).2.2, rfl⟩
                      obtain ⟨r1, r2, r3, r4, r5, r6, r7⟩ := round_part S.swo S.prt hpv.1 hpv.2 (show b' ≤ (rd ltInt dk a' b' lim wb wp).pi.1.size by omega) B3 hx
                      have hc22 := C.prt blk off cap a' b' (rd ltInt dk a' b' lim wb wp).pivot (rd ltInt dk a' b' lim wb wp).pi.1 wc hH6 hpv.1 hpv.2 (by omega) (by omega)
                      rw [s3, hds, hx] at hc22
                      have X : Aside (partition ltInt (rd ltInt dk a' b' lim wb wp).pi.1 a' b' (rd ltInt dk a' b' lim wb wp).pivot = (mid, ap, d4)) := hx
                      clear hx
                      go_upto_if 113 with (go_at_call 138; refine hc22.mono ?_; rintro e w7 ⟨rfl, hw7⟩)
                      have hx := X.out
                      have hAt7 : At encU w blk off d4 w7 := hAt6.step hblk r3 hw7
                      obtain ⟨hH7, hblk7⟩ := hAt7.holds hH (r3.trans (s3.trans hds)) hblk
                      by_cases h4 : mid - a' < b' - mid
                      · have h4z : (mid : Int) - (a' : Int) < (b' : Int) - (mid : Int) := by omega
                        have hih := ih blk off cap a' mid (rd ltInt dk a' b' lim wb wp).lim d4 w7 (by omega) hH7 hblk7 (by omega) (by omega) (by omega) (Nat.lt_of_le_of_lt (Nat.le_trans rd_lim_le hlim) hlimit) r4
                        rw [r3, s3, hds] at hih
                        obtain ⟨pL, sL⟩ := S.pdq S.swo d4 a' mid (rd ltInt dk a' b' lim wb wp).lim true true (by omega) (by omega) r4
                        go_wp2_with (go_at_call 99; refine hih.mono ?_; rintro e w8 ⟨rfl, hw8⟩)
                        go_roundg (b' - (mid + 1))
                        case measure => omega
                        case rel =>
                          refine ⟨mid + 1, b', (rd ltInt dk a' b' lim wb wp).lim, decide (mid - a' ≥ (b' - a') / 8), ap, pdq ltInt d4 a' mid (rd ltInt dk a' b' lim wb wp).lim true true, by simp, rfl, rfl, ?_, rfl, by omega, by omega, Nat.le_refl _, by omega, Nat.le_trans rd_lim_le hlim, by rw [pL.1, r3, s3, hds], (r6 _ pL sL).1, hAt7.stepG hblk pL.1 hw8, ?_⟩
                          · exact congrArg Value.bool (eighth (by omega) (by omega))
                          · rw [← A.out, pdq_left h12 hl0 hp2 h87 (by rw [hx]; exact ⟨r1, r2⟩) (by rw [hx]; exact h4), hx]
                      · have h4z : ¬ ((mid : Int) - (a' : Int) < (b' : Int) - (mid : Int)) := by omega
                        have hih := ih blk off cap (mid + 1) b' (rd ltInt dk a' b' lim wb wp).lim d4 w7 (by omega) hH7 hblk7 (by omega) (by omega) (by omega) (Nat.lt_of_le_of_lt (Nat.le_trans rd_lim_le hlim) hlimit) r5
                        rw [r3, s3, hds] at hih
                        obtain ⟨pL, sL⟩ := S.pdq S.swo d4 (mid + 1) b' (rd ltInt dk a' b' lim wb wp).lim true true (by omega) (by omega) r5
                        go_wp2_with (go_at_call 99; refine hih.mono ?_; rintro e w8 ⟨rfl, hw8⟩)
                        go_roundg (mid - a')
                        case measure => omega
                        case rel =>
                          refine ⟨a', mid, (rd ltInt dk a' b' lim wb wp).lim, decide (b' - mid ≥ (b' - a') / 8), ap, pdq ltInt d4 (mid + 1) b' (rd ltInt dk a' b' lim wb wp).lim true true, rfl, rfl, rfl, ?_, rfl, by omega, by omega, Nat.le_refl _, by omega, Nat.le_trans rd_lim_le hlim, by rw [pL.1, r3, s3, hds], (r7 _ pL sL).1, hAt7.stepG hblk pL.1 hw8, ?_⟩
                          · exact congrArg Value.bool (eighth (by omega) (by omega))
                          · rw [← A.out, pdq_right h12 hl0 hp2 h87 (by rw [hx]; exact ⟨r1, r2⟩) (by rw [hx]; exact h4), hx]
                    ·
                      have h87' := h87
                      simp only [Bool.and_eq_true, decide_eq_true_eq, Bool.not_eq_true'] at h87'
                      obtain ⟨mid, d4, hx⟩ : ∃ mid d4, partitionEqual ltInt (rd ltInt dk a' b' lim wb wp).pi.1 a' b' (rd ltInt dk a' b' lim wb wp).pivot = (mid, d4) := ⟨(partitionEqual ltInt (rd ltInt dk a' b' lim wb wp).pi.1 a' b' (rd ltInt dk a' b' lim wb wp).pivot).1, (partitionEqual ltInt (rd ltInt dk a' b' lim wb wp).pi.1 a' b' (rd ltInt dk a' b' lim wb wp).pivot).2, rfl⟩
                      obtain ⟨r1, r2, r3, r4, _⟩ := round_eq S.swo S.peq h87'.1 hpv.1 hpv.2 (show b' ≤ (rd ltInt dk a' b' lim wb wp).pi.1.size by omega) B3 h87'.2 hx
                      have hc21 := C.peq blk off cap a' b' (rd ltInt dk a' b' lim wb wp).pivot (rd ltInt dk a' b' lim wb wp).pi.1 wc hH6 hpv.1 hpv.2 (by omega) (by omega)
                      rw [s3, hds, hx] at hc21
                      have X : Aside (partitionEqual ltInt (rd ltInt dk a' b' lim wb wp).pi.1 a' b' (rd ltInt dk a' b' lim wb wp).pivot = (mid, d4)) := hx
                      clear hx
                      go_wp2_with (go_at_call 137; refine hc21.mono ?_; rintro e w7 ⟨rfl, hw7⟩)
                      go_roundg (b' - mid)
                      case measure => omega
                      case rel =>
                        have hx := X.out
                        exact ⟨mid, b', (rd ltInt dk a' b' lim wb wp).lim, wb, wp, d4, rfl, rfl, rfl, rfl, rfl, r2, hb', Nat.le_refl _, by omega, Nat.le_trans rd_lim_le hlim, by rw [r3, s3, hds], r4, hAt6.step hblk r3 hw7, by rw [← A.out, pdq_eq h12 hl0 hp2 h87 (by rw [hx]; exact ⟨r1, r2⟩), hx]⟩
def pdqWalk_u64 : Prop := ∀ (blk off cap a b limit : Nat) (d : Array Int) (w : World), Holds (Value.int .u64) w blk off d → blk < w.heap.size → a ≤ b → b ≤ d.size → d.size < 4611686018427387904 → limit < 4611686018427387904 → Below ltInt a b d →
 Calls Tryz.prog 99 #[.slice (some ⟨blk, off, none⟩) d.size cap, .int .i64 a, .int .i64 b, .int .i64 limit] w fun e w' =>
  e = .returned (.tuple #[]) ∧ ∃ n os, w' = grow (putRow (Value.int .u64) (Sort.ahead w n) blk off (Sort.pdq ltInt d a b limit true true)) os
theorem Sort_u64 (hpdq : pdqWalk_u64) (blk off cap : Nat) (d : Array Int) (w : World) (hH : Holds (Value.int .u64) w blk off d) (hblk : blk < w.heap.size) (hsz : d.size < 4611686018427387904) :
  Calls Tryz.prog 61 #[.slice (some ⟨blk, off, none⟩) d.size cap] w fun e w' => e = .returned (.tuple #[]) ∧ ∃ n os, w' = grow (putRow (Value.int .u64) (Sort.ahead w n) blk off (Sort.sort ltInt d)) os := by
 have HH : Hid (Holds (Value.int .u64) w blk off d) := hH
 clear hH
 have hLen : ∀ w, Calls Tryz.prog 100 #[.int .u64 (d.size : Int)] w fun e w' => e = .returned (.int .i64 (bitsLen d.size : Nat)) ∧ w' = w := fun w => by
  have h := Tryz.bits_Len (d.size : Int) w (by omega) (by omega)
  rwa [Int.toNat_natCast, bitLen_eq _ (by omega)] at h
 have hk : bitsLen d.size ≤ 62 := (bitsLen_le_iff d.size 62).2 (by omega)
 go_enter Tryz.func61, Tryz.ntmps61
 go_wp2_with (first
  | (go_at_call 100; refine (hLen _).mono ?_; rintro e w' ⟨rfl, rfl⟩)
  | (go_at_call 99; refine (hpdq blk off cap 0 d.size (bitsLen d.size) d _ (by exact HH.out) (by exact hblk) (Nat.zero_le _) (Nat.le_refl _) hsz (by omega) (Or.inl rfl)).mono ?_; rintro e w' ⟨rfl, n, os, rfl⟩))
 go_end0
 exact ⟨rfl, n, os, rfl⟩
theorem plain13 : Plain13 where
 swo := swo_ltInt
 ins := insertionSort_holds
 par := partialInsertionSort_holds
 prt := partition_holds _
 peq := partitionEqual_holds _
 pdq := pdq_sorts _
theorem sort_u64_eq (zs : List Int) : Sort.sort ltInt zs.toArray = (zs.mergeSort fun x y => decide (x ≤ y)).toArray := by
 rw [← sortInt zs]
theorem callees13 : Callees13 where
 ins := insertionSort_u64
 brk := breakPatterns_u64
 piv := choosePivot_u64
 par := partialInsertionSort_u64
 peq := partitionEqualOrdered_u64
 prt := partitionOrdered_u64
theorem pdqWalkInt : pdqWalk_u64 := fun blk off cap a b limit d w hH hb hab hbd hsz hl hB =>
 pdqsort_u64 callees13 plain13 (b - a + 1) blk off cap a b limit d w (by omega) hH hb hab hbd hsz hl hB
theorem slices_Sort_u64 (blk off cap : Nat) (zs : List Int) (w : World) (hH : Holds (Value.int .u64) w blk off zs.toArray) (hblk : blk < w.heap.size) (hsz : zs.length < 4611686018427387904) :
  Calls Tryz.prog 61 #[.slice (some ⟨blk, off, none⟩) zs.length cap] w fun e w' =>
   e = .returned (.tuple #[]) ∧ ∃ n os, w' = grow (putRow (Value.int .u64) (Sort.ahead w n) blk off (zs.mergeSort fun x y => decide (x ≤ y)).toArray) os := by
 have h := Sort_u64 pdqWalkInt blk off cap zs.toArray w hH hblk (by simpa using hsz)
 rw [sort_u64_eq] at h
 simpa using h
theorem insertionSort_u64_nil (p : Option Addr) (cap : Nat) (w : World) :
  Calls Tryz.prog 130 #[.slice p 0 cap, .int .i64 0, .int .i64 0] w fun e w' => e = .returned (.tuple #[]) ∧ w' = w := by
 go_enter Tryz.func130, Tryz.ntmps130
 go_wp2
 refine wp_loop_rounds 1 ?_
 rw [rounds_succ]
 go_wp2
 go_end0
 exact ⟨rfl, rfl⟩
theorem pdqsort_u64_nil (p : Option Addr) (cap : Nat) (w : World) :
  Calls Tryz.prog 99 #[.slice p 0 cap, .int .i64 0, .int .i64 0, .int .i64 0] w fun e w' => e = .returned (.tuple #[]) ∧ w' = w := by
 go_enter Tryz.func99, Tryz.ntmps99
 go_wp2
 refine wp_loop_rounds 1 ?_
 rw [rounds_succ]
 go_wp2_with (first | (go_at_call 130; refine (insertionSort_u64_nil p cap _).mono ?_; rintro e w' ⟨rfl, rfl⟩))
 refine bodyPost_ret (results_none rfl _ _ _) rfl ?_
 exact ⟨rfl, rfl⟩
theorem Sort_u64_nil (p : Option Addr) (cap : Nat) (w : World) :
  Calls Tryz.prog 61 #[.slice p 0 cap] w fun e w' => e = .returned (.tuple #[]) ∧ w' = w := by
 have hLen : ∀ w, Calls Tryz.prog 100 #[.int .u64 0] w fun e w' => e = .returned (.int .i64 0) ∧ w' = w := fun w => Tryz.bits_Len 0 w (by omega) (by omega)
 go_enter Tryz.func61, Tryz.ntmps61
 go_wp2_with (first
  | (go_at_call 100; refine (hLen _).mono ?_; rintro e w' ⟨rfl, rfl⟩)
  | (go_at_call 99; refine (pdqsort_u64_nil p cap _).mono ?_; rintro e w' ⟨rfl, rfl⟩))
 go_end0
 exact ⟨rfl, rfl⟩
end Go.Proofs.YtigcbajcifhinaaGreatDoor.Sou64
namespace Go.Proofs.YtigcbajcifhinaaGreatDoor.Plain
open Go.Lib
def Rising (l : List Int) : Prop := l.Pairwise (· < ·)
theorem Rising.ext : ∀ {a b : List Int}, Rising a → Rising b → (∀ x, x ∈ a ↔ x ∈ b) → a = b
 | [], [], _, _, _ => rfl
 | [], y :: b, _, _, h => absurd ((h y).2 List.mem_cons_self) (by simp)
 | x :: a, [], _, _, h => absurd ((h x).1 List.mem_cons_self) (by simp)
 | x :: a, y :: b, ha, hb, h => by
  obtain ⟨ha1, ha2⟩ := List.pairwise_cons.1 ha
  obtain ⟨hb1, hb2⟩ := List.pairwise_cons.1 hb
  have hxy : x = y := by
   have h1 := (h x).1 List.mem_cons_self
   have h2 := (h y).2 List.mem_cons_self
   rcases List.mem_cons.1 h1 with h1 | h1
   · exact h1
   ·
    rcases List.mem_cons.1 h2 with h2 | h2
    · exact h2.symm
    ·
     have := ha1 y h2
     have := hb1 x h1
     omega
  subst hxy
  congr 1
  refine Rising.ext ha2 hb2 (fun z => ?_)
  constructor
  ·
   intro hz
   rcases List.mem_cons.1 ((h z).1 (List.mem_cons_of_mem _ hz)) with e | e
   ·
    have := ha1 z hz
    omega
   · exact e
  ·
   intro hz
   rcases List.mem_cons.1 ((h z).2 (List.mem_cons_of_mem _ hz)) with e | e
   ·
    have := hb1 z hz
    omega
   · exact e
theorem compactUpTo_facts (d : Array Int) (hs : ∀ i, i + 1 < d.size → d[i]! ≤ d[i + 1]!) : ∀ m, m ≤ d.size →
  Rising (compactUpTo d m) ∧ (∀ x, x ∈ compactUpTo d m ↔ ∃ j, j < m ∧ d[j]! = x) ∧ (∀ x, x ∈ compactUpTo d m → 0 < m ∧ x ≤ d[m - 1]!) ∧ (compactUpTo d m).length ≤ m := by
 intro m
 induction m with
 | zero =>
  intro _
  refine ⟨?_, fun x => ?_, fun x hx => ?_, ?_⟩
  · simp [compactUpTo, Rising]
  · simp [compactUpTo]
  · simp [compactUpTo] at hx
  · simp [compactUpTo]
 | succ m ih =>
  intro hm
  obtain ⟨h1, h2, h3, h4⟩ := ih (by omega)
  rw [compactUpTo_succ]
  by_cases hk : keeps d m = true
  ·
   rw [if_pos hk]
   have hlt : ∀ x, x ∈ compactUpTo d m → x < d[m]! := by
    intro x hx
    obtain ⟨hm0, hle⟩ := h3 x hx
    have h5 := hs (m - 1) (by omega)
    rw [show m - 1 + 1 = m by omega] at h5
    have h6 : d[m]! ≠ d[m - 1]! := by
     unfold keeps at hk
     have := of_decide_eq_true hk
     rcases this with h | h
     · omega
     · exact h
    omega
   refine ⟨?_, fun x => ?_, fun x hx => ⟨by omega, ?_⟩, ?_⟩
   ·
    refine List.pairwise_append.2 ⟨h1, by simp, fun a ha b hb => ?_⟩
    rw [List.mem_singleton.1 hb]
    exact hlt a ha
   ·
    rw [List.mem_append, List.mem_singleton, h2]
    constructor
    ·
     rintro (⟨j, hj, e⟩ | e)
     · exact ⟨j, by omega, e⟩
     · exact ⟨m, by omega, e.symm⟩
    ·
     rintro ⟨j, hj, e⟩
     rcases Nat.lt_or_ge j m with h | h
     · exact .inl ⟨j, h, e⟩
     ·
      have : j = m := by omega
      subst this
      exact .inr e.symm
   ·
    rw [Nat.add_sub_cancel]
    rcases List.mem_append.1 hx with h | h
    ·
     have := hlt x h
     omega
    ·
     rw [List.mem_singleton.1 h]
     exact Int.le_refl _
   ·
    rw [List.length_append, List.length_singleton]
    omega
  ·
   rw [if_neg hk, List.append_nil]
   have hk0 : 0 < m ∧ d[m]! = d[m - 1]! := by
    unfold keeps at hk
    have h5 : ¬ (m = 0 ∨ d[m]! ≠ d[m - 1]!) := fun h => hk (decide_eq_true h)
    refine ⟨by omega, ?_⟩
    exact Decidable.not_not.1 (fun h => h5 (.inr h))
   refine ⟨h1, fun x => ?_, fun x hx => ⟨by omega, ?_⟩, by omega⟩
   ·
    rw [h2]
    constructor
    ·
     rintro ⟨j, hj, e⟩
     exact ⟨j, by omega, e⟩
    ·
     rintro ⟨j, hj, e⟩
     rcases Nat.lt_or_ge j m with h | h
     · exact ⟨j, h, e⟩
     ·
      have : j = m := by omega
      subst this
      exact ⟨j - 1, by omega, by rw [← hk0.2]; exact e⟩
   ·
    rw [Nat.add_sub_cancel, hk0.2]
    exact (h3 x hx).2
def norm (l : List Int) : List Int := compactUpTo (l.mergeSort fun x y => decide (x ≤ y)).toArray l.length
theorem sorted_le (l : List Int) : (l.mergeSort fun x y => decide (x ≤ y)).Pairwise (· ≤ ·) := by
 have h := List.pairwise_mergeSort (le := fun x y : Int => decide (x ≤ y)) (fun a b c h1 h2 => decide_eq_true (Int.le_trans (of_decide_eq_true h1) (of_decide_eq_true h2))) (fun a b => by simp only [Bool.or_eq_true, decide_eq_true_eq]; omega) l
 exact h.imp (fun h => of_decide_eq_true h)
theorem norm_facts (l : List Int) : Rising (norm l) ∧ (∀ x, x ∈ norm l ↔ x ∈ l) ∧ (norm l).length ≤ l.length := by
 have hs := sorted_le l
 have hp := List.mergeSort_perm l (fun x y => decide (x ≤ y))
 have hl := hp.length_eq
 have hm : ∀ x, x ∈ l.mergeSort (fun x y => decide (x ≤ y)) ↔ x ∈ l := fun x => hp.mem_iff
 unfold norm
 revert hs hl hm
 generalize l.mergeSort (fun x y => decide (x ≤ y)) = s
 intro hs hl hm
 obtain ⟨h1, h2, _, h4⟩ := compactUpTo_facts s.toArray (fun i hi => by
  have hi' : i + 1 < s.length := by simpa using hi
  rw [getElem!_pos s.toArray i (by simp; omega), getElem!_pos s.toArray (i + 1) (by simp; omega)]
  simpa using List.pairwise_iff_getElem.1 hs i (i + 1) (by omega) hi' (by omega)) l.length (by simp; omega)
 refine ⟨h1, fun x => ?_, h4⟩
 rw [h2, ← hm]
 constructor
 ·
  rintro ⟨j, hj, e⟩
  rw [getElem!_pos s.toArray j (by simp; omega)] at e
  rw [← e]
  simp
 ·
  intro hx
  obtain ⟨j, hj, e⟩ := List.getElem_of_mem hx
  refine ⟨j, by omega, ?_⟩
  rw [getElem!_pos s.toArray j (by simpa using hj)]
  simpa using e
theorem norm_unique {l r : List Int} (hr : Rising r) (hm : ∀ x, x ∈ r ↔ x ∈ l) : norm l = r :=
 Rising.ext (norm_facts l).1 hr (fun x => ((norm_facts l).2.1 x).trans (hm x).symm)
def putF : List Int → Int → List Int
 | [], n => [n]
 | x :: l, n => if x < n then x :: putF l n else if x = n then x :: l else n :: x :: l
theorem putF_mem (l : List Int) (n x : Int) : x ∈ putF l n ↔ x = n ∨ x ∈ l := by
 induction l with
 | nil => simp [putF]
 | cons y l ih =>
  unfold putF
  split
  ·
   rw [List.mem_cons, ih, List.mem_cons]
   constructor <;> rintro (h | h | h) <;> simp [h]
  ·
   split
   ·
    rename_i h
    subst h
    rw [List.mem_cons]
    constructor
    · rintro (h | h) <;> simp [h]
    · rintro (h | h | h) <;> simp [h]
   · rw [List.mem_cons]
theorem putF_rising {l : List Int} (n : Int) (h : Rising l) : Rising (putF l n) := by
 induction l with
 | nil => simp [putF, Rising]
 | cons y l ih =>
  obtain ⟨h1, h2⟩ := List.pairwise_cons.1 h
  unfold putF
  split
  ·
   rename_i hlt
   refine List.pairwise_cons.2 ⟨fun a ha => ?_, ih h2⟩
   rcases (putF_mem l n a).1 ha with e | e
   · omega
   · exact h1 a e
  ·
   split
   · exact h
   ·
    rename_i h3 h4
    refine List.pairwise_cons.2 ⟨fun a ha => ?_, h⟩
    rcases List.mem_cons.1 ha with e | e
    · omega
    ·
     have := h1 a e
     omega
def riseF (l : List Int) : List Int := l.foldl putF []
theorem rise_go (l r : List Int) (h : Rising r) : Rising (l.foldl putF r) ∧ ∀ x, x ∈ l.foldl putF r ↔ x ∈ r ∨ x ∈ l := by
 induction l generalizing r with
 | nil => exact ⟨h, fun x => by simp⟩
 | cons y l ih =>
  obtain ⟨h1, h2⟩ := ih (putF r y) (putF_rising y h)
  refine ⟨h1, fun x => ?_⟩
  rw [List.foldl_cons, h2, putF_mem, List.mem_cons]
  constructor
  · rintro ((h | h) | h) <;> simp [h]
  · rintro (h | h | h) <;> simp [h]
theorem rise_facts (l : List Int) : Rising (riseF l) ∧ ∀ x, x ∈ riseF l ↔ x ∈ l := by
 obtain ⟨h1, h2⟩ := rise_go l [] List.Pairwise.nil
 exact ⟨h1, fun x => (h2 x).trans (by simp)⟩
theorem norm_rise (l : List Int) : norm l = riseF l := norm_unique (rise_facts l).1 (rise_facts l).2
end Go.Proofs.YtigcbajcifhinaaGreatDoor.Plain
namespace Go.Proofs.YtigcbajcifhinaaGreatDoor.SoR
open Go.RowKit Go.Sort Go.Lib Go.Proofs.YtigcbajcifhinaaGreatDoorW.PrintWords
variable {k : IntKind} {e : TypeId} {w w1 : World} {base : Nat} {ok : Nat → Prop} {v : Value} {l : List Int}
theorem open_R (h : (Kd.int k).R e w base ok v l) (hp : 0 < l.length) : ∃ g cap cur, v = .slice (some ⟨g, 0, none⟩) l.length cap ∧ ok g ∧ base ≤ g ∧ g < w.heap.size ∧ w.heap[g]? = some (.cells cur e (0, 0)) ∧ l.length ≤ cap ∧ cap ≤ maxLen ∧ cur.size = cap ∧
  Holds (Value.int k) w g 0 l.toArray := by
 have h' := h
 obtain ⟨hok, inner, ⟨hlen, ho⟩, hr⟩ := h
 rcases ho with ⟨_, h0⟩ | ⟨g, cap, cur, hv, hb, hh, hn, hm, hc, hx⟩
 · omega
 ·
  have hg : g < w.heap.size := by
   have := (Array.getElem?_eq_some_iff.1 hh).1
   exact this
  subst hv
  refine ⟨g, cap, cur, rfl, hok g rfl, hb, hg, hh, hn, hm, by rw [hc]; exact Nat.mul_one _, fun j hj => ?_⟩
  have hj' : j < l.length := by simpa using hj
  have hcell := Kd.R_celln (0 : Int) h' (j : Int) (by omega) (by omega)
  rw [Int.toNat_natCast] at hcell
  rw [Nat.zero_add]
  refine ⟨hcell.1.trans ?_, hcell.2⟩
  congr 2
  simp [rdOf, getElem!_pos, hj', List.getD_eq_getElem?_getD]
theorem make_R {g cap : Nat} {cur : Array Value} (hok : ok g) (hb : base ≤ g) (hh : w.heap[g]? = some (.cells cur e (0, 0))) (hn : l.length ≤ cap) (hm : cap ≤ maxLen) (hc : cur.size = cap) (hx : cur.toList.take l.length = l.map (Value.int k)) :
  (Kd.int k).R e w base ok (.slice (some ⟨g, 0, none⟩) l.length cap) l := by
 refine ⟨fun b hb' => ?_, l.map (Value.int k), ⟨?_, .inr ⟨g, cap, cur, rfl, hb, hh, hn, hm, ?_, ?_⟩⟩, ?_, fun j p hj => ?_⟩
 ·
  have : g = b := by simpa [Value.ownBlock] using hb'
  rw [← this]
  exact hok
 ·
  rw [List.length_map]
  exact (Nat.mul_one _).symm
 · exact hc.trans (Nat.mul_one _).symm
 ·
  show cur.toList.take (l.length * 1) = _
  rw [Nat.mul_one]
  exact hx
 ·
  rw [List.length_map]
  exact (Nat.mul_one _).symm
 ·
  show ((l.map (Value.int k)).drop (j * 1)).take 1 = [Value.int k p]
  rw [Nat.mul_one]
  obtain ⟨hlt, hp⟩ := List.getElem?_eq_some_iff.1 hj
  rw [List.drop_eq_getElem_cons (by rw [List.length_map]; exact hlt), List.getElem_map, hp]
  rfl
theorem putCells_take (d : Array Int) (cur : Array Value) (m : Nat) (hm : m ≤ d.size) (hc : d.size ≤ cur.size) : (putCells (Value.int k) 0 d cur).toList.take m = (d.toList.take m).map (Value.int k) := by
 apply List.ext_getElem
 ·
  simp [putCells]
  omega
 ·
  intro i h1 h2
  have hi : i < m := by simp at h1; omega
  simp [putCells, List.getElem_take, getElem!_pos, show i < d.size by omega]
theorem heap_put (g : Nat) (d : Array Int) (n : Nat) (os : Array Obj) {cur : Array Value} (hh : w.heap[g]? = some (.cells cur e (0, 0))) :
  (grow (putRow (Value.int k) (Sort.ahead w n) g 0 d) os).heap[g]? = some (.cells (putCells (Value.int k) 0 d cur) e (0, 0)) := by
 have hg : g < w.heap.size := (Array.getElem?_eq_some_iff.1 hh).1
 rw [heap_grow_old _ _ (by simpa using hg)]
 simp [putRow, mapBlock, Array.getElem?_modify, hh, onCells]
theorem below_put (g : Nat) (d : Array Int) (n : Nat) (os : Array Obj) (hb : base ≤ g) (hs : base ≤ w.heap.size) : Below base w (grow (putRow (Value.int k) (Sort.ahead w n) g 0 d) os) := by
 refine ⟨rfl, rfl, rfl, by simp, fun j hj => ?_⟩
 rw [heap_grow_old _ _ (by simp; omega)]
 simp only [putRow, mapBlock, Array.getElem?_modify]
 rw [if_neg (by omega)]
 rfl
theorem compact_R {g cap : Nat} {cur : Array Value} {d c : List Int} (hd : c.length ≤ d.length) (ht : d.take c.length = c) (hok : ok g) (hb : base ≤ g) (hh : w.heap[g]? = some (.cells cur e (0, 0))) (hn : d.length ≤ cap) (hm : cap ≤ maxLen) (hc : cur.size = cap) (n : Nat) :
  (Kd.int k).R e (putRow (Value.int k) (Sort.ahead w n) g 0 d.toArray) base ok (.slice (some ⟨g, 0, none⟩) c.length cap) c := by
 have h := heap_put (k := k) g d.toArray n #[] hh
 rw [grow_empty] at h
 refine make_R hok hb h (by omega) hm (by simpa [putCells] using hc) ?_
 rw [putCells_take _ _ _ (by simpa using hd) (by simp; omega)]
 simp [ht]
end Go.Proofs.YtigcbajcifhinaaGreatDoor.SoR
namespace Go.Proofs.YtigcbajcifhinaaGreatDoor.Fold
open Go.RowKit Go.Proofs.YtigcbajcifhinaaGreatDoorW.PrintWords
theorem info34 : (Tryz.prog.info? 34).map (fun i => (i.zero, i.size, i.bytes)) = some (some (.int .u64 0), 1, 8) := by kernel_rfl
theorem norm_eq (l : List Int) : Lib.compactUpTo (l.mergeSort fun x y => decide (x ≤ y)).toArray (l.mergeSort fun x y => decide (x ≤ y)).toArray.size = Plain.norm l := by
 unfold Plain.norm
 rw [List.size_toArray, List.length_mergeSort]
theorem compact_few (A : Option Addr) (n c : Nat) (w : World) (h : n < 2) : Calls Tryz.prog 62 #[.slice A n c] w fun e w' => e = .returned (.slice A n c) ∧ w' = w := by
 have h2 : (n : Int) < 2 := by omega
 go_enter Tryz.func62, Tryz.ntmps62
 go_wp2_with fail
 go_ret
 exact ⟨rfl, rfl⟩
theorem once_any (w : World) (base : Nat) (ok : Nat → Prop) (v : Value) (l : List Int) (hR : (Kd.int .u64).R 34 w base ok v l) (hs : base ≤ w.heap.size) (hl : l.length < 4611686018427387904) :
  Calls Tryz.prog 29 #[v] w fun e w' => ∃ v', e = .returned v' ∧ (Kd.int .u64).R 34 w' base ok v' (Plain.norm l) ∧ Below base w w' := by
 by_cases h0 : l.length = 0
 ·
  obtain ⟨A, c, rfl⟩ := Kd.R_slice hR
  have hn : l = [] := List.length_eq_zero_iff.1 h0
  subst hn
  have HR := Lib.hid hR
  clear hR
  go_enter Tryz.func29, Tryz.ntmps29
  go_wp2_with (first | (go_at_call 61; refine (Sou64.Sort_u64_nil A c _).mono ?_; rintro e w' ⟨rfl, rfl⟩) | (go_at_call 62; refine (compact_few A 0 c _ (by omega)).mono ?_; rintro e w' ⟨rfl, rfl⟩))
  go_ret
  exact ⟨_, rfl, HR.out, Below.refl _ _⟩
 ·
  obtain ⟨g, cap, cur, rfl, hok, hb, hg, hh, hn, hm, hc, hH⟩ := SoR.open_R hR (by omega)
  have S := Sou64.slices_Sort_u64 g 0 cap l w hH hg hl
  obtain ⟨d, hd⟩ : ∃ d, (l.mergeSort fun x y => decide (x ≤ y)) = d := ⟨_, rfl⟩
  have hdl : d.length = l.length := by rw [← hd]; exact List.length_mergeSort _
  rw [hd] at S
  have N := norm_eq l
  rw [hd, List.size_toArray] at N
  have hcl : (Plain.norm l).length ≤ d.length := by rw [hdl]; exact (Plain.norm_facts l).2.2
  have C : ∀ (n : Nat) (os : Array Obj), Calls Tryz.prog 62 #[.slice (some ⟨g, 0, none⟩) l.length cap] (Sort.grow (Sort.putRow (Value.int .u64) (Sort.ahead w n) g 0 d.toArray) os) fun e w' => e = .returned (.slice (some ⟨g, 0, none⟩) (Plain.norm l).length cap) ∧ ((Kd.int .u64).R 34 w' base ok (.slice (some ⟨g, 0, none⟩) (Plain.norm l).length cap) (Plain.norm l) ∧ Below base w w') := by
   intro n os
   have hh1 := SoR.heap_put (k := .u64) g d.toArray n os hh
   have hH1 : Sort.Holds (Value.int .u64) (Sort.grow (Sort.putRow (Value.int .u64) (Sort.ahead w n) g 0 d.toArray) os) g 0 d.toArray := Sort.holds_grow _ _ _ _ _ _ (by simpa using hg) (Sort.holds_putRow _ _ _ _ l.toArray d.toArray (Sort.holds_ahead _ _ _ _ _ _ hH) (by simpa using hdl))
   have K := Tryz.slices_Compact (α := Int) (Value.int .u64) (fun _ => rfl) (.intD _ _ _) (.intD _ _ _) 0 (fun w => by kernel_rfl) g 0 cap d.toArray _ hH1 (by simp; omega) (by simp; omega)
   rw [List.size_toArray, N, hdl] at K
   refine K.mono ?_
   rintro e w' ⟨rfl, q, rfl⟩
   refine ⟨rfl, ?_, ?_⟩
   · refine SoR.compact_R (d := Plain.norm l ++ List.replicate (l.length - (Plain.norm l).length) 0) (by rw [List.length_append]; omega) (by rw [List.take_append_of_le_length (Nat.le_refl _), List.take_length]) hok hb hh1 (by rw [List.length_append, List.length_replicate]; omega) hm (by simpa [Sort.putCells] using hc) q
   ·
    have b1 := SoR.below_put (k := .u64) (w := w) g d.toArray n os hb hs
    refine b1.trans ?_
    have b2 := SoR.below_put (k := .u64) (w := Sort.grow (Sort.putRow (Value.int .u64) (Sort.ahead w n) g 0 d.toArray) os) g (Plain.norm l ++ List.replicate (l.length - (Plain.norm l).length) 0).toArray q #[] hb (by simp; omega)
    rw [Sort.grow_empty] at b2
    exact b2
  have HS := Lib.hid S
  have HC := Lib.hid C
  clear S C hR hH hh hd N hcl hdl hok hb hg hn hm hc hs h0 hl
  go_enter Tryz.func29, Tryz.ntmps29
  go_wp2_with (first | (go_at_call 61; refine HS.out.mono ?_; rintro e w' ⟨rfl, n, os, rfl⟩) | (go_at_call 62; refine (HC.out _ _).mono ?_; rintro e w' ⟨rfl, hpost⟩; have HP := Lib.hid hpost; clear hpost))
  go_ret
  exact ⟨_, rfl, HP.out⟩
def digF (c : Int) : Int := if Lib.validRune c = true then c else 65533
theorem digF_range (c : Int) : 0 ≤ digF c ∧ digF c < 2097152 := by
 unfold digF
 by_cases h : Lib.validRune c = true
 ·
  rw [if_pos h]
  have := of_decide_eq_true h
  omega
 ·
  rw [if_neg h]
  omega
theorem digit_any (c : Int) (w : World) : Calls Tryz.prog 28 #[.int .i32 c] w fun e w' => e = .returned (.int .u64 (digF c)) ∧ w' = w := by
 have V := Tryz.utf8_ValidRune c w
 unfold digF
 cases hv : Lib.validRune c with
 | true =>
  have hw : IntKind.u64.wrap c = c := by
   have := of_decide_eq_true hv
   simp only [IntKind.wrap, IntKind.bits, IntKind.signed]
   simp
   omega
  rw [hv] at V
  have HV := Lib.hid V
  have HW := Lib.hid hw
  clear V hv hw
  go_enter Tryz.func28, Tryz.ntmps28
  go_wp2_with (first | (go_at_call 63; refine HV.out.mono ?_; rintro e w' ⟨rfl, rfl⟩))
  go_ret
  exact ⟨by simp [HW.out], rfl⟩
 | false =>
  rw [hv] at V
  have HV := Lib.hid V
  clear V hv
  go_enter Tryz.func28, Tryz.ntmps28
  go_wp2_with (first | (go_at_call 63; refine HV.out.mono ?_; rintro e w' ⟨rfl, rfl⟩))
  go_ret
  exact ⟨by simp [IntKind.wrap, IntKind.bits, IntKind.signed], rfl⟩
def stepN (n c : Int) : Int := n % 4398046511104 * 2097152 + digF c
def nAt (l : List Int) (k : Nat) : Int := (l.take k).foldl stepN 0
def outF (l : List Int) : Nat → List Int
 | 0 => []
 | k + 1 => outF l k ++ (if 2 ≤ k then [nAt l (k + 1)] else [])
theorem outF_length (l : List Int) : ∀ k, (outF l k).length ≤ k
 | 0 => Nat.le_refl _
 | k + 1 => by
  have := outF_length l k
  unfold outF
  rw [List.length_append]
  split <;> simp <;> omega
theorem nAt_range (l : List Int) : ∀ k, 0 ≤ nAt l k ∧ nAt l k < 9223372036854775808
 | 0 => by simp [nAt]
 | k + 1 => by
  unfold nAt
  by_cases h : k < l.length
  ·
   rw [List.take_succ_eq_append_getElem h, List.foldl_append]
   simp only [List.foldl_cons, List.foldl_nil, stepN]
   have := digF_range l[k]
   omega
  ·
   rw [List.take_of_length_le (by omega), ← List.take_of_length_le (show l.length ≤ k by omega)]
   exact nAt_range l k
theorem nAt_succ (l : List Int) (k : Nat) (h : k < l.length) : nAt l (k + 1) = stepN (nAt l k) (rd l (k : Int)) := by
 unfold nAt
 rw [List.take_succ_eq_append_getElem h, List.foldl_append]
 simp [rd, List.getD_eq_getElem?_getD, h]
theorem wrap_u64 (n : Int) : IntKind.u64.wrap n = n % 18446744073709551616 := by simp [IntKind.wrap, IntKind.bits, IntKind.signed]
theorem wraps_u64 (n : Int) (h₀ : 0 ≤ n) (h₁ : n < 2 ^ 64) : IntKind.u64.wrap n = n := by rw [wrap_u64]; omega
theorem bits_step (n c : Int) (h0 : 0 ≤ n) (h1 : n < 9223372036854775808) : bits .or .u64 (bits .and .u64 (IntKind.u64.wrap (n * 2097152)) 9223372036854775807) (digF c) = stepN n c := by
 have hc := digF_range c
 unfold stepN
 revert hc
 generalize digF c = x
 intro hc
 have e1 : bits .and .u64 (IntKind.u64.wrap (n * 2097152)) 9223372036854775807 = n % 4398046511104 * 2097152 := by
  have h := bits_mask .u64 64 (by decide) wraps_u64 63 (by decide) (IntKind.u64.wrap (n * 2097152)) (by rw [wrap_u64]; omega) (by rw [wrap_u64]; omega)
  have p : (2 : Int) ^ 63 = 9223372036854775808 := by decide
  rw [p] at h
  refine (show bits .and .u64 (IntKind.u64.wrap (n * 2097152)) 9223372036854775807 = _ from h).trans ?_
  rw [wrap_u64]
  omega
 rw [e1]
 have p21 : (2 : Int) ^ 21 = 2097152 := by decide
 have p64 : (2 : Int) ^ 64 = 18446744073709551616 := by decide
 exact bits_join .u64 64 (by decide) wraps_u64 21 _ x (by omega) (by rw [p21]; omega) (by rw [p64]; omega) hc.1 (by rw [p21]; omega) (by rw [p64]; omega)
theorem Parts_any (A0 : Option Addr) (c0 : Nat) (l : List Int) (w : World) (hr0 : Kd.C (Kd.int .i32) w A0 l.length l) (hc0 : l.length ≤ c0) (hl : l.length ≤ 17592186044416) :
  Calls Tryz.prog 11 #[.slice A0 l.length c0] w fun e w' => ∃ v, e = .returned v ∧ Kd.R (Kd.int .u64) 34 w' w.heap.size (fun _ => True) v (Plain.norm (outF l l.length)) ∧ Below w.heap.size w w' := by
 have HR0 := Lib.hid hr0
 have HL := Lib.hid hl
 clear hr0 hc0 hl
 go_enter Tryz.func11, Tryz.ntmps11
 go_wp2
 go_loopw [3, 4, 9] (fun v vn vi wr => ∃ k : Nat, k ≤ l.length ∧ vn = .int .u64 (nAt l k) ∧ vi = .int .i64 k ∧ Hid ((Kd.int .u64).R 34 wr w.heap.size (fun _ => True) v (outF l k)) ∧ Hid (Below w.heap.size w wr)) (fun _ _ vi _ => l.length - (intOf vi).toNat)
 case atStart => exact ⟨0, by omega, rfl, rfl, Lib.hid (Kd.R_nil _ _ _ _ _), Lib.hid (Below.refl _ _)⟩
 case round =>
  obtain ⟨k, hk, rfl, rfl, HO, HB⟩ := hrel
  by_cases k5 : k = l.length
  ·
   subst k5
   have hsz : w.heap.size ≤ wr.heap.size := HB.out.size
   have OC := Lib.hid (once_any wr w.heap.size (fun _ => True) u3 (outF l l.length) HO.out hsz (by have := outF_length l l.length; have := HL.out; omega))
   clear hsz
   go_wp2_with (first | (go_at_call 29; refine OC.out.mono ?_; rintro e w' ⟨v', rfl, hp1, hp2⟩; have HP1 := Lib.hid hp1; have HP2 := Lib.hid hp2; clear hp1 hp2))
   go_ret
   exact ⟨_, rfl, HP1.out, HB.out.trans HP2.out⟩
  ·
   obtain ⟨c, hc⟩ : ∃ c, rd l (k : Int) = c := ⟨_, rfl⟩
   obtain ⟨ad, e, hx⟩ := Kd.at_int HR0.out (k : Int) (by omega) (by omega)
   cases e
   replace hx := (HB.out.cell (World.block_lt_of_cell? w _ hx)).trans hx
   rw [hc, Int.toNat_natCast] at hx
   obtain ⟨n, hn⟩ : ∃ n, nAt l k = n := ⟨_, rfl⟩
   obtain ⟨y, hy⟩ : ∃ y, nAt l (k + 1) = y := ⟨_, rfl⟩
   have hnr := nAt_range l k
   rw [hn] at hnr
   obtain ⟨x, hdx⟩ : ∃ x, digF c = x := ⟨_, rfl⟩
   have bx : bits .or .u64 (bits .and .u64 (IntKind.u64.wrap (n * 2097152)) 9223372036854775807) x = y := by
    rw [← hdx, bits_step n c hnr.1 hnr.2, ← hy, nAt_succ l k (by omega), hn, hc]
   have DG := Lib.hid (fun W => digit_any c W)
   rw [hdx] at DG
   rw [hn]
   have HN := Lib.hid hn
   have HY := Lib.hid hy
   have HC := Lib.hid hc
   have K5 := Lib.hid k5
   have HK := Lib.hid hk
   have e1 : (k : Int) < (l.length : Int) := by omega
   have hk64 : (k : Int) ≤ 17592186044416 := by have := HL.out; omega
   clear hc k5 hk hn hy hdx hnr
   by_cases h2 : (2 : Int) ≤ (k : Int)
   ·
    have HK2 := Lib.hid h2
    have e2 : decide ((2 : Int) ≤ (k : Int)) = true := decide_eq_true h2
    clear h2
    go_wp2_with (first | (go_at_call 28; refine (DG.out _).mono ?_; rintro e w' ⟨rfl, rfl⟩) | ((with_reducible refine gate_builtin (b := .append) (xs := #[.tmp 22, .tmp 24]) rfl ?_); (go_loud (at_builtin; refine Kd.R_append (Kd.int .u64) (w0 := w) w.heap.size rfl (.tmp 22) (.tmp 24) 30 34 (.int .u64 0) 8 rfl Tryz.underlying30 info34 rfl (by decide) (by omega) u3 (outF l k) y [.int .u64 y] (fun _ => True) (fun _ => False) rfl rfl ?aP (fun _ hk => hk.elim) ?aF ?aO ?aB ?aS ?aL ?_; (case aP => exact rfl); (case aB => exact HB.out); (case aF => exact (fun _ _ => trivial)); (case aO => exact HO.out); (case aS => exact below_size HB.out); (case aL => exact (by have h1 := HK.out; have h2 := HL.out; have h3 := outF_length l k; omega)); intro v1 w1 ho hb hg hat))))
    go_roundw
    case measure =>
     have h1 := HK.out
     have h2 := K5.out
     simp [intOf]
     omega
    case rel =>
     have h1 := HK.out
     have h2 := K5.out
     have h3 := HK2.out
     refine ⟨k + 1, by omega, by rw [HY.out], by go_num, Lib.hid ?_, Lib.hid hb⟩
     have h4 : outF l (k + 1) = outF l k ++ [y] := by
      show outF l k ++ (if 2 ≤ k then [nAt l (k + 1)] else []) = _
      rw [if_pos (by omega), HY.out]
     rw [h4]
     exact ho
   ·
    have HK2 := Lib.hid h2
    have e2 : decide ((2 : Int) ≤ (k : Int)) = false := decide_eq_false h2
    clear h2
    go_wp2_with (first | (go_at_call 28; refine (DG.out _).mono ?_; rintro e w' ⟨rfl, rfl⟩))
    go_roundw
    case measure =>
     have h1 := HK.out
     have h2 := K5.out
     simp [intOf]
     omega
    case rel =>
     have h1 := HK.out
     have h2 := K5.out
     have h3 := HK2.out
     refine ⟨k + 1, by omega, by rw [HY.out], by go_num, Lib.hid ?_, HB⟩
     have h4 : outF l (k + 1) = outF l k := by
      show outF l k ++ (if 2 ≤ k then [nAt l (k + 1)] else []) = _
      rw [if_neg (by omega), List.append_nil]
     rw [h4]
     exact HO.out
end Go.Proofs.YtigcbajcifhinaaGreatDoor.Fold
namespace Go.Proofs.YtigcbajcifhinaaGreatDoor.Txt
open Go.RowKit Go.Proofs.YtigcbajcifhinaaGreatDoorW.PrintWords
theorem flat_take {α : Type} (l : List (List α)) (k : Nat) (h : k < l.length) : (l.take (k + 1)).flatten = (l.take k).flatten ++ l[k] := by
 rw [List.take_succ_eq_append_getElem h, List.flatten_append]
 simp
theorem flat_len {α : Type} (l : List (List α)) (k : Nat) : (l.take k).flatten.length ≤ l.flatten.length := by
 conv => rhs; rw [← List.take_append_drop k l, List.flatten_append, List.length_append]
 omega
theorem grow_str (n : Nat) (w : World) (hn : n ≤ 1099511627776) :
  Calls Tryz.prog 59 #[.slice none 0 0, .int .i64 (n : Int)] w fun e w' => ∃ v, e = .returned v ∧ Kd.string.R 9 w' w.heap.size (fun _ => True) v [] ∧ Below w.heap.size w w' := by
 have h1 : decide ((n : Int) < 0) = false := decide_eq_false (by omega)
 by_cases h0 : n = 0
 ·
  subst h0
  go_enter Tryz.func59, Tryz.ntmps59
  go_wp2
  go_ret
  exact ⟨_, rfl, Kd.R_nil _ _ _ _ _, Below.refl _ _⟩
 ·
  have h4 : (0 : Int) < (n : Int) := by omega
  have HN := Lib.hid hn
  have HB := Lib.hid (Below.refl w.heap.size w)
  clear h0
  go_enter Tryz.func59, Tryz.ntmps59
  go_wp2_with ((with_reducible refine gate_builtin (b := .append) (xs := #[.tmp 20, .tmp 21]) rfl ?_); (go_loud (at_builtin; refine Kd.R_append_zeros Kd.string (w0 := w) w.heap.size rfl (.tmp 20) (.tmp 21) 24 3 9 (.string ⟨#[]⟩) 16 rfl Tryz.underlying24 Tryz.underlying3 V.info9 rfl (by decide) (by omega) (.slice none 0 0) [] ⟨#[]⟩ (n : Int) (fun _ => True) rfl rfl ?hz (fun _ _ => trivial) ?ho ?h0 ?hb ?hs ?hl ?_; (case hz => exact rfl); (case ho => exact Kd.R_nil _ _ _ _ _); (case h0 => omega); (case hb => exact HB.out); (case hs => exact Nat.le_refl _); (case hl => (have := HN.out; simp; omega)); intro v1 w1 ho hb hg hat; have hsl := Kd.R_slice ho; have HO := Lib.hid ho; have HB1 := Lib.hid hb; obtain ⟨A, c, rfl⟩ := hsl; clear ho hb hg hat)))
  go_ret
  refine ⟨_, rfl, ?_, HB1.out⟩
  obtain ⟨inner, hown⟩ := Kd.R_own HO.out
  rcases hown.2 with ⟨h, hz⟩ | ⟨g, cap, cur, hv, hb, hh, hle, hm, hcs, htk⟩
  · simp at hz; omega
  ·
   injection hv with q1 q2 q3
   subst q1 q3
   exact ⟨fun _ _ => trivial, [], ⟨by simp, .inr ⟨g, _, cur, rfl, hb, hh, Nat.zero_le _, hm, hcs, by simp⟩⟩, Reps.none _ _⟩
theorem concat_str (A : Option Addr) (c : Nat) (l : List (List ByteArray)) (w : World) (hr : Kd.C (Kd.slice 9 Kd.string) w A l.length l) (hl : l.flatten.length ≤ 1099511627776) :
  Calls Tryz.prog 26 #[.slice A l.length c] w fun e w' => ∃ v, e = .returned v ∧ Kd.string.R 9 w' w.heap.size (fun _ => True) v l.flatten ∧ Below w.heap.size w w' := by
 have HR := Lib.hid hr
 have HL := Lib.hid hl
 have HM := Lib.hid hr.2.1
 have elem : ∀ k (h : k < l.length), ∃ ad Ak ck, A = some ad ∧ w.cell? (ad.add k) = some (.slice Ak l[k].length ck) ∧ Kd.string.C w Ak l[k].length l[k] := fun k h => by
  obtain ⟨ad, cs, e, hlen, hK, hc⟩ := Kd.C_get hr [] (k : Int) (by omega) (by omega)
  obtain ⟨Ak, ck, rfl, _, hC⟩ := hK
  have e1 : l.getD (k : Int).toNat [] = l[k] := by simp [List.getD_eq_getElem?_getD, h]
  have h0 := hc 0 _ rfl
  rw [e1] at h0 hC
  refine ⟨ad, Ak, ck, e, ?_, hC⟩
  have e2 : (k : Int).toNat * (Kd.slice 9 Kd.string).sz + 0 = k := by show (k : Int).toNat * 1 + 0 = k; omega
  rwa [e2] at h0
 have HE := Lib.hid elem
 clear hr hl elem
 go_enter Tryz.func26, Tryz.ntmps26
 go_wp2
 go_loopw [3, 11] (fun vs vi wr => ∃ k : Nat, k ≤ l.length ∧ vs = .int .i64 (((l.take k).flatten.length : Nat) : Int) ∧ vi = .int .i64 (k : Int) ∧ w = wr) (fun _ vi _ => l.length - (intOf vi).toNat)
 case atStart => exact ⟨0, by omega, rfl, rfl, rfl⟩
 case round =>
  obtain ⟨k, hk, rfl, rfl, rfl⟩ := hrel
  by_cases k5 : k = l.length
  ·
   subst k5
   rw [List.take_length]
   have hG := fun W => grow_str l.flatten.length W HL.out
   obtain ⟨n, hn⟩ : ∃ n, l.flatten.length = n := ⟨_, rfl⟩
   rw [hn] at hG ⊢
   have HG := Lib.hid hG
   clear hG hn
   go_wp2_with (first | (go_at_call 59; refine (HG.out _).mono ?_; rintro e w1 ⟨v1, rfl, hv1, hb1⟩; have HV1 := Lib.hid hv1; have HB1 := Lib.hid hb1; clear hv1 hb1))
   go_loopw [6, 27] (fun v vi wr => ∃ k : Nat, k ≤ l.length ∧ vi = .int .i64 (k : Int) ∧ Hid (Kd.string.R 9 wr w.heap.size (fun _ => True) v (l.take k).flatten) ∧ Hid (Below w.heap.size w wr)) (fun _ vi _ => l.length - (intOf vi).toNat)
   case atStart => exact ⟨0, by omega, rfl, HV1, HB1⟩
   case round =>
    obtain ⟨k, hk, rfl, HV, HB⟩ := hrel
    by_cases k6 : k = l.length
    ·
     subst k6
     go_wp2
     go_ret
     refine ⟨_, rfl, ?_, HB.out⟩
     have := HV.out
     rwa [List.take_length] at this
    ·
     have hlt : k < l.length := by omega
     obtain ⟨ad, Ak, ck, rfl, hcell, hC⟩ := HE.out k hlt
     replace hcell := (HB.out.cell (World.block_lt_of_cell? w _ hcell)).trans hcell
     have HC := Lib.hid (Kd.C_below hC HB.out)
     have HT := Lib.hid (flat_take l k hlt)
     have HSZ := Lib.hid (show (l.take k).flatten.length + l[k].length ≤ 1099511627776 by have := flat_len l (k + 1); rw [flat_take l k hlt, List.length_append] at this; have := HL.out; omega)
     have K6 := Lib.hid k6
     have HK := Lib.hid hk
     have e1 : (k : Int) < (l.length : Int) := by omega
     have hk64 : (k : Int) ≤ 9223372036854775806 := by have := HM.out; omega
     obtain ⟨x, hx⟩ : ∃ x, l[k] = x := ⟨_, rfl⟩
     rw [hx] at hcell HC HT HSZ
     clear k6 hk hx hC
     go_wp2_with ((with_reducible refine gate_builtin (b := .append) (xs := #[.tmp 31, .tmp 32]) rfl ?_); (go_loud (at_builtin; refine Kd.R_append_rows Kd.string (Rr := Kd.string.K wr) (w0 := w) w.heap.size rfl (.tmp 31) (.tmp 32) 24 9 (.string ⟨#[]⟩) 16 rfl Tryz.underlying24 V.info9 rfl (by decide) (by omega) u6 (l.take k).flatten x Ak x.length ck (fun _ => True) (fun _ => False) rfl rfl ?ho ?hr (fun _ _ h => h) (fun _ h => h.elim) (fun _ _ => trivial) ?hb ?hs ?hl ?_; (case ho => exact HV.out); (case hr => exact HC.out); (case hb => exact HB.out); (case hs => exact HB.out.size); (case hl => (have := HSZ.out; omega)); intro v1 w1 ho hb hg hat; have HO := Lib.hid ho; have HB3 := Lib.hid hb; clear ho hb hg hat)))
     go_roundw
     case measure => have h1 := HK.out; have h2 := K6.out; simp [intOf]; omega
     case rel =>
      have h1 := HK.out
      have h2 := K6.out
      refine ⟨k + 1, by omega, by go_num, Lib.hid ?_, Lib.hid HB3.out⟩
      rw [HT.out]
      exact HO.out
  ·
   have hlt : k < l.length := by omega
   obtain ⟨ad, Ak, ck, rfl, hcell, hC⟩ := HE.out k hlt
   have ht := flat_take l k hlt
   have hfl := flat_len l (k + 1)
   rw [ht, List.length_append] at hfl
   obtain ⟨m, hm⟩ : ∃ m, (l.take k).flatten.length = m := ⟨_, rfl⟩
   obtain ⟨q, hq⟩ : ∃ q, l[k].length = q := ⟨_, rfl⟩
   rw [hm, hq] at hfl
   rw [hq] at hcell
   rw [hm]
   have HT := Lib.hid (show (l.take (k + 1)).flatten.length = m + q by rw [ht, List.length_append, hm, hq])
   have K5 := Lib.hid k5
   have HK := Lib.hid hk
   have e1 : (k : Int) < (l.length : Int) := by omega
   have hk64 : (k : Int) ≤ 9223372036854775806 := by have := HM.out; omega
   have hs64 : (m : Int) + (q : Int) ≤ 1099511627776 := by have := HL.out; omega
   clear k5 hk ht hfl hm hq hC
   go_wp2
   go_roundw
   case measure => have h1 := HK.out; have h2 := K5.out; simp [intOf]; omega
   case rel =>
    have h1 := HK.out
    have h2 := K5.out
    refine ⟨k + 1, by omega, ?_, by go_num, by trivial⟩
    rw [HT.out]
    go_num
theorem grow_u64 (n : Nat) (w : World) (hn : n ≤ 1099511627776) :
  Calls Tryz.prog 98 #[.slice none 0 0, .int .i64 (n : Int)] w fun e w' => ∃ v, e = .returned v ∧ (Kd.int .u64).R 34 w' w.heap.size (fun _ => True) v [] ∧ Below w.heap.size w w' := by
 have h1 : decide ((n : Int) < 0) = false := decide_eq_false (by omega)
 by_cases h0 : n = 0
 ·
  subst h0
  go_enter Tryz.func98, Tryz.ntmps98
  go_wp2
  go_ret
  exact ⟨_, rfl, Kd.R_nil _ _ _ _ _, Below.refl _ _⟩
 ·
  have h4 : (0 : Int) < (n : Int) := by omega
  have HN := Lib.hid hn
  have HB := Lib.hid (Below.refl w.heap.size w)
  clear h0
  go_enter Tryz.func98, Tryz.ntmps98
  go_wp2_with ((with_reducible refine gate_builtin (b := .append) (xs := #[.tmp 20, .tmp 21]) rfl ?_); (go_loud (at_builtin; refine Kd.R_append_zeros (Kd.int .u64) (w0 := w) w.heap.size rfl (.tmp 20) (.tmp 21) 30 3 34 (.int .u64 0) 8 rfl Tryz.underlying30 Tryz.underlying3 Fold.info34 rfl (by decide) (by omega) (.slice none 0 0) [] 0 (n : Int) (fun _ => True) rfl rfl ?hz (fun _ _ => trivial) ?ho ?h0 ?hb ?hs ?hl ?_; (case hz => exact rfl); (case ho => exact Kd.R_nil _ _ _ _ _); (case h0 => omega); (case hb => exact HB.out); (case hs => exact Nat.le_refl _); (case hl => (have := HN.out; simp; omega)); intro v1 w1 ho hb hg hat; have hsl := Kd.R_slice ho; have HO := Lib.hid ho; have HB1 := Lib.hid hb; obtain ⟨A, c, rfl⟩ := hsl; clear ho hb hg hat)))
  go_ret
  refine ⟨_, rfl, ?_, HB1.out⟩
  obtain ⟨inner, hown⟩ := Kd.R_own HO.out
  rcases hown.2 with ⟨h, hz⟩ | ⟨g, cap, cur, hv, hb, hh, hle, hm, hcs, htk⟩
  · simp at hz; omega
  ·
   injection hv with q1 q2 q3
   subst q1 q3
   exact ⟨fun _ _ => trivial, [], ⟨by simp, .inr ⟨g, _, cur, rfl, hb, hh, Nat.zero_le _, hm, hcs, by simp⟩⟩, Reps.none _ _⟩
theorem concat_u64 (A : Option Addr) (c : Nat) (l : List (List Int)) (w : World) (hr : Kd.C (Kd.slice 34 (Kd.int .u64)) w A l.length l) (hl : l.flatten.length ≤ 1099511627776) :
  Calls Tryz.prog 60 #[.slice A l.length c] w fun e w' => ∃ v, e = .returned v ∧ (Kd.int .u64).R 34 w' w.heap.size (fun _ => True) v l.flatten ∧ Below w.heap.size w w' := by
 have HR := Lib.hid hr
 have HL := Lib.hid hl
 have HM := Lib.hid hr.2.1
 have elem : ∀ k (h : k < l.length), ∃ ad Ak ck, A = some ad ∧ w.cell? (ad.add k) = some (.slice Ak l[k].length ck) ∧ (Kd.int .u64).C w Ak l[k].length l[k] := fun k h => by
  obtain ⟨ad, cs, e, hlen, hK, hc⟩ := Kd.C_get hr [] (k : Int) (by omega) (by omega)
  obtain ⟨Ak, ck, rfl, _, hC⟩ := hK
  have e1 : l.getD (k : Int).toNat [] = l[k] := by simp [List.getD_eq_getElem?_getD, h]
  have h0 := hc 0 _ rfl
  rw [e1] at h0 hC
  refine ⟨ad, Ak, ck, e, ?_, hC⟩
  have e2 : (k : Int).toNat * (Kd.slice 34 (Kd.int .u64)).sz + 0 = k := by show (k : Int).toNat * 1 + 0 = k; omega
  rwa [e2] at h0
 have HE := Lib.hid elem
 clear hr hl elem
 go_enter Tryz.func60, Tryz.ntmps60
 go_wp2
 go_loopw [3, 11] (fun vs vi wr => ∃ k : Nat, k ≤ l.length ∧ vs = .int .i64 (((l.take k).flatten.length : Nat) : Int) ∧ vi = .int .i64 (k : Int) ∧ w = wr) (fun _ vi _ => l.length - (intOf vi).toNat)
 case atStart => exact ⟨0, by omega, rfl, rfl, rfl⟩
 case round =>
  obtain ⟨k, hk, rfl, rfl, rfl⟩ := hrel
  by_cases k5 : k = l.length
  ·
   subst k5
   rw [List.take_length]
   have hG := fun W => grow_u64 l.flatten.length W HL.out
   obtain ⟨n, hn⟩ : ∃ n, l.flatten.length = n := ⟨_, rfl⟩
   rw [hn] at hG ⊢
   have HG := Lib.hid hG
   clear hG hn
   go_wp2_with (first | (go_at_call 98; refine (HG.out _).mono ?_; rintro e w1 ⟨v1, rfl, hv1, hb1⟩; have HV1 := Lib.hid hv1; have HB1 := Lib.hid hb1; clear hv1 hb1))
   go_loopw [6, 27] (fun v vi wr => ∃ k : Nat, k ≤ l.length ∧ vi = .int .i64 (k : Int) ∧ Hid ((Kd.int .u64).R 34 wr w.heap.size (fun _ => True) v (l.take k).flatten) ∧ Hid (Below w.heap.size w wr)) (fun _ vi _ => l.length - (intOf vi).toNat)
   case atStart => exact ⟨0, by omega, rfl, HV1, HB1⟩
   case round =>
    obtain ⟨k, hk, rfl, HV, HB⟩ := hrel
    by_cases k6 : k = l.length
    ·
     subst k6
     go_wp2
     go_ret
     refine ⟨_, rfl, ?_, HB.out⟩
     have := HV.out
     rwa [List.take_length] at this
    ·
     have hlt : k < l.length := by omega
     obtain ⟨ad, Ak, ck, rfl, hcell, hC⟩ := HE.out k hlt
     replace hcell := (HB.out.cell (World.block_lt_of_cell? w _ hcell)).trans hcell
     have HC := Lib.hid (Kd.C_below hC HB.out)
     have HT := Lib.hid (flat_take l k hlt)
     have HSZ := Lib.hid (show (l.take k).flatten.length + l[k].length ≤ 1099511627776 by have := flat_len l (k + 1); rw [flat_take l k hlt, List.length_append] at this; have := HL.out; omega)
     have K6 := Lib.hid k6
     have HK := Lib.hid hk
     have e1 : (k : Int) < (l.length : Int) := by omega
     have hk64 : (k : Int) ≤ 9223372036854775806 := by have := HM.out; omega
     obtain ⟨x, hx⟩ : ∃ x, l[k] = x := ⟨_, rfl⟩
     rw [hx] at hcell HC HT HSZ
     clear k6 hk hx hC
     go_wp2_with ((with_reducible refine gate_builtin (b := .append) (xs := #[.tmp 31, .tmp 32]) rfl ?_); (go_loud (at_builtin; refine Kd.R_append_rows (Kd.int .u64) (Rr := (Kd.int .u64).K wr) (w0 := w) w.heap.size rfl (.tmp 31) (.tmp 32) 30 34 (.int .u64 0) 8 rfl Tryz.underlying30 Fold.info34 rfl (by decide) (by omega) u6 (l.take k).flatten x Ak x.length ck (fun _ => True) (fun _ => False) rfl rfl ?ho ?hr (fun _ _ h => h) (fun _ h => h.elim) (fun _ _ => trivial) ?hb ?hs ?hl ?_; (case ho => exact HV.out); (case hr => exact HC.out); (case hb => exact HB.out); (case hs => exact HB.out.size); (case hl => (have := HSZ.out; omega)); intro v1 w1 ho hb hg hat; have HO := Lib.hid ho; have HB3 := Lib.hid hb; clear ho hb hg hat)))
     go_roundw
     case measure => have h1 := HK.out; have h2 := K6.out; simp [intOf]; omega
     case rel =>
      have h1 := HK.out
      have h2 := K6.out
      refine ⟨k + 1, by omega, by go_num, Lib.hid ?_, Lib.hid HB3.out⟩
      rw [HT.out]
      exact HO.out
  ·
   have hlt : k < l.length := by omega
   obtain ⟨ad, Ak, ck, rfl, hcell, hC⟩ := HE.out k hlt
   have ht := flat_take l k hlt
   have hfl := flat_len l (k + 1)
   rw [ht, List.length_append] at hfl
   obtain ⟨m, hm⟩ : ∃ m, (l.take k).flatten.length = m := ⟨_, rfl⟩
   obtain ⟨q, hq⟩ : ∃ q, l[k].length = q := ⟨_, rfl⟩
   rw [hm, hq] at hfl
   rw [hq] at hcell
   rw [hm]
   have HT := Lib.hid (show (l.take (k + 1)).flatten.length = m + q by rw [ht, List.length_append, hm, hq])
   have K5 := Lib.hid k5
   have HK := Lib.hid hk
   have e1 : (k : Int) < (l.length : Int) := by omega
   have hk64 : (k : Int) ≤ 9223372036854775806 := by have := HM.out; omega
   have hs64 : (m : Int) + (q : Int) ≤ 1099511627776 := by have := HL.out; omega
   clear k5 hk ht hfl hm hq hC
   go_wp2
   go_roundw
   case measure => have h1 := HK.out; have h2 := K5.out; simp [intOf]; omega
   case rel =>
    have h1 := HK.out
    have h2 := K5.out
    refine ⟨k + 1, by omega, ?_, by go_num, by trivial⟩
    rw [HT.out]
    go_num
theorem sort_compact (w : World) (base : Nat) (v : Value) (l : List Int) (hR : (Kd.int .u64).R 34 w base (fun _ => True) v l) (hs : base ≤ w.heap.size) (hl : l.length < 4611686018427387904) (Q : World → Value → Prop)
  (h : ∀ w' v', (Kd.int .u64).R 34 w' base (fun _ => True) v' (Plain.norm l) → Below base w w' → Q w' v') :
  Calls Tryz.prog 61 #[v] w fun e w1 => e = .returned (.tuple #[]) ∧ Calls Tryz.prog 62 #[v] w1 fun e w' => ∃ v', e = .returned v' ∧ Q w' v' := by
 by_cases h0 : l.length = 0
 ·
  obtain ⟨A, c, rfl⟩ := Kd.R_slice hR
  have hn : l = [] := List.length_eq_zero_iff.1 h0
  subst hn
  refine (Sou64.Sort_u64_nil A c w).mono ?_
  rintro e w1 ⟨rfl, rfl⟩
  refine ⟨rfl, (Fold.compact_few A 0 c _ (by omega)).mono ?_⟩
  rintro e w2 ⟨rfl, rfl⟩
  exact ⟨_, rfl, h _ _ hR (Below.refl _ _)⟩
 ·
  obtain ⟨g, cap, cur, rfl, hok, hb, hg, hh, hn, hm, hc, hH⟩ := SoR.open_R hR (by omega)
  have S := Sou64.slices_Sort_u64 g 0 cap l w hH hg hl
  obtain ⟨d, hd⟩ : ∃ d, (l.mergeSort fun x y => decide (x ≤ y)) = d := ⟨_, rfl⟩
  have hdl : d.length = l.length := by rw [← hd]; exact List.length_mergeSort _
  rw [hd] at S
  have N := Fold.norm_eq l
  rw [hd, List.size_toArray] at N
  have hcl : (Plain.norm l).length ≤ d.length := by rw [hdl]; exact (Plain.norm_facts l).2.2
  refine S.mono ?_
  rintro e w1 ⟨rfl, n, os, rfl⟩
  refine ⟨rfl, ?_⟩
  have hh1 := SoR.heap_put (k := .u64) g d.toArray n os hh
  have hH1 : Sort.Holds (Value.int .u64) (Sort.grow (Sort.putRow (Value.int .u64) (Sort.ahead w n) g 0 d.toArray) os) g 0 d.toArray := Sort.holds_grow _ _ _ _ _ _ (by simpa using hg) (Sort.holds_putRow _ _ _ _ l.toArray d.toArray (Sort.holds_ahead _ _ _ _ _ _ hH) (by simpa using hdl))
  have K := Tryz.slices_Compact (α := Int) (Value.int .u64) (fun _ => rfl) (.intD _ _ _) (.intD _ _ _) 0 (fun w => by kernel_rfl) g 0 cap d.toArray _ hH1 (by simp; omega) (by simp; omega)
  rw [List.size_toArray, N, hdl] at K
  refine K.mono ?_
  rintro e w' ⟨rfl, q, rfl⟩
  refine ⟨_, rfl, h _ _ ?_ ?_⟩
  · refine SoR.compact_R (d := Plain.norm l ++ List.replicate (l.length - (Plain.norm l).length) 0) (by rw [List.length_append]; omega) (by rw [List.take_append_of_le_length (Nat.le_refl _), List.take_length]) hok hb hh1 (by rw [List.length_append, List.length_replicate]; omega) hm (by simpa [Sort.putCells] using hc) q
  ·
   have b1 := SoR.below_put (k := .u64) (w := w) g d.toArray n os hb hs
   refine b1.trans ?_
   have b2 := SoR.below_put (k := .u64) (w := Sort.grow (Sort.putRow (Value.int .u64) (Sort.ahead w n) g 0 d.toArray) os) g (Plain.norm l ++ List.replicate (l.length - (Plain.norm l).length) 0).toArray q #[] hb (by simp; omega)
   rw [Sort.grow_empty] at b2
   exact b2
theorem rising_any (A : Option Addr) (c : Nat) (l : List (List Int)) (w : World) (hr : Kd.C (Kd.slice 34 (Kd.int .u64)) w A l.length l) (hl : l.flatten.length ≤ 1099511627776) :
  Calls Tryz.prog 27 #[.slice A l.length c] w fun e w' => ∃ v, e = .returned v ∧ (Kd.int .u64).R 34 w' w.heap.size (fun _ => True) v (Plain.norm l.flatten) ∧ Below w.heap.size w w' := by
 have HC := Lib.hid (concat_u64 A c l w hr hl)
 have HS := Lib.hid (fun W v (hv : (Kd.int .u64).R 34 W w.heap.size (fun _ => True) v l.flatten) (hB : Below w.heap.size w W) => sort_compact W w.heap.size v l.flatten hv hB.size (by omega) (fun w' v' => (Kd.int .u64).R 34 w' w.heap.size (fun _ => True) v' (Plain.norm l.flatten) ∧ Below w.heap.size w w') (fun w' v' h1 h2 => ⟨h1, hB.trans h2⟩))
 clear hr hl
 go_enter Tryz.func27, Tryz.ntmps27
 go_wp2_with (first | (go_at_call 60; refine HC.out.mono ?_; rintro e w1 ⟨v, rfl, hv, hb⟩; have HX := Lib.hid (HS.out w1 v hv hb); clear hv hb) | (go_at_call 61; refine HX.out.mono ?_; rintro e w2 ⟨rfl, hk⟩; have HK := Lib.hid hk; clear hk) | (go_at_call 62; refine HK.out.mono ?_; rintro e w3 ⟨v', rfl, hv, hb⟩; have HV := Lib.hid hv; have HB := Lib.hid hb; clear hv hb))
 go_ret
 exact ⟨_, rfl, HV.out, HB.out⟩
end Go.Proofs.YtigcbajcifhinaaGreatDoor.Txt
namespace Go.Proofs.YtigcbajcifhinaaGreatDoor.V
open Go.RowKit Go.Proofs.YtigcbajcifhinaaGreatDoorW.PrintWords Go.Proofs.YtigcbajcifhinaaGreatDoorW.PrintLast Go.Proofs.YtigcbajcifhinaaGreatDoorW.PrintMore
attribute [local go_sem] max2_int min2_int max_two min_two max_three min_three max_four min_four
def mail_has.f (l0 : List ByteArray) (a1 : ByteArray) : Option (Bool) := if ∀ s ∈ l0, s.size < 4294967281 then some (Go.Proofs.YtigcbajcifhinaaGreatDoor.Txt.hasF l0 a1) else none
theorem mail_has.calls (A0 : Option Addr) (c0 : Nat) (l0 : List ByteArray) (a1 : ByteArray) (r : Bool) (w : World) (hr0 : Kd.C Kd.string w A0 l0.length l0) (hc0 : l0.length ≤ c0) (hT : Tabs w) (h : mail_has.f l0 a1 = some r) :
  Calls Tryz.prog 24 #[.slice A0 l0.length c0, .string a1] w fun e w' => e = .returned (.bool r) ∧ Below w.heap.size w w' := by
 unfold mail_has.f at h
 split at h
 ·
  rename_i hc
  cases h
  exact Go.Proofs.YtigcbajcifhinaaGreatDoor.Txt.has_any A0 c0 l0 a1 w hr0 hT hc
 · cases h
def mail_InBody.f (a0_0 : Int) (a0_1 : Int) (a0_2 : Bool) (l0_3 : List ByteArray) (l0_4 : List ByteArray) (l0_5 : List ByteArray) (a1 : ByteArray) : Option (Bool) := (mail_has.f l0_5 a1).bind fun t300 => (some t300)
theorem mail_InBody.calls (a0_0 : Int) (a0_1 : Int) (a0_2 : Bool) (A0_3 : Option Addr) (c0_3 : Nat) (l0_3 : List ByteArray) (A0_4 : Option Addr) (c0_4 : Nat) (l0_4 : List ByteArray) (A0_5 : Option Addr) (c0_5 : Nat) (l0_5 : List ByteArray) (a1 : ByteArray) (r : Bool) (w : World) (hr0_3 : Kd.C Kd.string w A0_3 l0_3.length l0_3) (hc0_3 : l0_3.length ≤ c0_3) (hr0_4 : Kd.C Kd.string w A0_4 l0_4.length l0_4) (hc0_4 : l0_4.length ≤ c0_4) (hr0_5 : Kd.C Kd.string w A0_5 l0_5.length l0_5) (hc0_5 : l0_5.length ≤ c0_5) (hT : Tabs w) (h : mail_InBody.f a0_0 a0_1 a0_2 l0_3 l0_4 l0_5 a1 = some r) :
  Calls Tryz.prog 14 #[.agg #[.int .i64 a0_0, .int .i64 a0_1, .bool a0_2, .slice A0_3 l0_3.length c0_3, .slice A0_4 l0_4.length c0_4, .slice A0_5 l0_5.length c0_5], .string a1] w fun e w' => e = .returned (.bool r) ∧ Below w.heap.size w w' := by
 have hu26 := Tryz.underlying26
 have HR0_3 := Aside0.mk hr0_3
 have HC0_3 := Aside0.mk hc0_3
 clear hr0_3 hc0_3
 have HR0_4 := Aside0.mk hr0_4
 have HC0_4 := Aside0.mk hc0_4
 clear hr0_4 hc0_4
 have HR0_5 := Aside0.mk hr0_5
 have HC0_5 := Aside0.mk hc0_5
 clear hr0_5 hc0_5
 have HTAB := Aside0.mk hT
 clear hT
 have HB := Aside0.mk (Below.refl w.heap.size w)
 have H : ((mail_has.f l0_5 a1).bind fun t300 => (some t300)) = some r := h
 clear h
 obtain ⟨t300, A3, H⟩ := bindQ H
 replace H : (some t300) = some r := H
 obtain rfl := Option.some.inj H
 go_enter Tryz.func14, Tryz.ntmps14
 go_wp2_with (first | ((with_reducible refine gate_dst (N := 2) rfl ?_); refine box_event ?hg (N := 2) ?hd (cs := #[.int .i64 a0_0, .int .i64 a0_1, .bool a0_2, .slice A0_3 l0_3.length c0_3, .slice A0_4 l0_4.length c0_4, .slice A0_5 l0_5.length c0_5]) (t := 26) ?hr ?_; (case hd => rfl); (case hg => rfl); (case hr => first | (go_simp; done) | (go_simp; rfl)); intro gb299 hg w4 hbox hb; have BK299 := Aside0.mk (hbox); have GW299 := gwQ HB hg; have GE299 := gwQ HB hg; replace HB := LB HB hb; clear hb hbox hg; obtain ⟨hcz5_0, hcz5_1, hcz5_2, hcz5_3, hcz5_4, hcz5_5, hfz5_0, hfz5_1, hfz5_2, hfz5_3, hfz5_4, hfz5_5⟩ := cf6 BK299) | ((with_reducible refine gate_callee (f := 24) rfl ?_); refine goesLQ (some 8) Tryz.func24 #[.slice A0_5 l0_5.length c0_5, .string a1] ?_; (with_reducible refine (mail_has.calls _ _ l0_5 a1 t300 _ ?side1 ?side2 ?side3 A3.out).mono ?_); (case side1 => exact CB HR0_5 HB); (case side2 => exact HC0_5.out); (case side3 => first | exact TX HTAB HB | exact TD HTAB); rintro e w6 ⟨rfl, hb⟩; refine ⟨_, rfl, ?_⟩; replace BK299 := BB BK299 hb; replace HB := LB HB hb))
 go_ret
 exact retQ HB
def mail_value.f (a0_0 : Int) (a0_1 : Int) (a0_2 : Bool) (l0_3 : List ByteArray) (l0_4 : List ByteArray) (l0_5 : List ByteArray) (a1 : Int) : Option (ByteArray) := if a1 ≥ (l0_4.length : Int) then (some (⟨#[]⟩ : ByteArray)) else (if 0 ≤ a1 then (if a1 < (l0_4.length : Int) then (some (rdOf ByteArray.empty l0_4 a1)) else (none)) else (none))
theorem mail_value.calls (a0_0 : Int) (a0_1 : Int) (a0_2 : Bool) (A0_3 : Option Addr) (c0_3 : Nat) (l0_3 : List ByteArray) (A0_4 : Option Addr) (c0_4 : Nat) (l0_4 : List ByteArray) (A0_5 : Option Addr) (c0_5 : Nat) (l0_5 : List ByteArray) (a1 : Int) (r : ByteArray) (w : World) (hr0_3 : Kd.C Kd.string w A0_3 l0_3.length l0_3) (hc0_3 : l0_3.length ≤ c0_3) (hr0_4 : Kd.C Kd.string w A0_4 l0_4.length l0_4) (hc0_4 : l0_4.length ≤ c0_4) (hr0_5 : Kd.C Kd.string w A0_5 l0_5.length l0_5) (hc0_5 : l0_5.length ≤ c0_5) (h : mail_value.f a0_0 a0_1 a0_2 l0_3 l0_4 l0_5 a1 = some r) :
  Calls Tryz.prog 32 #[.agg #[.int .i64 a0_0, .int .i64 a0_1, .bool a0_2, .slice A0_3 l0_3.length c0_3, .slice A0_4 l0_4.length c0_4, .slice A0_5 l0_5.length c0_5], .int .i64 a1] w fun e w' => e = .returned (.string r) ∧ Below w.heap.size w w' := by
 have hu26 := Tryz.underlying26
 have HR0_3 := Aside0.mk hr0_3
 have HC0_3 := Aside0.mk hc0_3
 clear hr0_3 hc0_3
 have HR0_4 := Aside0.mk hr0_4
 have HC0_4 := Aside0.mk hc0_4
 clear hr0_4 hc0_4
 have HR0_5 := Aside0.mk hr0_5
 have HC0_5 := Aside0.mk hc0_5
 clear hr0_5 hc0_5
 have HB := Aside0.mk (Below.refl w.heap.size w)
 have H : (if a1 ≥ (l0_4.length : Int) then (some (⟨#[]⟩ : ByteArray)) else (if 0 ≤ a1 then (if a1 < (l0_4.length : Int) then (some (rdOf ByteArray.empty l0_4 a1)) else (none)) else (none))) = some r := h
 clear h
 by_cases c3 : a1 ≥ (l0_4.length : Int)
 ·
  rw [if_pos c3] at H
  have c3b0 : decide ((l0_4.length : Int) ≤ a1) = true := decide_eq_true c3
  clear c3
  obtain rfl := Option.some.inj H
  go_enter Tryz.func32, Tryz.ntmps32
  go_wp2_with (first | ((with_reducible refine gate_dst (N := 2) rfl ?_); refine box_event ?hg (N := 2) ?hd (cs := #[.int .i64 a0_0, .int .i64 a0_1, .bool a0_2, .slice A0_3 l0_3.length c0_3, .slice A0_4 l0_4.length c0_4, .slice A0_5 l0_5.length c0_5]) (t := 26) ?hr ?_; (case hd => rfl); (case hg => rfl); (case hr => first | (go_simp; done) | (go_simp; rfl)); intro gb301 hg w4 hbox hb; have BK301 := Aside0.mk (hbox); have GW301 := gwQ HB hg; have GE301 := gwQ HB hg; replace HB := LB HB hb; clear hb hbox hg; obtain ⟨hcz5_0, hcz5_1, hcz5_2, hcz5_3, hcz5_4, hcz5_5, hfz5_0, hfz5_1, hfz5_2, hfz5_3, hfz5_4, hfz5_5⟩ := cf6 BK301))
  go_ret
  exact retQ HB
 ·
  rw [if_neg c3] at H
  have c3b0 : decide ((l0_4.length : Int) ≤ a1) = false := decide_eq_false c3
  clear c3
  by_cases c6 : 0 ≤ a1
  ·
   rw [if_pos c6] at H
   have c6b0 : decide (0 ≤ a1) = true := decide_eq_true c6
   clear c6
   by_cases c7 : a1 < (l0_4.length : Int)
   ·
    rw [if_pos c7] at H
    have c7b0 : decide (a1 < (l0_4.length : Int)) = true := decide_eq_true c7
    clear c7
    obtain rfl := Option.some.inj H
    go_enter Tryz.func32, Tryz.ntmps32
    go_wp2_with (first | ((with_reducible refine gate_dst (N := 2) rfl ?_); refine box_event ?hg (N := 2) ?hd (cs := #[.int .i64 a0_0, .int .i64 a0_1, .bool a0_2, .slice A0_3 l0_3.length c0_3, .slice A0_4 l0_4.length c0_4, .slice A0_5 l0_5.length c0_5]) (t := 26) ?hr ?_; (case hd => rfl); (case hg => rfl); (case hr => first | (go_simp; done) | (go_simp; rfl)); intro gb301 hg w8 hbox hb; have BK301 := Aside0.mk (hbox); have GW301 := gwQ HB hg; have GE301 := gwQ HB hg; replace HB := LB HB hb; clear hb hbox hg; obtain ⟨hcz9_0, hcz9_1, hcz9_2, hcz9_3, hcz9_4, hcz9_5, hfz9_0, hfz9_1, hfz9_2, hfz9_3, hfz9_4, hfz9_5⟩ := cf6 BK301; have p302 : 0 ≤ (a1 : Int) := ofD; have q302 : a1 < (l0_4.length : Int) := ofD; obtain ⟨ad302, e302, hx302_0⟩ := Kd.at_string HR0_4.out a1 p302 q302; cases e302; replace hx302_0 := (HB.out.cell (World.block_lt_of_cell? w _ hx302_0)).trans hx302_0; replace p302 := eq_true p302; replace q302 := eq_true q302))
    go_ret
    exact retQ HB
   ·
    rw [if_neg c7] at H
    exact absurd H (by simp)
  ·
   rw [if_neg c6] at H
   exact absurd H (by simp)
def mail_lines.l0 : Nat → List ByteArray → List ByteArray → Int → Int → Int → Int → Bool → List ByteArray → List ByteArray → List ByteArray → Option (List ByteArray)
 | 0, _, _, _, _, _, _, _, _, _, _ => none
 | k + 1, x3, x11, x12, x13, x304000, x304001, x304002, x304003, x304004, x304005 => if x13 < x12 then (if 0 ≤ x13 then (if x13 < (x11.length : Int) then (if (rdOf ByteArray.empty x11 x13).size + 2 ≤ 9223372036854775807 then ((mail_value.f x304000 x304001 x304002 x304003 x304004 x304005 x13).bind fun t308 => (if ((rdOf ByteArray.empty x11 x13) ++ (⟨#[58, 32]⟩ : ByteArray)).size + t308.size ≤ 9223372036854775807 then (if x13 < (x3.length : Int) then (mail_lines.l0 k (x3.set (x13 : Int).toNat (((rdOf ByteArray.empty x11 x13) ++ (⟨#[58, 32]⟩ : ByteArray)) ++ t308)) x11 x12 (wrap64 (x13 + 1)) x304000 x304001 x304002 x304003 x304004 x304005) else (none)) else (none))) else (none)) else (none)) else (none)) else (some x3)
def mail_lines.f (k : Nat) (a0_0 : Int) (a0_1 : Int) (a0_2 : Bool) (l0_3 : List ByteArray) (l0_4 : List ByteArray) (l0_5 : List ByteArray) : Option (List ByteArray) := if 0 ≤ (l0_3.length : Int) then (if ((l0_3.length : Int) : Int).toNat ≤ 17592186044416 then (mail_lines.l0 k (List.replicate ((l0_3.length : Int) : Int).toNat (⟨#[]⟩ : ByteArray)) l0_3 (l0_3.length : Int) 0 a0_0 a0_1 a0_2 l0_3 l0_4 l0_5) else (none)) else (none)
theorem mail_lines.mono_l : ∀ k, (∀ y0 y1 y2 y3 y4 y5 y6 y7 y8 y9, LeO (mail_lines.l0 k y0 y1 y2 y3 y4 y5 y6 y7 y8 y9) (mail_lines.l0 (k + 1) y0 y1 y2 y3 y4 y5 y6 y7 y8 y9))
 | 0 => fun _ _ _ _ _ _ _ _ _ _ r h => by simp [mail_lines.l0] at h
 | k + 1 => by
  have ih0 := mail_lines.mono_l k
  ·
   intro y0 y1 y2 y3 y4 y5 y6 y7 y8 y9
   unfold mail_lines.l0
   repeat' (with_reducible first | apply ih0 | apply LeO.refl | exact LeO.none _ | apply LeO.ite | refine LeO.bind ?_ fun _ => ?_)
theorem mail_lines.mono : ∀ a0 a1 a2 a3 a4 a5 k, LeO (mail_lines.f k a0 a1 a2 a3 a4 a5) (mail_lines.f (k + 1) a0 a1 a2 a3 a4 a5) := by
 intro a0 a1 a2 a3 a4 a5 k
 have ih0 := mail_lines.mono_l k
 unfold mail_lines.f
 repeat' (with_reducible first | apply ih0 | apply LeO.refl | exact LeO.none _ | apply LeO.ite | refine LeO.bind ?_ fun _ => ?_)
theorem mail_lines.calls (k : Nat) (a0_0 : Int) (a0_1 : Int) (a0_2 : Bool) (A0_3 : Option Addr) (c0_3 : Nat) (l0_3 : List ByteArray) (A0_4 : Option Addr) (c0_4 : Nat) (l0_4 : List ByteArray) (A0_5 : Option Addr) (c0_5 : Nat) (l0_5 : List ByteArray) (r : List ByteArray) (w : World) (hr0_3 : Kd.C Kd.string w A0_3 l0_3.length l0_3) (hc0_3 : l0_3.length ≤ c0_3) (hr0_4 : Kd.C Kd.string w A0_4 l0_4.length l0_4) (hc0_4 : l0_4.length ≤ c0_4) (hr0_5 : Kd.C Kd.string w A0_5 l0_5.length l0_5) (hc0_5 : l0_5.length ≤ c0_5) (h : mail_lines.f k a0_0 a0_1 a0_2 l0_3 l0_4 l0_5 = some r) :
  Calls Tryz.prog 25 #[.agg #[.int .i64 a0_0, .int .i64 a0_1, .bool a0_2, .slice A0_3 l0_3.length c0_3, .slice A0_4 l0_4.length c0_4, .slice A0_5 l0_5.length c0_5]] w fun e w' => ∃ v0_ : Value, e = .returned (v0_) ∧ Kd.R Kd.string 9 w' w.heap.size (fun _ => True) v0_ r ∧ Below w.heap.size w w' := by
 have hu26 := Tryz.underlying26
 have HR0_3 := Aside0.mk hr0_3
 have HC0_3 := Aside0.mk hc0_3
 clear hr0_3 hc0_3
 have HR0_4 := Aside0.mk hr0_4
 have HC0_4 := Aside0.mk hc0_4
 clear hr0_4 hc0_4
 have HR0_5 := Aside0.mk hr0_5
 have HC0_5 := Aside0.mk hc0_5
 clear hr0_5 hc0_5
 have HB := Aside0.mk (Below.refl w.heap.size w)
 have H : (if 0 ≤ (l0_3.length : Int) then (if ((l0_3.length : Int) : Int).toNat ≤ 17592186044416 then (mail_lines.l0 k (List.replicate ((l0_3.length : Int) : Int).toNat (⟨#[]⟩ : ByteArray)) l0_3 (l0_3.length : Int) 0 a0_0 a0_1 a0_2 l0_3 l0_4 l0_5) else (none)) else (none)) = some r := h
 clear h
 by_cases c2 : 0 ≤ (l0_3.length : Int)
 ·
  rw [if_pos c2] at H
  have c2b0 := eq_true c2
  have c2b1 : decide (0 ≤ (l0_3.length : Int)) = true := decide_eq_true c2
  clear c2
  by_cases c3 : ((l0_3.length : Int) : Int).toNat ≤ 17592186044416
  ·
   rw [if_pos c3] at H
   have c3b0 := eq_true c3
   have c3b1 : decide (((l0_3.length : Int) : Int).toNat ≤ 17592186044416) = true := decide_eq_true c3
   clear c3
   obtain ⟨y304, hy304⟩ : ∃ y_ : List ByteArray, y_ = (List.replicate ((l0_3.length : Int) : Int).toNat (⟨#[]⟩ : ByteArray)) := ⟨_, rfl⟩
   replace H : (mail_lines.l0 k y304 l0_3 (l0_3.length : Int) 0 a0_0 a0_1 a0_2 l0_3 l0_4 l0_5) = some r := by first | (rw [hy304]; with_reducible exact H) | (have H2_ := (Option.bind_some _ _).symm.trans H; rw [hy304]; with_reducible exact H2_) | (have H2_ := (Option.bind_some _ _).symm.trans H; with_reducible exact H2_) | with_reducible exact H | (rw [hy304]; exact H) | exact H
   have Ny304 := Aside0.mk hy304
   clear hy304
   have H' := Aside0.mk H
   clear H
   go_enter Tryz.func25, Tryz.ntmps25
   go_wp2_with (first | ((with_reducible refine gate_dst (N := 1) rfl ?_); refine box_event ?hg (N := 1) ?hd (cs := #[.int .i64 a0_0, .int .i64 a0_1, .bool a0_2, .slice A0_3 l0_3.length c0_3, .slice A0_4 l0_4.length c0_4, .slice A0_5 l0_5.length c0_5]) (t := 26) ?hr ?_; (case hd => rfl); (case hg => rfl); (case hr => first | (go_simp; done) | (go_simp; rfl)); intro gb303 hg w4 hbox hb; have BK303 := Aside0.mk (hbox); have GW303 := gwQ HB hg; have GE303 := gwQ HB hg; replace HB := LB HB hb; clear hb hbox hg; obtain ⟨hcz5_0, hcz5_1, hcz5_2, hcz5_3, hcz5_4, hcz5_5, hfz5_0, hfz5_1, hfz5_2, hfz5_3, hfz5_4, hfz5_5⟩ := cf6 BK303) | ((with_reducible refine gate_dst (N := 9) rfl ?_); refine Kd.R_make Kd.string _ 9 rfl (N := 9) rfl 24 _ _ rfl (l0_3.length : Int) rfl rfl Tryz.underlying24 (.string ⟨#[]⟩) 16 info9 rfl (by decide) (by omega) (⟨#[]⟩ : ByteArray) (ok := fun _ => True) (okp := fun _ => True) rfl (fun _ hk => hk) trivial (ofD) (Nat.le_trans (Nat.mul_le_mul_right _ (ofD : (l0_3.length : Int).toNat ≤ 17592186044416)) (by omega)) (Below.refl _ _) (Nat.le_refl _) ?_; intro v305 w6 ho7 hb hg_ hnew_; clear hg_ hnew_; (first | rw [← Ny304.out] at ho7 | (simp only [Int.reduceToNat] at ho7; rw [← Ny304.out] at ho7)); have HO306 := Aside0.mk (Kd.R_lower ho7 (below_size (LX HB))); replace BK303 := BB BK303 hb; replace HB := LB HB hb; clear hb ho7; obtain ⟨hcz8_0, hcz8_1, hcz8_2, hcz8_3, hcz8_4, hcz8_5, hfz8_0, hfz8_1, hfz8_2, hfz8_3, hfz8_4, hfz8_5⟩ := cf6 BK303))
   go_loopg [13] k (fun kq v13 w' => ∃ (x3_1 : List ByteArray) (x13_1 : Int), v13 = .int .i64 x13_1 ∧ Aside0 (mail_lines.l0 kq x3_1 l0_3 (l0_3.length : Int) x13_1 a0_0 a0_1 a0_2 l0_3 l0_4 l0_5 = some r) ∧ Aside0 (kq ≤ k) ∧ Aside0 (Kd.R Kd.string 9 w' w.heap.size (fun _ => True) v305 x3_1) ∧ Aside0 (w'.heap[gb303]? = some (.cells #[.int .i64 a0_0, .int .i64 a0_1, .bool a0_2, (.slice A0_3 l0_3.length c0_3), (.slice A0_4 l0_4.length c0_4), (.slice A0_5 l0_5.length c0_5)] 26 (0, 0))) ∧ Aside0 (Below w.heap.size w w'))
   case atStart => exact ⟨(y304), (0), (by first | rfl | (simp [*]; done)), H', ⟨Nat.le_refl _⟩, ⟨RX HO306⟩, ⟨BX BK303⟩, ⟨LX HB⟩⟩
   case round =>
    clear H'
    obtain ⟨x3_1, x13_1, rfl, HA, HK1, HO_3, BK303, HB⟩ := hrel
    cases gk with
    | zero => exact absurd HA.out (by simp [mail_lines.l0])
    | succ k1 =>
     have H := HA.out
     clear HA
     simp only [mail_lines.l0] at H
     by_cases c9 : x13_1 < (l0_3.length : Int)
     ·
      rw [if_pos c9] at H
      have c9b0 : decide (x13_1 < (l0_3.length : Int)) = true := decide_eq_true c9
      clear c9
      by_cases c10 : 0 ≤ x13_1
      ·
       rw [if_pos c10] at H
       have c10b0 : decide (0 ≤ x13_1) = true := decide_eq_true c10
       clear c10
       by_cases c11 : x13_1 < (l0_3.length : Int)
       ·
        rw [if_pos c11] at H
        have c11b0 : decide (x13_1 < (l0_3.length : Int)) = true := decide_eq_true c11
        clear c11
        by_cases c12 : (rdOf ByteArray.empty l0_3 x13_1).size + 2 ≤ 9223372036854775807
        ·
         rw [if_pos c12] at H
         have c12b0 := eq_true c12
         have c12b1 : decide ((rdOf ByteArray.empty l0_3 x13_1).size + 2 ≤ 9223372036854775807) = true := decide_eq_true c12
         try have c12b2 : (9223372036854775807 < (rdOf ByteArray.empty l0_3 x13_1).size + 2) = False := eq_false (Nat.not_lt.2 c12)
         obtain ⟨t308, A13, H⟩ := bindQ H
         replace H : (if ((rdOf ByteArray.empty l0_3 x13_1) ++ (⟨#[58, 32]⟩ : ByteArray)).size + t308.size ≤ 9223372036854775807 then (if x13_1 < (x3_1.length : Int) then (mail_lines.l0 k1 (x3_1.set (x13_1 : Int).toNat (((rdOf ByteArray.empty l0_3 x13_1) ++ (⟨#[58, 32]⟩ : ByteArray)) ++ t308)) l0_3 (l0_3.length : Int) (wrap64 (x13_1 + 1)) a0_0 a0_1 a0_2 l0_3 l0_4 l0_5) else (none)) else (none)) = some r := H
         by_cases c14 : ((rdOf ByteArray.empty l0_3 x13_1) ++ (⟨#[58, 32]⟩ : ByteArray)).size + t308.size ≤ 9223372036854775807
         ·
          rw [if_pos c14] at H
          have c14b0 := eq_true c14
          have c14n_ := c14
          simp only [ByteArray.size_append, show ((⟨#[58, 32]⟩ : ByteArray)).size = 2 from rfl] at c14n_
          have c14b1 : decide (((rdOf ByteArray.empty l0_3 x13_1) ++ (⟨#[58, 32]⟩ : ByteArray)).size + t308.size ≤ 9223372036854775807) = true := decide_eq_true c14
          try have c14b2 : (9223372036854775807 < ((rdOf ByteArray.empty l0_3 x13_1) ++ (⟨#[58, 32]⟩ : ByteArray)).size + t308.size) = False := eq_false (Nat.not_lt.2 c14)
          by_cases c15 : x13_1 < (x3_1.length : Int)
          ·
           rw [if_pos c15] at H
           have c15b0 : decide (x13_1 < (x3_1.length : Int)) = true := decide_eq_true c15
           clear c15
           obtain ⟨y309, hy309⟩ : ∃ y_ : List ByteArray, y_ = (x3_1.set (x13_1 : Int).toNat (((rdOf ByteArray.empty l0_3 x13_1) ++ (⟨#[58, 32]⟩ : ByteArray)) ++ t308)) := ⟨_, rfl⟩
           replace H : (mail_lines.l0 k1 y309 l0_3 (l0_3.length : Int) (wrap64 (x13_1 + 1)) a0_0 a0_1 a0_2 l0_3 l0_4 l0_5) = some r := by first | (rw [hy309]; with_reducible exact H) | (have H2_ := (Option.bind_some _ _).symm.trans H; rw [hy309]; with_reducible exact H2_) | (have H2_ := (Option.bind_some _ _).symm.trans H; with_reducible exact H2_) | with_reducible exact H | (rw [hy309]; exact H) | exact H
           have Ny309 := Aside0.mk hy309
           clear hy309
           have H' := Aside0.mk H
           clear H
           have p307 : 0 ≤ (x13_1 : Int) := ofD
           have q307 : x13_1 < (l0_3.length : Int) := ofD
           obtain ⟨ad307, e307, hx307_0⟩ := Kd.at_string HR0_3.out x13_1 p307 q307
           cases e307
           replace hx307_0 := (HB.out.cell (World.block_lt_of_cell? w _ hx307_0)).trans hx307_0
           replace p307 := eq_true p307
           replace q307 := eq_true q307
           obtain ⟨hcz17_0, hcz17_1, hcz17_2, hcz17_3, hcz17_4, hcz17_5, hfz17_0, hfz17_1, hfz17_2, hfz17_3, hfz17_4, hfz17_5⟩ := cf6 BK303
           go_wp2_with (first | ((with_reducible refine gate_callee (f := 32) rfl ?_); refine goesLQ (some 24) Tryz.func32 #[.agg #[.int .i64 a0_0, .int .i64 a0_1, .bool a0_2, .slice (some ad307) l0_3.length c0_3, .slice A0_4 l0_4.length c0_4, .slice A0_5 l0_5.length c0_5], .int .i64 x13_1] ?_; (with_reducible refine (mail_value.calls a0_0 a0_1 a0_2 _ _ l0_3 _ _ l0_4 _ _ l0_5 x13_1 t308 _ ?side1 ?side2 ?side3 ?side4 ?side5 ?side6 A13.out).mono ?_); (case side1 => exact CB HR0_3 HB); (case side2 => exact HC0_3.out); (case side3 => exact CB HR0_4 HB); (case side4 => exact HC0_4.out); (case side5 => exact CB HR0_5 HB); (case side6 => exact HC0_5.out); rintro e w18 ⟨rfl, hb⟩; refine ⟨_, rfl, ?_⟩; replace HO_3 := RB HO_3 hb; replace BK303 := BB BK303 hb; replace HB := LB HB hb; have p16 : 0 ≤ (x13_1 : Int) := ofD; have q16 : (x13_1 : Int) < ((x3_1.length : Int) : Int) := ofD; obtain ⟨go16, co16, eo16, gb16, gl16, cl16, HG16⟩ := Kd.R_form HO_3.out (by omega); (first | cases eo16 | (injection eo16 with ea_ en_ ec_; (first | subst ea_ | (injection ea_ with ea_; subst ea_)); subst ec_; clear en_)); have GB16 := Aside0.mk gb16; have GG16 := Aside0.mk HG16; clear gb16 gl16 HG16; obtain ⟨hx16_0, hf16_0⟩ := Kd.R_celln (⟨#[]⟩ : ByteArray) HO_3.out (x13_1 : Int) p16 q16; replace p16 := eq_true p16; replace q16 := eq_true q16; obtain ⟨hy19_, hz19_⟩ := Kd.R_celln (⟨#[]⟩ : ByteArray) HO_3.out (x13_1 : Int) (ofD) (ofD); have HP19 := Kd.R_putg HO_3.out (x13_1 : Int) (((rdOf ByteArray.empty l0_3 x13_1) ++ (⟨#[58, 32]⟩ : ByteArray)) ++ t308)) | ((with_reducible refine gate_store (t := 9) (p := 26) rfl ?_); refine store_event (t := 9) (p := 26) (v := ?vo_w20) (w1 := (w18.setCell ⟨go16, (x13_1 : Int).toNat, none⟩ (.string (((rdOf ByteArray.empty l0_3 x13_1) ++ (⟨#[58, 32]⟩ : ByteArray)) ++ t308)))) ?hg ?ho ?hn ?hr ?_; (case ho => rfl); (case hg => rfl); (case hn => rfl); (case hr => first | (go_simp; done) | (go_simp; rfl)); intro w20 hw; have hg : w18.grownBy w20 (some go16) := (by rw [hw]; exact HP19.2); have hp_ : Kd.R Kd.string 9 w20 w.heap.size (fun _ => True) (.slice (some ⟨go16, 0, none⟩) x3_1.length co16) y309 := (by rw [hw, Ny309.out]; exact HP19.1); clear HP19; replace BK303 := Aside0.mk (blk_grown (g := gb303) (o := .cells #[.int .i64 a0_0, .int .i64 a0_1, .bool a0_2, .slice (some ad307) l0_3.length c0_3, .slice A0_4 l0_4.length c0_4, .slice A0_5 l0_5.length c0_5] 26 (0, 0)) (BX BK303) hg (Kd.R_ne HO_3.out BK303.out (by decide))); replace HB := Aside0.mk ((by rw [hw]; exact below_set (HB.out) GB16.out : Below w.heap.size w w20)); replace HO_3 := Aside0.mk (hp_); clear hg hw hp_))
           go_roundg k1
           case measure => have := HK1.out; omega
           case rel => exact ⟨(y309), (wrap64 (x13_1 + 1)), (by first | rfl | (simp [*]; done)), H', ⟨by have := HK1.out; omega⟩, ⟨RX HO_3⟩, ⟨BX BK303⟩, ⟨LX HB⟩⟩
          ·
           rw [if_neg c15] at H
           exact absurd H (by simp)
         ·
          rw [if_neg c14] at H
          exact absurd H (by simp)
        ·
         rw [if_neg c12] at H
         exact absurd H (by simp)
       ·
        rw [if_neg c11] at H
        exact absurd H (by simp)
      ·
       rw [if_neg c10] at H
       exact absurd H (by simp)
     ·
      rw [if_neg c9] at H
      have c9b0 : decide (x13_1 < (l0_3.length : Int)) = false := decide_eq_false c9
      clear c9
      obtain rfl := Option.some.inj H
      go_wp2
      go_ret
      exact ⟨_, by first | rfl | (simp [errW_none, errW_some] <;> rfl) | (simp [*, errW_none, errW_some] <;> rfl), by (with_reducible repeat (first | apply Kd.R_alloc | apply Kd.R_drewN | apply Kd.R_drew)); exact HO_3.out, LX HB⟩
  ·
   rw [if_neg c3] at H
   exact absurd H (by simp)
 ·
  rw [if_neg c2] at H
  exact absurd H (by simp)
def mail_InText.f (k : Nat) (a0_0 : Int) (a0_1 : Int) (a0_2 : Bool) (l0_3 : List ByteArray) (l0_4 : List ByteArray) (l0_5 : List ByteArray) (a1 : ByteArray) : Option (Bool) := (mail_lines.f k a0_0 a0_1 a0_2 l0_3 l0_4 l0_5).bind fun t311 => ((mail_has.f t311 a1).bind fun t314 => (if t314 = true then (some true) else ((mail_InBody.f a0_0 a0_1 a0_2 l0_3 l0_4 l0_5 a1).bind fun t315 => (some t315))))
theorem mail_InText.mono : ∀ a0 a1 a2 a3 a4 a5 a6 k, LeO (mail_InText.f k a0 a1 a2 a3 a4 a5 a6) (mail_InText.f (k + 1) a0 a1 a2 a3 a4 a5 a6) := by
 intro a0 a1 a2 a3 a4 a5 a6 k
 unfold mail_InText.f
 repeat' (with_reducible first | apply mail_lines.mono | apply LeO.refl | exact LeO.none _ | apply LeO.ite | refine LeO.bind ?_ fun _ => ?_)
theorem mail_InText.calls (k : Nat) (a0_0 : Int) (a0_1 : Int) (a0_2 : Bool) (A0_3 : Option Addr) (c0_3 : Nat) (l0_3 : List ByteArray) (A0_4 : Option Addr) (c0_4 : Nat) (l0_4 : List ByteArray) (A0_5 : Option Addr) (c0_5 : Nat) (l0_5 : List ByteArray) (a1 : ByteArray) (r : Bool) (w : World) (hr0_3 : Kd.C Kd.string w A0_3 l0_3.length l0_3) (hc0_3 : l0_3.length ≤ c0_3) (hr0_4 : Kd.C Kd.string w A0_4 l0_4.length l0_4) (hc0_4 : l0_4.length ≤ c0_4) (hr0_5 : Kd.C Kd.string w A0_5 l0_5.length l0_5) (hc0_5 : l0_5.length ≤ c0_5) (hT : Tabs w) (h : mail_InText.f k a0_0 a0_1 a0_2 l0_3 l0_4 l0_5 a1 = some r) :
  Calls Tryz.prog 9 #[.agg #[.int .i64 a0_0, .int .i64 a0_1, .bool a0_2, .slice A0_3 l0_3.length c0_3, .slice A0_4 l0_4.length c0_4, .slice A0_5 l0_5.length c0_5], .string a1] w fun e w' => e = .returned (.bool r) ∧ Below w.heap.size w w' := by
 have hu26 := Tryz.underlying26
 have HR0_3 := Aside0.mk hr0_3
 have HC0_3 := Aside0.mk hc0_3
 clear hr0_3 hc0_3
 have HR0_4 := Aside0.mk hr0_4
 have HC0_4 := Aside0.mk hc0_4
 clear hr0_4 hc0_4
 have HR0_5 := Aside0.mk hr0_5
 have HC0_5 := Aside0.mk hc0_5
 clear hr0_5 hc0_5
 have HTAB := Aside0.mk hT
 clear hT
 have HB := Aside0.mk (Below.refl w.heap.size w)
 have H : ((mail_lines.f k a0_0 a0_1 a0_2 l0_3 l0_4 l0_5).bind fun t311 => ((mail_has.f t311 a1).bind fun t314 => (if t314 = true then (some true) else ((mail_InBody.f a0_0 a0_1 a0_2 l0_3 l0_4 l0_5 a1).bind fun t315 => (some t315))))) = some r := h
 clear h
 obtain ⟨t311, A3, H⟩ := bindQ H
 replace H : ((mail_has.f t311 a1).bind fun t314 => (if t314 = true then (some true) else ((mail_InBody.f a0_0 a0_1 a0_2 l0_3 l0_4 l0_5 a1).bind fun t315 => (some t315)))) = some r := H
 obtain ⟨t314, A4, H⟩ := bindQ H
 replace H : (if t314 = true then (some true) else ((mail_InBody.f a0_0 a0_1 a0_2 l0_3 l0_4 l0_5 a1).bind fun t315 => (some t315))) = some r := H
 by_cases c5 : t314 = true
 ·
  subst c5
  have H1 : (some true) = some r := by rw [if_pos rfl] at H; exact H
  clear H
  have H := H1
  clear H1
  obtain rfl := Option.some.inj H
  go_enter Tryz.func9, Tryz.ntmps9
  go_wp2_with (first | ((with_reducible refine gate_dst (N := 2) rfl ?_); refine box_event ?hg (N := 2) ?hd (cs := #[.int .i64 a0_0, .int .i64 a0_1, .bool a0_2, .slice A0_3 l0_3.length c0_3, .slice A0_4 l0_4.length c0_4, .slice A0_5 l0_5.length c0_5]) (t := 26) ?hr ?_; (case hd => rfl); (case hg => rfl); (case hr => first | (go_simp; done) | (go_simp; rfl)); intro gb310 hg w6 hbox hb; have BK310 := Aside0.mk (hbox); have GW310 := gwQ HB hg; have GE310 := gwQ HB hg; replace HB := LB HB hb; clear hb hbox hg; obtain ⟨hcz7_0, hcz7_1, hcz7_2, hcz7_3, hcz7_4, hcz7_5, hfz7_0, hfz7_1, hfz7_2, hfz7_3, hfz7_4, hfz7_5⟩ := cf6 BK310) | ((with_reducible refine gate_callee (f := 25) rfl ?_); refine goesLQ (some 6) Tryz.func25 #[.agg #[.int .i64 a0_0, .int .i64 a0_1, .bool a0_2, .slice A0_3 l0_3.length c0_3, .slice A0_4 l0_4.length c0_4, .slice A0_5 l0_5.length c0_5]] ?_; (with_reducible refine (mail_lines.calls k a0_0 a0_1 a0_2 _ _ l0_3 _ _ l0_4 _ _ l0_5 t311 _ ?side1 ?side2 ?side3 ?side4 ?side5 ?side6 A3.out).mono ?_); (case side1 => exact CB HR0_3 HB); (case side2 => exact HC0_3.out); (case side3 => exact CB HR0_4 HB); (case side4 => exact HC0_4.out); (case side5 => exact CB HR0_5 HB); (case side6 => exact HC0_5.out); rintro e w8 ⟨v312, rfl, ho0, hb⟩; refine ⟨_, rfl, ?_⟩; have HO313 := Aside0.mk (Kd.R_lower ho0 (below_size (LX HB))); replace BK310 := BB BK310 hb; replace HB := LB HB hb; obtain ⟨Ao9, co9, eo9⟩ := Kd.R_slice HO313.out; subst eo9) | ((with_reducible refine gate_callee (f := 24) rfl ?_); refine goesLQ (some 8) Tryz.func24 #[.slice Ao9 t311.length co9, .string a1] ?_; (with_reducible refine (mail_has.calls _ _ t311 a1 true _ ?side1 ?side2 ?side3 A4.out).mono ?_); (case side1 => exact CX HO313); (case side2 => exact (cyQ HO313)); (case side3 => first | exact TX HTAB HB | exact TD HTAB); rintro e w10 ⟨rfl, hb⟩; refine ⟨_, rfl, ?_⟩; replace HO313 := RB HO313 hb; replace BK310 := BB BK310 hb; replace HB := LB HB hb))
  go_ret
  exact retQ HB
 ·
  replace c5 := Bool.eq_false_iff.mpr c5
  subst c5
  have H1 : ((mail_InBody.f a0_0 a0_1 a0_2 l0_3 l0_4 l0_5 a1).bind fun t315 => (some t315)) = some r := by rw [if_neg (show ¬ (false = true) by decide)] at H; exact H
  clear H
  have H := H1
  clear H1
  obtain ⟨t315, A11, H⟩ := bindQ H
  replace H : (some t315) = some r := H
  obtain rfl := Option.some.inj H
  go_enter Tryz.func9, Tryz.ntmps9
  go_wp2_with (first | ((with_reducible refine gate_dst (N := 2) rfl ?_); refine box_event ?hg (N := 2) ?hd (cs := #[.int .i64 a0_0, .int .i64 a0_1, .bool a0_2, .slice A0_3 l0_3.length c0_3, .slice A0_4 l0_4.length c0_4, .slice A0_5 l0_5.length c0_5]) (t := 26) ?hr ?_; (case hd => rfl); (case hg => rfl); (case hr => first | (go_simp; done) | (go_simp; rfl)); intro gb310 hg w12 hbox hb; have BK310 := Aside0.mk (hbox); have GW310 := gwQ HB hg; have GE310 := gwQ HB hg; replace HB := LB HB hb; clear hb hbox hg; obtain ⟨hcz13_0, hcz13_1, hcz13_2, hcz13_3, hcz13_4, hcz13_5, hfz13_0, hfz13_1, hfz13_2, hfz13_3, hfz13_4, hfz13_5⟩ := cf6 BK310) | ((with_reducible refine gate_callee (f := 25) rfl ?_); refine goesLQ (some 6) Tryz.func25 #[.agg #[.int .i64 a0_0, .int .i64 a0_1, .bool a0_2, .slice A0_3 l0_3.length c0_3, .slice A0_4 l0_4.length c0_4, .slice A0_5 l0_5.length c0_5]] ?_; (with_reducible refine (mail_lines.calls k a0_0 a0_1 a0_2 _ _ l0_3 _ _ l0_4 _ _ l0_5 t311 _ ?side1 ?side2 ?side3 ?side4 ?side5 ?side6 A3.out).mono ?_); (case side1 => exact CB HR0_3 HB); (case side2 => exact HC0_3.out); (case side3 => exact CB HR0_4 HB); (case side4 => exact HC0_4.out); (case side5 => exact CB HR0_5 HB); (case side6 => exact HC0_5.out); rintro e w14 ⟨v312, rfl, ho0, hb⟩; refine ⟨_, rfl, ?_⟩; have HO313 := Aside0.mk (Kd.R_lower ho0 (below_size (LX HB))); replace BK310 := BB BK310 hb; replace HB := LB HB hb; obtain ⟨Ao15, co15, eo15⟩ := Kd.R_slice HO313.out; subst eo15) | ((with_reducible refine gate_callee (f := 24) rfl ?_); refine goesLQ (some 8) Tryz.func24 #[.slice Ao15 t311.length co15, .string a1] ?_; (with_reducible refine (mail_has.calls _ _ t311 a1 false _ ?side1 ?side2 ?side3 A4.out).mono ?_); (case side1 => exact CX HO313); (case side2 => exact (cyQ HO313)); (case side3 => first | exact TX HTAB HB | exact TD HTAB); rintro e w16 ⟨rfl, hb⟩; refine ⟨_, rfl, ?_⟩; replace HO313 := RB HO313 hb; replace BK310 := BB BK310 hb; replace HB := LB HB hb; obtain ⟨hcz17_0, hcz17_1, hcz17_2, hcz17_3, hcz17_4, hcz17_5, hfz17_0, hfz17_1, hfz17_2, hfz17_3, hfz17_4, hfz17_5⟩ := cf6 BK310) | (go_at_call 14; (with_reducible refine (mail_InBody.calls a0_0 a0_1 a0_2 _ _ l0_3 _ _ l0_4 _ _ l0_5 a1 t315 _ ?side1 ?side2 ?side3 ?side4 ?side5 ?side6 ?side7 A11.out).mono ?_); (case side1 => exact CB HR0_3 HB); (case side2 => exact HC0_3.out); (case side3 => exact CB HR0_4 HB); (case side4 => exact HC0_4.out); (case side5 => exact CB HR0_5 HB); (case side6 => exact HC0_5.out); (case side7 => first | exact TX HTAB HB | exact TD HTAB); rintro e w18 ⟨rfl, hb⟩; replace HO313 := RB HO313 hb; replace BK310 := BB BK310 hb; replace HB := LB HB hb))
  go_ret
  exact retQ HB
def fold_Parts.f (l0 : List Int) : Option (List Int) := if l0.length ≤ 17592186044416 then some (Go.Proofs.YtigcbajcifhinaaGreatDoor.Plain.norm (Go.Proofs.YtigcbajcifhinaaGreatDoor.Fold.outF l0 l0.length)) else none
theorem fold_Parts.calls (A0 : Option Addr) (c0 : Nat) (l0 : List Int) (r : List Int) (w : World) (hr0 : Kd.C (Kd.int .i32) w A0 l0.length l0) (hc0 : l0.length ≤ c0) (h : fold_Parts.f l0 = some r) :
  Calls Tryz.prog 11 #[.slice A0 l0.length c0] w fun e w' => ∃ v0_ : Value, e = .returned (v0_) ∧ Kd.R (Kd.int .u64) 34 w' w.heap.size (fun _ => True) v0_ r ∧ Below w.heap.size w w' := by
 unfold fold_Parts.f at h
 split at h
 ·
  rename_i hc
  cases h
  exact Go.Proofs.YtigcbajcifhinaaGreatDoor.Fold.Parts_any A0 c0 l0 w hr0 hc0 hc
 · cases h
def slices_Concat_string_string.f (l0 : List (List ByteArray)) : Option (List ByteArray) := if l0.flatten.length ≤ 1099511627776 then some (l0.flatten) else none
theorem slices_Concat_string_string.calls (A0 : Option Addr) (c0 : Nat) (l0 : List (List ByteArray)) (r : List ByteArray) (w : World) (hr0 : Kd.C (Kd.slice 9 Kd.string) w A0 l0.length l0) (hc0 : l0.length ≤ c0) (h : slices_Concat_string_string.f l0 = some r) :
  Calls Tryz.prog 26 #[.slice A0 l0.length c0] w fun e w' => ∃ v0_ : Value, e = .returned (v0_) ∧ Kd.R (Kd.string) 9 w' w.heap.size (fun _ => True) v0_ r ∧ Below w.heap.size w w' := by
 unfold slices_Concat_string_string.f at h
 split at h
 ·
  rename_i hc
  cases h
  exact Go.Proofs.YtigcbajcifhinaaGreatDoor.Txt.concat_str A0 c0 l0 w hr0 hc
 · cases h
def mail_rising_uint64.f (l0 : List (List Int)) : Option (List Int) := if l0.flatten.length ≤ 1099511627776 then some (Go.Proofs.YtigcbajcifhinaaGreatDoor.Plain.norm l0.flatten) else none
theorem mail_rising_uint64.calls (A0 : Option Addr) (c0 : Nat) (l0 : List (List Int)) (r : List Int) (w : World) (hr0 : Kd.C (Kd.slice 34 (Kd.int .u64)) w A0 l0.length l0) (hc0 : l0.length ≤ c0) (h : mail_rising_uint64.f l0 = some r) :
  Calls Tryz.prog 27 #[.slice A0 l0.length c0] w fun e w' => ∃ v0_ : Value, e = .returned (v0_) ∧ Kd.R (Kd.int .u64) 34 w' w.heap.size (fun _ => True) v0_ r ∧ Below w.heap.size w w' := by
 unfold mail_rising_uint64.f at h
 split at h
 ·
  rename_i hc
  cases h
  exact Go.Proofs.YtigcbajcifhinaaGreatDoor.Txt.rising_any A0 c0 l0 w hr0 hc
 · cases h
def mail_Grams.l0 : Nat → List (List Int) → List ByteArray → Int → Int → Option (List Int)
 | 0, _, _, _, _ => none
 | k + 1, x3, x11, x12, x13 => if x13 < x12 then (if 0 ≤ x13 then (if x13 < (x11.length : Int) then ((runes_Letters.f (rdOf ByteArray.empty x11 x13)).bind fun t327 => ((fold_Parts.f t327).bind fun t330 => (if x3.length < 5864062014805 then (mail_Grams.l0 k (x3 ++ [t330]) x11 x12 (wrap64 (x13 + 1))) else (none)))) else (none)) else (none)) else ((mail_rising_uint64.f x3).bind fun t336 => (some t336))
def mail_Grams.f (k : Nat) (a0_0 : Int) (a0_1 : Int) (a0_2 : Bool) (l0_3 : List ByteArray) (l0_4 : List ByteArray) (l0_5 : List ByteArray) : Option (List Int) := (mail_lines.f k a0_0 a0_1 a0_2 l0_3 l0_4 l0_5).bind fun t317 => ((slices_Concat_string_string.f (([t317, l0_5] : List (List ByteArray)))).bind fun t323 => (mail_Grams.l0 k ([] : List (List Int)) t323 (t323.length : Int) 0))
theorem mail_Grams.mono_l : ∀ k, (∀ y0 y1 y2 y3, LeO (mail_Grams.l0 k y0 y1 y2 y3) (mail_Grams.l0 (k + 1) y0 y1 y2 y3))
 | 0 => fun _ _ _ _ r h => by simp [mail_Grams.l0] at h
 | k + 1 => by
  have ih0 := mail_Grams.mono_l k
  ·
   intro y0 y1 y2 y3
   unfold mail_Grams.l0
   repeat' (with_reducible first | apply ih0 | apply mail_lines.mono | apply LeO.refl | exact LeO.none _ | apply LeO.ite | refine LeO.bind ?_ fun _ => ?_)
theorem mail_Grams.mono : ∀ a0 a1 a2 a3 a4 a5 k, LeO (mail_Grams.f k a0 a1 a2 a3 a4 a5) (mail_Grams.f (k + 1) a0 a1 a2 a3 a4 a5) := by
 intro a0 a1 a2 a3 a4 a5 k
 have ih0 := mail_Grams.mono_l k
 unfold mail_Grams.f
 repeat' (with_reducible first | apply ih0 | apply mail_lines.mono | apply LeO.refl | exact LeO.none _ | apply LeO.ite | refine LeO.bind ?_ fun _ => ?_)
def mail_Grams.T2 : Bool × List (List Nat × List Nat) := (true, [([], []), ([0], [0]), ([], []), ([2], [2]), ([1, 3], [1, 3]), ([4, 1], [4]), ([5], [5]), ([], [])])
def mail_Grams.B2 : List Nat := [0, 1, 0, 4, 15, 31, 63, 0]
theorem mail_Grams.tab2 : rtab .any (opsOf Tryz.f10 2) = mail_Grams.T2 := by kernel_rfl
theorem mail_Grams.bits2 : waitsOk mail_Grams.T2.2 mail_Grams.B2 = true := by kernel_rfl
theorem mail_Grams.calls (k : Nat) (a0_0 : Int) (a0_1 : Int) (a0_2 : Bool) (A0_3 : Option Addr) (c0_3 : Nat) (l0_3 : List ByteArray) (A0_4 : Option Addr) (c0_4 : Nat) (l0_4 : List ByteArray) (P0_5_ : Nat → Prop) (A0_5 : Option Addr) (c0_5 : Nat) (l0_5 : List ByteArray) (r : List Int) (w : World) (hr0_3 : Kd.C Kd.string w A0_3 l0_3.length l0_3) (hc0_3 : l0_3.length ≤ c0_3) (hr0_4 : Kd.C Kd.string w A0_4 l0_4.length l0_4) (hc0_4 : l0_4.length ≤ c0_4) (hs0_5 : Kd.V Kd.string 9 w w.heap.size (fun k_ => P0_5_ k_) (.slice A0_5 l0_5.length c0_5) l0_5) (hT : Tabs w) (h : mail_Grams.f k a0_0 a0_1 a0_2 l0_3 l0_4 l0_5 = some r) :
  Calls Tryz.prog 10 #[.agg #[.int .i64 a0_0, .int .i64 a0_1, .bool a0_2, .slice A0_3 l0_3.length c0_3, .slice A0_4 l0_4.length c0_4, .slice A0_5 l0_5.length c0_5]] w fun e w' => ∃ v0_ : Value, e = .returned (v0_) ∧ Kd.R (Kd.int .u64) 34 w' w.heap.size (fun k_ => (w.heap.size ≤ k_)) v0_ r ∧ Below w.heap.size w w' := by
 have hu26 := Tryz.underlying26
 have HR0_3 := Aside0.mk hr0_3
 have HC0_3 := Aside0.mk hc0_3
 clear hr0_3 hc0_3
 have HR0_4 := Aside0.mk hr0_4
 have HC0_4 := Aside0.mk hc0_4
 clear hr0_4 hc0_4
 have HO0_5 := Aside0.mk (show Kd.V Kd.string 9 w w.heap.size (fun k_ => (P0_5_ k_ ∨ w.heap.size ≤ k_)) (.slice A0_5 l0_5.length c0_5) l0_5 from Kd.V_mono hs0_5 (fun k_ hk => .inl hk))
 have HTAB := Aside0.mk hT
 clear hT
 have HB := Aside0.mk (Below.refl w.heap.size w)
 have H : ((mail_lines.f k a0_0 a0_1 a0_2 l0_3 l0_4 l0_5).bind fun t317 => ((slices_Concat_string_string.f (([t317, l0_5] : List (List ByteArray)))).bind fun t323 => (mail_Grams.l0 k ([] : List (List Int)) t323 (t323.length : Int) 0))) = some r := h
 clear h
 obtain ⟨t317, A2, H⟩ := bindQ H
 replace H : ((slices_Concat_string_string.f (([t317, l0_5] : List (List ByteArray)))).bind fun t323 => (mail_Grams.l0 k ([] : List (List Int)) t323 (t323.length : Int) 0)) = some r := H
 obtain ⟨y320, hy320⟩ : ∃ y_ : List (List ByteArray), y_ = (([t317, l0_5] : List (List ByteArray))) := ⟨_, rfl⟩
 replace H : ((slices_Concat_string_string.f y320).bind fun t323 => (mail_Grams.l0 k ([] : List (List Int)) t323 (t323.length : Int) 0)) = some r := by first | (rw [hy320]; with_reducible exact H) | (have H2_ := (Option.bind_some _ _).symm.trans H; rw [hy320]; with_reducible exact H2_) | (have H2_ := (Option.bind_some _ _).symm.trans H; with_reducible exact H2_) | with_reducible exact H | (rw [hy320]; exact H) | exact H
 have Ny320 := Aside0.mk hy320
 clear hy320
 obtain ⟨t323, A3, H⟩ := bindQ H
 replace H : (mail_Grams.l0 k ([] : List (List Int)) t323 (t323.length : Int) 0) = some r := H
 have H' := Aside0.mk H
 clear H
 go_enter Tryz.func10, Tryz.ntmps10
 try go_wp2_with (first | ((with_reducible refine gate_dst (N := 1) rfl ?_); refine box_event ?hg (N := 1) ?hd (cs := #[.int .i64 a0_0, .int .i64 a0_1, .bool a0_2, .slice A0_3 l0_3.length c0_3, .slice A0_4 l0_4.length c0_4, .slice A0_5 l0_5.length c0_5]) (t := 26) ?hr ?_; (case hd => rfl); (case hg => rfl); (case hr => first | (go_simp; done) | (go_simp; rfl)); intro gb316 hg w4 hbox hb; replace HO0_5 := Aside0.mk (Kd.V_below (Kd.V_elderB (by (with_reducible repeat (first | apply Kd.V_alloc | apply Kd.V_drewN | apply Kd.V_drew)); exact HO0_5.out) gb316 (Nat.le_of_eq hg.symm)) hb); have BK316 := Aside0.mk (hbox); have GW316 := gwQ HB hg; have GE316 := gwQ HB hg; replace HB := LB HB hb; clear hb hbox hg))
 replace HO0_5 := Aside0.mk (Kd.V_drew HO0_5.out)
 replace BK316 := Aside0.mk (blk_drew BK316.out)
 replace HB := Aside0.mk (below_drew1 HB.out)
 refine start_ (n := 8) (S := fun w' => w'.cell? ⟨gb316, 0, none⟩ = some (.int .i64 a0_0) ∧ w'.cell? ⟨gb316, 1, none⟩ = some (.int .i64 a0_1) ∧ w'.cell? ⟨gb316, 2, none⟩ = some (.bool a0_2) ∧ w'.cell? ⟨gb316, 3, none⟩ = some (.slice A0_3 l0_3.length c0_3) ∧ w'.cell? ⟨gb316, 4, none⟩ = some (.slice A0_4 l0_4.length c0_4) ∧ w'.cell? ⟨gb316, 5, none⟩ = some (.slice A0_5 l0_5.length c0_5)) (ds := []) #[false, false, false, false, false, false, false, false] (by kernel_rfl) rfl rfl ⟨(blk_cell BK316.out 0).trans rfl, (blk_cell BK316.out 1).trans rfl, (blk_cell BK316.out 2).trans rfl, (blk_cell BK316.out 3).trans rfl, (blk_cell BK316.out 4).trans rfl, (blk_cell BK316.out 5).trans rfl⟩ (fun hHeld => ?_); refine with_tabW mail_Grams.tab2 mail_Grams.bits2 (fun HT_ HW_ => ?_)
 generalize w4.drew = w5 at HO0_5 BK316 HB hHeld ⊢
 refine pureQ 2 (some 8) HT_ ?_
 refine pureQ 7 (some 13) HT_ ?_
 refine takeQ 0 (some 6) HT_ HW_ hHeld ?_
 refine takeQ 3 (some 9) HT_ HW_ hHeld ?_
 refine oneQ 1 (some 7) HT_ (fun K hK => ?_)
 refine goesQ Tryz.func25 #[.agg #[.int .i64 a0_0, .int .i64 a0_1, .bool a0_2, .slice A0_3 l0_3.length c0_3, .slice A0_4 l0_4.length c0_4, .slice A0_5 l0_5.length c0_5]] ?_
 with_reducible refine (mail_lines.calls k a0_0 a0_1 a0_2 _ _ l0_3 _ _ l0_4 _ _ l0_5 t317 _ ?side1 ?side2 ?side3 ?side4 ?side5 ?side6 A2.out).mono ?_
 (case side1 => exact CB HR0_3 HB)
 (case side2 => exact HC0_3.out)
 (case side3 => exact CB HR0_4 HB)
 (case side4 => exact HC0_4.out)
 (case side5 => repeat (first | exact (Kd.V_reads' HO0_5.out).2.2 | (with_reducible refine Kd.C_alloc ?_ _) | (with_reducible refine Kd.C_drewN ?_ _) | (with_reducible refine Kd.C_drew ?_)))
 (case side6 => exact (Kd.V_reads' HO0_5.out).2.1)
 rintro e w6 ⟨v318, rfl, ho0, hb⟩
 refine ⟨_, rfl, ?_⟩
 replace HO0_5 := Aside0.mk (Kd.V_elder' (by (with_reducible repeat (first | apply Kd.V_alloc | apply Kd.V_drewN | apply Kd.V_drew)); exact HO0_5.out) (Kd.R_base ho0) hb)
 have HO319 := Aside0.mk (Kd.R_lower (Kd.R_newM (M := fun k_ => (w.heap.size ≤ k_)) ho0 (below_size (LX HB)) (fun k_ h_ => h_)) (below_size (LX HB)))
 replace BK316 := BB BK316 hb
 replace HB := LB HB hb
 obtain ⟨Ao7, co7, eo7⟩ := Kd.R_slice HO319.out
 (first | subst eo7 | (injection eo7 with f1_ f2_ f3_; have f4_ := f1_.symm; have f5_ := f3_.symm; clear f1_ f2_ f3_; subst f4_; subst f5_))
 refine hK.out _ _ ⟨(blk_cell BK316.out 0).trans rfl, (blk_cell BK316.out 1).trans rfl, (blk_cell BK316.out 2).trans rfl, (blk_cell BK316.out 3).trans rfl, (blk_cell BK316.out 4).trans rfl, (blk_cell BK316.out 5).trans rfl⟩ (fun hHeld => ?_)
 clear hK K
 refine normQ (some 7) ?_
 refine oneQ 4 (some 10) HT_ (fun K hK => ?_)
 refine Kd.N_lit_step (Kd.slice 9 Kd.string) _ 24 ?hg (N' := 10) ?hd (xs := ([t317, l0_5] : List (List ByteArray))) (inner := [.slice Ao7 t317.length co7, .slice A0_5 l0_5.length c0_5]) (ok := (fun k_ => (P0_5_ k_ ∨ w.heap.size ≤ k_) ∧ k_ ≠ gb316)) (okp := (fun k_ => (P0_5_ k_ ∨ w.heap.size ≤ k_) ∧ k_ ≠ gb316)) ?hr ?hp (fun _ hk => hk) ((show ∀ k_, w6.heap.size ≤ k_ → (fun k_ => (P0_5_ k_ ∨ w.heap.size ≤ k_) ∧ k_ ≠ gb316) k_ from fun k_ hk => ⟨(.inr (Nat.le_trans (below_size (LX HB)) hk)), Kd.freshB (g := gb316) (o := .cells #[.int .i64 a0_0, .int .i64 a0_1, .bool a0_2, .slice A0_3 l0_3.length c0_3, .slice A0_4 l0_4.length c0_4, .slice A0_5 l0_5.length c0_5] 26 (0, 0)) (BX BK316) k_ hk⟩) _ (Nat.le_refl _)) (Below.refl _ _) (Nat.le_refl _) (by simp) ?_; (case hd => rfl); (case hg => rfl); (case hr => first | (go_simp; done) | (go_simp; rfl)); (case hp => exact (Reps.one (show Kd.FK (Kd.slice 9 Kd.string) _ _ t317 [.slice Ao7 t317.length co7] from (Kd.FK_slice_mk (Kd.R_reads' (Kd.R_mono (ok' := (fun k_ => (P0_5_ k_ ∨ w.heap.size ≤ k_) ∧ k_ ≠ gb316)) (Kd.R_types (HO319.out) BK316.out (by decide)) (fun k_ hk => ⟨(.inr (hk.1.1)), hk.2⟩))).2.1 (Kd.R_F (Kd.R_mono (ok' := (fun k_ => (P0_5_ k_ ∨ w.heap.size ≤ k_) ∧ k_ ≠ gb316)) (Kd.R_types (HO319.out) BK316.out (by decide)) (fun k_ hk => ⟨(.inr (hk.1.1)), hk.2⟩))))) (Reps.one (show Kd.FK (Kd.slice 9 Kd.string) _ _ l0_5 [.slice A0_5 l0_5.length c0_5] from (Kd.FK_slice_mk (Kd.V_reads' (Kd.V_mono (ok' := (fun k_ => (P0_5_ k_ ∨ w.heap.size ≤ k_) ∧ k_ ≠ gb316)) (HO0_5.out) (fun k_ hk => ⟨hk.1.1, hk.1.2⟩))).2.1 (Kd.V_F (Kd.V_mono (ok' := (fun k_ => (P0_5_ k_ ∨ w.heap.size ≤ k_) ∧ k_ ≠ gb316)) (HO0_5.out) (fun k_ hk => ⟨hk.1.1, hk.1.2⟩))))) (Reps.none _ _))))
 intro v321 w8 ho9 hb hg_ hnew_
 clear hg_ hnew_
 (first | rw [← Ny320.out] at ho9 | (simp only [Int.reduceToNat] at ho9; rw [← Ny320.out] at ho9))
 replace HO0_5 := Aside0.mk (Kd.V_elder' (by (with_reducible repeat (first | apply Kd.V_alloc | apply Kd.V_drewN | apply Kd.V_drew)); exact HO0_5.out) (Kd.N_base ho9) hb)
 have HO322 := Aside0.mk (Kd.N_lower ho9 (below_size (LX HB)))
 replace BK316 := BB BK316 hb
 replace HB := LB HB hb
 clear HO319
 clear hb ho9
 obtain ⟨Ao10, co10, eo10⟩ := Kd.N_slice HO322.out
 (first | subst eo10 | (injection eo10 with f1_ f2_ f3_; have f4_ := f1_.symm; have f5_ := f3_.symm; clear f1_ f2_ f3_; subst f4_; subst f5_))
 refine hK.out _ _ ⟨(blk_cell BK316.out 0).trans rfl, (blk_cell BK316.out 1).trans rfl, (blk_cell BK316.out 2).trans rfl, (blk_cell BK316.out 3).trans rfl, (blk_cell BK316.out 4).trans rfl, (blk_cell BK316.out 5).trans rfl⟩ (fun hHeld => ?_)
 clear hK K
 refine normQ (some 10) ?_
 refine oneQ 5 (some 11) HT_ (fun K hK => ?_)
 refine goesQ Tryz.func26 #[.slice Ao10 y320.length co10] ?_
 with_reducible refine (slices_Concat_string_string.calls _ _ y320 t323 _ ?side1 ?side2 A3.out).mono ?_
 (case side1 => repeat (first | exact (Kd.N_reads' HO322.out).2.2 | (with_reducible refine Kd.C_alloc ?_ _) | (with_reducible refine Kd.C_drewN ?_ _) | (with_reducible refine Kd.C_drew ?_)))
 (case side2 => exact (Kd.N_reads' HO322.out).2.1)
 rintro e w11 ⟨v324, rfl, ho0, hb⟩
 refine ⟨_, rfl, ?_⟩
 replace HO0_5 := Aside0.mk (Kd.V_elder' (by (with_reducible repeat (first | apply Kd.V_alloc | apply Kd.V_drewN | apply Kd.V_drew)); exact HO0_5.out) (Kd.R_base ho0) hb)
 replace HO322 := Aside0.mk (Kd.N_elder' (by (with_reducible repeat (first | apply Kd.N_alloc | apply Kd.N_drewN | apply Kd.N_drew)); exact HO322.out) (Kd.R_base ho0) hb)
 have HO325 := Aside0.mk (Kd.R_lower (Kd.R_newM (M := fun k_ => (w.heap.size ≤ k_)) ho0 (below_size (LX HB)) (fun k_ h_ => h_)) (below_size (LX HB)))
 replace BK316 := BB BK316 hb
 replace HB := LB HB hb
 obtain ⟨Ao12, co12, eo12⟩ := Kd.R_slice HO325.out
 (first | subst eo12 | (injection eo12 with f1_ f2_ f3_; have f4_ := f1_.symm; have f5_ := f3_.symm; clear f1_ f2_ f3_; subst f4_; subst f5_))
 refine hK.out _ _ ⟨(blk_cell BK316.out 0).trans rfl, (blk_cell BK316.out 1).trans rfl, (blk_cell BK316.out 2).trans rfl, (blk_cell BK316.out 3).trans rfl, (blk_cell BK316.out 4).trans rfl, (blk_cell BK316.out 5).trans rfl⟩ (fun hHeld => ?_)
 clear hK K
 refine normQ (some 11) ?_
 refine pureQ 6 (some 12) HT_ ?_
 refine done_ (done_of HT_.out (by kernel_rfl)) ?_
 try go_wp2
 go_loopg [3, 13] k (fun kq v3 v13 w' => ∃ (x3_1 : List (List Int)) (x13_1 : Int), v13 = .int .i64 x13_1 ∧ Aside0 (mail_Grams.l0 kq x3_1 t323 (t323.length : Int) x13_1 = some r) ∧ Aside0 (kq ≤ k) ∧ Aside0 (Kd.N (Kd.slice 34 (Kd.int .u64)) 30 w' w.heap.size (fun k_ => (P0_5_ k_ ∨ w.heap.size ≤ k_) ∧ some k_ ≠ ((.slice Ao12 t323.length co12) : Value).ownBlock ∧ k_ ≠ gb316) v3 x3_1) ∧ Aside0 (Kd.R Kd.string 9 w' w.heap.size (fun k_ => (w.heap.size ≤ k_)) (.slice Ao12 t323.length co12) t323) ∧ Aside0 (Kd.V Kd.string 9 w' w.heap.size (fun k_ => (P0_5_ k_ ∨ w.heap.size ≤ k_) ∧ some k_ ≠ (v3 : Value).ownBlock ∧ some k_ ≠ ((.slice Ao12 t323.length co12) : Value).ownBlock ∧ k_ ≠ gb316) (.slice A0_5 l0_5.length c0_5) l0_5) ∧ Aside0 (w'.heap[gb316]? = some (.cells #[.int .i64 a0_0, .int .i64 a0_1, .bool a0_2, (.slice A0_3 l0_3.length c0_3), (.slice A0_4 l0_4.length c0_4), (.slice A0_5 l0_5.length c0_5)] 26 (0, 0))) ∧ Aside0 (Below w.heap.size w w'))
 case atStart => exact ⟨(([] : List (List Int))), (0), (by first | rfl | (simp [*]; done)), H', ⟨Nat.le_refl _⟩, ⟨by first | exact Kd.S_nil _ _ _ _ _ | exact Kd.N_nil _ _ _ _ _ | exact Kd.V_nil _ _ _ _ _ | exact Kd.Q_nil _ _ _ _ _ | exact Kd.R_nil _ _ _ _ _⟩, ⟨by (with_reducible repeat (first | apply Kd.R_alloc | apply Kd.R_drewN | apply Kd.R_drew)); exact Kd.R_mono HO325.out (fun _ hk => hk.1)⟩, ⟨by (with_reducible repeat (first | apply Kd.V_alloc | apply Kd.V_drewN | apply Kd.V_drew)); exact Kd.V_mono HO0_5.out (fun _ hk => ⟨hk.1.1.1.1, ⟨(by simp [Value.ownBlock]), ⟨hk.2, hk.1.1.1.2⟩⟩⟩)⟩, ⟨BX BK316⟩, ⟨LX HB⟩⟩
 case round =>
  clear H'
  obtain ⟨x3_1, x13_1, rfl, HA, HK1, HO_3, HO_11, HO_317005, BK316, HB⟩ := hrel
  cases gk with
  | zero => exact absurd HA.out (by simp [mail_Grams.l0])
  | succ k1 =>
   have H := HA.out
   clear HA
   simp only [mail_Grams.l0] at H
   by_cases c13 : x13_1 < (t323.length : Int)
   ·
    rw [if_pos c13] at H
    have c13b0 : decide (x13_1 < (t323.length : Int)) = true := decide_eq_true c13
    clear c13
    by_cases c14 : 0 ≤ x13_1
    ·
     rw [if_pos c14] at H
     have c14b0 : decide (0 ≤ x13_1) = true := decide_eq_true c14
     clear c14
     by_cases c15 : x13_1 < (t323.length : Int)
     ·
      rw [if_pos c15] at H
      have c15b0 : decide (x13_1 < (t323.length : Int)) = true := decide_eq_true c15
      clear c15
      obtain ⟨t327, A16, H⟩ := bindQ H
      replace H : ((fold_Parts.f t327).bind fun t330 => (if x3_1.length < 5864062014805 then (mail_Grams.l0 k1 (x3_1 ++ [t330]) t323 (t323.length : Int) (wrap64 (x13_1 + 1))) else (none))) = some r := H
      obtain ⟨t330, A17, H⟩ := bindQ H
      replace H : (if x3_1.length < 5864062014805 then (mail_Grams.l0 k1 (x3_1 ++ [t330]) t323 (t323.length : Int) (wrap64 (x13_1 + 1))) else (none)) = some r := H
      by_cases c18 : x3_1.length < 5864062014805
      ·
       rw [if_pos c18] at H
       have LMc18 := Aside0.mk c18
       clear c18
       obtain ⟨y333, hy333⟩ : ∃ y_ : List (List Int), y_ = (x3_1 ++ [t330]) := ⟨_, rfl⟩
       replace H : (mail_Grams.l0 k1 y333 t323 (t323.length : Int) (wrap64 (x13_1 + 1))) = some r := by first | (rw [hy333]; with_reducible exact H) | (have H2_ := (Option.bind_some _ _).symm.trans H; rw [hy333]; with_reducible exact H2_) | (have H2_ := (Option.bind_some _ _).symm.trans H; with_reducible exact H2_) | with_reducible exact H | (rw [hy333]; exact H) | exact H
       have Ny333 := Aside0.mk hy333
       clear hy333
       have H' := Aside0.mk H
       clear H
       have p326 : 0 ≤ (x13_1 : Int) := ofD
       have q326 : x13_1 < (t323.length : Int) := ofD
       obtain ⟨ad326, e326, hx326_0⟩ := Kd.at_string (Kd.R_reads' HO_11.out).2.2 x13_1 p326 q326
       cases e326
       replace p326 := eq_true p326
       replace q326 := eq_true q326
       go_wp2_with (first | ((with_reducible refine gate_callee (f := 12) rfl ?_); refine goesLQ (some 19) Tryz.func12 #[.string (rdOf ByteArray.empty t323 x13_1)] ?_; (with_reducible refine (runes_Letters.calls (rdOf ByteArray.empty t323 x13_1) t327 _ ?side1 A16.out).mono ?_); (case side1 => first | exact TX HTAB HB | exact TD HTAB); rintro e w19 ⟨v328, rfl, ho0, hb⟩; refine ⟨_, rfl, ?_⟩; replace HO_3 := Aside0.mk (Kd.N_elder' (by (with_reducible repeat (first | apply Kd.N_alloc | apply Kd.N_drewN | apply Kd.N_drew)); exact HO_3.out) (Kd.R_base ho0) hb); replace HO_11 := RB HO_11 hb; replace HO_317005 := Aside0.mk (Kd.V_elder' (by (with_reducible repeat (first | apply Kd.V_alloc | apply Kd.V_drewN | apply Kd.V_drew)); exact HO_317005.out) (Kd.R_base ho0) hb); have HO329 := Aside0.mk (Kd.R_lower (Kd.R_newM (M := fun k_ => (w.heap.size ≤ k_)) ho0 (below_size (LX HB)) (fun k_ h_ => h_)) (below_size (LX HB))); replace BK316 := BB BK316 hb; replace HB := LB HB hb; obtain ⟨Ao20, co20, eo20⟩ := Kd.R_slice HO329.out; subst eo20) | ((with_reducible refine gate_callee (f := 11) rfl ?_); refine goesLQ (some 20) Tryz.func11 #[.slice Ao20 t327.length co20] ?_; (with_reducible refine (fold_Parts.calls _ _ t327 t330 _ ?side1 ?side2 A17.out).mono ?_); (case side1 => exact CX HO329); (case side2 => exact (cyQ HO329)); rintro e w21 ⟨v331, rfl, ho0, hb⟩; refine ⟨_, rfl, ?_⟩; replace HO_3 := Aside0.mk (Kd.N_elder' (by (with_reducible repeat (first | apply Kd.N_alloc | apply Kd.N_drewN | apply Kd.N_drew)); exact HO_3.out) (Kd.R_base ho0) hb); replace HO_11 := RB HO_11 hb; replace HO_317005 := Aside0.mk (Kd.V_elder' (by (with_reducible repeat (first | apply Kd.V_alloc | apply Kd.V_drewN | apply Kd.V_drew)); exact HO_317005.out) (Kd.R_base ho0) hb); replace HO329 := RB HO329 hb; have HO332 := Aside0.mk (Kd.R_lower (Kd.R_newM (M := fun k_ => (w.heap.size ≤ k_)) ho0 (below_size (LX HB)) (fun k_ h_ => h_)) (below_size (LX HB))); replace BK316 := BB BK316 hb; replace HB := LB HB hb; obtain ⟨Ao23, co23, eo23⟩ := Kd.R_slice HO332.out; subst eo23) | ((with_reducible refine gate_builtin (b := .append) (xs := #[.tmp 17, .tmp 21]) rfl ?_); at_builtin; refine Kd.N_append (Kd.slice 34 (Kd.int .u64)) (w0 := w) w.heap.size rfl (.tmp 17) (.tmp 21) 58 30 (.slice none 0 0) 24 rfl Tryz.underlying58 info30 rfl (by decide) (by omega) u3 x3_1 t330 [.slice Ao23 t330.length co23] (fun k_ => (P0_5_ k_ ∨ w.heap.size ≤ k_) ∧ some k_ ≠ (.slice (some ad326) t323.length co12 : Value).ownBlock ∧ some k_ ≠ (.slice Ao20 t327.length co20 : Value).ownBlock ∧ k_ ≠ gb316) (fun k_ => ((fun k_ => (P0_5_ k_ ∨ w.heap.size ≤ k_) ∧ some k_ ≠ (.slice (some ad326) t323.length co12 : Value).ownBlock ∧ some k_ ≠ (.slice Ao20 t327.length co20 : Value).ownBlock ∧ k_ ≠ gb316)) k_ ∧ some k_ ≠ (u3 : Value).ownBlock) rfl rfl ?aP (fun _ hk => hk) ?aF ?aO ?aB ?aS ?aL ?_; (case aP => exact (Kd.FK_slice_mk (Kd.R_reads' (Kd.R_mono (ok' := (fun k_ => ((fun k_ => (P0_5_ k_ ∨ w.heap.size ≤ k_) ∧ some k_ ≠ (.slice (some ad326) t323.length co12 : Value).ownBlock ∧ some k_ ≠ (.slice Ao20 t327.length co20 : Value).ownBlock ∧ k_ ≠ gb316)) k_ ∧ some k_ ≠ (u3 : Value).ownBlock)) (Kd.R_types (Kd.R_apart' (Kd.R_apart' (Kd.R_apart' (HO332.out) (Kd.R_typed HO_11.out) (by decide)) (Kd.R_typed HO329.out) (by decide)) (Kd.N_typed HO_3.out) (by decide)) BK316.out (by decide)) (fun k_ hk => ⟨⟨(.inr (hk.1.1.1.1.1)), ⟨hk.1.1.1.2, ⟨hk.1.1.2, hk.2⟩⟩⟩, hk.1.2⟩))).2.1 (Kd.R_F (Kd.R_mono (ok' := (fun k_ => ((fun k_ => (P0_5_ k_ ∨ w.heap.size ≤ k_) ∧ some k_ ≠ (.slice (some ad326) t323.length co12 : Value).ownBlock ∧ some k_ ≠ (.slice Ao20 t327.length co20 : Value).ownBlock ∧ k_ ≠ gb316)) k_ ∧ some k_ ≠ (u3 : Value).ownBlock)) (Kd.R_types (Kd.R_apart' (Kd.R_apart' (Kd.R_apart' (HO332.out) (Kd.R_typed HO_11.out) (by decide)) (Kd.R_typed HO329.out) (by decide)) (Kd.N_typed HO_3.out) (by decide)) BK316.out (by decide)) (fun k_ hk => ⟨⟨(.inr (hk.1.1.1.1.1)), ⟨hk.1.1.1.2, ⟨hk.1.1.2, hk.2⟩⟩⟩, hk.1.2⟩))))); (case aB => exact (LX HB)); (case aF => exact (fun k_ hk => ⟨(.inr (Nat.le_trans (below_size (LX HB)) hk)), Kd.fresh' (Kd.R_lt (RX HO_11)) k_ hk, Kd.fresh' (Kd.R_lt (RX HO329)) k_ hk, Kd.freshB (g := gb316) (o := .cells #[.int .i64 a0_0, .int .i64 a0_1, .bool a0_2, .slice A0_3 l0_3.length c0_3, .slice A0_4 l0_4.length c0_4, .slice A0_5 l0_5.length c0_5] 26 (0, 0)) (BX BK316) k_ hk⟩)); (case aO => exact (by (with_reducible repeat (first | apply Kd.N_alloc | apply Kd.N_drewN | apply Kd.N_drew)); exact Kd.N_mono HO_3.out (fun _ hk => ⟨hk.1.1.1, ⟨hk.1.1.2.1, ⟨hk.1.2, hk.1.1.2.2⟩⟩⟩))); (case aS => exact (below_size (LX HB))); (case aL => have := LMc18.out; omega); intro v334 w22 ho hb hg hat; rw [← Ny333.out] at ho; replace HO_11 := Aside0.mk (Kd.R_over' (RX HO_11) (Kd.N_typed (by (with_reducible repeat (first | apply Kd.N_alloc | apply Kd.N_drewN | apply Kd.N_drew)); exact HO_3.out)) (by decide) hg); replace HO_317005 := Aside0.mk (Kd.V_afterv (ok := (fun k_ => (P0_5_ k_ ∨ w.heap.size ≤ k_) ∧ some k_ ≠ (.slice (some ad326) t323.length co12 : Value).ownBlock ∧ some k_ ≠ (.slice Ao20 t327.length co20 : Value).ownBlock ∧ some k_ ≠ (.slice Ao23 t330.length co23 : Value).ownBlock ∧ k_ ≠ gb316)) (by (with_reducible repeat (first | apply Kd.V_alloc | apply Kd.V_drewN | apply Kd.V_drew)); exact Kd.V_mono HO_317005.out (fun _ hk => ⟨⟨hk.1.1.1, ⟨hk.1.1.2.2.1, ⟨hk.1.2, ⟨hk.2, hk.1.1.2.2.2⟩⟩⟩⟩, hk.1.1.2.1⟩)) hg hat); replace BK316 := Aside0.mk (blk_grown (g := gb316) (o := .cells #[.int .i64 a0_0, .int .i64 a0_1, .bool a0_2, .slice A0_3 l0_3.length c0_3, .slice A0_4 l0_4.length c0_4, .slice A0_5 l0_5.length c0_5] 26 (0, 0)) (BX BK316) hg (Kd.N_ne HO_3.out BK316.out (by decide))); replace HO329 := Aside0.mk (Kd.R_over' (RX HO329) (Kd.N_typed (by (with_reducible repeat (first | apply Kd.N_alloc | apply Kd.N_drewN | apply Kd.N_drew)); exact HO_3.out)) (by decide) hg); replace HB := Aside0.mk (hb); have HO335 := Aside0.mk (ho); clear HO_3; clear HO332; clear ho hb hg hat))
       go_roundg k1
       case measure => have := HK1.out; omega
       case rel => exact ⟨(y333), (wrap64 (x13_1 + 1)), (by first | rfl | (simp [*]; done)), H', ⟨by have := HK1.out; omega⟩, ⟨by (with_reducible repeat (first | apply Kd.N_alloc | apply Kd.N_drewN | apply Kd.N_drew)); exact Kd.N_mono HO335.out (fun _ hk => ⟨hk.1, ⟨hk.2.1, hk.2.2.2⟩⟩)⟩, ⟨RX HO_11⟩, ⟨by (with_reducible repeat (first | apply Kd.V_alloc | apply Kd.V_drewN | apply Kd.V_drew)); exact Kd.V_mono HO_317005.out (fun _ hk => ⟨hk.1.1, ⟨hk.2, ⟨hk.1.2.1, hk.1.2.2.2.2⟩⟩⟩)⟩, ⟨BX BK316⟩, ⟨LX HB⟩⟩
      ·
       rw [if_neg c18] at H
       exact absurd H (by simp)
     ·
      rw [if_neg c15] at H
      exact absurd H (by simp)
    ·
     rw [if_neg c14] at H
     exact absurd H (by simp)
   ·
    rw [if_neg c13] at H
    have c13b0 : decide (x13_1 < (t323.length : Int)) = false := decide_eq_false c13
    clear c13
    obtain ⟨t336, A24, H⟩ := bindQ H
    replace H : (some t336) = some r := H
    obtain rfl := Option.some.inj H
    obtain ⟨Ao25, co25, eo25⟩ := Kd.N_slice HO_3.out
    subst eo25
    go_wp2_with (first | ((with_reducible refine gate_callee (f := 27) rfl ?_); refine goesLQ (some 25) Tryz.func27 #[.slice Ao25 x3_1.length co25] ?_; (with_reducible refine (mail_rising_uint64.calls _ _ x3_1 t336 _ ?side1 ?side2 A24.out).mono ?_); (case side1 => repeat (first | exact (Kd.N_reads' HO_3.out).2.2 | (with_reducible refine Kd.C_alloc ?_ _) | (with_reducible refine Kd.C_drewN ?_ _) | (with_reducible refine Kd.C_drew ?_))); (case side2 => exact (Kd.N_reads' HO_3.out).2.1); rintro e w26 ⟨v337, rfl, ho0, hb⟩; refine ⟨_, rfl, ?_⟩; replace HO_3 := Aside0.mk (Kd.N_elder' (by (with_reducible repeat (first | apply Kd.N_alloc | apply Kd.N_drewN | apply Kd.N_drew)); exact HO_3.out) (Kd.R_base ho0) hb); replace HO_11 := RB HO_11 hb; replace HO_317005 := Aside0.mk (Kd.V_elder' (by (with_reducible repeat (first | apply Kd.V_alloc | apply Kd.V_drewN | apply Kd.V_drew)); exact HO_317005.out) (Kd.R_base ho0) hb); have HO338 := Aside0.mk (Kd.R_lower (Kd.R_newM (M := fun k_ => (w.heap.size ≤ k_)) ho0 (below_size (LX HB)) (fun k_ h_ => h_)) (below_size (LX HB))); replace BK316 := BB BK316 hb; replace HB := LB HB hb))
    go_ret
    exact ⟨_, by first | rfl | (simp [errW_none, errW_some] <;> rfl) | (simp [*, errW_none, errW_some] <;> rfl), by (with_reducible repeat (first | apply Kd.R_alloc | apply Kd.R_drewN | apply Kd.R_drew)); exact Kd.R_mono HO338.out (fun _ hk => hk.1), LX HB⟩
def strings_Contains.f (s0 s1 : ByteArray) : Option Bool := if s0.size < 4294967281 then some (Lib.contains s0.data.toList s1.data.toList) else none
theorem strings_Contains.calls (s0 s1 : ByteArray) (r : Bool) (w : World) (hT : Tabs w) (h : strings_Contains.f s0 s1 = some r) :
  Calls Tryz.prog 31 #[.string s0, .string s1] w fun e w' => e = .returned (.bool r) ∧ Drawn0 w w' := by
 unfold strings_Contains.f at h
 split at h
 ·
  rename_i hc
  cases h
  obtain ⟨m, hm⟩ := hT.2.1
  exact (Go.Proofs.Tryz.strings_Contains s0 s1 m w hc hm).mono fun e w' ⟨he, hw⟩ => ⟨he, by subst hw; exact Drawn0.refl _⟩
 · cases h
def mail_InField.l0 : Nat → ByteArray → ByteArray → List ByteArray → Int → Int → Int → Int → Bool → List ByteArray → List ByteArray → List ByteArray → Option (Bool)
 | 0, _, _, _, _, _, _, _, _, _, _, _ => none
 | k + 1, x2, x7, x13, x14, x15, x340000, x340001, x340002, x340003, x340004, x340005 => if x15 < x14 then (if 0 ≤ x15 then (if x15 < (x13.length : Int) then (if (rdOf ByteArray.empty x13 x15).toList = x7.toList then ((mail_value.f x340000 x340001 x340002 x340003 x340004 x340005 x15).bind fun t342 => ((strings_Contains.f t342 x2).bind fun t343 => (if t343 = true then (some true) else (mail_InField.l0 k x2 x7 x13 x14 (wrap64 (x15 + 1)) x340000 x340001 x340002 x340003 x340004 x340005)))) else (mail_InField.l0 k x2 x7 x13 x14 (wrap64 (x15 + 1)) x340000 x340001 x340002 x340003 x340004 x340005)) else (none)) else (none)) else (some false)
def mail_InField.f (k : Nat) (a0_0 : Int) (a0_1 : Int) (a0_2 : Bool) (l0_3 : List ByteArray) (l0_4 : List ByteArray) (l0_5 : List ByteArray) (a1 : ByteArray) (a2 : ByteArray) : Option (Bool) := (mail_name.f k a1).bind fun t340 => (mail_InField.l0 k a2 t340 l0_3 (l0_3.length : Int) 0 a0_0 a0_1 a0_2 l0_3 l0_4 l0_5)
theorem mail_InField.mono_l : ∀ k, (∀ y0 y1 y2 y3 y4 y5 y6 y7 y8 y9 y10, LeO (mail_InField.l0 k y0 y1 y2 y3 y4 y5 y6 y7 y8 y9 y10) (mail_InField.l0 (k + 1) y0 y1 y2 y3 y4 y5 y6 y7 y8 y9 y10))
 | 0 => fun _ _ _ _ _ _ _ _ _ _ _ r h => by simp [mail_InField.l0] at h
 | k + 1 => by
  have ih0 := mail_InField.mono_l k
  ·
   intro y0 y1 y2 y3 y4 y5 y6 y7 y8 y9 y10
   unfold mail_InField.l0
   repeat' (with_reducible first | apply ih0 | apply mail_name.mono | apply LeO.refl | exact LeO.none _ | apply LeO.ite | refine LeO.bind ?_ fun _ => ?_)
theorem mail_InField.mono : ∀ a0 a1 a2 a3 a4 a5 a6 a7 k, LeO (mail_InField.f k a0 a1 a2 a3 a4 a5 a6 a7) (mail_InField.f (k + 1) a0 a1 a2 a3 a4 a5 a6 a7) := by
 intro a0 a1 a2 a3 a4 a5 a6 a7 k
 have ih0 := mail_InField.mono_l k
 unfold mail_InField.f
 repeat' (with_reducible first | apply ih0 | apply mail_name.mono | apply LeO.refl | exact LeO.none _ | apply LeO.ite | refine LeO.bind ?_ fun _ => ?_)
theorem mail_InField.calls (k : Nat) (a0_0 : Int) (a0_1 : Int) (a0_2 : Bool) (A0_3 : Option Addr) (c0_3 : Nat) (l0_3 : List ByteArray) (A0_4 : Option Addr) (c0_4 : Nat) (l0_4 : List ByteArray) (A0_5 : Option Addr) (c0_5 : Nat) (l0_5 : List ByteArray) (a1 : ByteArray) (a2 : ByteArray) (r : Bool) (w : World) (hr0_3 : Kd.C Kd.string w A0_3 l0_3.length l0_3) (hc0_3 : l0_3.length ≤ c0_3) (hr0_4 : Kd.C Kd.string w A0_4 l0_4.length l0_4) (hc0_4 : l0_4.length ≤ c0_4) (hr0_5 : Kd.C Kd.string w A0_5 l0_5.length l0_5) (hc0_5 : l0_5.length ≤ c0_5) (hT : Tabs w) (h : mail_InField.f k a0_0 a0_1 a0_2 l0_3 l0_4 l0_5 a1 a2 = some r) :
  Calls Tryz.prog 13 #[.agg #[.int .i64 a0_0, .int .i64 a0_1, .bool a0_2, .slice A0_3 l0_3.length c0_3, .slice A0_4 l0_4.length c0_4, .slice A0_5 l0_5.length c0_5], .string a1, .string a2] w fun e w' => e = .returned (.bool r) ∧ Below w.heap.size w w' := by
 have hu26 := Tryz.underlying26
 have HR0_3 := Aside0.mk hr0_3
 have HC0_3 := Aside0.mk hc0_3
 clear hr0_3 hc0_3
 have HR0_4 := Aside0.mk hr0_4
 have HC0_4 := Aside0.mk hc0_4
 clear hr0_4 hc0_4
 have HR0_5 := Aside0.mk hr0_5
 have HC0_5 := Aside0.mk hc0_5
 clear hr0_5 hc0_5
 have HTAB := Aside0.mk hT
 clear hT
 have HB := Aside0.mk (Below.refl w.heap.size w)
 have H : ((mail_name.f k a1).bind fun t340 => (mail_InField.l0 k a2 t340 l0_3 (l0_3.length : Int) 0 a0_0 a0_1 a0_2 l0_3 l0_4 l0_5)) = some r := h
 clear h
 obtain ⟨t340, A4, H⟩ := bindQ H
 replace H : (mail_InField.l0 k a2 t340 l0_3 (l0_3.length : Int) 0 a0_0 a0_1 a0_2 l0_3 l0_4 l0_5) = some r := H
 have H' := Aside0.mk H
 clear H
 go_enter Tryz.func13, Tryz.ntmps13
 go_wp2_with (first | ((with_reducible refine gate_dst (N := 3) rfl ?_); refine box_event ?hg (N := 3) ?hd (cs := #[.int .i64 a0_0, .int .i64 a0_1, .bool a0_2, .slice A0_3 l0_3.length c0_3, .slice A0_4 l0_4.length c0_4, .slice A0_5 l0_5.length c0_5]) (t := 26) ?hr ?_; (case hd => rfl); (case hg => rfl); (case hr => first | (go_simp; done) | (go_simp; rfl)); intro gb339 hg w5 hbox hb; have BK339 := Aside0.mk (hbox); have GW339 := gwQ HB hg; have GE339 := gwQ HB hg; replace HB := LB HB hb; clear hb hbox hg) | ((with_reducible refine gate_callee (f := 17) rfl ?_); refine goesLQ (some 11) Tryz.func17 #[.string a1] ?_; (with_reducible refine (mail_name.calls k a1 t340 _ ?side1 A4.out).mono ?_); (case side1 => first | exact TX HTAB HB | exact TD HTAB); rintro e w6 ⟨rfl, hb⟩; refine ⟨_, rfl, ?_⟩; replace BK339 := BB BK339 hb; replace HB := LB HB hb; obtain ⟨hcz7_0, hcz7_1, hcz7_2, hcz7_3, hcz7_4, hcz7_5, hfz7_0, hfz7_1, hfz7_2, hfz7_3, hfz7_4, hfz7_5⟩ := cf6 BK339))
 go_loopg [15] k (fun kq v15 w' => ∃ (x15_1 : Int), v15 = .int .i64 x15_1 ∧ Aside0 (mail_InField.l0 kq a2 t340 l0_3 (l0_3.length : Int) x15_1 a0_0 a0_1 a0_2 l0_3 l0_4 l0_5 = some r) ∧ Aside0 (kq ≤ k) ∧ Aside0 (w'.heap[gb339]? = some (.cells #[.int .i64 a0_0, .int .i64 a0_1, .bool a0_2, (.slice A0_3 l0_3.length c0_3), (.slice A0_4 l0_4.length c0_4), (.slice A0_5 l0_5.length c0_5)] 26 (0, 0))) ∧ Aside0 (Below w.heap.size w w'))
 case atStart => exact ⟨(0), (by first | rfl | (simp [*]; done)), H', ⟨Nat.le_refl _⟩, ⟨BX BK339⟩, ⟨LX HB⟩⟩
 case round =>
  clear H'
  obtain ⟨x15_1, rfl, HA, HK1, BK339, HB⟩ := hrel
  cases gk with
  | zero => exact absurd HA.out (by simp [mail_InField.l0])
  | succ k1 =>
   have H := HA.out
   clear HA
   simp only [mail_InField.l0] at H
   by_cases c8 : x15_1 < (l0_3.length : Int)
   ·
    rw [if_pos c8] at H
    have c8b0 : decide (x15_1 < (l0_3.length : Int)) = true := decide_eq_true c8
    clear c8
    by_cases c9 : 0 ≤ x15_1
    ·
     rw [if_pos c9] at H
     have c9b0 : decide (0 ≤ x15_1) = true := decide_eq_true c9
     clear c9
     by_cases c10 : x15_1 < (l0_3.length : Int)
     ·
      rw [if_pos c10] at H
      have c10b0 : decide (x15_1 < (l0_3.length : Int)) = true := decide_eq_true c10
      clear c10
      by_cases c11 : (rdOf ByteArray.empty l0_3 x15_1).toList = t340.toList
      ·
       rw [if_pos c11] at H
       have c11b0 : ((rdOf ByteArray.empty l0_3 x15_1).toList == t340.toList) = true := beq_iff_eq.mpr c11
       have c11b1 : ((rdOf ByteArray.empty l0_3 x15_1).toList != t340.toList) = false := bne_eq_false_iff_eq.mpr c11
       clear c11
       obtain ⟨t342, A12, H⟩ := bindQ H
       replace H : ((strings_Contains.f t342 a2).bind fun t343 => (if t343 = true then (some true) else (mail_InField.l0 k1 a2 t340 l0_3 (l0_3.length : Int) (wrap64 (x15_1 + 1)) a0_0 a0_1 a0_2 l0_3 l0_4 l0_5))) = some r := H
       obtain ⟨t343, A13, H⟩ := bindQ H
       replace H : (if t343 = true then (some true) else (mail_InField.l0 k1 a2 t340 l0_3 (l0_3.length : Int) (wrap64 (x15_1 + 1)) a0_0 a0_1 a0_2 l0_3 l0_4 l0_5)) = some r := H
       by_cases c14 : t343 = true
       ·
        subst c14
        have H1 : (some true) = some r := by rw [if_pos rfl] at H; exact H
        clear H
        have H := H1
        clear H1
        obtain rfl := Option.some.inj H
        have p341 : 0 ≤ (x15_1 : Int) := ofD
        have q341 : x15_1 < (l0_3.length : Int) := ofD
        obtain ⟨ad341, e341, hx341_0⟩ := Kd.at_string HR0_3.out x15_1 p341 q341
        cases e341
        replace hx341_0 := (HB.out.cell (World.block_lt_of_cell? w _ hx341_0)).trans hx341_0
        replace p341 := eq_true p341
        replace q341 := eq_true q341
        obtain ⟨hcz15_0, hcz15_1, hcz15_2, hcz15_3, hcz15_4, hcz15_5, hfz15_0, hfz15_1, hfz15_2, hfz15_3, hfz15_4, hfz15_5⟩ := cf6 BK339
        go_wp2_with (first | (go_at_call 32; (with_reducible refine (mail_value.calls a0_0 a0_1 a0_2 _ _ l0_3 _ _ l0_4 _ _ l0_5 x15_1 t342 _ ?side1 ?side2 ?side3 ?side4 ?side5 ?side6 A12.out).mono ?_); (case side1 => exact CB HR0_3 HB); (case side2 => exact HC0_3.out); (case side3 => exact CB HR0_4 HB); (case side4 => exact HC0_4.out); (case side5 => exact CB HR0_5 HB); (case side6 => exact HC0_5.out); rintro e w16 ⟨rfl, hb⟩; replace BK339 := BB BK339 hb; replace HB := LB HB hb) | (go_at_call 31; (with_reducible refine (strings_Contains.calls t342 a2 true _ ?side1 A13.out).mono ?_); (case side1 => first | exact TX HTAB HB | exact TD HTAB); rintro e w' ⟨rfl, ⟨nd, rfl⟩⟩))
        go_ret
        exact retQ HB
       ·
        replace c14 := Bool.eq_false_iff.mpr c14
        subst c14
        have H1 : (mail_InField.l0 k1 a2 t340 l0_3 (l0_3.length : Int) (wrap64 (x15_1 + 1)) a0_0 a0_1 a0_2 l0_3 l0_4 l0_5) = some r := by rw [if_neg (show ¬ (false = true) by decide)] at H; exact H
        clear H
        have H := H1
        clear H1
        have H' := Aside0.mk H
        clear H
        have p341 : 0 ≤ (x15_1 : Int) := ofD
        have q341 : x15_1 < (l0_3.length : Int) := ofD
        obtain ⟨ad341, e341, hx341_0⟩ := Kd.at_string HR0_3.out x15_1 p341 q341
        cases e341
        replace hx341_0 := (HB.out.cell (World.block_lt_of_cell? w _ hx341_0)).trans hx341_0
        replace p341 := eq_true p341
        replace q341 := eq_true q341
        obtain ⟨hcz17_0, hcz17_1, hcz17_2, hcz17_3, hcz17_4, hcz17_5, hfz17_0, hfz17_1, hfz17_2, hfz17_3, hfz17_4, hfz17_5⟩ := cf6 BK339
        go_wp2_with (first | (go_at_call 32; (with_reducible refine (mail_value.calls a0_0 a0_1 a0_2 _ _ l0_3 _ _ l0_4 _ _ l0_5 x15_1 t342 _ ?side1 ?side2 ?side3 ?side4 ?side5 ?side6 A12.out).mono ?_); (case side1 => exact CB HR0_3 HB); (case side2 => exact HC0_3.out); (case side3 => exact CB HR0_4 HB); (case side4 => exact HC0_4.out); (case side5 => exact CB HR0_5 HB); (case side6 => exact HC0_5.out); rintro e w18 ⟨rfl, hb⟩; replace BK339 := BB BK339 hb; replace HB := LB HB hb) | (go_at_call 31; (with_reducible refine (strings_Contains.calls t342 a2 false _ ?side1 A13.out).mono ?_); (case side1 => first | exact TX HTAB HB | exact TD HTAB); rintro e w' ⟨rfl, ⟨nd, rfl⟩⟩))
        go_roundg k1
        case measure => have := HK1.out; omega
        case rel => exact ⟨(wrap64 (x15_1 + 1)), (by first | rfl | (simp [*]; done)), H', ⟨by have := HK1.out; omega⟩, ⟨BX BK339⟩, ⟨LX HB⟩⟩
      ·
       rw [if_neg c11] at H
       have c11b0 : ((rdOf ByteArray.empty l0_3 x15_1).toList == t340.toList) = false := beq_eq_false_iff_ne.mpr c11
       have c11b1 : ((rdOf ByteArray.empty l0_3 x15_1).toList != t340.toList) = true := bne_iff_ne.mpr c11
       have H' := Aside0.mk H
       clear H
       have p341 : 0 ≤ (x15_1 : Int) := ofD
       have q341 : x15_1 < (l0_3.length : Int) := ofD
       obtain ⟨ad341, e341, hx341_0⟩ := Kd.at_string HR0_3.out x15_1 p341 q341
       cases e341
       replace hx341_0 := (HB.out.cell (World.block_lt_of_cell? w _ hx341_0)).trans hx341_0
       replace p341 := eq_true p341
       replace q341 := eq_true q341
       go_wp2
       go_roundg k1
       case measure => have := HK1.out; omega
       case rel => exact ⟨(wrap64 (x15_1 + 1)), (by first | rfl | (simp [*]; done)), H', ⟨by have := HK1.out; omega⟩, ⟨BX BK339⟩, ⟨LX HB⟩⟩
     ·
      rw [if_neg c10] at H
      exact absurd H (by simp)
    ·
     rw [if_neg c9] at H
     exact absurd H (by simp)
   ·
    rw [if_neg c8] at H
    have c8b0 : decide (x15_1 < (l0_3.length : Int)) = false := decide_eq_false c8
    clear c8
    obtain rfl := Option.some.inj H
    go_wp2
    go_ret
    exact retQ HB
def missivelaw12_lives.j0 : Nat → Bool → Int → Int → Bool → List ByteArray → List ByteArray → List ByteArray → Option (Bool)
 | 0, _, _, _, _, _, _, _ => none
 | k + 1, x18, x357000, x357001, x357002, x357003, x357004, x357005 => if x18 = true then (some false) else (if x357000 = 62 then (if x357001 = 9531 then (if x357002 = true then (if 0 < (x357003.length : Int) then (if (rdOf ByteArray.empty x357003 0).toList = ([115, 117, 98, 106, 101, 99, 116] : List UInt8) then (if 0 < (x357004.length : Int) then (if (rdOf ByteArray.empty x357004 0).toList = ([195, 169, 116, 195, 169] : List UInt8) then (if 0 < (x357005.length : Int) then (if (rdOf ByteArray.empty x357005 0).toList = ([104, 101, 108, 108, 111, 32, 119, 111, 114, 108, 100] : List UInt8) then ((mail_What.f k (([65, 201] : List Int))).bind fun t363 => (if t363.toList = ([97, 195, 169] : List UInt8) then ((mail_InField.f k x357000 x357001 x357002 x357003 x357004 x357005 (⟨#[83, 85, 66, 74, 69, 67, 84]⟩ : ByteArray) (⟨#[116, 195]⟩ : ByteArray)).bind fun t364 => (if t364 = true then ((mail_InField.f k x357000 x357001 x357002 x357003 x357004 x357005 (⟨#[100, 97, 116, 101]⟩ : ByteArray) (⟨#[102, 101, 98, 32, 57, 55]⟩ : ByteArray)).bind fun t365 => (if t365 = true then (some false) else ((mail_InBody.f x357000 x357001 x357002 x357003 x357004 x357005 (⟨#[111, 32, 119]⟩ : ByteArray)).bind fun t366 => (if t366 = true then ((mail_InText.f k x357000 x357001 x357002 x357003 x357004 x357005 (⟨#[100, 97, 116, 101, 58, 32, 53]⟩ : ByteArray)).bind fun t367 => (if t367 = true then ((mail_InText.f k x357000 x357001 x357002 x357003 x357004 x357005 (⟨#[57, 54, 104, 101, 108, 108, 111]⟩ : ByteArray)).bind fun t368 => (if t368 = true then (some false) else ((mail_Grams.f k x357000 x357001 x357002 x357003 x357004 x357005).bind fun t369 => (some ((t369.length : Int) == 31))))) else (some false))) else (some false))))) else (some false))) else (some false))) else (some false)) else (none)) else (some false)) else (none)) else (some false)) else (none)) else (some false)) else (some false)) else (some false))
def missivelaw12_lives.f (k : Nat)  : Option (Bool) := (mail_Read.f k (⟨#[83, 117, 98, 106, 101, 99, 116, 58, 32, 61, 63, 117, 116, 102, 45, 56, 63, 113, 63, 61, 67, 51, 61, 56, 57, 116, 61, 67, 51, 61, 65, 57, 63, 61, 10, 68, 97, 116, 101, 58, 32, 53, 32, 70, 101, 98, 32, 57, 54, 10, 10, 72, 69, 76, 76, 79, 32, 87, 111, 114, 108, 100]⟩ : ByteArray)).bind fun bt344 => (if (bt344.2.2.2.1.length : Int) = 2 then (if (bt344.2.2.2.2.1.length : Int) = 2 then (missivelaw12_lives.j0 k ((bt344.2.2.2.2.2.length : Int) != 1) bt344.1 bt344.2.1 bt344.2.2.1 bt344.2.2.2.1 bt344.2.2.2.2.1 bt344.2.2.2.2.2) else (missivelaw12_lives.j0 k true bt344.1 bt344.2.1 bt344.2.2.1 bt344.2.2.2.1 bt344.2.2.2.2.1 bt344.2.2.2.2.2)) else (missivelaw12_lives.j0 k true bt344.1 bt344.2.1 bt344.2.2.1 bt344.2.2.2.1 bt344.2.2.2.2.1 bt344.2.2.2.2.2))
theorem missivelaw12_lives.mono_l : ∀ k, (∀ y0 y1 y2 y3 y4 y5 y6, LeO (missivelaw12_lives.j0 k y0 y1 y2 y3 y4 y5 y6) (missivelaw12_lives.j0 (k + 1) y0 y1 y2 y3 y4 y5 y6))
 | 0 => fun _ _ _ _ _ _ _ r h => by simp [missivelaw12_lives.j0] at h
 | k + 1 => by
  have ih0 := missivelaw12_lives.mono_l k
  ·
   intro y0 y1 y2 y3 y4 y5 y6
   unfold missivelaw12_lives.j0
   repeat' (with_reducible first | apply ih0 | apply mail_Grams.mono | apply mail_InField.mono | apply mail_InText.mono | apply mail_Read.mono | apply mail_What.mono | apply LeO.refl | exact LeO.none _ | apply LeO.ite | refine LeO.bind ?_ fun _ => ?_)
theorem missivelaw12_lives.mono : ∀ k, LeO (missivelaw12_lives.f k ) (missivelaw12_lives.f (k + 1) ) := by
 intro  k
 have ih0 := missivelaw12_lives.mono_l k
 unfold missivelaw12_lives.f
 repeat' (with_reducible first | apply ih0 | apply mail_Grams.mono | apply mail_InField.mono | apply mail_InText.mono | apply mail_Read.mono | apply mail_What.mono | apply LeO.refl | exact LeO.none _ | apply LeO.ite | refine LeO.bind ?_ fun _ => ?_)
mutual
def missivelaw12_MailWider.j0 : Nat → List Int → Int → ByteArray → Bool → Int → Int → Bool → List ByteArray → List ByteArray → List ByteArray → Option (Bool)
 | 0, _, _, _, _, _, _, _, _, _, _ => none
 | k + 1, x2, x3, x10, x32, x386000, x386001, x386002, x386003, x386004, x386005 => if x32 = true then (some false) else (if x3 < 0 then (missivelaw12_MailWider.j1 k x2 x3 x10 true x386000 x386001 x386002 x386003 x386004 x386005) else (missivelaw12_MailWider.j1 k x2 x3 x10 (decide (x3 > (x2.length : Int))) x386000 x386001 x386002 x386003 x386004 x386005))
def missivelaw12_MailWider.j1 : Nat → List Int → Int → ByteArray → Bool → Int → Int → Bool → List ByteArray → List ByteArray → List ByteArray → Option (Bool)
 | 0, _, _, _, _, _, _, _, _, _, _ => none
 | k + 1, x2, x3, x10, x40, x386000, x386001, x386002, x386003, x386004, x386005 => if x40 = true then (some true) else (if 0 ≤ x3 then (if x3 ≤ (x2.length : Int) then ((mail_What.f k (x2.take (x3 : Int).toNat)).bind fun t392 => ((mail_InText.f k x386000 x386001 x386002 x386003 x386004 x386005 x10).bind fun t393 => (if t393 = true then ((mail_InText.f k x386000 x386001 x386002 x386003 x386004 x386005 t392).bind fun t394 => (if t394 = true then ((mail_InBody.f x386000 x386001 x386002 x386003 x386004 x386005 x10).bind fun t395 => (if t395 = true then ((mail_InBody.f x386000 x386001 x386002 x386003 x386004 x386005 t392).bind fun t396 => (some t396)) else (some true))) else (some false))) else ((mail_InBody.f x386000 x386001 x386002 x386003 x386004 x386005 x10).bind fun t397 => (if t397 = true then ((mail_InBody.f x386000 x386001 x386002 x386003 x386004 x386005 t392).bind fun t398 => (some t398)) else (some true)))))) else (none)) else (none))
end
def missivelaw12_MailWider.f (k : Nat) (a0 : ByteArray) (a1 : ByteArray) (l2 : List Int) (a3 : Int) : Option (Bool) := (missivelaw12_lives.f k).bind fun t372 => (if t372 = true then ((mail_Read.f k a0).bind fun bt373 => ((mail_What.f k l2).bind fun t386 => ((mail_InField.f k bt373.1 bt373.2.1 bt373.2.2.1 bt373.2.2.2.1 bt373.2.2.2.2.1 bt373.2.2.2.2.2 a1 t386).bind fun t387 => (if t387 = true then ((mail_InText.f k bt373.1 bt373.2.1 bt373.2.2.1 bt373.2.2.2.1 bt373.2.2.2.2.1 bt373.2.2.2.2.2 t386).bind fun t388 => (missivelaw12_MailWider.j0 k l2 a3 t386 (!t388) bt373.1 bt373.2.1 bt373.2.2.1 bt373.2.2.2.1 bt373.2.2.2.2.1 bt373.2.2.2.2.2)) else ((mail_InBody.f bt373.1 bt373.2.1 bt373.2.2.1 bt373.2.2.2.1 bt373.2.2.2.2.1 bt373.2.2.2.2.2 t386).bind fun t389 => (if t389 = true then ((mail_InText.f k bt373.1 bt373.2.1 bt373.2.2.1 bt373.2.2.2.1 bt373.2.2.2.2.1 bt373.2.2.2.2.2 t386).bind fun t390 => (missivelaw12_MailWider.j0 k l2 a3 t386 (!t390) bt373.1 bt373.2.1 bt373.2.2.1 bt373.2.2.2.1 bt373.2.2.2.2.1 bt373.2.2.2.2.2)) else (missivelaw12_MailWider.j0 k l2 a3 t386 false bt373.1 bt373.2.1 bt373.2.2.1 bt373.2.2.2.1 bt373.2.2.2.2.1 bt373.2.2.2.2.2))))))) else (some false))
def missivelaw12_MailParts.l0 : Nat → Int → List Int → List Int → Int → Int → Option (Bool)
 | 0, _, _, _, _, _ => none
 | k + 1, x8, x9, x27, x28, x29 => if x29 < x28 then (if 0 ≤ x29 then (if x29 < (x27.length : Int) then (if x8 < (x9.length : Int) then (if 0 ≤ x8 then (if (rd x9 x8) = (rd x27 x29) then (missivelaw12_MailParts.l0 k (wrap64 (x8 + 1)) x9 x27 x28 (wrap64 (x29 + 1))) else (missivelaw12_MailParts.l0 k x8 x9 x27 x28 (wrap64 (x29 + 1)))) else (none)) else (missivelaw12_MailParts.l0 k x8 x9 x27 x28 (wrap64 (x29 + 1)))) else (none)) else (none)) else (some (x8 == (x9.length : Int)))
def missivelaw12_MailParts.f (k : Nat) (a0 : ByteArray) (l1 : List Int) : Option (Bool) := (missivelaw12_lives.f k).bind fun t399 => (if t399 = true then ((mail_Read.f k a0).bind fun bt400 => ((mail_What.f k l1).bind fun t413 => ((mail_InText.f k bt400.1 bt400.2.1 bt400.2.2.1 bt400.2.2.2.1 bt400.2.2.2.2.1 bt400.2.2.2.2.2 t413).bind fun t414 => (if t414 = true then ((mail_Grams.f k bt400.1 bt400.2.1 bt400.2.2.1 bt400.2.2.2.1 bt400.2.2.2.2.1 bt400.2.2.2.2.2).bind fun t415 => ((runes_Letters.f t413).bind fun t418 => ((fold_Parts.f t418).bind fun t421 => (missivelaw12_MailParts.l0 k 0 t421 t415 (t415.length : Int) 0)))) else (some true))))) else (some false))
end Go.Proofs.YtigcbajcifhinaaGreatDoor.V
