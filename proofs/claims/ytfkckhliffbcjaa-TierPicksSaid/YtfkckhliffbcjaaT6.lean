/- A merge step of sizes: the code's walk. -/
import Derived.Test.YtfkckhliffbcjaaShelfB
import Derived.Test.YtfkckhliffbcjaaT5
import Derived.Test.YtfkckhliffbcjaaOrd
import Derived.Test.YtfkckhliffbcjaaReg
import Derived.RangeFuncBox
import Derived.RangeFuncCalls
import Derived.RangeFuncLeaves
import Derived.RangeFuncFrom
import Derived.RangeFuncWrites
import Derived.Shelf.Abstract
import Derived.OwnWalkIn
import Derived.TacticsInMore
import Derived.LoopNIn
import Derived.LoopIn
namespace Go.Proofs.Ytfkckhliffbcjaa.Tier
open Go.RowKit Go.Shelf Go.Proofs.YtfkckhliffbcjaaW.PrintWords
attribute [local go_sem] Oper.semAt_some

/-- What a walk from behind tells in round k. -/
def backF (zs : List Int) (k : Nat) : Int × Int := ((zs.length : Int) - 1 - k, rd zs ((zs.length : Int) - 1 - k))

set_option maxRecDepth 100000 in
set_option maxHeartbeats 1000000 in
theorem backward_in (F : Fence) (n : Nat) (h31 : F.fn 31) (hro : F.round = none) (a : Option Addr) (len cap : Nat) (w : World) :
    CallsIn F n Try.prog 31 #[.slice a len cap] w fun e w' => e = .returned (.func (.func 38) #[] #[.pointer (some ⟨w.heap.size, 0, none⟩)]) ∧ w' = w.alloc (.cells #[.slice a len cap] 22) := by
  refine callsIn_of_wp Try.func31 rfl h31 ?_ hro
  simp only [Try.ntmps31, List.size_toArray, List.length_cons, List.length_nil, Nat.reduceAdd, Nat.reduceSub, Array.replicate_succ, Array.replicate_zero, List.push_toArray, List.append_toArray, List.nil_append, List.cons_append]
  gi_wp2
  go_ret
  exact ⟨rfl, rfl⟩

set_option maxRecDepth 100000 in
set_option maxHeartbeats 2000000 in
theorem backward_seq (F : Fence) (n : Nat) (h38 : F.fn 38) (hro : F.round = none) (hn : 1 ≤ n) (Bs b off cap : Nat) (zs : List Int) (hm : zs.length ≤ 9223372036854775807) (w : World) (hb : b < w.heap.size) (hBs : Bs < w.heap.size)
    (hc : w.cell? ⟨Bs, 0, none⟩ = some (.slice (some ⟨b, off, none⟩) zs.length cap)) (hz : ∀ j, j < zs.length → w.cell? ⟨b, off + j, none⟩ = some (.int .i64 (rd zs j))) :
    SeqOrd F n Try.prog 38 #[.pointer (some ⟨Bs, 0, none⟩)] (fun x : Int × Int => #[.int .i64 x.1, .int .i64 x.2]) (fun A B => B.heap[b]? = A.heap[b]? ∧ B.heap[Bs]? = A.heap[Bs]?) (backF zs) zs.length w := by
  intro l J Jx W hW _ _ hY h0
  have hcell : ∀ (A B : World) (g o : Nat), B.heap[g]? = A.heap[g]? → B.cell? ⟨g, o, none⟩ = A.cell? ⟨g, o, none⟩ := fun A B g o h => by simp only [World.cell?, h]
  replace hc := (hW.cell (p := ⟨Bs, 0, none⟩) hBs).trans hc
  have HZ := Lib.hid fun j hj => (hW.cell (p := ⟨b, off + j, none⟩) hb).trans (hz j hj)
  clear hz
  refine callsIn_of_wp Try.func38 rfl h38 ?_ hro
  simp only [Try.ntmps38, List.size_toArray, List.length_cons, List.length_nil, Nat.reduceAdd, Nat.reduceSub, Array.replicate_succ, Array.replicate_zero, List.push_toArray, List.append_toArray, List.nil_append, List.cons_append]
  gi_wp2
  gi_loopw [3] (fun i wr => ∃ (v : Int) (k : Nat), v + k + 1 = zs.length ∧ -1 ≤ v ∧ i = .int .i64 v ∧ J k wr ∧ Hid (wr.heap[b]? = W.heap[b]? ∧ wr.heap[Bs]? = W.heap[Bs]?))
    (fun i _ => (intOf i + 1).toNat)
  case atStart => exact ⟨(zs.length : Int) - 1, 0, by omega, by omega, rfl, h0, Lib.hid ⟨rfl, rfl⟩⟩
  case round =>
    obtain ⟨v, k, hk, hv, rfl, hJs, hnx⟩ := hrel
    by_cases hlt : 0 ≤ v
    · have hv2 : v < zs.length := by omega
      have hcx := (hcell W wr b (off + v.toNat) hnx.out.1).trans (HZ.out v.toNat (by omega))
      rw [show ((v.toNat : Nat) : Int) = v from by omega] at hcx
      have hbx := (hcell W wr Bs 0 hnx.out.2).trans hc
      have hy0 := hY k wr (by omega) hJs
      have hfk : backF zs k = (v, rd zs v) := by unfold backF; rw [show (zs.length : Int) - 1 - k = v from by omega]
      rw [hfk] at hy0
      obtain ⟨fn, tmps, assign, body, hy, hR⟩ := hy0
      dsimp only at hy
      have HK := Lib.hid hk
      clear hk hfk
      gi_wp2
      refine hR.mono ?_
      rintro e W3 (⟨rfl, hJ3, hk3⟩ | ⟨rfl, hJx3⟩)
      · gi_wp2
        go_roundw
        case rel =>
          have hk := HK.out
          exact ⟨v - 1, k + 1, by omega, by omega, by first | rfl | go_num, hJ3, Lib.hid ⟨hk3.1.trans hnx.out.1, hk3.2.trans hnx.out.2⟩⟩
        case measure => simp [intOf]; omega
      · gi_wp2
        refine bodyPost_ret (results_none rfl _ _ _) rfl ?_
        have hk := HK.out
        exact ⟨⟨_, rfl⟩, .inr ⟨k + 1, by omega, hJx3⟩⟩
    · obtain rfl : k = zs.length := by omega
      gi_wp2
      go_end0
      exact ⟨⟨_, rfl⟩, .inl hJs⟩

/-! ### The step -/
/-- One that is picked goes to the first one. -/
def mergeAt (first : Int) (l : List Int) (i : Int) : List Int := (l.set first.toNat (wrap64 (rd l first + rd l i))).eraseIdx i.toNat
theorem mergeAt_length (first : Int) (l : List Int) (i : Int) (h0 : 0 ≤ i) (h : i < l.length) : (mergeAt first l i).length + 1 = l.length := by
  unfold mergeAt
  rw [List.length_eraseIdx_of_lt (by simp; omega), List.length_set]
  omega

theorem take_drop_erase (l : List Int) (i : Nat) : l.take i ++ l.drop (i + 1) = l.eraseIdx i := (List.eraseIdx_eq_take_drop_succ l i).symm

/-- A row of the call's own is cut. -/
theorem owns_cut {w : World} {base g cap n m : Nat} {e : TypeId} {xs : List Value} (h : w.ownsRow base e 1 (.slice (some ⟨g, 0, none⟩) n cap) n xs) (hm : m ≤ n) : w.ownsRow base e 1 (.slice (some ⟨g, 0, none⟩) m cap) m (xs.take m) := by
  rcases h.2 with ⟨h', _⟩ | ⟨g', cap', cur, h', hb, hg, hnc, hcm, hcs, htake⟩
  · cases h'
  · have hgg : g = g' := by injection h' with h'; injection h' with h'; injection h' with h'
    have hcc : cap = cap' := by injection h' with h1 h2 h3
    subst hgg hcc
    have hl := h.1
    refine ⟨by rw [List.length_take]; omega, .inr ⟨g, cap, cur, rfl, hb, hg, by omega, hcm, hcs, ?_⟩⟩
    rw [← htake, List.take_take, Nat.mul_one, Nat.mul_one, Nat.min_eq_left (by omega)]

set_option maxHeartbeats 1000000 in
theorem Delete_calls (g cap : Nat) (l : List Int) (i : Nat) (base : Nat) (w : World) (ho : w.ownsRow base 3 1 (.slice (some ⟨g, 0, none⟩) l.length cap) l.length (nums .i64 l)) (hi : i < l.length) :
    Calls Try.prog 32 #[.slice (some ⟨g, 0, none⟩) l.length cap, .int .i64 i, .int .i64 ((i : Int) + 1)] w fun e w' => e = .returned (.slice (some ⟨g, 0, none⟩) (l.eraseIdx i).length cap) ∧
      w'.ownsRow base 3 1 (.slice (some ⟨g, 0, none⟩) (l.eraseIdx i).length cap) (l.eraseIdx i).length (nums .i64 (l.eraseIdx i)) ∧ w.grownBy w' (some g) := by
  have hH := holds_of_owns (Value.int .i64) ho
  have hcap : l.length ≤ cap ∧ cap ≤ 9223372036854775807 := by
    rcases ho.2 with ⟨h', _⟩ | ⟨g', cap', cur, h', hb, hg, hnc, hcm, hcs, htake⟩
    · cases h'
    · have hcc : cap = cap' := by injection h' with h1 h2 h3
      subst hcc
      simp only [maxLen] at hcm
      exact ⟨hnc, by omega⟩
  have hcon := Try.slices_Delete_int g 0 cap i (i + 1) l w hH hcap.1 hcap.2 (by omega) (by omega)
  rw [take_drop_erase] at hcon
  refine hcon.mono ?_
  rintro e w' ⟨rfl, q, rfl⟩
  have hlen : (l.eraseIdx i).length = l.length - 1 := List.length_eraseIdx_of_lt hi
  have h1 := owns_sortWorld (Value.int .i64) (n := q) (os := #[]) (ts := l.eraseIdx i ++ List.replicate (i + 1 - i) 0) (by rw [List.length_append, hlen, List.length_replicate]; omega) ho
  rw [Sort.grow_empty] at h1
  have h2 := owns_cut h1 (show l.length - 1 ≤ l.length by omega)
  have h3 : ((l.eraseIdx i ++ List.replicate (i + 1 - i) 0).map (Value.int .i64)).take (l.length - 1) = nums .i64 (l.eraseIdx i) := by
    rw [List.map_append, List.take_append_of_le_length (by rw [List.length_map]; omega), List.take_of_length_le (by rw [List.length_map]; omega)]
    rfl
  rw [h3] at h2
  have h4 := grownBy_sortWorld (Value.int .i64) (w := w) (g := g) (n := q) (os := #[]) (l.eraseIdx i ++ List.replicate (i + 1 - i) 0).toArray
  rw [Sort.grow_empty] at h4
  rw [hlen, show i + 1 - i = 1 from by omega] at *
  exact ⟨rfl, h2, h4⟩

/-- The sizes when k of those that are picked have gone to the first one. -/
def stepK (first : Int) (zs l : List Int) : Nat → List Int
  | 0 => l
  | k + 1 => mergeAt first (stepK first zs l k) (backF zs k).2

/-- A merge step of sizes. -/
def stepF (l p : List Int) : List Int := stepK (rd p 0) p.tail l p.tail.length

theorem stepK_length (first : Int) (zs l : List Int) : ∀ k, (∀ j, j < k → 0 ≤ (backF zs j).2 ∧ (backF zs j).2 + j < l.length) → (stepK first zs l k).length + k = l.length
  | 0, _ => rfl
  | k + 1, h => by
    have ih := stepK_length first zs l k (fun j hj => h j (by omega))
    have h1 := h k (by omega)
    have := mergeAt_length first (stepK first zs l k) (backF zs k).2 h1.1 (by omega)
    simp only [stepK]
    omega

theorem heap_cell {A B : World} {b : Nat} (h : B.heap[b]? = A.heap[b]?) (i : Nat) : B.cell? ⟨b, i, none⟩ = A.cell? ⟨b, i, none⟩ := by simp only [World.cell?, h]
theorem heap_frozen {A B : World} {b : Nat} (h : B.heap[b]? = A.heap[b]?) (i : Nat) : B.frozen? ⟨b, i, none⟩ = A.frozen? ⟨b, i, none⟩ := by simp only [World.frozen?, h]

/-- What the loop keeps: the sizes' row and its box, the first place's box, all else that lay ahead. -/
structure Kept6 (w W0 : World) (base g cap : Nat) (first : Int) (l : List Int) (W : World) : Prop where
  size : W0.heap.size ≤ W.heap.size
  box : W.heap[w.heap.size]? = some (.cells #[.slice (some ⟨g, 0, none⟩) l.length cap] 22 (0, 0))
  fst : W.heap[w.heap.size + 1]? = some (.cells #[.int .i64 first] 3 (0, 0))
  row : W.ownsRow base 3 1 (.slice (some ⟨g, 0, none⟩) l.length cap) l.length (nums .i64 l)
  gro : w.grownBy W (some g)

theorem Kept6.step {w W0 : World} {base g cap : Nat} {first : Int} {l : List Int} {W W' : World} {row : Option Nat} (h : Kept6 w W0 base g cap first l W) (hW0 : w.heap.size + 2 ≤ W0.heap.size) (hg : g < W0.heap.size) (hw : W.grownBy W' row) (hr : ∀ r, row = some r → W0.heap.size ≤ r) : Kept6 w W0 base g cap first l W' := by
  have hz := h.size
  have hne : ∀ k, k < W0.heap.size → W'.heap[k]? = W.heap[k]? := fun k hk => hw.block k (by omega) (fun e => by have := hr k e.symm; omega)
  refine ⟨Nat.le_trans hz hw.size, (hne _ (by omega)).trans h.box, (hne _ (by omega)).trans h.fst, h.row.kept hw (Or.inr ?_), ?_⟩
  · intro e
    have := hr g e.symm
    omega
  · exact ⟨hw.os.trans h.gro.os, hw.tape.trans h.gro.tape, hw.output.trans h.gro.output, Nat.le_trans h.gro.size hw.size, fun k hk hkg => (hne k (by omega)).trans (h.gro.block k hk hkg)⟩

set_option maxRecDepth 100000 in
set_option maxHeartbeats 2000000 in
theorem step_in (n : Nat) (hn : 3 ≤ n) (base g cap gp cp : Nat) (l p : List Int) (w : World) (ho : w.ownsRow base 3 1 (.slice (some ⟨g, 0, none⟩) l.length cap) l.length (nums .i64 l))
    (hp : w.ownsRow base 3 1 (.slice (some ⟨gp, 0, none⟩) p.length cp) p.length (nums .i64 p)) (hne : g ≠ gp) (hp2 : 2 ≤ p.length) (hl : l.length ≤ 256) (hp0 : 0 ≤ rd p 0) (hps : ∀ j, j < p.tail.length → rd p 0 < (backF p.tail j).2 ∧ (backF p.tail j).2 + j < l.length) :
    CallsIn Fence.wide n Try.prog 20 #[.slice (some ⟨g, 0, none⟩) l.length cap, .slice (some ⟨gp, 0, none⟩) p.length cp] w fun e w' =>
      e = .returned (.slice (some ⟨g, 0, none⟩) (stepF l p).length cap) ∧ w'.ownsRow base 3 1 (.slice (some ⟨g, 0, none⟩) (stepF l p).length cap) (stepF l p).length (nums .i64 (stepF l p)) ∧ w.grownBy w' (some g) := by
  have h1 : 1 ≤ n := by omega
  have HPS := Lib.hid hps
  clear hps
  obtain ⟨cp0, cpf⟩ := owns_cell hp 0 (.int .i64 (rd p 0)) (by simp [nums, rd, List.getElem?_eq_getElem (show 0 < p.length by omega), List.getD_eq_getElem?_getD])
  have hpc : p.length ≤ cp ∧ cp ≤ 9223372036854775807 := by
    rcases hp.2 with ⟨h', _⟩ | ⟨g', cap', cur, h', hb, hg, hnc, hcm, hcs, htake⟩
    · cases h'
    · have hcc : cp = cap' := by injection h' with h1 h2 h3
      subst hcc
      simp only [maxLen] at hcm
      exact ⟨hnc, by omega⟩
  obtain ⟨hpc1, hpc2⟩ := hpc
  have hgp := own_lt hp gp rfl
  have hgl := own_lt ho g rfl
  have hzs : ∀ (W : World), W.heap[gp]? = w.heap[gp]? → ∀ j, j < p.tail.length → W.cell? ⟨gp, 1 + j, none⟩ = some (.int .i64 (rd p.tail j)) := by
    intro W hW j hj
    rw [heap_cell hW]
    have hj' : 1 + j < p.length := by simp at hj; omega
    refine (owns_cell hp (1 + j) _ ?_).1
    have hj2 : j + 1 < p.length := by omega
    simp [nums, rd, List.getD_eq_getElem?_getD, Nat.add_comm 1 j, List.getElem?_eq_getElem hj2]
  have htl : p.tail.length = p.length - 1 := by simp
  have HO := Lib.hid ho
  have HZ := Lib.hid hzs
  clear ho hp cpf hzs
  have h31 : Fence.wide.fn 31 := trivial
  have h32 : Fence.wide.fn 32 := trivial
  refine callsIn_of_wp_marks Try.func20 rfl trivial ?_ rfl
  simp only [Try.ntmps20, List.size_toArray, List.length_cons, List.length_nil, Nat.reduceAdd, Nat.reduceSub, Array.replicate_succ, Array.replicate_zero, List.push_toArray, List.append_toArray, List.nil_append, List.cons_append]
  gi_wp2_with (gi_at_call 31; refine (backward_in Fence.wide (n - 1) trivial rfl _ _ _ _).mono ?_; rintro e w' ⟨rfl, rfl⟩)
  generalize hW0 : ((w.alloc (Obj.cells #[Value.slice (some { block := g, off := 0 }) l.length cap] 22)).alloc (Obj.cells #[Value.int IntKind.i64 (rd p 0)] 3)).alloc (Obj.cells #[Value.slice (some { block := gp, off := 1 }) (p.length - 1) (cp - 1)] 22) = W0
  have hz0 : W0.heap.size = w.heap.size + 3 := by rw [← hW0]; simp
  have hold : ∀ k, k < w.heap.size → W0.heap[k]? = w.heap[k]? := by
    intro k hk
    rw [← hW0]
    rw [Below.heap_alloc _ _ _ (by simp; omega), Below.heap_alloc _ _ _ (by simp; omega), Below.heap_alloc _ _ _ hk]
  have hgr0 : w.grownBy W0 (some g) := by
    rw [← hW0]
    exact ((World.grownBy_alloc w _ _).trans (World.grownBy_alloc _ _ _)).trans (World.grownBy_alloc _ _ _)
  have hK0 : Kept6 w W0 base g cap (rd p 0) (stepK (rd p 0) p.tail l 0) W0 := by
    refine ⟨Nat.le_refl _, ?_, ?_, HO.out.kept (row := none) (by rw [← hW0]; exact ((World.grownBy_alloc w _ _).trans (World.grownBy_alloc _ _ _)).trans (World.grownBy_alloc _ _ _)) (Or.inr (by simp [Value.ownBlock])), hgr0⟩
    · rw [← hW0, Below.heap_alloc _ _ _ (by simp <;> omega), Below.heap_alloc _ _ _ (by simp)]
      exact heap_alloc_new _ _
    · rw [← hW0, Below.heap_alloc _ _ _ (by simp)]
      have h := heap_alloc_new (w.alloc (Obj.cells #[Value.slice (some { block := g, off := 0 }) l.length cap] 22)) (Obj.cells #[Value.int IntKind.i64 (rd p 0)] 3)
      rwa [World.size_alloc] at h
  have hgp0 : W0.heap[gp]? = w.heap[gp]? := hold gp hgp
  have hbx0 : W0.cell? ⟨w.heap.size + 2, 0, none⟩ = some (.slice (some ⟨gp, 1, none⟩) p.tail.length (cp - 1)) := by
    have h := heap_alloc_new ((w.alloc (Obj.cells #[Value.slice (some { block := g, off := 0 }) l.length cap] 22)).alloc (Obj.cells #[Value.int IntKind.i64 (rd p 0)] 3)) (Obj.cells #[Value.slice (some { block := gp, off := 1 }) (p.length - 1) (cp - 1)] 22)
    rw [World.size_alloc, World.size_alloc, hW0] at h
    rw [htl]
    exact blk_cell h 0
  refine wpIn_rangeFunc_ord rfl h1 (gf := 38) (lb := #[.pointer (some ⟨w.heap.size + 2, 0, none⟩)]) rfl trivial (enters_of Try.func38 (by kernel_rfl) rfl)
    (backward_seq Fence.wide (n - 1) trivial rfl (by omega) (w.heap.size + 2) gp 1 (cp - 1) p.tail (by omega) W0 (by omega) (by omega) hbx0 (HZ.out W0 hgp0))
    (fun h k => ⟨k.1.trans h.1, k.2.trans h.2⟩) (fun W l o o' hl _ _ _ => ⟨World.putObj_heap_other (by omega), World.putObj_heap_other (by omega)⟩) (Below.refl _ _) (fun _ => rfl)
    (fun k W => Kept6 w W0 base g cap (rd p 0) (stepK (rd p 0) p.tail l k) W)
    (fun _ _ _ => False)
    (fun k W W' row hs hg hr => Kept6.step hs (by omega) (by omega) hg (fun r e => (hr r e).1))
    (fun _ _ _ _ _ hs _ _ => hs)
    hK0
    (fun k => { tmps := #[.slice (some ⟨g, 0, none⟩) l.length cap, .slice (some ⟨gp, 0, none⟩) p.length cp, .pointer (some ⟨w.heap.size, 0, none⟩), undef, .slice none 0 0, .pointer (some ⟨w.heap.size + 1, 0, none⟩), undef, .int .i64 (backF p.tail k).2,
      .slice (some ⟨gp, 0, none⟩) p.length cp, .pointer (some ⟨gp, 0, none⟩), .int .i64 (rd p 0), .slice (some ⟨gp, 0, none⟩) p.length cp, .slice (some ⟨gp, 1, none⟩) (p.length - 1) (cp - 1), .func (.func 38) #[] #[.pointer (some ⟨w.heap.size + 2, 0, none⟩)],
      .int .i64 (backF p.tail k).1, .int .i64 (backF p.tail k).2, undef, undef, undef, undef, undef, undef, undef, undef, undef, undef, undef, undef, undef, undef, undef, undef], defers := [] }) ?assign ?body ?done ?stop
  case assign =>
    intro l' x W K hK
    gi_wp2
    exact hK
  case body =>
    rintro l' k W hk hI
    have r1 : 0 ≤ rd p 0 := hp0
    have r2 : rd p 0 < (backF p.tail k).2 := (HPS.out k hk).1
    have r7 := stepK_length (rd p 0) p.tail l k (fun j hj => ⟨by have := (HPS.out j (by omega)).1; omega, (HPS.out j (by omega)).2⟩)
    have r3 : (backF p.tail k).2 < (stepK (rd p 0) p.tail l k).length := by have := (HPS.out k hk).2; omega
    have r6 : (stepK (rd p 0) p.tail l k).length ≤ 256 := by omega
    clear r7
    have hnext : stepK (rd p 0) p.tail l (k + 1) = mergeAt (rd p 0) (stepK (rd p 0) p.tail l k) (backF p.tail k).2 := rfl
    obtain ⟨i, hi⟩ := Int.eq_ofNat_of_zero_le (show 0 ≤ (backF p.tail k).2 by omega)
    rw [hi] at r2 r3 hnext ⊢
    obtain ⟨cur, hcur⟩ : ∃ cur, stepK (rd p 0) p.tail l k = cur := ⟨_, rfl⟩
    rw [hcur] at hI r3 r6 hnext
    have b1 : W.cell? ⟨w.heap.size, 0, none⟩ = some (.slice (some ⟨g, 0, none⟩) cur.length cap) := blk_cell hI.box 0
    have b2 : W.cell? ⟨w.heap.size + 1, 0, none⟩ = some (.int .i64 (rd p 0)) := blk_cell hI.fst 0
    have hgi : ∀ j : Int, 0 ≤ j → j < cur.length → (nums .i64 cur)[j.toNat]? = some (.int .i64 (rd cur j)) := by
      intro j h0 h1
      have : j.toNat < cur.length := by omega
      simp [nums, rd, List.getD_eq_getElem?_getD, List.getElem?_eq_getElem this]
    obtain ⟨c1, f1⟩ := owns_cell hI.row (rd p 0).toNat _ (hgi (rd p 0) r1 (by omega))
    obtain ⟨c2, _⟩ := owns_cell hI.row i _ (hgi i (by omega) r3)
    have r4 : rd p 0 < cur.length := by omega
    generalize hfst : rd p 0 = first at *
    clear hgi hi hcur
    gi_wp2
    refine wpIn_region_last' 10 (fun i => 16 + i) (fun j => [Value.slice (some ⟨g, 0, none⟩) cur.length cap, .int .i64 first, .pointer (some ⟨g, first.toNat, none⟩), .int .i64 (rd cur first), .slice (some ⟨g, 0, none⟩) cur.length cap, .int .i64 (i : Int), .pointer (some ⟨g, i, none⟩), .int .i64 (rd cur (i : Int)), .int .i64 (wrap64 (rd cur first + rd cur (i : Int))), .pointer (some ⟨g, first.toNat, none⟩)].getD j undef) (by kernel_rfl) (by kernel_rfl) rfl ?_ ?_
    · intro j hj o ho a' hdep hout
      have hj2 : j = 0 ∨ j = 1 ∨ j = 2 ∨ j = 3 ∨ j = 4 ∨ j = 5 ∨ j = 6 ∨ j = 7 ∨ j = 8 ∨ j = 9 := by omega
      have e2 : a'.tmps[2]?.getD undef = .pointer (some ⟨w.heap.size, 0, none⟩) := by have := hout 2 (fun q _ => by show 16 + q ≠ 2; omega); simpa using this
      have e5 : a'.tmps[5]?.getD undef = .pointer (some ⟨w.heap.size + 1, 0, none⟩) := by have := hout 5 (fun q _ => by show 16 + q ≠ 5; omega); simpa using this
      have e7 : a'.tmps[7]?.getD undef = .int .i64 (i : Int) := by have := hout 7 (fun q _ => by show 16 + q ≠ 7; omega); simpa using this
      rcases hj2 with rfl | rfl | rfl | rfl | rfl | rfl | rfl | rfl | rfl | rfl
      · cases ho
        refine ⟨(fun _ h => by cases h), ?_⟩
        go_simp
      · cases ho
        refine ⟨(fun _ h => by cases h), ?_⟩
        go_simp
      · cases ho
        have d0 := hdep ⟨0, .data⟩ (by simp) rfl
        have d1 := hdep ⟨1, .data⟩ (by simp) rfl
        refine ⟨(fun _ h => by cases h), ?_⟩
        simp at d0 d1
        go_simp
      · cases ho
        have d2 := hdep ⟨2, .data⟩ (by simp) rfl
        refine ⟨(fun _ h => by cases h), ?_⟩
        simp at d2
        go_simp
      · cases ho
        refine ⟨(fun _ h => by cases h), ?_⟩
        go_simp
      · cases ho
        refine ⟨(fun _ h => by cases h), ?_⟩
        go_simp
      · cases ho
        have d4 := hdep ⟨4, .data⟩ (by simp) rfl
        have d5 := hdep ⟨5, .data⟩ (by simp) rfl
        refine ⟨(fun _ h => by cases h), ?_⟩
        simp at d4 d5
        go_simp
      · cases ho
        have d6 := hdep ⟨6, .data⟩ (by simp) rfl
        refine ⟨(fun _ h => by cases h), ?_⟩
        simp at d6
        go_simp
      · cases ho
        have d3 := hdep ⟨3, .data⟩ (by simp) rfl
        have d7 := hdep ⟨7, .data⟩ (by simp) rfl
        refine ⟨(fun _ h => by cases h), ?_⟩
        simp at d3 d7
        go_simp
        unfold wrap64; exact IntKind.wrap_i64 _
      · cases ho
        have d0 := hdep ⟨0, .data⟩ (by simp) rfl
        have d1 := hdep ⟨1, .data⟩ (by simp) rfl
        refine ⟨(fun _ h => by cases h), ?_⟩
        simp at d0 d1
        go_simp
    · simp only [List.range, List.range.loop, List.foldl_cons, List.foldl_nil, Act.put]
      simp only [Nat.reduceAdd, List.getD_cons_zero, List.getD_cons_succ, List.setIfInBounds_toArray, List.set_cons_zero, List.set_cons_succ]
      have hlen : (cur.set first.toNat (wrap64 (rd cur first + rd cur (i : Int)))).length = cur.length := List.length_set ..
      have hrow : (W.setCell ⟨g, first.toNat, none⟩ (.int .i64 (wrap64 (rd cur first + rd cur (i : Int))))).drew.ownsRow base 3 1 (.slice (some ⟨g, 0, none⟩) (cur.set first.toNat (wrap64 (rd cur first + rd cur (i : Int)))).length cap) (cur.set first.toNat (wrap64 (rd cur first + rd cur (i : Int)))).length (nums .i64 (cur.set first.toNat (wrap64 (rd cur first + rd cur (i : Int))))) := by
        have h := (hI.row.stored first.toNat (.int .i64 (wrap64 (rd cur first + rd cur (i : Int))))).1
        have he : (nums .i64 cur).set first.toNat (.int .i64 (wrap64 (rd cur first + rd cur (i : Int)))) = nums .i64 (cur.set first.toNat (wrap64 (rd cur first + rd cur (i : Int)))) := by simp [nums, List.map_set]
        rw [he, ← hlen] at h
        exact h
      have hdel := Delete_calls g cap _ i base _ hrow (by omega)
      rw [hlen] at hdel
      have HDEL := Lib.hid hdel
      clear hdel hrow
      gi_wp2
      refine ⟨(fun h => by cases h), ?_⟩
      refine (CallsIn.inRound l' (callsIn_wide.2 HDEL.out)).mono ?_
      rintro e W3 ⟨rfl, hr3, hg3⟩
      have hbx1 : (W.setCell ⟨g, first.toNat, none⟩ (.int .i64 (wrap64 (rd cur first + rd cur (i : Int))))).drew.heap[w.heap.size]? = some (.cells #[.slice (some ⟨g, 0, none⟩) cur.length cap] 22 (0, 0)) := blk_far hI.box (p := ⟨g, first.toNat, none⟩) (by show w.heap.size ≠ g; omega) _
      have hbx : W3.heap[w.heap.size]? = some (.cells #[.slice (some ⟨g, 0, none⟩) cur.length cap] 22 (0, 0)) := blk_grown hbx1 hg3 (by simp; omega)
      have c3 : W3.cell? ⟨w.heap.size, 0, none⟩ = some (.slice (some ⟨g, 0, none⟩) cur.length cap) := blk_cell hbx 0
      have f3 : W3.frozen? ⟨w.heap.size, 0, none⟩ = false := by simp [World.frozen?, hbx]
      gi_wp2
      have hg1 : W.grownBy (W.setCell ⟨g, first.toNat, none⟩ (.int .i64 (wrap64 (rd cur first + rd cur (i : Int))))).drew (some g) := by
        have h := (hI.row.stored first.toNat (.int .i64 (wrap64 (rd cur first + rd cur (i : Int))))).2
        exact ⟨h.os, h.tape, h.output, h.size, h.block⟩
      have hg2 := hg1.trans hg3
      have hcells : ∀ (j : Nat) (o : Obj), some g = some j → W.heap[j]? = some o → o.isCells = true := by
        intro j o e ho
        cases e
        rcases hI.row.2 with ⟨h', _⟩ | ⟨g', cap', cur', h', hb, hg, _⟩
        · cases h'
        · have hgg : g = g' := by injection h' with h'; injection h' with h'; injection h' with h'
          subst hgg
          rw [hg] at ho
          cases ho
          rfl
      have hk3 := KeepsOthers.of_grownBy hg2 hcells
      have hz3 := hI.size
      have hne3 : ∀ q, q < W.heap.size → q ≠ g → q ≠ w.heap.size → ∀ u, (W3.setCell ⟨w.heap.size, 0, none⟩ u).heap[q]? = W.heap[q]? := fun q hq hqg hqb u => (Below.heap_setCell W3 ⟨w.heap.size, 0, none⟩ u q hqb).trans (hg2.block q hq (by simp; omega))
      refine ⟨hk3.trans (KeepsOthers.setCell _ _ _), ⟨hne3 gp (by omega) (by omega) (by omega) _, hne3 _ (by omega) (by omega) (by omega) _⟩, ?_⟩
      show Kept6 w W0 base g cap first (stepK first p.tail l (k + 1)) _
      rw [hnext]
      have hgs := grownBy_setCell' W3 w.heap.size (Value.slice (some ⟨g, 0, none⟩) (mergeAt first cur (i : Int)).length cap)
      refine ⟨?_, ?_, ?_, ?_, ?_⟩
      · have := hg2.size
        simp
        omega
      · exact blk_set hbx 0 (Value.slice (some ⟨g, 0, none⟩) (mergeAt first cur (i : Int)).length cap)
      · rw [hne3 _ (by omega) (by omega) (by omega)]
        exact hI.fst
      · exact hr3.kept hgs (Or.inr (by simp [Value.ownBlock]; omega))
      · exact ⟨hgs.os.trans (hg2.os.trans hI.gro.os), hgs.tape.trans (hg2.tape.trans hI.gro.tape), hgs.output.trans (hg2.output.trans hI.gro.output), Nat.le_trans hI.gro.size (Nat.le_trans hg2.size hgs.size), fun q hq hqg => (hne3 q (by omega) (fun e => hqg (by rw [e])) (by omega) _).trans (hI.gro.block q hq hqg)⟩
  case done =>
    rintro D W hD hI hK
    have b1 : W.cell? ⟨w.heap.size, 0, none⟩ = some (.slice (some ⟨g, 0, none⟩) (stepF l p).length cap) := blk_cell hI.box 0
    gi_wp2
    refine ⟨by simp, .inl ⟨_, _, rfl, run_takeDeferred hK, ?_⟩⟩
    have hgd := grownBy_putObj' W D (.deferred none)
    have hD2 : w.heap.size + 3 ≤ D := by omega
    refine ⟨_, results_tmp rfl _ _ _, rfl, hI.row.kept hgd (Or.inr (by simp [Value.ownBlock]; omega)), ?_⟩
    exact ⟨hgd.os.trans hI.gro.os, hgd.tape.trans hI.gro.tape, hgd.output.trans hI.gro.output, Nat.le_trans hI.gro.size hgd.size, fun q hq hqg => (hgd.block q (by have := hI.size; omega) (by simp; omega)).trans (hI.gro.block q hq hqg)⟩
  case stop =>
    rintro D c k W _ _ h _
    exact h.elim
end Go.Proofs.Ytfkckhliffbcjaa.Tier
