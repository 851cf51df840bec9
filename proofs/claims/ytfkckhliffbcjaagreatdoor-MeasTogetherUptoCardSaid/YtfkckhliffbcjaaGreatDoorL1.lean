/- Items' gauges, where none is too great: the code's walks. -/
import Derived.Test.YtfkckhliffbcjaaGreatDoorL0
import Derived.Test.YtfkckhliffbcjaaGreatDoorM3
namespace Go.Proofs.YtfkckhliffbcjaaGreatDoor.Meas
open Go.RowKit Go.Proofs.YtfkckhliffbcjaaGreatDoor.V Go.Proofs.YtfkckhliffbcjaaGreatDoor.Fl Go.Proofs.YtfkckhliffbcjaaGreatDoorW.PrintWords
set_option linter.unusedVariables false
set_option linter.unusedSimpArgs false
attribute [local go_sem] run_store_complex

theorem index_l (l : List Int) (a : Int) (hl : l.length ≤ 9223372036854775807) : ∀ n k i, i + n = l.length → n < k → ∃ r, slices_Index_uint32_uint32.l0 k l a (l.length : Int) (i : Int) = some r ∧ (0 ≤ r ↔ a ∈ l.drop i)
  | 0, 0, i, h, hk => absurd hk (by omega)
  | 0, k + 1, i, h, hk => by
    refine ⟨-1, by unfold slices_Index_uint32_uint32.l0; rw [if_neg (by omega)], ?_⟩
    rw [List.drop_of_length_le (by omega)]
    simp
  | n + 1, 0, i, h, hk => absurd hk (by omega)
  | n + 1, k + 1, i, h, hk => by
    have hi : i < l.length := by omega
    have hg : rd l (i : Int) = l[i] := by simp [rd, List.getD_eq_getElem?_getD, List.getElem?_eq_getElem hi]
    have hd := List.drop_eq_getElem_cons hi
    unfold slices_Index_uint32_uint32.l0
    rw [if_pos (by omega), if_pos (by omega), if_pos (by omega), hg]
    by_cases he : a = l[i]
    · rw [if_pos he]
      exact ⟨i, rfl, fun _ => by rw [hd, he]; exact List.mem_cons_self, fun _ => by omega⟩
    · obtain ⟨r, hr, hm⟩ := index_l l a hl n k (i + 1) (by omega) (by omega)
      rw [if_neg he, show wrap64 ((i : Int) + 1) = ((i + 1 : Nat) : Int) by unfold wrap64; omega]
      exact ⟨r, hr, by rw [hm, hd, List.mem_cons]; simp [he]⟩

theorem contains_f (l : List Int) (a : Int) (hl : l.length ≤ 9223372036854775807) : slices_Contains_uint32_uint32.f (l.length + 1) l a = some (decide (a ∈ l)) := by
  obtain ⟨r, hr, hm⟩ := index_l l a hl l.length (l.length + 1) 0 (by omega) (by omega)
  unfold slices_Contains_uint32_uint32.f slices_Index_uint32_uint32.f
  rw [show (0 : Int) = ((0 : Nat) : Int) from rfl, hr]
  simp only [Option.bind_some]
  rw [List.drop_zero] at hm
  congr 1
  exact decide_eq_decide.2 hm

/-- An item's size; whether it is dead. -/
def szN (x : S78) : Nat := (mx 0 x.f2.f0).toNat
def ddN (dl : List Int) (x : S78) : Nat := if x.f0 ∈ dl then 1 else 0

theorem three_facts (w : World) (a : Obj) (cs cs' : Array Value) (n : Nat) :
    ((((w.alloc a).alloc (.cells cs 24)).alloc (.cells cs' 24)).drewN n).heap[w.heap.size + 1]? = some (.cells cs 24 (0, 0)) ∧ ((((w.alloc a).alloc (.cells cs 24)).alloc (.cells cs' 24)).drewN n).heap[w.heap.size + 1 + 1]? = some (.cells cs' 24 (0, 0)) ∧ Below w.heap.size w ((((w.alloc a).alloc (.cells cs 24)).alloc (.cells cs' 24)).drewN n) := by
  refine ⟨?_, ?_, ?_⟩
  · have h := blk_drewN (blk_alloc (blk_new (w.alloc a) (.cells cs 24)) (.cells cs' 24)) n
    simpa using h
  · have h := blk_drewN (blk_new ((w.alloc a).alloc (.cells cs 24)) (.cells cs' 24)) n
    simpa using h
  · have h := three_blocks w a (.cells cs 24) (.cells cs' 24)
    exact h.trans ((Drawn0.mk ⟨n, rfl⟩).below.mono h.size)

set_option maxHeartbeats 1000000 in
set_option maxRecDepth 100000 in
theorem one_any (x : S78) (A5 : Option Addr) (c5 : Nat) (A6 : Option Addr) (c6 : Nat) (A7 : Option Addr) (c7 : Nat) (A1 : Option Addr) (c1 : Nat) (dl : List Int) (w : World)
    (h1 : Kd.C (Kd.int .u32) w A1 dl.length dl) (k1 : dl.length ≤ c1) (hs : szN x ≤ 1073741824) :
    Calls Tryz.prog 38 #[.agg #[.int .u32 x.f0, .int .i64 x.f1, .int .i64 x.f2.f0, .int .i64 x.f2.f1, .bool x.f2.f2, .slice A5 x.f2.f3.length c5, .slice A6 x.f2.f4.length c6, .slice A7 x.f2.f5.length c7], .slice A1 dl.length c1] w fun e w' => e = .returned (.tuple #[.agg #[.int .i64 1, .int .i64 (szN x : Nat), .int .i64 (ddN dl x : Nat)], .bool true]) ∧ Below w.heap.size w w' := by
  have HC := Lib.hid (fun W h => slices_Contains_uint32_uint32.calls (dl.length + 1) A1 c1 dl x.f0 (decide (x.f0 ∈ dl)) W h k1 (contains_f dl x.f0 h1.2.1))
  have H1 := Lib.hid h1
  have hm : (if 0 < x.f2.f0 then x.f2.f0 else 0) = (szN x : Int) := by unfold szN mx; split <;> omega
  have hm2 : (szN x : Int) ≤ 1099511627776 := by omega
  have hu24 := Tryz.underlying24
  have hu78 := Tryz.underlying78
  have hu58 := Tryz.underlying58
  generalize szN x = sz at hm hm2 ⊢
  clear h1 k1 hs
  by_cases hd : x.f0 ∈ dl
  · have hdd : ddN dl x = 1 := if_pos hd
    rw [hdd]
    rw [decide_eq_true hd] at HC
    clear hd hdd
    go_enter Tryz.func38, Tryz.ntmps38
    go_wp2_with (first | (go_at_call 66; refine (HC.out _ ?_).mono ?_; (exact Kd.C_below H1.out (three_blocks _ _ _ _)); rintro e w1 ⟨rfl, ⟨n, rfl⟩⟩))
    go_upto_region 4 with fail
    have F := three_facts w (.cells #[.int .u32 x.f0, .int .i64 x.f1, .int .i64 x.f2.f0, .int .i64 x.f2.f1, .bool x.f2.f2, .slice A5 x.f2.f3.length c5, .slice A6 x.f2.f4.length c6, .slice A7 x.f2.f5.length c7] 78) #[.int .i64 0, .int .i64 0, .int .i64 0] #[.int .i64 1, .int .i64 sz, .int .i64 0] n
    have F1 := blk_far F.1 (p := ⟨w.heap.size + 1 + 1, 2, none⟩) (by simp) (.int .i64 1)
    have F2 := blk_put F.2.1 2 (.int .i64 1) (cs' := #[.int .i64 1, .int .i64 sz, .int .i64 1]) rfl
    have F3 := F.2.2.setCell (p := ⟨w.heap.size + 1 + 1, 2, none⟩) (by simp; omega) (.int .i64 1)
    generalize hW : ((((w.alloc (.cells #[.int .u32 x.f0, .int .i64 x.f1, .int .i64 x.f2.f0, .int .i64 x.f2.f1, .bool x.f2.f2, .slice A5 x.f2.f3.length c5, .slice A6 x.f2.f4.length c6, .slice A7 x.f2.f5.length c7] 78)).alloc (.cells #[.int .i64 0, .int .i64 0, .int .i64 0] 24)).alloc (.cells #[.int .i64 1, .int .i64 sz, .int .i64 0] 24)).drewN n).setCell ⟨w.heap.size + 1 + 1, 2, none⟩ (.int .i64 1) = W4 at F1 F2 F3 ⊢
    clear hW
    have y0 := blk_cell F1 0
    have y1 := blk_cell F1 1
    have y2 := blk_cell F1 2
    have yf := fun j => blk_frozen F1 j
    have z0 := blk_cell F2 0
    have z1 := blk_cell F2 1
    have z2 := blk_cell F2 2
    have H1 := Lib.hid F1
    have H3 := Lib.hid F3
    clear F F1 F2 F3
    go_region
    all_goals go_wp2
    all_goals refine bodyPost_ret (results_ct rfl _ _ (w.heap.size + 1) 24 #[.int .i64 1, .int .i64 sz, .int .i64 1] (0, 0) _ rfl (blk_put (blk_put (blk_put H1.out 0 _ rfl) 1 _ rfl) 2 _ rfl) Tryz.underlying24 rfl (by kernel_rfl)) rfl ?_
    all_goals exact ⟨by simp [hm2], (((H3.out.drew).setCell (by simp) _).setCell (by simp) _).setCell (by simp) _⟩
  · have hdd : ddN dl x = 0 := if_neg hd
    rw [hdd]
    rw [decide_eq_false hd] at HC
    clear hd hdd
    go_enter Tryz.func38, Tryz.ntmps38
    go_wp2_with (first | (go_at_call 66; refine (HC.out _ ?_).mono ?_; (exact Kd.C_below H1.out (three_blocks _ _ _ _)); rintro e w1 ⟨rfl, ⟨n, rfl⟩⟩))
    go_upto_region 4 with fail
    have F := three_facts w (.cells #[.int .u32 x.f0, .int .i64 x.f1, .int .i64 x.f2.f0, .int .i64 x.f2.f1, .bool x.f2.f2, .slice A5 x.f2.f3.length c5, .slice A6 x.f2.f4.length c6, .slice A7 x.f2.f5.length c7] 78) #[.int .i64 0, .int .i64 0, .int .i64 0] #[.int .i64 1, .int .i64 sz, .int .i64 0] n
    have F1 := F.1
    have F2 := F.2.1
    have F3 := F.2.2
    generalize hW : (((w.alloc (.cells #[.int .u32 x.f0, .int .i64 x.f1, .int .i64 x.f2.f0, .int .i64 x.f2.f1, .bool x.f2.f2, .slice A5 x.f2.f3.length c5, .slice A6 x.f2.f4.length c6, .slice A7 x.f2.f5.length c7] 78)).alloc (.cells #[.int .i64 0, .int .i64 0, .int .i64 0] 24)).alloc (.cells #[.int .i64 1, .int .i64 sz, .int .i64 0] 24)).drewN n = W4 at F1 F2 F3 ⊢
    clear hW
    have y0 := blk_cell F1 0
    have y1 := blk_cell F1 1
    have y2 := blk_cell F1 2
    have yf := fun j => blk_frozen F1 j
    have z0 := blk_cell F2 0
    have z1 := blk_cell F2 1
    have z2 := blk_cell F2 2
    have H1 := Lib.hid F1
    have H3 := Lib.hid F3
    clear F F1 F2 F3
    go_region
    all_goals go_wp2
    all_goals refine bodyPost_ret (results_ct rfl _ _ (w.heap.size + 1) 24 #[.int .i64 1, .int .i64 sz, .int .i64 0] (0, 0) _ rfl (blk_put (blk_put (blk_put H1.out 0 _ rfl) 1 _ rfl) 2 _ rfl) Tryz.underlying24 rfl (by kernel_rfl)) rfl ?_
    all_goals exact ⟨by simp [hm2], (((H3.out.drew).setCell (by simp) _).setCell (by simp) _).setCell (by simp) _⟩

def goO (dl : List Int) : List S78 → Nat → Nat → Nat → Nat × Nat × Nat
  | [], i, b, d => (i, b, d)
  | x :: l, i, b, d => goO dl l (i + 1) (b + szN x) (d + ddN dl x)

theorem drop_rd78 (l : List S78) (i : Nat) (h : i < l.length) : l.drop i = rd_T78 l (i : Int) :: l.drop (i + 1) := by
  rw [List.drop_eq_getElem_cons h]
  simp [rd_T78, List.getD_eq_getElem?_getD, List.getElem?_eq_getElem h]

set_option maxHeartbeats 2000000 in
set_option maxRecDepth 100000 in
theorem Of_any (A : Option Addr) (c : Nat) (l : List S78) (A1 : Option Addr) (c1 : Nat) (dl : List Int) (w : World) (hr : Kd.C k78 w A l.length l) (hd : Kd.C (Kd.int .u32) w A1 dl.length dl) (hdc : dl.length ≤ c1) (hl : l.length ≤ 100) (hs : ∀ x ∈ l, szN x ≤ 1073741824) :
    Calls Tryz.prog 17 #[.slice A l.length c, .slice A1 dl.length c1] w fun e w' => e = .returned (.tuple #[.agg #[.int .i64 (goO dl l 0 0 0).1, .int .i64 (goO dl l 0 0 0).2.1, .int .i64 (goO dl l 0 0 0).2.2], .int .i64 0]) ∧ Below w.heap.size w w' := by
  have HR := Lib.hid hr
  have HD := Lib.hid hd
  have HDC := Lib.hid hdc
  have HS := Lib.hid hs
  have hu24 := Tryz.underlying24
  have hu72 := Tryz.underlying72
  have hu78 := Tryz.underlying78
  have hu58 := Tryz.underlying58
  clear hr hd hdc hs
  go_enter Tryz.func17, Tryz.ntmps17
  go_wp2
  obtain ⟨g5, hg5⟩ : ∃ g5, w.heap.size + 1 = g5 := ⟨_, rfl⟩
  have HG5 := Lib.hid hg5
  rw [hg5]
  clear hg5
  go_loopw [13] (fun v wr => ∃ (k b d : Nat), v = .int .i64 k ∧ k ≤ l.length ∧ b ≤ k * 1073741824 ∧ d ≤ k ∧ Hid (wr.heap[w.heap.size]? = some (.cells #[.int .i64 0, .int .i64 0, .int .i64 0] 24 (0, 0))) ∧ Hid (wr.heap[g5]? = some (.cells #[.complex .f64 (fl k) (fl b), .int .i64 d] 72 (0, 0))) ∧ Hid (Below w.heap.size w wr) ∧ Hid (goO dl l 0 0 0 = goO dl (l.drop k) k b d)) (fun v _ => l.length - (intOf v).toNat)
  case atStart =>
    refine ⟨0, 0, 0, rfl, by omega, by omega, by omega, Lib.hid (blk_alloc (blk_new w _) _), Lib.hid ?_, Lib.hid (two_blocks _ _ _), Lib.hid rfl⟩
    rw [← HG5.out]
    have h : ((w.alloc (.cells #[.int .i64 0, .int .i64 0, .int .i64 0] 24)).alloc (.cells #[.complex .f64 0 0, .int .i64 0] 72)).heap[w.heap.size + 1]? = some (.cells #[.complex .f64 0 0, .int .i64 0] 72 (0, 0)) := by simpa using blk_new (w.alloc (.cells #[.int .i64 0, .int .i64 0, .int .i64 0] 24)) (.cells #[.complex .f64 0 0, .int .i64 0] 72)
    exact h
  case round =>
    obtain ⟨k, b, d, rfl, hk, hb, hd, H0, H5, HB, HG⟩ := hrel
    by_cases hlt : k < l.length
    · obtain ⟨ad, A5, c5, A6, c6, A7, c7, rfl, e0, e1, e2, e3, e4, e5, e6, e7, l5, q5, l6, q6, l7, q7⟩ := at_T78 HR.out (k : Int) (by omega) (by omega)
      replace e0 := (HB.out.cell (World.block_lt_of_cell? w _ e0)).trans e0
      replace e1 := (HB.out.cell (World.block_lt_of_cell? w _ e1)).trans e1
      replace e2 := (HB.out.cell (World.block_lt_of_cell? w _ e2)).trans e2
      replace e3 := (HB.out.cell (World.block_lt_of_cell? w _ e3)).trans e3
      replace e4 := (HB.out.cell (World.block_lt_of_cell? w _ e4)).trans e4
      replace e5 := (HB.out.cell (World.block_lt_of_cell? w _ e5)).trans e5
      replace e6 := (HB.out.cell (World.block_lt_of_cell? w _ e6)).trans e6
      replace e7 := (HB.out.cell (World.block_lt_of_cell? w _ e7)).trans e7
      clear l5 q5 l6 q6 l7 q7
      simp only [Int.toNat_natCast] at e0 e1 e2 e3 e4 e5 e6 e7
      obtain ⟨x, hx⟩ : ∃ x, rd_T78 l (k : Int) = x := ⟨_, rfl⟩
      have hsz : szN x ≤ 1073741824 := by
        rw [← hx]
        have h := HS.out l[k] (List.getElem_mem hlt)
        simpa [rd_T78, List.getD_eq_getElem?_getD, List.getElem?_eq_getElem hlt] using h
      have hgo : goO dl (l.drop k) k b d = goO dl (l.drop (k + 1)) (k + 1) (b + szN x) (d + ddN dl x) := by
        rw [drop_rd78 l k hlt, hx]
        rfl
      have hdd : ddN dl x ≤ 1 := by unfold ddN; split <;> omega
      rw [hx] at e0 e1 e2 e3 e4 e5 e6 e7
      have ON := Lib.hid (fun W h => one_any x A5 c5 A6 c6 A7 c7 A1 c1 dl W h HDC.out hsz)
      have HGO := Lib.hid (HG.out.trans hgo)
      obtain ⟨n1, hn1⟩ : ∃ n1, szN x = n1 := ⟨_, rfl⟩
      obtain ⟨n2, hn2⟩ : ∃ n2, ddN dl x = n2 := ⟨_, rfl⟩
      rw [hn1, hn2] at ON HGO
      rw [hn1] at hsz
      rw [hn2] at hdd
      have OF := Lib.hid (fun W => of_any 1 (n1 : Int) (n2 : Int) W)
      have AD := Lib.hid (fun W => add_any (fl k) (fl b) (fl 1) (fl n1) (fl (k + 1)) (fl (b + n1)) (d : Int) (n2 : Int) ((d + n2 : Nat) : Int) W (add_num (fl_num k (by omega)) (fl_num 1 (by omega)) (by omega)) (add_num (fl_num b (by omega)) (fl_num n1 (by omega)) (by omega)) (by rw [IntKind.wrap_i64]; omega))
      have GA := Lib.hid (fun W => gauge_any (fl (k + 1)) (fl (b + n1)) ((d + n2 : Nat) : Int) ((k + 1 : Nat) : Int) ((b + n1 : Nat) : Int) W (back_num (fl_num _ (by omega)) (by omega)) (back_num (fl_num _ (by omega)) (by omega)))
      have hok : okN ((k + 1 : Nat) : Int) ((b + n1 : Nat) : Int) ((d + n2 : Nat) : Int) = true := decide_eq_true (by omega)
      have CK := Lib.hid (fun W => Check_any ((k + 1 : Nat) : Int) ((b + n1 : Nat) : Int) ((d + n2 : Nat) : Int) W)
      rw [hok] at CK
      simp only [if_true] at CK
      have HLT := Lib.hid hlt
      have BND := Lib.hid (show k + 1 ≤ l.length ∧ b + n1 ≤ (k + 1) * 1073741824 ∧ d + n2 ≤ k + 1 by omega)
      have z1 : (k : Int) < (l.length : Int) := by omega
      clear hx hok hgo hlt hk hb hd hsz hdd hn1 hn2 HG
      go_upto_region 6 with (first | (go_at_call 38; refine (ON.out _ ?_).mono ?_; (exact Kd.C_below HD.out (HB.out.alloc HB.out.size _)); rintro e w1 ⟨rfl, hb1⟩; have J0 := Lib.hid (blk_below (blk_alloc H0.out _) hb1); have J5 := Lib.hid (blk_below (blk_alloc H5.out _) hb1); have HB1 := Lib.hid ((HB.out.alloc HB.out.size _).trans (hb1.mono (HB.out.alloc HB.out.size _).size)); clear hb1))
      have G0 := Lib.hid (blk_alloc J0.out (.cells #[.int .i64 1, .int .i64 (n1 : Int), .int .i64 (n2 : Int)] 24))
      have G5 := Lib.hid (blk_alloc J5.out (.cells #[.int .i64 1, .int .i64 (n1 : Int), .int .i64 (n2 : Int)] 24))
      have GN := Lib.hid (blk_new w1 (.cells #[.int .i64 1, .int .i64 (n1 : Int), .int .i64 (n2 : Int)] 24))
      have GB := Lib.hid (HB1.out.alloc HB1.out.size (.cells #[.int .i64 1, .int .i64 (n1 : Int), .int .i64 (n2 : Int)] 24))
      have GN5 := Lib.hid (show w.heap.size < g5 by have := HG5.out; omega)
      clear e0 e1 e2 e3 e4 e5 e6 e7 ON
      obtain ⟨gn, hgn⟩ : ∃ gn, w1.heap.size = gn := ⟨_, rfl⟩
      rw [hgn] at GN ⊢
      clear hgn
      generalize w1.alloc (Obj.cells #[.int .i64 1, .int .i64 (n1 : Int), .int .i64 (n2 : Int)] 24) = W0 at G0 G5 GN GB ⊢
      go_cut [] (fun wc => Hid (wc.heap[w.heap.size]? = some (.cells #[.int .i64 0, .int .i64 0, .int .i64 0] 24 (0, 0))) ∧ Hid (wc.heap[g5]? = some (.cells #[.complex .f64 (fl (k + 1)) (fl (b + n1)), .int .i64 ((d + n2 : Nat) : Int)] 72 (0, 0))) ∧ Hid (Below w.heap.size w wc))
      case first =>
        have x50 := blk_cell G5.out 0
        have x51 := blk_cell G5.out 1
        have xg0 := blk_cell GN.out 0
        have xg1 := blk_cell GN.out 1
        have xg2 := blk_cell GN.out 2
        go_region_with (first | (go_at_call 34; refine (OF.out _).mono ?_; rintro e w2 ⟨rfl, hb2⟩; have G5a := blk_below (w := W0.drew) G5.out hb2; have y50 := blk_cell G5a 0; have y51 := blk_cell G5a 1; have HB2 := Lib.hid hb2; have G5A := Lib.hid G5a; clear hb2 G5a) | (go_at_call 33; refine (AD.out _).mono ?_; rintro e w3 ⟨rfl, hb3⟩; have G5b := blk_below G5A.out hb3; have u50 := blk_cell G5b 0; have u51 := blk_cell G5b 1; have uf := fun j => blk_frozen G5b j; have HB3 := Lib.hid hb3; have G5B := Lib.hid G5b; clear hb3 G5b))
        all_goals (go_wp2_with fail; go_meet)
        all_goals exact close_first G0.out GN5.out GB.out HB2.out HB3.out G5B.out (congrArg (Value.int .i64) (by omega))
      case rest =>
        obtain ⟨H0', H5', HB'⟩ := hcut
        have v50 := blk_cell H5'.out 0
        have v51 := blk_cell H5'.out 1
        go_wp2_with (first | (go_at_call 35; refine (GA.out _).mono ?_; rintro e w2 ⟨rfl, hb2⟩; have HB2 := Lib.hid hb2; clear hb2) | (go_at_call 14; refine (CK.out _).mono ?_; rintro e w3 ⟨rfl, hb3⟩; have HB3 := Lib.hid hb3; clear hb3))
        have hb := HB2.out.trans (HB3.out.mono HB2.out.size)
        refine ⟨⟨k + 1, b + n1, d + n2, by go_num, BND.out.1, BND.out.2.1, BND.out.2.2, Lib.hid (blk_below H0'.out hb), Lib.hid (blk_below H5'.out hb), Lib.hid (HB'.out.trans (hb.mono HB'.out.size)), HGO⟩, ?_⟩
        have h := HLT.out
        simp only [intOf]
        omega
    · obtain rfl : k = l.length := by omega
      have w50 := blk_cell H5.out 0
      have w51 := blk_cell H5.out 1
      have GA := Lib.hid (fun W => gauge_any (fl l.length) (fl b) (d : Int) (l.length : Int) (b : Int) W (back_num (fl_num _ (by omega)) (by omega)) (back_num (fl_num _ (by omega)) (by omega)))
      have z1 : ¬ ((l.length : Int) < (l.length : Int)) := by omega
      go_wp2_with (first | (go_at_call 35; refine (GA.out _).mono ?_; rintro e w2 ⟨rfl, hb2⟩; have H0b := blk_below H0.out hb2; have o0 := blk_cell H0b 0; have o1 := blk_cell H0b 1; have o2 := blk_cell H0b 2; have of := fun j => blk_frozen H0b j; have H0B := Lib.hid H0b; have HB2 := Lib.hid hb2; clear hb2 H0b))
      refine bodyPost_ret (results_ct rfl _ _ w.heap.size 24 #[.int .i64 (l.length : Int), .int .i64 (b : Int), .int .i64 (d : Int)] (0, 0) _ rfl (blk_put (blk_put (blk_put H0B.out 0 _ rfl) 1 _ rfl) 2 _ rfl) Tryz.underlying24 rfl (by kernel_rfl)) rfl ?_
      have e : goO dl l 0 0 0 = (l.length, b, d) := by
        rw [HG.out, List.drop_of_length_le (by omega), goO]
      have e1 : (goO dl l 0 0 0).1 = l.length := by rw [e]
      have e2 : (goO dl l 0 0 0).2.1 = b := by rw [e]
      have e3 : (goO dl l 0 0 0).2.2 = d := by rw [e]
      rw [e1, e2, e3]
      exact ⟨rfl, (((HB.out.trans (HB2.out.mono HB.out.size)).setCell (Nat.le_refl _) _).setCell (Nat.le_refl _) _).setCell (Nat.le_refl _) _⟩
end Go.Proofs.YtfkckhliffbcjaaGreatDoor.Meas
