/- What the proof of LawMailWider builds upon, part 5: contracts of the program's functions, by walks through their code. -/
import Derived.Deep.Upon
import Derived.Stop.RegionWithIn
import Derived.Test.YtigcbajcifhinaaGreatDoorSd
set_option maxRecDepth 100000
set_option maxHeartbeats 8000000
set_option linter.unusedVariables false
set_option linter.unusedSimpArgs false
namespace Go.Proofs.YtigcbajcifhinaaGreatDoor.Txt
open Go.RowKit Go.Shelf Go.Proofs.YtigcbajcifhinaaGreatDoorW.PrintWords Go.Proofs.YtigcbajcifhinaaGreatDoor.V
theorem run_app {W : World} {base : Nat} {v : Value} {xs ys : List Int} {A : Option Addr} {c : Nat} (ty : TypeId) (HO : Kd.R (Kd.int .i32) 21 W base (fun _ => True) v xs) (hC : Kd.C (Kd.int .i32) W A ys.length ys) (hbase : base ≤ W.heap.size) (hl : xs.length + ys.length ≤ 1099511627776) :
  ∃ v1 w1, (Builtin.append_ #[22, 22] ty #[v, .slice A ys.length c]).run Tryz.prog W = .ok v1 w1 ∧ Kd.R (Kd.int .i32) 21 w1 base (fun _ => True) v1 (xs ++ ys) ∧ W.grownBy w1 v.ownBlock := by
 obtain ⟨i0, hi, hzz⟩ := Option.map_eq_some_iff.1 info21
 simp only [Prod.mk.injEq] at hzz
 obtain ⟨hz0, hz1, hz2⟩ := hzz
 have ho := Kd.own_of_R HO
 cases ys with
 | nil =>
  obtain ⟨A0, c0, rfl, hc0, _⟩ := Kd.R_reads HO
  refine ⟨.slice A0 xs.length c0, W, ?_, by rw [List.append_nil]; exact HO, World.grownBy.refl _ _⟩
  exact run_append_nothing W 22 22 ty 21 i0 Tryz.underlying22 hi A0 xs.length c0 hc0 _ ⟨.inl ⟨_, Tryz.underlying22⟩, fun w' => by cases A <;> simp [Builtin.lenOf], by cases A <;> simp [Builtin.firstCells, loadCells, loadCellsFrom], by cases A <;> simp [Builtin.firstCells, loadCells, loadCellsFrom], by simp, fun u hu => by cases hu⟩
 | cons y ys =>
  obtain ⟨ad, rfl, hcell⟩ : ∃ ad, A = some ad ∧ ∀ j u, (encs (Value.int .i32) (y :: ys))[j]? = some u → W.cell? (ad.add j) = some u := by
   obtain ⟨ad, c0, rfl, _, _, _⟩ := Kd.C_get hC 0 0 (by omega) (by simp)
   refine ⟨ad, rfl, fun j u hu => ?_⟩
   have hj : j < (y :: ys).length := by
    have := (List.getElem?_eq_some_iff.1 hu).1
    simpa [encs] using this
   obtain ⟨ad', cs, e, hcl, hK, hcc⟩ := Kd.C_get hC 0 (j : Int) (by omega) (by omega)
   injection e with e
   subst e
   have hK' : cs = [Value.int .i32 ((y :: ys).getD (j : Int).toNat 0)] := hK
   rw [show (j : Int).toNat = j from by omega] at hK'
   subst hK'
   have := hcc 0 _ rfl
   have he : u = Value.int .i32 ((y :: ys).getD j 0) := by
    have h2 : (encs (Value.int .i32) (y :: ys))[j]? = some (Value.int .i32 ((y :: ys)[j])) := by
     unfold encs
     rw [List.getElem?_map, List.getElem?_eq_getElem hj]
     rfl
    rw [h2] at hu
    injection hu with hu
    rw [← hu, List.getD_eq_getElem?_getD, List.getElem?_eq_getElem hj]
    rfl
   rw [he]
   have hi : (j : Int).toNat * (Kd.int .i32).sz + 0 = j := by
    show (j : Int).toNat * 1 + 0 = j
    omega
   rw [hi] at this
   exact this
  obtain ⟨v1, w1, hrun, r1, r2, r3⟩ := run_append_own (P := Tryz.prog) W base 22 ty 21 i0 (.int .i32 0) 1 4 Tryz.underlying22 hi hz0 hz1 hz2 rfl (by decide) v xs.length _ ho ad (y :: ys).length c (encs (Value.int .i32) (y :: ys)) (by simp [encs]) hcell (by intro u hu; simp [encs] at hu; rcases hu with rfl | ⟨q, _, rfl⟩ <;> rfl) (by simp only [maxLen]; omega) (by omega) hbase
  refine ⟨v1, w1, hrun, Kd.R_of_own ?_ (fun _ _ => trivial), r2⟩
  rw [List.length_append, encs_append]
  exact r1
theorem opIn_append {F : Fence} {n : Nat} {P : Program} {w w1 : World} {ops : Array Oper} {o : Oper} {a : Act} {K : Act → World → Prop} {Q : Exit → Act → World → Prop} {E : Prop} (hg : o.guard = none) (s x : Operand) (t : TypeId)
  (hop : o.op = Op.call { callee := Callee.builtin Builtin.append, args := #[s, x], argTypes := #[t, t] }) (v y v1 : Value) (hs : a.eval s = v) (hx : a.eval x = y) (hrun : (Builtin.append_ #[t, t] o.type #[v, y]).run P w = .ok v1 w1) (hK : K (a.put o.dst v1) w1) :
  if Region.wanted o (yielded ops a.tmps) = true then Oper.wpIn F n P o a w K Q else E := by
 have hw : Region.wanted o (yielded ops a.tmps) = true := by simp [Region.wanted, hg]
 rw [if_pos hw]
 unfold Oper.wpIn
 refine ⟨?_, ?_⟩
 · simp [Oper.about, hop, resolve, Target.leads, Sem.run_pure]
 ·
  rw [Oper.semAt_plain F _ _ (by rw [hop]; intro c hc'; cases hc')]
  simp [execOp, hop, resolve, invoke, builtin, hs, hx, hrun, Result.andThen]
  exact hK
theorem listIn_append {F : Fence} {n : Nat} {P : Program} {w w1 : World} {ops : Array Oper} {rest : List Oper} {o : Oper} {a : Act} {Q : Exit → Act → World → Prop} (hg : o.guard = none) (s x : Operand) (t : TypeId)
  (hop : o.op = Op.call { callee := Callee.builtin Builtin.append, args := #[s, x], argTypes := #[t, t] }) (v y v1 : Value) (hs : a.eval s = v) (hx : a.eval x = y) (hrun : (Builtin.append_ #[t, t] o.type #[v, y]).run P w = .ok v1 w1) (hK : wpListIn F n P ops Q rest (a.put o.dst v1) w1) :
  wpListIn F n P ops Q (o :: rest) a w := by
 refine wpListIn_plain hg fun K hK' => ?_
 unfold Oper.wpIn
 refine ⟨?_, ?_⟩
 · simp [Oper.about, hop, resolve, Target.leads, Sem.run_pure]
 ·
  rw [Oper.semAt_plain F _ _ (by rw [hop]; intro c hc'; cases hc')]
  simp [execOp, hop, resolve, invoke, builtin, hs, hx, hrun, Result.andThen]
  exact hK' _ _ hK
theorem pcsL_len {one : OneF} {s : ByteArray} : ∀ (m k i : Nat) (P : List Pc), pcsL one s m k i = some P → P.length ≤ m + 1
 | 0, k, i, P, h => by
  unfold pcsL at h
  split at h
  · injection h with h; subst h; simp
  · cases h
 | m + 1, k, i, P, h => by
  unfold pcsL at h
  split at h
  · injection h with h; subst h; simp
  split at h
  ·
   obtain ⟨r, _, h⟩ := Option.bind_eq_some_iff.1 h
   split at h
   ·
    split at h
    ·
     obtain ⟨Q, hQ, rfl⟩ := Option.map_eq_some_iff.1 h
     have := pcsL_len m _ _ Q hQ
     simp
     omega
    · cases h
   ·
    have := pcsL_len m _ _ P h
    omega
  ·
   have := pcsL_len m _ _ P h
   omega
theorem R21_set {W : World} {B g t : Nat} {v : Value} {l : List Int} {ok : Nat → Prop} {cells : Array Value} (h : Kd.R (Kd.int .i32) 21 W B ok v l) (hb : W.heap[g]? = some (.cells cells t (0, 0))) (ht : 21 ≠ t) (j : Nat) (u : Value) : Kd.R (Kd.int .i32) 21 (W.setCell ⟨g, j, none⟩ u) B ok v l := by
 refine Kd.R_set h hb ?_ j u
 intro q hq
 rcases List.mem_cons.1 hq with h | h
 · subst h; exact ht
 · cases h
structure DecM (wd : Bool) (w : World) (k : Nat) (p : Pc) (A : Option Addr) (c g : Nat) (vm : Value) (om : List Int) (W W5 : World) : Prop where
 out : W5.heap[w.heap.size]? = some (.cells #[vm] 22 (0, 0))
 row : Kd.R (Kd.int .i32) 21 W5 w.heap.size (fun _ => True) vm om
 wrd : W5.heap[w.heap.size + 1]? = some (.cells #[.int .i64 (k : Int)] 3 (0, 0))
 blk : W5.heap[g]? = some (.cells #[.string p.ahead, .slice A p.word.length c, .bool p.is] 88 (0, 0))
 word : wd = true → Kd.R (Kd.int .i32) 21 W5 w.heap.size (fun _ => True) (.slice A p.word.length c) p.word
 t : Tabs W5
 b : Below w.heap.size w W5
 keep : KeepsOthers W W5
 box : W5.heap[w.heap.size + 2]? = W.heap[w.heap.size + 2]?
theorem keeps_below {W W' : World} (h : Below W.heap.size W W') : KeepsOthers W W' := KeepsOthers.of_grownBy (grown_of_below h none) (fun j o e => by cases e)
theorem DecM.app {wd wd' : Bool} {w : World} {k : Nat} {p : Pc} {A : Option Addr} {c g : Nat} {vo v1 : Value} {om o2 : List Int} {W W1 w3 w4 : World} (h : DecM wd w k p A c g vo om W W1)
  (hsep : wd' = true → Kd.R (Kd.int .i32) 21 W1 w.heap.size (fun q => some q ≠ vo.ownBlock) (.slice A p.word.length c) p.word) (hT : Tabs w) (hg3 : w.heap.size + 3 ≤ g) (hbx : ∃ cs, W.heap[w.heap.size + 2]? = some (.cells cs 9 (0, 0)))
  (hb3 : Below W1.heap.size W1 w3) (hR4 : Kd.R (Kd.int .i32) 21 w4 w.heap.size (fun _ => True) v1 o2) (hg4 : w3.grownBy w4 vo.ownBlock) : DecM wd' w k p A c g v1 o2 W (w4.setCell ⟨w.heap.size, 0, none⟩ v1) := by
 have r3 := Kd.R_below h.row hb3
 have o3 := blk_below h.out hb3
 have nt : ∀ {q t : Nat} {cs : Array Value}, w3.heap[q]? = some (.cells cs t (0, 0)) → (21 : Nat) ≠ t → some q ≠ vo.ownBlock := fun hq ht => Kd.R_ne r3 hq ht
 have o4 := blk_grown o3 hg4 (nt o3 (by decide))
 have w4_ := blk_grown (blk_below h.wrd hb3) hg4 (nt (blk_below h.wrd hb3) (by decide))
 have g4 := blk_grown (blk_below h.blk hb3) hg4 (nt (blk_below h.blk hb3) (by decide))
 obtain ⟨cs, hcs⟩ := hbx
 have x3 : w3.heap[w.heap.size + 2]? = some (.cells cs 9 (0, 0)) := blk_below (h.box.trans hcs) hb3
 have x4 := blk_grown x3 hg4 (nt x3 (by decide))
 have hb4 : Below w.heap.size w w4 := (h.b.trans (hb3.mono h.b.size)).grown hg4 (Nat.le_trans h.b.size hb3.size) (fun q hq => Kd.R_base r3 q hq)
 refine ⟨?_, R21_set hR4 o4 (by decide) 0 v1, blk_far w4_ (by simp) v1, blk_far g4 (by show g ≠ w.heap.size; omega) v1, ?_, ?_, hb4.setCell (p := ⟨w.heap.size, 0, none⟩) (Nat.le_refl _) v1, ?_, ?_⟩
 ·
  have := blk_set o4 0 v1
  exact this
 ·
  intro hwd
  exact R21_set (Kd.R_mono (Kd.R_grown (Kd.R_below (hsep hwd) hb3) hg4 (fun q hq => hq)) (fun _ _ => trivial)) o4 (by decide) 0 v1
 · exact tabs_below hT (hb4.setCell (p := ⟨w.heap.size, 0, none⟩) (Nat.le_refl _) v1)
 ·
  refine h.keep.trans ((keeps_below hb3).trans ((KeepsOthers.of_grownBy hg4 (fun j o hj ho => ?_)).trans (KeepsOthers.setCell _ _ _)))
  obtain ⟨cells, hc⟩ := Kd.R_typed r3 j hj
  rw [hc] at ho
  injection ho with ho
  subst ho
  rfl
 · exact (blk_far x4 (by simp) v1).trans hcs.symm
theorem DecM.fin {wd : Bool} {w : World} {P : List Pc} {k : Nat} {p : Pc} {A : Option Addr} {c g : Nat} {vm : Value} {W W5 : World} (h : DecM wd w k p A c g vm (outD P (k + 1)) W W5) (hT : Tabs w) (hsz : w.heap.size + 3 ≤ W.heap.size) (hbx : ∃ cs, W.heap[w.heap.size + 2]? = some (.cells cs 9 (0, 0))) :
  KeepsOthers W (W5.setCell ⟨w.heap.size + 1, 0, none⟩ (.int .i64 ((k + 1 : Nat) : Int))) ∧ PcK (w.heap.size + 2) W (W5.setCell ⟨w.heap.size + 1, 0, none⟩ (.int .i64 ((k + 1 : Nat) : Int))) ∧ DecI w P (k + 1) (W5.setCell ⟨w.heap.size + 1, 0, none⟩ (.int .i64 ((k + 1 : Nat) : Int))) := by
 have hb := h.b.setCell (p := ⟨w.heap.size + 1, 0, none⟩) (by simp) (.int .i64 ((k + 1 : Nat) : Int))
 refine ⟨h.keep.trans (KeepsOthers.setCell _ _ _), ⟨(Below.heap_setCell _ _ _ _ (by simp)).trans h.box, fun _ => tabs_below hT hb⟩, ⟨vm, blk_far h.out (by simp) _, R21_set h.row h.wrd (by decide) 0 _⟩, ?_, hb, tabs_below hT hb, ?_, hbx.imp fun _ hx => (Below.heap_setCell _ _ _ _ (by simp)).trans (h.box.trans hx)⟩
 ·
  have := blk_set h.wrd 0 (.int .i64 ((k + 1 : Nat) : Int))
  exact this
 ·
  rw [World.size_setCell]
  exact Nat.le_trans hsz h.keep.size
end Go.Proofs.YtigcbajcifhinaaGreatDoor.Txt
namespace Go.Proofs.YtigcbajcifhinaaGreatDoor.Txt
open Go.RowKit Go.Shelf Go.Proofs.YtigcbajcifhinaaGreatDoorW.PrintWords Go.Proofs.YtigcbajcifhinaaGreatDoor.V
attribute [local go_sem] Oper.semAt_some
theorem decode_any (one : OneF) (ho : OneOK one) (s : ByteArray) (r : List Int) (w : World) (hT : Tabs w) (h : decodeF one s = some r) :
  Calls Tryz.prog 18 #[.string s] w fun e w' => ∃ v, e = .returned v ∧ Kd.R (Kd.int .i32) 21 w' w.heap.size (fun _ => True) v r ∧ Below w.heap.size w w' := by
 unfold decodeF at h
 split at h
 case isFalse => cases h
 rename_i hs
 obtain ⟨P, hP, hF⟩ := Option.bind_eq_some_iff.1 h
 obtain ⟨hF1, hF2⟩ := foldD_out P P.length 0 r (by omega) (by rw [List.drop_zero]; exact hF)
 clear h hF
 refine (callsIn_wide (n := 6)).1 ?_
 have HT := Lib.hid hT
 have HP := Lib.hid hP
 have HF1 := Lib.hid hF1
 have HF2 := Lib.hid hF2
 have HO := Lib.hid ho
 have HS := Lib.hid hs
 clear hT hP hF1 hF2 ho hs
 have h42 : Fence.wide.fn 42 := trivial
 refine callsIn_of_wp_marks Tryz.func18 rfl trivial ?_ rfl
 simp only [Tryz.ntmps18, List.size_toArray, List.length_cons, List.length_nil, Nat.reduceAdd, Nat.reduceSub, Array.replicate_succ, Array.replicate_zero, List.push_toArray, List.append_toArray, List.nil_append, List.cons_append]
 gi_wp2_with (gi_at_call 42; refine (pieces_in _ _ _).mono ?_; rintro e w' ⟨rfl, rfl⟩)
 generalize hW0 : ((w.alloc (Obj.cells #[Value.slice none 0 0] 22)).alloc (Obj.cells #[Value.int IntKind.i64 0] 3)).alloc (Obj.cells #[Value.string s] 9) = W0
 have hz : W0.heap.size = w.heap.size + 3 := by rw [← hW0]; simp
 have e1 : (w.alloc (.cells #[.slice none 0 0] 22)).heap.size = w.heap.size + 1 := World.size_alloc _ _
 have e2 : ((w.alloc (.cells #[.slice none 0 0] 22)).alloc (.cells #[.int .i64 0] 3)).heap.size = w.heap.size + 2 := by rw [World.size_alloc, e1]
 have k0 : W0.heap[w.heap.size]? = some (.cells #[.slice none 0 0] 22 (0, 0)) := by rw [← hW0]; exact blk_alloc (blk_alloc (heap_alloc_new w (.cells #[.slice none 0 0] 22)) _) _
 have k1 : W0.heap[w.heap.size + 1]? = some (.cells #[.int .i64 0] 3 (0, 0)) := by
  have h1 := blk_alloc (heap_alloc_new (w.alloc (.cells #[.slice none 0 0] 22)) (.cells #[.int .i64 0] 3)) (.cells #[.string s] 9)
  rw [e1] at h1
  rw [← hW0]; exact h1
 have k2 : W0.heap[w.heap.size + 2]? = some (.cells #[.string s] 9 (0, 0)) := by
  have h2 := heap_alloc_new ((w.alloc (.cells #[.slice none 0 0] 22)).alloc (.cells #[.int .i64 0] 3)) (.cells #[.string s] 9)
  rw [e2] at h2
  rw [← hW0]; exact h2
 have hb0 : Below w.heap.size w W0 := by
  rw [← hW0]
  exact (((Below.refl _ _).alloc (Nat.le_refl _) _).alloc (by rw [World.size_alloc]; omega) _).alloc (by rw [World.size_alloc, World.size_alloc]; omega) _
 have hT0 : Tabs W0 := tabs_below HT.out hb0
 clear hW0 e1 e2
 refine wpIn_rangeFunc_rel rfl (by decide) (gf := 79) (lb := #[.pointer (some ⟨w.heap.size + 2, 0, none⟩)]) rfl trivial (enters_of Tryz.func79 (by kernel_rfl) rfl)
  (pieces_seq 5 (by decide) one HO.out (w.heap.size + 2) s P W0 HS.out HP.out k2 hT0) PcK_trans (fun W l o o' hl ho hc _ => PcK_put W l o o' (by omega) ho hc) (Below.refl _ _) (fun _ => rfl)
  (DecI w P) (DecI.own w P _ (by omega)) ⟨⟨_, k0, Kd.R_nil _ _ _ _ _⟩, k1, hb0, hT0, by omega, ⟨_, k2⟩⟩ (DecA s w P) (fun k x a' => DecA.own s w P _ k x a') ?assign ?body ?done
 case assign =>
  intro l k x W1 W K hk hI hbW hG hK
  obtain ⟨v, p, hpk, rfl, hR⟩ := hG
  obtain ⟨A, c, rfl⟩ := Kd.R_slice hR
  have hI2 := DecI.own w P W0.heap.size (by omega) k W1 W none hI (grown_of_below hbW none) (fun r e => by cases e)
  have hI3 := DecI.own w P W0.heap.size (by omega) k W (W.alloc (.cells #[.string p.ahead, .slice A p.word.length c, .bool p.is] 88)) none hI2 (World.grownBy_alloc _ _ _) (fun r e => by cases e)
  obtain ⟨vo, ho1, ho2⟩ := hI.out
  have hRn := Kd.R_mono (Kd.R_lower (Kd.R_newR hR ho2) hI.b.size) (fun k hk => hk.2)
  have hsz : w.heap.size + 3 ≤ W.heap.size := hI2.sz
  gi_wp2
  exact hK _ _ ((KeepsOthers.alloc _ _).from _) ⟨Below.heap_alloc _ _ _ (by omega), fun t => tabs_alloc t _⟩ hI3 ⟨⟨W.heap.size, A, c, p, vo, hpk, hsz, rfl, heap_alloc_new _ _, blk_alloc (blk_below ho1 hbW) _, Kd.R_alloc hRn _, rfl⟩⟩
 case body =>
  intro l k x a' W hl hloop hI hA hk
  obtain ⟨g, A, c, p, vo, hpk, hg3, rfl, hg, hvo, hRw, rfl⟩ := hA.ex
  obtain ⟨vo', hvo', hRo⟩ := hI.out
  obtain rfl : vo' = vo := by
   rw [hvo] at hvo'
   injection hvo' with h
   injection h with h
   have := congrArg (fun (q : Array Value) => q.getD 0 undef) h
   simpa using this.symm
  clear hvo'
  obtain ⟨hb1, hb2⟩ := HF2.out k p (Nat.zero_le _) hpk
  unfold decFrame
  have cw := blk_cell hI.wrd 0
  have cg := fun j => blk_cell hg j
  have co := blk_cell hvo 0
  have fo := fun j => blk_frozen hvo j
  have fw := fun j => blk_frozen hI.wrd j
  have h35 : Fence.wide.fn 35 := trivial
  have h12 : Fence.wide.fn 12 := trivial
  have HLT := Lib.hid (fun W' (hT' : Tabs W') => Fold.Letters_any p.ahead W' hT'.1 (by omega))
  have HTR := Lib.hid (fun W' => Tryz.strings_Trim_laid p.ahead ⟨#[32, 9]⟩ W' (by omega) (by decide) (by decide))
  have WRO := Lib.hid hRo
  have WBO := Lib.hid hvo
  have WT := Lib.hid hI.t
  have WB := Lib.hid hI.b
  have WG := Lib.hid hg
  have HST := Lib.hid (outD_succ hpk)
  by_cases hk0 : k = 0
  ·
   have HLEN := Lib.hid (show (outD P k).length + (Fold.lettersF p.ahead.size p.ahead).length ≤ 1099511627776 by
    have h := hb2
    rw [outD_succ hpk] at h
    unfold stepD at h
    rw [if_pos (by unfold takesB; rw [decide_eq_true hk0]; rfl), List.length_append, List.length_append] at h
    omega)
   have HTK := Lib.hid (show takesB k p = true by unfold takesB; rw [decide_eq_true hk0]; rfl)
   have HLEN2 := Lib.hid (show (outD P k ++ Fold.lettersF p.ahead.size p.ahead).length + p.word.length ≤ 1099511627776 by
    have h := hb2
    rw [outD_succ hpk] at h
    unfold stepD at h
    rw [if_pos (by unfold takesB; rw [decide_eq_true hk0]; rfl), List.length_append] at h
    omega)
   subst hk0
   gi_wp2
   have RO1 := Lib.hid (Kd.R_drew WRO.out)
   have BO1 := Lib.hid (show W.drew.heap[w.heap.size]? = some (.cells #[vo'] 22 (0, 0)) from WBO.out)
   have HIT1 := Lib.hid (show Tabs W.drew from WT.out)
   have HSZ1 := Lib.hid (show w.heap.size ≤ W.drew.heap.size from WB.out.size)
   have co1 : W.drew.cell? ⟨w.heap.size, 0, none⟩ = some vo' := blk_cell BO1.out 0
   have cg1 := fun j => blk_cell (show W.drew.heap[g]? = _ from WG.out) j
   refine wpIn_region_any (by kernel_rfl) ?_
   (try (change wpAnyIn _ _ _ _ _ _ _ _ _ (World.drew _)))
   refine wpAnyIn_ready (rs := [0, 1]) (by kernel_rfl) (by simp) ?_
   refine (AllReadyIn.cons rfl (fun K hK => ?_) (AllReadyIn.cons rfl (fun K hK => ?_) AllReadyIn.nil))
   ·
    go_simp
    refine hK _ _ ?_
    refine wpAnyIn_ready (rs := [1]) (by kernel_rfl) (by simp) ?_
    refine (AllReadyIn.cons rfl (fun K hK => ?_) AllReadyIn.nil)
    go_simp
    refine hK _ _ ?_
    refine wpAnyIn_ready (rs := [2]) (by kernel_rfl) (by simp) ?_
    refine (AllReadyIn.cons rfl (fun K hK => ?_) AllReadyIn.nil)
    go_simp
    refine hK _ _ ?_
    refine wpAnyIn_ready (rs := [3]) (by kernel_rfl) (by simp) ?_
    refine (AllReadyIn.cons rfl (fun K hK => ?_) AllReadyIn.nil)
    go_simp
    refine (CallsIn.inRound l (callsIn_wide.2 (HLT.out _ HIT1.out))).mono ?_
    rintro e w3 ⟨v3, rfl, hv3, hb3⟩
    obtain ⟨A3, c3, rfl, hc3, hC3⟩ := Kd.R_reads hv3
    have hR3 := Kd.R_below RO1.out hb3
    have hB3 := blk_below BO1.out hb3
    obtain ⟨v1, w4, hrun, hR4, hg4⟩ := run_app 22 hR3 hC3 (Nat.le_trans HSZ1.out hb3.size) HLEN.out
    obtain ⟨A4, c4, rfl⟩ := Kd.R_slice hR4
    have hB4 := blk_grown hB3 hg4 (Kd.R_ne hR3 hB3 (by decide))
    have HB3 := Lib.hid hb3
    have HRUN := Lib.hid hrun
    have R4 := Lib.hid hR4
    have G4 := Lib.hid hg4
    have q3 := blk_cell hB3 0
    have p4 := blk_cell hB4 0
    have f4 := fun j => blk_frozen hB4 j
    (try clear hrun)
    (try clear hR4)
    (try clear hg4)
    (try clear hv3)
    refine hK _ _ ?_
    refine wpAnyIn_ready (rs := [4]) (by kernel_rfl) (by simp) ?_
    refine (AllReadyIn.cons rfl (fun K hK => ?_) AllReadyIn.nil)
    refine opIn_append rfl (.tmp 22) (.tmp 25) 22 rfl vo' _ _ rfl rfl HRUN.out ?_
    refine hK _ _ ?_
    refine wpAnyIn_ready (rs := [5]) (by kernel_rfl) (by simp) ?_
    refine (AllReadyIn.cons rfl (fun K hK => ?_) AllReadyIn.nil)
    go_simp
    refine hK _ _ ?_
    refine wpAnyIn_done (by kernel_rfl) ?_ _
    have hM0 : DecM true w 0 p A c g vo' (outD P 0) W W.drew := ⟨hvo, hRo, hI.wrd, hg, fun _ => Kd.R_mono (Kd.R_drew hRw) (fun _ _ => trivial), hI.t, hI.b.drew, KeepsOthers.drew _, rfl⟩
    have hM := DecM.app (wd' := true) hM0 (fun _ => Kd.R_drew hRw) HT.out hg3 hI.bx HB3.out R4.out G4.out
    rw [List.length_append] at hM
    clear hM0
    generalize hW5 : w4.setCell ⟨w.heap.size, 0, none⟩ (.slice A4 ((outD P 0).length + (Fold.lettersF p.ahead.size p.ahead).length) c4) = W5 at hM ⊢
    have d5 := blk_cell hM.out 0
    have e5 := fun j => blk_frozen hM.out j
    have n5 := blk_cell hM.wrd 0
    have m5 := fun j => blk_frozen hM.wrd j
    have g5 := fun j => blk_cell hM.blk j
    obtain ⟨v2, w6, hrun2, hR6, hg6⟩ := run_app 22 hM.row (R_C (hM.word rfl)).1 hM.b.size HLEN2.out
    obtain ⟨A6, c6, rfl⟩ := Kd.R_slice hR6
    have hM7 := DecM.app (wd' := false) hM (fun h => by cases h) HT.out hg3 hI.bx (Below.refl _ _) hR6 hg6
    have d7 := blk_cell hM7.wrd 0
    have m7 := fun j => blk_frozen hM7.wrd j
    have hw6 := blk_grown hM.out hg6 (Kd.R_ne hM.row hM.out (by decide))
    have o6 := blk_cell hw6 0
    have p6 := fun j => blk_frozen hw6 j
    have HRUN2 := Lib.hid hrun2
    have hn6 := blk_grown hM.wrd hg6 (Kd.R_ne hM.row hM.wrd (by decide))
    have n6 := blk_cell hn6 0
    have r6 := fun j => blk_frozen hn6 j
    have HM7 := Lib.hid hM7
    clear d7 m7 hM7
    gi_wp2_with (gi_at_builtin; go_loud (refine listIn_append rfl (.tmp 27) (.tmp 29) 22 rfl _ _ _ rfl rfl HRUN2.out ?_))
    have hF : outD P (0 + 1) = (outD P 0 ++ Fold.lettersF p.ahead.size p.ahead) ++ p.word := by
     rw [HST.out]
     unfold stepD
     rw [if_pos HTK.out]
    have h7 := HM7.out
    rw [← hF] at h7
    have hlen : (outD P (0 + 1)).length = (outD P 0).length + ((Fold.lettersF p.ahead.size p.ahead).length + p.word.length) := by rw [hF, List.length_append, List.length_append, Nat.add_assoc]
    rw [hlen] at h7
    have hf := DecM.fin h7 HT.out hI.sz hI.bx
    exact ⟨hf.1.from _, hf.2.1, hf.2.2⟩
   ·
    go_simp
    refine hK _ _ ?_
    refine wpAnyIn_ready (rs := [0, 2]) (by kernel_rfl) (by simp) ?_
    refine (AllReadyIn.cons rfl (fun K hK => ?_) (AllReadyIn.cons rfl (fun K hK => ?_) AllReadyIn.nil))
    ·
     go_simp
     refine hK _ _ ?_
     refine wpAnyIn_ready (rs := [2]) (by kernel_rfl) (by simp) ?_
     refine (AllReadyIn.cons rfl (fun K hK => ?_) AllReadyIn.nil)
     go_simp
     refine hK _ _ ?_
     refine wpAnyIn_ready (rs := [3]) (by kernel_rfl) (by simp) ?_
     refine (AllReadyIn.cons rfl (fun K hK => ?_) AllReadyIn.nil)
     go_simp
     refine (CallsIn.inRound l (callsIn_wide.2 (HLT.out _ HIT1.out))).mono ?_
     rintro e w3 ⟨v3, rfl, hv3, hb3⟩
     obtain ⟨A3, c3, rfl, hc3, hC3⟩ := Kd.R_reads hv3
     have hR3 := Kd.R_below RO1.out hb3
     have hB3 := blk_below BO1.out hb3
     obtain ⟨v1, w4, hrun, hR4, hg4⟩ := run_app 22 hR3 hC3 (Nat.le_trans HSZ1.out hb3.size) HLEN.out
     obtain ⟨A4, c4, rfl⟩ := Kd.R_slice hR4
     have hB4 := blk_grown hB3 hg4 (Kd.R_ne hR3 hB3 (by decide))
     have HB3 := Lib.hid hb3
     have HRUN := Lib.hid hrun
     have R4 := Lib.hid hR4
     have G4 := Lib.hid hg4
     have q3 := blk_cell hB3 0
     have p4 := blk_cell hB4 0
     have f4 := fun j => blk_frozen hB4 j
     (try clear hrun)
     (try clear hR4)
     (try clear hg4)
     (try clear hv3)
     refine hK _ _ ?_
     refine wpAnyIn_ready (rs := [4]) (by kernel_rfl) (by simp) ?_
     refine (AllReadyIn.cons rfl (fun K hK => ?_) AllReadyIn.nil)
     refine opIn_append rfl (.tmp 22) (.tmp 25) 22 rfl vo' _ _ rfl rfl HRUN.out ?_
     refine hK _ _ ?_
     refine wpAnyIn_ready (rs := [5]) (by kernel_rfl) (by simp) ?_
     refine (AllReadyIn.cons rfl (fun K hK => ?_) AllReadyIn.nil)
     go_simp
     refine hK _ _ ?_
     refine wpAnyIn_done (by kernel_rfl) ?_ _
     have hM0 : DecM true w 0 p A c g vo' (outD P 0) W W.drew := ⟨hvo, hRo, hI.wrd, hg, fun _ => Kd.R_mono (Kd.R_drew hRw) (fun _ _ => trivial), hI.t, hI.b.drew, KeepsOthers.drew _, rfl⟩
     have hM := DecM.app (wd' := true) hM0 (fun _ => Kd.R_drew hRw) HT.out hg3 hI.bx HB3.out R4.out G4.out
     rw [List.length_append] at hM
     clear hM0
     generalize hW5 : w4.setCell ⟨w.heap.size, 0, none⟩ (.slice A4 ((outD P 0).length + (Fold.lettersF p.ahead.size p.ahead).length) c4) = W5 at hM ⊢
     have d5 := blk_cell hM.out 0
     have e5 := fun j => blk_frozen hM.out j
     have n5 := blk_cell hM.wrd 0
     have m5 := fun j => blk_frozen hM.wrd j
     have g5 := fun j => blk_cell hM.blk j
     obtain ⟨v2, w6, hrun2, hR6, hg6⟩ := run_app 22 hM.row (R_C (hM.word rfl)).1 hM.b.size HLEN2.out
     obtain ⟨A6, c6, rfl⟩ := Kd.R_slice hR6
     have hM7 := DecM.app (wd' := false) hM (fun h => by cases h) HT.out hg3 hI.bx (Below.refl _ _) hR6 hg6
     have d7 := blk_cell hM7.wrd 0
     have m7 := fun j => blk_frozen hM7.wrd j
     have hw6 := blk_grown hM.out hg6 (Kd.R_ne hM.row hM.out (by decide))
     have o6 := blk_cell hw6 0
     have p6 := fun j => blk_frozen hw6 j
     have HRUN2 := Lib.hid hrun2
     have hn6 := blk_grown hM.wrd hg6 (Kd.R_ne hM.row hM.wrd (by decide))
     have n6 := blk_cell hn6 0
     have r6 := fun j => blk_frozen hn6 j
     have HM7 := Lib.hid hM7
     clear d7 m7 hM7
     gi_wp2_with (gi_at_builtin; go_loud (refine listIn_append rfl (.tmp 27) (.tmp 29) 22 rfl _ _ _ rfl rfl HRUN2.out ?_))
     have hF : outD P (0 + 1) = (outD P 0 ++ Fold.lettersF p.ahead.size p.ahead) ++ p.word := by
      rw [HST.out]
      unfold stepD
      rw [if_pos HTK.out]
     have h7 := HM7.out
     rw [← hF] at h7
     have hlen : (outD P (0 + 1)).length = (outD P 0).length + ((Fold.lettersF p.ahead.size p.ahead).length + p.word.length) := by rw [hF, List.length_append, List.length_append, Nat.add_assoc]
     rw [hlen] at h7
     have hf := DecM.fin h7 HT.out hI.sz hI.bx
     exact ⟨hf.1.from _, hf.2.1, hf.2.2⟩
    ·
     go_simp
     refine hK _ _ ?_
     refine wpAnyIn_ready (rs := [0, 3]) (by kernel_rfl) (by simp) ?_
     refine (AllReadyIn.cons rfl (fun K hK => ?_) (AllReadyIn.cons rfl (fun K hK => ?_) AllReadyIn.nil))
     ·
      go_simp
      refine hK _ _ ?_
      refine wpAnyIn_ready (rs := [3]) (by kernel_rfl) (by simp) ?_
      refine (AllReadyIn.cons rfl (fun K hK => ?_) AllReadyIn.nil)
      go_simp
      refine (CallsIn.inRound l (callsIn_wide.2 (HLT.out _ HIT1.out))).mono ?_
      rintro e w3 ⟨v3, rfl, hv3, hb3⟩
      obtain ⟨A3, c3, rfl, hc3, hC3⟩ := Kd.R_reads hv3
      have hR3 := Kd.R_below RO1.out hb3
      have hB3 := blk_below BO1.out hb3
      obtain ⟨v1, w4, hrun, hR4, hg4⟩ := run_app 22 hR3 hC3 (Nat.le_trans HSZ1.out hb3.size) HLEN.out
      obtain ⟨A4, c4, rfl⟩ := Kd.R_slice hR4
      have hB4 := blk_grown hB3 hg4 (Kd.R_ne hR3 hB3 (by decide))
      have HB3 := Lib.hid hb3
      have HRUN := Lib.hid hrun
      have R4 := Lib.hid hR4
      have G4 := Lib.hid hg4
      have q3 := blk_cell hB3 0
      have p4 := blk_cell hB4 0
      have f4 := fun j => blk_frozen hB4 j
      (try clear hrun)
      (try clear hR4)
      (try clear hg4)
      (try clear hv3)
      refine hK _ _ ?_
      refine wpAnyIn_ready (rs := [4]) (by kernel_rfl) (by simp) ?_
      refine (AllReadyIn.cons rfl (fun K hK => ?_) AllReadyIn.nil)
      refine opIn_append rfl (.tmp 22) (.tmp 25) 22 rfl vo' _ _ rfl rfl HRUN.out ?_
      refine hK _ _ ?_
      refine wpAnyIn_ready (rs := [5]) (by kernel_rfl) (by simp) ?_
      refine (AllReadyIn.cons rfl (fun K hK => ?_) AllReadyIn.nil)
      go_simp
      refine hK _ _ ?_
      refine wpAnyIn_done (by kernel_rfl) ?_ _
      have hM0 : DecM true w 0 p A c g vo' (outD P 0) W W.drew := ⟨hvo, hRo, hI.wrd, hg, fun _ => Kd.R_mono (Kd.R_drew hRw) (fun _ _ => trivial), hI.t, hI.b.drew, KeepsOthers.drew _, rfl⟩
      have hM := DecM.app (wd' := true) hM0 (fun _ => Kd.R_drew hRw) HT.out hg3 hI.bx HB3.out R4.out G4.out
      rw [List.length_append] at hM
      clear hM0
      generalize hW5 : w4.setCell ⟨w.heap.size, 0, none⟩ (.slice A4 ((outD P 0).length + (Fold.lettersF p.ahead.size p.ahead).length) c4) = W5 at hM ⊢
      have d5 := blk_cell hM.out 0
      have e5 := fun j => blk_frozen hM.out j
      have n5 := blk_cell hM.wrd 0
      have m5 := fun j => blk_frozen hM.wrd j
      have g5 := fun j => blk_cell hM.blk j
      obtain ⟨v2, w6, hrun2, hR6, hg6⟩ := run_app 22 hM.row (R_C (hM.word rfl)).1 hM.b.size HLEN2.out
      obtain ⟨A6, c6, rfl⟩ := Kd.R_slice hR6
      have hM7 := DecM.app (wd' := false) hM (fun h => by cases h) HT.out hg3 hI.bx (Below.refl _ _) hR6 hg6
      have d7 := blk_cell hM7.wrd 0
      have m7 := fun j => blk_frozen hM7.wrd j
      have hw6 := blk_grown hM.out hg6 (Kd.R_ne hM.row hM.out (by decide))
      have o6 := blk_cell hw6 0
      have p6 := fun j => blk_frozen hw6 j
      have HRUN2 := Lib.hid hrun2
      have hn6 := blk_grown hM.wrd hg6 (Kd.R_ne hM.row hM.wrd (by decide))
      have n6 := blk_cell hn6 0
      have r6 := fun j => blk_frozen hn6 j
      have HM7 := Lib.hid hM7
      clear d7 m7 hM7
      gi_wp2_with (gi_at_builtin; go_loud (refine listIn_append rfl (.tmp 27) (.tmp 29) 22 rfl _ _ _ rfl rfl HRUN2.out ?_))
      have hF : outD P (0 + 1) = (outD P 0 ++ Fold.lettersF p.ahead.size p.ahead) ++ p.word := by
       rw [HST.out]
       unfold stepD
       rw [if_pos HTK.out]
      have h7 := HM7.out
      rw [← hF] at h7
      have hlen : (outD P (0 + 1)).length = (outD P 0).length + ((Fold.lettersF p.ahead.size p.ahead).length + p.word.length) := by rw [hF, List.length_append, List.length_append, Nat.add_assoc]
      rw [hlen] at h7
      have hf := DecM.fin h7 HT.out hI.sz hI.bx
      exact ⟨hf.1.from _, hf.2.1, hf.2.2⟩
     ·
      go_simp
      refine (CallsIn.inRound l (callsIn_wide.2 (HLT.out _ HIT1.out))).mono ?_
      rintro e w3 ⟨v3, rfl, hv3, hb3⟩
      obtain ⟨A3, c3, rfl, hc3, hC3⟩ := Kd.R_reads hv3
      have hR3 := Kd.R_below RO1.out hb3
      have hB3 := blk_below BO1.out hb3
      obtain ⟨v1, w4, hrun, hR4, hg4⟩ := run_app 22 hR3 hC3 (Nat.le_trans HSZ1.out hb3.size) HLEN.out
      obtain ⟨A4, c4, rfl⟩ := Kd.R_slice hR4
      have hB4 := blk_grown hB3 hg4 (Kd.R_ne hR3 hB3 (by decide))
      have HB3 := Lib.hid hb3
      have HRUN := Lib.hid hrun
      have R4 := Lib.hid hR4
      have G4 := Lib.hid hg4
      have q3 := blk_cell hB3 0
      have p4 := blk_cell hB4 0
      have f4 := fun j => blk_frozen hB4 j
      (try clear hrun)
      (try clear hR4)
      (try clear hg4)
      (try clear hv3)
      refine hK _ _ ?_
      refine wpAnyIn_ready (rs := [0]) (by kernel_rfl) (by simp) ?_
      refine (AllReadyIn.cons rfl (fun K hK => ?_) AllReadyIn.nil)
      go_simp
      refine hK _ _ ?_
      refine wpAnyIn_ready (rs := [4]) (by kernel_rfl) (by simp) ?_
      refine (AllReadyIn.cons rfl (fun K hK => ?_) AllReadyIn.nil)
      refine opIn_append rfl (.tmp 22) (.tmp 25) 22 rfl vo' _ _ rfl rfl HRUN.out ?_
      refine hK _ _ ?_
      refine wpAnyIn_ready (rs := [5]) (by kernel_rfl) (by simp) ?_
      refine (AllReadyIn.cons rfl (fun K hK => ?_) AllReadyIn.nil)
      go_simp
      refine hK _ _ ?_
      refine wpAnyIn_done (by kernel_rfl) ?_ _
      have hM0 : DecM true w 0 p A c g vo' (outD P 0) W W.drew := ⟨hvo, hRo, hI.wrd, hg, fun _ => Kd.R_mono (Kd.R_drew hRw) (fun _ _ => trivial), hI.t, hI.b.drew, KeepsOthers.drew _, rfl⟩
      have hM := DecM.app (wd' := true) hM0 (fun _ => Kd.R_drew hRw) HT.out hg3 hI.bx HB3.out R4.out G4.out
      rw [List.length_append] at hM
      clear hM0
      generalize hW5 : w4.setCell ⟨w.heap.size, 0, none⟩ (.slice A4 ((outD P 0).length + (Fold.lettersF p.ahead.size p.ahead).length) c4) = W5 at hM ⊢
      have d5 := blk_cell hM.out 0
      have e5 := fun j => blk_frozen hM.out j
      have n5 := blk_cell hM.wrd 0
      have m5 := fun j => blk_frozen hM.wrd j
      have g5 := fun j => blk_cell hM.blk j
      obtain ⟨v2, w6, hrun2, hR6, hg6⟩ := run_app 22 hM.row (R_C (hM.word rfl)).1 hM.b.size HLEN2.out
      obtain ⟨A6, c6, rfl⟩ := Kd.R_slice hR6
      have hM7 := DecM.app (wd' := false) hM (fun h => by cases h) HT.out hg3 hI.bx (Below.refl _ _) hR6 hg6
      have d7 := blk_cell hM7.wrd 0
      have m7 := fun j => blk_frozen hM7.wrd j
      have hw6 := blk_grown hM.out hg6 (Kd.R_ne hM.row hM.out (by decide))
      have o6 := blk_cell hw6 0
      have p6 := fun j => blk_frozen hw6 j
      have HRUN2 := Lib.hid hrun2
      have hn6 := blk_grown hM.wrd hg6 (Kd.R_ne hM.row hM.wrd (by decide))
      have n6 := blk_cell hn6 0
      have r6 := fun j => blk_frozen hn6 j
      have HM7 := Lib.hid hM7
      clear d7 m7 hM7
      gi_wp2_with (gi_at_builtin; go_loud (refine listIn_append rfl (.tmp 27) (.tmp 29) 22 rfl _ _ _ rfl rfl HRUN2.out ?_))
      have hF : outD P (0 + 1) = (outD P 0 ++ Fold.lettersF p.ahead.size p.ahead) ++ p.word := by
       rw [HST.out]
       unfold stepD
       rw [if_pos HTK.out]
      have h7 := HM7.out
      rw [← hF] at h7
      have hlen : (outD P (0 + 1)).length = (outD P 0).length + ((Fold.lettersF p.ahead.size p.ahead).length + p.word.length) := by rw [hF, List.length_append, List.length_append, Nat.add_assoc]
      rw [hlen] at h7
      have hf := DecM.fin h7 HT.out hI.sz hI.bx
      exact ⟨hf.1.from _, hf.2.1, hf.2.2⟩
  ·
   have e0 : ((k : Int) == 0) = false := by simpa using hk0
   have hk64 : (k : Int) ≤ 1073741825 := by have h1 := pcsL_len _ _ _ _ HP.out; have h2 := HS.out; omega
   cases hpi : p.is with
   | false =>
    have HTK := Lib.hid (show takesB k p = true by unfold takesB; rw [hpi]; simp)
    have HLEN := Lib.hid (show (outD P k).length + (Fold.lettersF p.ahead.size p.ahead).length ≤ 1099511627776 by
     have h := hb2
     rw [outD_succ hpk] at h
     unfold stepD at h
     rw [if_pos HTK.out, List.length_append, List.length_append] at h
     omega)
    have HLEN2 := Lib.hid (show (outD P k ++ Fold.lettersF p.ahead.size p.ahead).length + p.word.length ≤ 1099511627776 by
     have h := hb2
     rw [outD_succ hpk] at h
     unfold stepD at h
     rw [if_pos HTK.out, List.length_append] at h
     omega)
    gi_wp2
    have RO1 := Lib.hid (Kd.R_drew WRO.out)
    have BO1 := Lib.hid (show W.drew.heap[w.heap.size]? = some (.cells #[vo'] 22 (0, 0)) from WBO.out)
    have HIT1 := Lib.hid (show Tabs W.drew from WT.out)
    have HSZ1 := Lib.hid (show w.heap.size ≤ W.drew.heap.size from WB.out.size)
    have co1 : W.drew.cell? ⟨w.heap.size, 0, none⟩ = some vo' := blk_cell BO1.out 0
    have cg1 := fun j => blk_cell (show W.drew.heap[g]? = _ from WG.out) j
    refine wpIn_region_any (by kernel_rfl) ?_
    (try (change wpAnyIn _ _ _ _ _ _ _ _ _ (World.drew _)))
    refine wpAnyIn_ready (rs := [0, 1]) (by kernel_rfl) (by simp) ?_
    refine (AllReadyIn.cons rfl (fun K hK => ?_) (AllReadyIn.cons rfl (fun K hK => ?_) AllReadyIn.nil))
    ·
     go_simp
     refine hK _ _ ?_
     refine wpAnyIn_ready (rs := [1]) (by kernel_rfl) (by simp) ?_
     refine (AllReadyIn.cons rfl (fun K hK => ?_) AllReadyIn.nil)
     go_simp
     refine hK _ _ ?_
     refine wpAnyIn_ready (rs := [2]) (by kernel_rfl) (by simp) ?_
     refine (AllReadyIn.cons rfl (fun K hK => ?_) AllReadyIn.nil)
     go_simp
     refine hK _ _ ?_
     refine wpAnyIn_ready (rs := [3]) (by kernel_rfl) (by simp) ?_
     refine (AllReadyIn.cons rfl (fun K hK => ?_) AllReadyIn.nil)
     go_simp
     refine (CallsIn.inRound l (callsIn_wide.2 (HLT.out _ HIT1.out))).mono ?_
     rintro e w3 ⟨v3, rfl, hv3, hb3⟩
     obtain ⟨A3, c3, rfl, hc3, hC3⟩ := Kd.R_reads hv3
     have hR3 := Kd.R_below RO1.out hb3
     have hB3 := blk_below BO1.out hb3
     obtain ⟨v1, w4, hrun, hR4, hg4⟩ := run_app 22 hR3 hC3 (Nat.le_trans HSZ1.out hb3.size) HLEN.out
     obtain ⟨A4, c4, rfl⟩ := Kd.R_slice hR4
     have hB4 := blk_grown hB3 hg4 (Kd.R_ne hR3 hB3 (by decide))
     have HB3 := Lib.hid hb3
     have HRUN := Lib.hid hrun
     have R4 := Lib.hid hR4
     have G4 := Lib.hid hg4
     have q3 := blk_cell hB3 0
     have p4 := blk_cell hB4 0
     have f4 := fun j => blk_frozen hB4 j
     (try clear hrun)
     (try clear hR4)
     (try clear hg4)
     (try clear hv3)
     refine hK _ _ ?_
     refine wpAnyIn_ready (rs := [4]) (by kernel_rfl) (by simp) ?_
     refine (AllReadyIn.cons rfl (fun K hK => ?_) AllReadyIn.nil)
     refine opIn_append rfl (.tmp 22) (.tmp 25) 22 rfl vo' _ _ rfl rfl HRUN.out ?_
     refine hK _ _ ?_
     refine wpAnyIn_ready (rs := [5]) (by kernel_rfl) (by simp) ?_
     refine (AllReadyIn.cons rfl (fun K hK => ?_) AllReadyIn.nil)
     go_simp
     refine hK _ _ ?_
     refine wpAnyIn_done (by kernel_rfl) ?_ _
     have hM0 : DecM true w k p A c g vo' (outD P k) W W.drew := ⟨hvo, hRo, hI.wrd, hg, fun _ => Kd.R_mono (Kd.R_drew hRw) (fun _ _ => trivial), hI.t, hI.b.drew, KeepsOthers.drew _, rfl⟩
     have hM := DecM.app (wd' := true) hM0 (fun _ => Kd.R_drew hRw) HT.out hg3 hI.bx HB3.out R4.out G4.out
     rw [List.length_append] at hM
     clear hM0
     generalize hW5 : w4.setCell ⟨w.heap.size, 0, none⟩ (.slice A4 ((outD P k).length + (Fold.lettersF p.ahead.size p.ahead).length) c4) = W5 at hM ⊢
     have d5 := blk_cell hM.out 0
     have e5 := fun j => blk_frozen hM.out j
     have n5 := blk_cell hM.wrd 0
     have m5 := fun j => blk_frozen hM.wrd j
     have g5 := fun j => blk_cell hM.blk j
     obtain ⟨v2, w6, hrun2, hR6, hg6⟩ := run_app 22 hM.row (R_C (hM.word rfl)).1 hM.b.size HLEN2.out
     obtain ⟨A6, c6, rfl⟩ := Kd.R_slice hR6
     have hM7 := DecM.app (wd' := false) hM (fun h => by cases h) HT.out hg3 hI.bx (Below.refl _ _) hR6 hg6
     have d7 := blk_cell hM7.wrd 0
     have m7 := fun j => blk_frozen hM7.wrd j
     have hw6 := blk_grown hM.out hg6 (Kd.R_ne hM.row hM.out (by decide))
     have o6 := blk_cell hw6 0
     have p6 := fun j => blk_frozen hw6 j
     have HRUN2 := Lib.hid hrun2
     have hn6 := blk_grown hM.wrd hg6 (Kd.R_ne hM.row hM.wrd (by decide))
     have n6 := blk_cell hn6 0
     have r6 := fun j => blk_frozen hn6 j
     have HM7 := Lib.hid hM7
     clear d7 m7 hM7
     gi_wp2_with (gi_at_builtin; go_loud (refine listIn_append rfl (.tmp 27) (.tmp 29) 22 rfl _ _ _ rfl rfl HRUN2.out ?_))
     have hF : outD P (k + 1) = (outD P k ++ Fold.lettersF p.ahead.size p.ahead) ++ p.word := by
      rw [HST.out]
      unfold stepD
      rw [if_pos HTK.out]
     have h7 := HM7.out
     rw [← hF] at h7
     have hlen : (outD P (k + 1)).length = (outD P k).length + ((Fold.lettersF p.ahead.size p.ahead).length + p.word.length) := by rw [hF, List.length_append, List.length_append, Nat.add_assoc]
     rw [hlen] at h7
     have hf := DecM.fin h7 HT.out hI.sz hI.bx
     exact ⟨hf.1.from _, hf.2.1, hf.2.2⟩
    ·
     go_simp
     refine hK _ _ ?_
     refine wpAnyIn_ready (rs := [0, 2]) (by kernel_rfl) (by simp) ?_
     refine (AllReadyIn.cons rfl (fun K hK => ?_) (AllReadyIn.cons rfl (fun K hK => ?_) AllReadyIn.nil))
     ·
      go_simp
      refine hK _ _ ?_
      refine wpAnyIn_ready (rs := [2]) (by kernel_rfl) (by simp) ?_
      refine (AllReadyIn.cons rfl (fun K hK => ?_) AllReadyIn.nil)
      go_simp
      refine hK _ _ ?_
      refine wpAnyIn_ready (rs := [3]) (by kernel_rfl) (by simp) ?_
      refine (AllReadyIn.cons rfl (fun K hK => ?_) AllReadyIn.nil)
      go_simp
      refine (CallsIn.inRound l (callsIn_wide.2 (HLT.out _ HIT1.out))).mono ?_
      rintro e w3 ⟨v3, rfl, hv3, hb3⟩
      obtain ⟨A3, c3, rfl, hc3, hC3⟩ := Kd.R_reads hv3
      have hR3 := Kd.R_below RO1.out hb3
      have hB3 := blk_below BO1.out hb3
      obtain ⟨v1, w4, hrun, hR4, hg4⟩ := run_app 22 hR3 hC3 (Nat.le_trans HSZ1.out hb3.size) HLEN.out
      obtain ⟨A4, c4, rfl⟩ := Kd.R_slice hR4
      have hB4 := blk_grown hB3 hg4 (Kd.R_ne hR3 hB3 (by decide))
      have HB3 := Lib.hid hb3
      have HRUN := Lib.hid hrun
      have R4 := Lib.hid hR4
      have G4 := Lib.hid hg4
      have q3 := blk_cell hB3 0
      have p4 := blk_cell hB4 0
      have f4 := fun j => blk_frozen hB4 j
      (try clear hrun)
      (try clear hR4)
      (try clear hg4)
      (try clear hv3)
      refine hK _ _ ?_
      refine wpAnyIn_ready (rs := [4]) (by kernel_rfl) (by simp) ?_
      refine (AllReadyIn.cons rfl (fun K hK => ?_) AllReadyIn.nil)
      refine opIn_append rfl (.tmp 22) (.tmp 25) 22 rfl vo' _ _ rfl rfl HRUN.out ?_
      refine hK _ _ ?_
      refine wpAnyIn_ready (rs := [5]) (by kernel_rfl) (by simp) ?_
      refine (AllReadyIn.cons rfl (fun K hK => ?_) AllReadyIn.nil)
      go_simp
      refine hK _ _ ?_
      refine wpAnyIn_done (by kernel_rfl) ?_ _
      have hM0 : DecM true w k p A c g vo' (outD P k) W W.drew := ⟨hvo, hRo, hI.wrd, hg, fun _ => Kd.R_mono (Kd.R_drew hRw) (fun _ _ => trivial), hI.t, hI.b.drew, KeepsOthers.drew _, rfl⟩
      have hM := DecM.app (wd' := true) hM0 (fun _ => Kd.R_drew hRw) HT.out hg3 hI.bx HB3.out R4.out G4.out
      rw [List.length_append] at hM
      clear hM0
      generalize hW5 : w4.setCell ⟨w.heap.size, 0, none⟩ (.slice A4 ((outD P k).length + (Fold.lettersF p.ahead.size p.ahead).length) c4) = W5 at hM ⊢
      have d5 := blk_cell hM.out 0
      have e5 := fun j => blk_frozen hM.out j
      have n5 := blk_cell hM.wrd 0
      have m5 := fun j => blk_frozen hM.wrd j
      have g5 := fun j => blk_cell hM.blk j
      obtain ⟨v2, w6, hrun2, hR6, hg6⟩ := run_app 22 hM.row (R_C (hM.word rfl)).1 hM.b.size HLEN2.out
      obtain ⟨A6, c6, rfl⟩ := Kd.R_slice hR6
      have hM7 := DecM.app (wd' := false) hM (fun h => by cases h) HT.out hg3 hI.bx (Below.refl _ _) hR6 hg6
      have d7 := blk_cell hM7.wrd 0
      have m7 := fun j => blk_frozen hM7.wrd j
      have hw6 := blk_grown hM.out hg6 (Kd.R_ne hM.row hM.out (by decide))
      have o6 := blk_cell hw6 0
      have p6 := fun j => blk_frozen hw6 j
      have HRUN2 := Lib.hid hrun2
      have hn6 := blk_grown hM.wrd hg6 (Kd.R_ne hM.row hM.wrd (by decide))
      have n6 := blk_cell hn6 0
      have r6 := fun j => blk_frozen hn6 j
      have HM7 := Lib.hid hM7
      clear d7 m7 hM7
      gi_wp2_with (gi_at_builtin; go_loud (refine listIn_append rfl (.tmp 27) (.tmp 29) 22 rfl _ _ _ rfl rfl HRUN2.out ?_))
      have hF : outD P (k + 1) = (outD P k ++ Fold.lettersF p.ahead.size p.ahead) ++ p.word := by
       rw [HST.out]
       unfold stepD
       rw [if_pos HTK.out]
      have h7 := HM7.out
      rw [← hF] at h7
      have hlen : (outD P (k + 1)).length = (outD P k).length + ((Fold.lettersF p.ahead.size p.ahead).length + p.word.length) := by rw [hF, List.length_append, List.length_append, Nat.add_assoc]
      rw [hlen] at h7
      have hf := DecM.fin h7 HT.out hI.sz hI.bx
      exact ⟨hf.1.from _, hf.2.1, hf.2.2⟩
     ·
      go_simp
      refine hK _ _ ?_
      refine wpAnyIn_ready (rs := [0, 3]) (by kernel_rfl) (by simp) ?_
      refine (AllReadyIn.cons rfl (fun K hK => ?_) (AllReadyIn.cons rfl (fun K hK => ?_) AllReadyIn.nil))
      ·
       go_simp
       refine hK _ _ ?_
       refine wpAnyIn_ready (rs := [3]) (by kernel_rfl) (by simp) ?_
       refine (AllReadyIn.cons rfl (fun K hK => ?_) AllReadyIn.nil)
       go_simp
       refine (CallsIn.inRound l (callsIn_wide.2 (HLT.out _ HIT1.out))).mono ?_
       rintro e w3 ⟨v3, rfl, hv3, hb3⟩
       obtain ⟨A3, c3, rfl, hc3, hC3⟩ := Kd.R_reads hv3
       have hR3 := Kd.R_below RO1.out hb3
       have hB3 := blk_below BO1.out hb3
       obtain ⟨v1, w4, hrun, hR4, hg4⟩ := run_app 22 hR3 hC3 (Nat.le_trans HSZ1.out hb3.size) HLEN.out
       obtain ⟨A4, c4, rfl⟩ := Kd.R_slice hR4
       have hB4 := blk_grown hB3 hg4 (Kd.R_ne hR3 hB3 (by decide))
       have HB3 := Lib.hid hb3
       have HRUN := Lib.hid hrun
       have R4 := Lib.hid hR4
       have G4 := Lib.hid hg4
       have q3 := blk_cell hB3 0
       have p4 := blk_cell hB4 0
       have f4 := fun j => blk_frozen hB4 j
       (try clear hrun)
       (try clear hR4)
       (try clear hg4)
       (try clear hv3)
       refine hK _ _ ?_
       refine wpAnyIn_ready (rs := [4]) (by kernel_rfl) (by simp) ?_
       refine (AllReadyIn.cons rfl (fun K hK => ?_) AllReadyIn.nil)
       refine opIn_append rfl (.tmp 22) (.tmp 25) 22 rfl vo' _ _ rfl rfl HRUN.out ?_
       refine hK _ _ ?_
       refine wpAnyIn_ready (rs := [5]) (by kernel_rfl) (by simp) ?_
       refine (AllReadyIn.cons rfl (fun K hK => ?_) AllReadyIn.nil)
       go_simp
       refine hK _ _ ?_
       refine wpAnyIn_done (by kernel_rfl) ?_ _
       have hM0 : DecM true w k p A c g vo' (outD P k) W W.drew := ⟨hvo, hRo, hI.wrd, hg, fun _ => Kd.R_mono (Kd.R_drew hRw) (fun _ _ => trivial), hI.t, hI.b.drew, KeepsOthers.drew _, rfl⟩
       have hM := DecM.app (wd' := true) hM0 (fun _ => Kd.R_drew hRw) HT.out hg3 hI.bx HB3.out R4.out G4.out
       rw [List.length_append] at hM
       clear hM0
       generalize hW5 : w4.setCell ⟨w.heap.size, 0, none⟩ (.slice A4 ((outD P k).length + (Fold.lettersF p.ahead.size p.ahead).length) c4) = W5 at hM ⊢
       have d5 := blk_cell hM.out 0
       have e5 := fun j => blk_frozen hM.out j
       have n5 := blk_cell hM.wrd 0
       have m5 := fun j => blk_frozen hM.wrd j
       have g5 := fun j => blk_cell hM.blk j
       obtain ⟨v2, w6, hrun2, hR6, hg6⟩ := run_app 22 hM.row (R_C (hM.word rfl)).1 hM.b.size HLEN2.out
       obtain ⟨A6, c6, rfl⟩ := Kd.R_slice hR6
       have hM7 := DecM.app (wd' := false) hM (fun h => by cases h) HT.out hg3 hI.bx (Below.refl _ _) hR6 hg6
       have d7 := blk_cell hM7.wrd 0
       have m7 := fun j => blk_frozen hM7.wrd j
       have hw6 := blk_grown hM.out hg6 (Kd.R_ne hM.row hM.out (by decide))
       have o6 := blk_cell hw6 0
       have p6 := fun j => blk_frozen hw6 j
       have HRUN2 := Lib.hid hrun2
       have hn6 := blk_grown hM.wrd hg6 (Kd.R_ne hM.row hM.wrd (by decide))
       have n6 := blk_cell hn6 0
       have r6 := fun j => blk_frozen hn6 j
       have HM7 := Lib.hid hM7
       clear d7 m7 hM7
       gi_wp2_with (gi_at_builtin; go_loud (refine listIn_append rfl (.tmp 27) (.tmp 29) 22 rfl _ _ _ rfl rfl HRUN2.out ?_))
       have hF : outD P (k + 1) = (outD P k ++ Fold.lettersF p.ahead.size p.ahead) ++ p.word := by
        rw [HST.out]
        unfold stepD
        rw [if_pos HTK.out]
       have h7 := HM7.out
       rw [← hF] at h7
       have hlen : (outD P (k + 1)).length = (outD P k).length + ((Fold.lettersF p.ahead.size p.ahead).length + p.word.length) := by rw [hF, List.length_append, List.length_append, Nat.add_assoc]
       rw [hlen] at h7
       have hf := DecM.fin h7 HT.out hI.sz hI.bx
       exact ⟨hf.1.from _, hf.2.1, hf.2.2⟩
      ·
       go_simp
       refine (CallsIn.inRound l (callsIn_wide.2 (HLT.out _ HIT1.out))).mono ?_
       rintro e w3 ⟨v3, rfl, hv3, hb3⟩
       obtain ⟨A3, c3, rfl, hc3, hC3⟩ := Kd.R_reads hv3
       have hR3 := Kd.R_below RO1.out hb3
       have hB3 := blk_below BO1.out hb3
       obtain ⟨v1, w4, hrun, hR4, hg4⟩ := run_app 22 hR3 hC3 (Nat.le_trans HSZ1.out hb3.size) HLEN.out
       obtain ⟨A4, c4, rfl⟩ := Kd.R_slice hR4
       have hB4 := blk_grown hB3 hg4 (Kd.R_ne hR3 hB3 (by decide))
       have HB3 := Lib.hid hb3
       have HRUN := Lib.hid hrun
       have R4 := Lib.hid hR4
       have G4 := Lib.hid hg4
       have q3 := blk_cell hB3 0
       have p4 := blk_cell hB4 0
       have f4 := fun j => blk_frozen hB4 j
       (try clear hrun)
       (try clear hR4)
       (try clear hg4)
       (try clear hv3)
       refine hK _ _ ?_
       refine wpAnyIn_ready (rs := [0]) (by kernel_rfl) (by simp) ?_
       refine (AllReadyIn.cons rfl (fun K hK => ?_) AllReadyIn.nil)
       go_simp
       refine hK _ _ ?_
       refine wpAnyIn_ready (rs := [4]) (by kernel_rfl) (by simp) ?_
       refine (AllReadyIn.cons rfl (fun K hK => ?_) AllReadyIn.nil)
       refine opIn_append rfl (.tmp 22) (.tmp 25) 22 rfl vo' _ _ rfl rfl HRUN.out ?_
       refine hK _ _ ?_
       refine wpAnyIn_ready (rs := [5]) (by kernel_rfl) (by simp) ?_
       refine (AllReadyIn.cons rfl (fun K hK => ?_) AllReadyIn.nil)
       go_simp
       refine hK _ _ ?_
       refine wpAnyIn_done (by kernel_rfl) ?_ _
       have hM0 : DecM true w k p A c g vo' (outD P k) W W.drew := ⟨hvo, hRo, hI.wrd, hg, fun _ => Kd.R_mono (Kd.R_drew hRw) (fun _ _ => trivial), hI.t, hI.b.drew, KeepsOthers.drew _, rfl⟩
       have hM := DecM.app (wd' := true) hM0 (fun _ => Kd.R_drew hRw) HT.out hg3 hI.bx HB3.out R4.out G4.out
       rw [List.length_append] at hM
       clear hM0
       generalize hW5 : w4.setCell ⟨w.heap.size, 0, none⟩ (.slice A4 ((outD P k).length + (Fold.lettersF p.ahead.size p.ahead).length) c4) = W5 at hM ⊢
       have d5 := blk_cell hM.out 0
       have e5 := fun j => blk_frozen hM.out j
       have n5 := blk_cell hM.wrd 0
       have m5 := fun j => blk_frozen hM.wrd j
       have g5 := fun j => blk_cell hM.blk j
       obtain ⟨v2, w6, hrun2, hR6, hg6⟩ := run_app 22 hM.row (R_C (hM.word rfl)).1 hM.b.size HLEN2.out
       obtain ⟨A6, c6, rfl⟩ := Kd.R_slice hR6
       have hM7 := DecM.app (wd' := false) hM (fun h => by cases h) HT.out hg3 hI.bx (Below.refl _ _) hR6 hg6
       have d7 := blk_cell hM7.wrd 0
       have m7 := fun j => blk_frozen hM7.wrd j
       have hw6 := blk_grown hM.out hg6 (Kd.R_ne hM.row hM.out (by decide))
       have o6 := blk_cell hw6 0
       have p6 := fun j => blk_frozen hw6 j
       have HRUN2 := Lib.hid hrun2
       have hn6 := blk_grown hM.wrd hg6 (Kd.R_ne hM.row hM.wrd (by decide))
       have n6 := blk_cell hn6 0
       have r6 := fun j => blk_frozen hn6 j
       have HM7 := Lib.hid hM7
       clear d7 m7 hM7
       gi_wp2_with (gi_at_builtin; go_loud (refine listIn_append rfl (.tmp 27) (.tmp 29) 22 rfl _ _ _ rfl rfl HRUN2.out ?_))
       have hF : outD P (k + 1) = (outD P k ++ Fold.lettersF p.ahead.size p.ahead) ++ p.word := by
        rw [HST.out]
        unfold stepD
        rw [if_pos HTK.out]
       have h7 := HM7.out
       rw [← hF] at h7
       have hlen : (outD P (k + 1)).length = (outD P k).length + ((Fold.lettersF p.ahead.size p.ahead).length + p.word.length) := by rw [hF, List.length_append, List.length_append, Nat.add_assoc]
       rw [hlen] at h7
       have hf := DecM.fin h7 HT.out hI.sz hI.bx
       exact ⟨hf.1.from _, hf.2.1, hf.2.2⟩
   | true =>
    obtain ⟨tr, htr⟩ : ∃ tr : ByteArray, blanksB p.ahead = tr := ⟨_, rfl⟩
    have HTR2 := Lib.hid (fun W' => by have h := HTR.out W'; rw [show (⟨(Lib.trimS p.ahead.data.toList [32, 9]).toArray⟩ : ByteArray) = tr from htr] at h; exact h)
    cases etr : tr.toList.isEmpty with
    | false =>
     have HTK := Lib.hid (show takesB k p = true by unfold takesB; rw [hpi, htr, etr]; simp)
     have HLEN := Lib.hid (show (outD P k).length + (Fold.lettersF p.ahead.size p.ahead).length ≤ 1099511627776 by
      have h := hb2
      rw [outD_succ hpk] at h
      unfold stepD at h
      rw [if_pos HTK.out, List.length_append, List.length_append] at h
      omega)
     have HLEN2 := Lib.hid (show (outD P k ++ Fold.lettersF p.ahead.size p.ahead).length + p.word.length ≤ 1099511627776 by
      have h := hb2
      rw [outD_succ hpk] at h
      unfold stepD at h
      rw [if_pos HTK.out, List.length_append] at h
      omega)
     gi_wp2_with (gi_at_call 35; refine (CallsIn.inRound l (callsIn_wide.2 (HTR2.out _))).mono ?_; rintro e w1 ⟨rfl, hb1⟩; have w1H := Lib.hid hb1; have w1RO := Lib.hid (Kd.R_below hRo hb1); have w1BO := Lib.hid (blk_below hvo hb1); have w1T := Lib.hid (tabs_below hI.t hb1); have w1B := Lib.hid (hI.b.trans (hb1.mono hI.b.size)); have w1G := Lib.hid (blk_below hg hb1); clear hb1)
     have RO1 := Lib.hid (Kd.R_drew w1RO.out)
     have BO1 := Lib.hid (show w1.drew.heap[w.heap.size]? = some (.cells #[vo'] 22 (0, 0)) from w1BO.out)
     have HIT1 := Lib.hid (show Tabs w1.drew from w1T.out)
     have HSZ1 := Lib.hid (show w.heap.size ≤ w1.drew.heap.size from w1B.out.size)
     have co1 : w1.drew.cell? ⟨w.heap.size, 0, none⟩ = some vo' := blk_cell BO1.out 0
     have cg1 := fun j => blk_cell (show w1.drew.heap[g]? = _ from w1G.out) j
     refine wpIn_region_any (by kernel_rfl) ?_
     (try (change wpAnyIn _ _ _ _ _ _ _ _ _ (World.drew _)))
     refine wpAnyIn_ready (rs := [0, 1]) (by kernel_rfl) (by simp) ?_
     refine (AllReadyIn.cons rfl (fun K hK => ?_) (AllReadyIn.cons rfl (fun K hK => ?_) AllReadyIn.nil))
     ·
      go_simp
      refine hK _ _ ?_
      refine wpAnyIn_ready (rs := [1]) (by kernel_rfl) (by simp) ?_
      refine (AllReadyIn.cons rfl (fun K hK => ?_) AllReadyIn.nil)
      go_simp
      refine hK _ _ ?_
      refine wpAnyIn_ready (rs := [2]) (by kernel_rfl) (by simp) ?_
      refine (AllReadyIn.cons rfl (fun K hK => ?_) AllReadyIn.nil)
      go_simp
      refine hK _ _ ?_
      refine wpAnyIn_ready (rs := [3]) (by kernel_rfl) (by simp) ?_
      refine (AllReadyIn.cons rfl (fun K hK => ?_) AllReadyIn.nil)
      go_simp
      refine (CallsIn.inRound l (callsIn_wide.2 (HLT.out _ HIT1.out))).mono ?_
      rintro e w3 ⟨v3, rfl, hv3, hb3⟩
      obtain ⟨A3, c3, rfl, hc3, hC3⟩ := Kd.R_reads hv3
      have hR3 := Kd.R_below RO1.out hb3
      have hB3 := blk_below BO1.out hb3
      obtain ⟨v1, w4, hrun, hR4, hg4⟩ := run_app 22 hR3 hC3 (Nat.le_trans HSZ1.out hb3.size) HLEN.out
      obtain ⟨A4, c4, rfl⟩ := Kd.R_slice hR4
      have hB4 := blk_grown hB3 hg4 (Kd.R_ne hR3 hB3 (by decide))
      have HB3 := Lib.hid hb3
      have HRUN := Lib.hid hrun
      have R4 := Lib.hid hR4
      have G4 := Lib.hid hg4
      have q3 := blk_cell hB3 0
      have p4 := blk_cell hB4 0
      have f4 := fun j => blk_frozen hB4 j
      (try clear hrun)
      (try clear hR4)
      (try clear hg4)
      (try clear hv3)
      refine hK _ _ ?_
      refine wpAnyIn_ready (rs := [4]) (by kernel_rfl) (by simp) ?_
      refine (AllReadyIn.cons rfl (fun K hK => ?_) AllReadyIn.nil)
      refine opIn_append rfl (.tmp 22) (.tmp 25) 22 rfl vo' _ _ rfl rfl HRUN.out ?_
      refine hK _ _ ?_
      refine wpAnyIn_ready (rs := [5]) (by kernel_rfl) (by simp) ?_
      refine (AllReadyIn.cons rfl (fun K hK => ?_) AllReadyIn.nil)
      go_simp
      refine hK _ _ ?_
      refine wpAnyIn_done (by kernel_rfl) ?_ _
      have hM0 : DecM true w k p A c g vo' (outD P k) W w1.drew := ⟨w1BO.out, w1RO.out, (show w1.heap[w.heap.size + 1]? = _ from blk_below hI.wrd w1H.out), w1G.out, fun _ => Kd.R_mono (Kd.R_drew (Kd.R_below hRw w1H.out)) (fun _ _ => trivial), w1T.out, w1B.out.drew, (keeps_below w1H.out).trans (KeepsOthers.drew _), w1H.out.block _ (by have := hI.sz; omega)⟩
      have hM := DecM.app (wd' := true) hM0 (fun _ => Kd.R_drew (Kd.R_below hRw w1H.out)) HT.out hg3 hI.bx HB3.out R4.out G4.out
      rw [List.length_append] at hM
      clear hM0
      generalize hW5 : w4.setCell ⟨w.heap.size, 0, none⟩ (.slice A4 ((outD P k).length + (Fold.lettersF p.ahead.size p.ahead).length) c4) = W5 at hM ⊢
      have d5 := blk_cell hM.out 0
      have e5 := fun j => blk_frozen hM.out j
      have n5 := blk_cell hM.wrd 0
      have m5 := fun j => blk_frozen hM.wrd j
      have g5 := fun j => blk_cell hM.blk j
      obtain ⟨v2, w6, hrun2, hR6, hg6⟩ := run_app 22 hM.row (R_C (hM.word rfl)).1 hM.b.size HLEN2.out
      obtain ⟨A6, c6, rfl⟩ := Kd.R_slice hR6
      have hM7 := DecM.app (wd' := false) hM (fun h => by cases h) HT.out hg3 hI.bx (Below.refl _ _) hR6 hg6
      have d7 := blk_cell hM7.wrd 0
      have m7 := fun j => blk_frozen hM7.wrd j
      have hw6 := blk_grown hM.out hg6 (Kd.R_ne hM.row hM.out (by decide))
      have o6 := blk_cell hw6 0
      have p6 := fun j => blk_frozen hw6 j
      have HRUN2 := Lib.hid hrun2
      have hn6 := blk_grown hM.wrd hg6 (Kd.R_ne hM.row hM.wrd (by decide))
      have n6 := blk_cell hn6 0
      have r6 := fun j => blk_frozen hn6 j
      have HM7 := Lib.hid hM7
      clear d7 m7 hM7
      gi_wp2_with (gi_at_builtin; go_loud (refine listIn_append rfl (.tmp 27) (.tmp 29) 22 rfl _ _ _ rfl rfl HRUN2.out ?_))
      have hF : outD P (k + 1) = (outD P k ++ Fold.lettersF p.ahead.size p.ahead) ++ p.word := by
       rw [HST.out]
       unfold stepD
       rw [if_pos HTK.out]
      have h7 := HM7.out
      rw [← hF] at h7
      have hlen : (outD P (k + 1)).length = (outD P k).length + ((Fold.lettersF p.ahead.size p.ahead).length + p.word.length) := by rw [hF, List.length_append, List.length_append, Nat.add_assoc]
      rw [hlen] at h7
      have hf := DecM.fin h7 HT.out hI.sz hI.bx
      exact ⟨hf.1.from _, hf.2.1, hf.2.2⟩
     ·
      go_simp
      refine hK _ _ ?_
      refine wpAnyIn_ready (rs := [0, 2]) (by kernel_rfl) (by simp) ?_
      refine (AllReadyIn.cons rfl (fun K hK => ?_) (AllReadyIn.cons rfl (fun K hK => ?_) AllReadyIn.nil))
      ·
       go_simp
       refine hK _ _ ?_
       refine wpAnyIn_ready (rs := [2]) (by kernel_rfl) (by simp) ?_
       refine (AllReadyIn.cons rfl (fun K hK => ?_) AllReadyIn.nil)
       go_simp
       refine hK _ _ ?_
       refine wpAnyIn_ready (rs := [3]) (by kernel_rfl) (by simp) ?_
       refine (AllReadyIn.cons rfl (fun K hK => ?_) AllReadyIn.nil)
       go_simp
       refine (CallsIn.inRound l (callsIn_wide.2 (HLT.out _ HIT1.out))).mono ?_
       rintro e w3 ⟨v3, rfl, hv3, hb3⟩
       obtain ⟨A3, c3, rfl, hc3, hC3⟩ := Kd.R_reads hv3
       have hR3 := Kd.R_below RO1.out hb3
       have hB3 := blk_below BO1.out hb3
       obtain ⟨v1, w4, hrun, hR4, hg4⟩ := run_app 22 hR3 hC3 (Nat.le_trans HSZ1.out hb3.size) HLEN.out
       obtain ⟨A4, c4, rfl⟩ := Kd.R_slice hR4
       have hB4 := blk_grown hB3 hg4 (Kd.R_ne hR3 hB3 (by decide))
       have HB3 := Lib.hid hb3
       have HRUN := Lib.hid hrun
       have R4 := Lib.hid hR4
       have G4 := Lib.hid hg4
       have q3 := blk_cell hB3 0
       have p4 := blk_cell hB4 0
       have f4 := fun j => blk_frozen hB4 j
       (try clear hrun)
       (try clear hR4)
       (try clear hg4)
       (try clear hv3)
       refine hK _ _ ?_
       refine wpAnyIn_ready (rs := [4]) (by kernel_rfl) (by simp) ?_
       refine (AllReadyIn.cons rfl (fun K hK => ?_) AllReadyIn.nil)
       refine opIn_append rfl (.tmp 22) (.tmp 25) 22 rfl vo' _ _ rfl rfl HRUN.out ?_
       refine hK _ _ ?_
       refine wpAnyIn_ready (rs := [5]) (by kernel_rfl) (by simp) ?_
       refine (AllReadyIn.cons rfl (fun K hK => ?_) AllReadyIn.nil)
       go_simp
       refine hK _ _ ?_
       refine wpAnyIn_done (by kernel_rfl) ?_ _
       have hM0 : DecM true w k p A c g vo' (outD P k) W w1.drew := ⟨w1BO.out, w1RO.out, (show w1.heap[w.heap.size + 1]? = _ from blk_below hI.wrd w1H.out), w1G.out, fun _ => Kd.R_mono (Kd.R_drew (Kd.R_below hRw w1H.out)) (fun _ _ => trivial), w1T.out, w1B.out.drew, (keeps_below w1H.out).trans (KeepsOthers.drew _), w1H.out.block _ (by have := hI.sz; omega)⟩
       have hM := DecM.app (wd' := true) hM0 (fun _ => Kd.R_drew (Kd.R_below hRw w1H.out)) HT.out hg3 hI.bx HB3.out R4.out G4.out
       rw [List.length_append] at hM
       clear hM0
       generalize hW5 : w4.setCell ⟨w.heap.size, 0, none⟩ (.slice A4 ((outD P k).length + (Fold.lettersF p.ahead.size p.ahead).length) c4) = W5 at hM ⊢
       have d5 := blk_cell hM.out 0
       have e5 := fun j => blk_frozen hM.out j
       have n5 := blk_cell hM.wrd 0
       have m5 := fun j => blk_frozen hM.wrd j
       have g5 := fun j => blk_cell hM.blk j
       obtain ⟨v2, w6, hrun2, hR6, hg6⟩ := run_app 22 hM.row (R_C (hM.word rfl)).1 hM.b.size HLEN2.out
       obtain ⟨A6, c6, rfl⟩ := Kd.R_slice hR6
       have hM7 := DecM.app (wd' := false) hM (fun h => by cases h) HT.out hg3 hI.bx (Below.refl _ _) hR6 hg6
       have d7 := blk_cell hM7.wrd 0
       have m7 := fun j => blk_frozen hM7.wrd j
       have hw6 := blk_grown hM.out hg6 (Kd.R_ne hM.row hM.out (by decide))
       have o6 := blk_cell hw6 0
       have p6 := fun j => blk_frozen hw6 j
       have HRUN2 := Lib.hid hrun2
       have hn6 := blk_grown hM.wrd hg6 (Kd.R_ne hM.row hM.wrd (by decide))
       have n6 := blk_cell hn6 0
       have r6 := fun j => blk_frozen hn6 j
       have HM7 := Lib.hid hM7
       clear d7 m7 hM7
       gi_wp2_with (gi_at_builtin; go_loud (refine listIn_append rfl (.tmp 27) (.tmp 29) 22 rfl _ _ _ rfl rfl HRUN2.out ?_))
       have hF : outD P (k + 1) = (outD P k ++ Fold.lettersF p.ahead.size p.ahead) ++ p.word := by
        rw [HST.out]
        unfold stepD
        rw [if_pos HTK.out]
       have h7 := HM7.out
       rw [← hF] at h7
       have hlen : (outD P (k + 1)).length = (outD P k).length + ((Fold.lettersF p.ahead.size p.ahead).length + p.word.length) := by rw [hF, List.length_append, List.length_append, Nat.add_assoc]
       rw [hlen] at h7
       have hf := DecM.fin h7 HT.out hI.sz hI.bx
       exact ⟨hf.1.from _, hf.2.1, hf.2.2⟩
      ·
       go_simp
       refine hK _ _ ?_
       refine wpAnyIn_ready (rs := [0, 3]) (by kernel_rfl) (by simp) ?_
       refine (AllReadyIn.cons rfl (fun K hK => ?_) (AllReadyIn.cons rfl (fun K hK => ?_) AllReadyIn.nil))
       ·
        go_simp
        refine hK _ _ ?_
        refine wpAnyIn_ready (rs := [3]) (by kernel_rfl) (by simp) ?_
        refine (AllReadyIn.cons rfl (fun K hK => ?_) AllReadyIn.nil)
        go_simp
        refine (CallsIn.inRound l (callsIn_wide.2 (HLT.out _ HIT1.out))).mono ?_
        rintro e w3 ⟨v3, rfl, hv3, hb3⟩
        obtain ⟨A3, c3, rfl, hc3, hC3⟩ := Kd.R_reads hv3
        have hR3 := Kd.R_below RO1.out hb3
        have hB3 := blk_below BO1.out hb3
        obtain ⟨v1, w4, hrun, hR4, hg4⟩ := run_app 22 hR3 hC3 (Nat.le_trans HSZ1.out hb3.size) HLEN.out
        obtain ⟨A4, c4, rfl⟩ := Kd.R_slice hR4
        have hB4 := blk_grown hB3 hg4 (Kd.R_ne hR3 hB3 (by decide))
        have HB3 := Lib.hid hb3
        have HRUN := Lib.hid hrun
        have R4 := Lib.hid hR4
        have G4 := Lib.hid hg4
        have q3 := blk_cell hB3 0
        have p4 := blk_cell hB4 0
        have f4 := fun j => blk_frozen hB4 j
        (try clear hrun)
        (try clear hR4)
        (try clear hg4)
        (try clear hv3)
        refine hK _ _ ?_
        refine wpAnyIn_ready (rs := [4]) (by kernel_rfl) (by simp) ?_
        refine (AllReadyIn.cons rfl (fun K hK => ?_) AllReadyIn.nil)
        refine opIn_append rfl (.tmp 22) (.tmp 25) 22 rfl vo' _ _ rfl rfl HRUN.out ?_
        refine hK _ _ ?_
        refine wpAnyIn_ready (rs := [5]) (by kernel_rfl) (by simp) ?_
        refine (AllReadyIn.cons rfl (fun K hK => ?_) AllReadyIn.nil)
        go_simp
        refine hK _ _ ?_
        refine wpAnyIn_done (by kernel_rfl) ?_ _
        have hM0 : DecM true w k p A c g vo' (outD P k) W w1.drew := ⟨w1BO.out, w1RO.out, (show w1.heap[w.heap.size + 1]? = _ from blk_below hI.wrd w1H.out), w1G.out, fun _ => Kd.R_mono (Kd.R_drew (Kd.R_below hRw w1H.out)) (fun _ _ => trivial), w1T.out, w1B.out.drew, (keeps_below w1H.out).trans (KeepsOthers.drew _), w1H.out.block _ (by have := hI.sz; omega)⟩
        have hM := DecM.app (wd' := true) hM0 (fun _ => Kd.R_drew (Kd.R_below hRw w1H.out)) HT.out hg3 hI.bx HB3.out R4.out G4.out
        rw [List.length_append] at hM
        clear hM0
        generalize hW5 : w4.setCell ⟨w.heap.size, 0, none⟩ (.slice A4 ((outD P k).length + (Fold.lettersF p.ahead.size p.ahead).length) c4) = W5 at hM ⊢
        have d5 := blk_cell hM.out 0
        have e5 := fun j => blk_frozen hM.out j
        have n5 := blk_cell hM.wrd 0
        have m5 := fun j => blk_frozen hM.wrd j
        have g5 := fun j => blk_cell hM.blk j
        obtain ⟨v2, w6, hrun2, hR6, hg6⟩ := run_app 22 hM.row (R_C (hM.word rfl)).1 hM.b.size HLEN2.out
        obtain ⟨A6, c6, rfl⟩ := Kd.R_slice hR6
        have hM7 := DecM.app (wd' := false) hM (fun h => by cases h) HT.out hg3 hI.bx (Below.refl _ _) hR6 hg6
        have d7 := blk_cell hM7.wrd 0
        have m7 := fun j => blk_frozen hM7.wrd j
        have hw6 := blk_grown hM.out hg6 (Kd.R_ne hM.row hM.out (by decide))
        have o6 := blk_cell hw6 0
        have p6 := fun j => blk_frozen hw6 j
        have HRUN2 := Lib.hid hrun2
        have hn6 := blk_grown hM.wrd hg6 (Kd.R_ne hM.row hM.wrd (by decide))
        have n6 := blk_cell hn6 0
        have r6 := fun j => blk_frozen hn6 j
        have HM7 := Lib.hid hM7
        clear d7 m7 hM7
        gi_wp2_with (gi_at_builtin; go_loud (refine listIn_append rfl (.tmp 27) (.tmp 29) 22 rfl _ _ _ rfl rfl HRUN2.out ?_))
        have hF : outD P (k + 1) = (outD P k ++ Fold.lettersF p.ahead.size p.ahead) ++ p.word := by
         rw [HST.out]
         unfold stepD
         rw [if_pos HTK.out]
        have h7 := HM7.out
        rw [← hF] at h7
        have hlen : (outD P (k + 1)).length = (outD P k).length + ((Fold.lettersF p.ahead.size p.ahead).length + p.word.length) := by rw [hF, List.length_append, List.length_append, Nat.add_assoc]
        rw [hlen] at h7
        have hf := DecM.fin h7 HT.out hI.sz hI.bx
        exact ⟨hf.1.from _, hf.2.1, hf.2.2⟩
       ·
        go_simp
        refine (CallsIn.inRound l (callsIn_wide.2 (HLT.out _ HIT1.out))).mono ?_
        rintro e w3 ⟨v3, rfl, hv3, hb3⟩
        obtain ⟨A3, c3, rfl, hc3, hC3⟩ := Kd.R_reads hv3
        have hR3 := Kd.R_below RO1.out hb3
        have hB3 := blk_below BO1.out hb3
        obtain ⟨v1, w4, hrun, hR4, hg4⟩ := run_app 22 hR3 hC3 (Nat.le_trans HSZ1.out hb3.size) HLEN.out
        obtain ⟨A4, c4, rfl⟩ := Kd.R_slice hR4
        have hB4 := blk_grown hB3 hg4 (Kd.R_ne hR3 hB3 (by decide))
        have HB3 := Lib.hid hb3
        have HRUN := Lib.hid hrun
        have R4 := Lib.hid hR4
        have G4 := Lib.hid hg4
        have q3 := blk_cell hB3 0
        have p4 := blk_cell hB4 0
        have f4 := fun j => blk_frozen hB4 j
        (try clear hrun)
        (try clear hR4)
        (try clear hg4)
        (try clear hv3)
        refine hK _ _ ?_
        refine wpAnyIn_ready (rs := [0]) (by kernel_rfl) (by simp) ?_
        refine (AllReadyIn.cons rfl (fun K hK => ?_) AllReadyIn.nil)
        go_simp
        refine hK _ _ ?_
        refine wpAnyIn_ready (rs := [4]) (by kernel_rfl) (by simp) ?_
        refine (AllReadyIn.cons rfl (fun K hK => ?_) AllReadyIn.nil)
        refine opIn_append rfl (.tmp 22) (.tmp 25) 22 rfl vo' _ _ rfl rfl HRUN.out ?_
        refine hK _ _ ?_
        refine wpAnyIn_ready (rs := [5]) (by kernel_rfl) (by simp) ?_
        refine (AllReadyIn.cons rfl (fun K hK => ?_) AllReadyIn.nil)
        go_simp
        refine hK _ _ ?_
        refine wpAnyIn_done (by kernel_rfl) ?_ _
        have hM0 : DecM true w k p A c g vo' (outD P k) W w1.drew := ⟨w1BO.out, w1RO.out, (show w1.heap[w.heap.size + 1]? = _ from blk_below hI.wrd w1H.out), w1G.out, fun _ => Kd.R_mono (Kd.R_drew (Kd.R_below hRw w1H.out)) (fun _ _ => trivial), w1T.out, w1B.out.drew, (keeps_below w1H.out).trans (KeepsOthers.drew _), w1H.out.block _ (by have := hI.sz; omega)⟩
        have hM := DecM.app (wd' := true) hM0 (fun _ => Kd.R_drew (Kd.R_below hRw w1H.out)) HT.out hg3 hI.bx HB3.out R4.out G4.out
        rw [List.length_append] at hM
        clear hM0
        generalize hW5 : w4.setCell ⟨w.heap.size, 0, none⟩ (.slice A4 ((outD P k).length + (Fold.lettersF p.ahead.size p.ahead).length) c4) = W5 at hM ⊢
        have d5 := blk_cell hM.out 0
        have e5 := fun j => blk_frozen hM.out j
        have n5 := blk_cell hM.wrd 0
        have m5 := fun j => blk_frozen hM.wrd j
        have g5 := fun j => blk_cell hM.blk j
        obtain ⟨v2, w6, hrun2, hR6, hg6⟩ := run_app 22 hM.row (R_C (hM.word rfl)).1 hM.b.size HLEN2.out
        obtain ⟨A6, c6, rfl⟩ := Kd.R_slice hR6
        have hM7 := DecM.app (wd' := false) hM (fun h => by cases h) HT.out hg3 hI.bx (Below.refl _ _) hR6 hg6
        have d7 := blk_cell hM7.wrd 0
        have m7 := fun j => blk_frozen hM7.wrd j
        have hw6 := blk_grown hM.out hg6 (Kd.R_ne hM.row hM.out (by decide))
        have o6 := blk_cell hw6 0
        have p6 := fun j => blk_frozen hw6 j
        have HRUN2 := Lib.hid hrun2
        have hn6 := blk_grown hM.wrd hg6 (Kd.R_ne hM.row hM.wrd (by decide))
        have n6 := blk_cell hn6 0
        have r6 := fun j => blk_frozen hn6 j
        have HM7 := Lib.hid hM7
        clear d7 m7 hM7
        gi_wp2_with (gi_at_builtin; go_loud (refine listIn_append rfl (.tmp 27) (.tmp 29) 22 rfl _ _ _ rfl rfl HRUN2.out ?_))
        have hF : outD P (k + 1) = (outD P k ++ Fold.lettersF p.ahead.size p.ahead) ++ p.word := by
         rw [HST.out]
         unfold stepD
         rw [if_pos HTK.out]
        have h7 := HM7.out
        rw [← hF] at h7
        have hlen : (outD P (k + 1)).length = (outD P k).length + ((Fold.lettersF p.ahead.size p.ahead).length + p.word.length) := by rw [hF, List.length_append, List.length_append, Nat.add_assoc]
        rw [hlen] at h7
        have hf := DecM.fin h7 HT.out hI.sz hI.bx
        exact ⟨hf.1.from _, hf.2.1, hf.2.2⟩
    | true =>
     have HTK := Lib.hid (show ¬ takesB k p = true by unfold takesB; rw [hpi, htr, etr, decide_eq_false hk0]; simp)
     have HLEN2 := Lib.hid (show (outD P k).length + p.word.length ≤ 1099511627776 by
      have h := hb2
      rw [outD_succ hpk] at h
      unfold stepD at h
      rw [if_neg HTK.out, List.length_append] at h
      omega)
     obtain ⟨Ao, co_, rfl⟩ := Kd.R_slice hRo
     gi_wp2_with (first | (gi_at_call 35; refine (CallsIn.inRound l (callsIn_wide.2 (HTR2.out _))).mono ?_; rintro e w1 ⟨rfl, hb1⟩; have hM : DecM true w k p A c g (.slice Ao (outD P k).length co_) (outD P k) W w1 := ⟨blk_below hvo hb1, Kd.R_below hRo hb1, blk_below hI.wrd hb1, blk_below hg hb1, fun _ => Kd.R_mono (Kd.R_below hRw hb1) (fun _ _ => trivial), tabs_below hI.t hb1, hI.b.trans (hb1.mono hI.b.size), keeps_below hb1, hb1.block _ (by have := hI.sz; omega)⟩; have d5 := blk_cell hM.out 0; have e5 := fun j => blk_frozen hM.out j; have n5 := blk_cell hM.wrd 0; have m5 := fun j => blk_frozen hM.wrd j; have g5 := fun j => blk_cell hM.blk j; obtain ⟨v2, w6, hrun2, hR6, hg6⟩ := run_app 22 hM.row (R_C (hM.word rfl)).1 hM.b.size HLEN2.out; obtain ⟨A6, c6, rfl⟩ := Kd.R_slice hR6; have HM7 := Lib.hid (DecM.app (wd' := false) hM (fun h => by cases h) HT.out hg3 hI.bx (Below.refl _ _) hR6 hg6); have hw6 := blk_grown hM.out hg6 (Kd.R_ne hM.row hM.out (by decide)); have o6 := blk_cell hw6 0; have p6 := fun j => blk_frozen hw6 j; have HRUN2 := Lib.hid hrun2; have hn6 := blk_grown hM.wrd hg6 (Kd.R_ne hM.row hM.wrd (by decide)); have n6 := blk_cell hn6 0; have r6 := fun j => blk_frozen hn6 j) | (gi_at_builtin; refine listIn_append rfl (.tmp 27) (.tmp 29) 22 rfl _ _ _ rfl rfl HRUN2.out ?_))
     have hF : outD P (k + 1) = outD P k ++ p.word := by
      rw [HST.out]
      unfold stepD
      rw [if_neg HTK.out]
     have h7 := HM7.out
     rw [← hF] at h7
     have hlen : (outD P (k + 1)).length = (outD P k).length + p.word.length := by rw [hF, List.length_append]
     rw [hlen] at h7
     have hf := DecM.fin h7 HT.out hI.sz hI.bx
     exact ⟨hf.1.from _, hf.2.1, hf.2.2⟩
 case done =>
  rintro D W hD hI hK
  obtain ⟨v, h1, h2⟩ := hI.out
  have c0 := blk_cell h1 0
  gi_wp2
  refine ⟨by simp, .inl ⟨_, _, rfl, run_takeDeferred hK, ?_⟩⟩
  have hofs : OffRow W (some D) := fun r e => by cases e; exact ⟨_, hK, rfl⟩
  have hg := grownBy_putObj' W D (.deferred none)
  refine ⟨_, results_tmp rfl _ _ _, v, rfl, ?_, hI.b.grown hg hI.b.size (fun r e => by cases e; omega)⟩
  rw [← HF1.out]
  exact own_R hg hofs h2
end Go.Proofs.YtigcbajcifhinaaGreatDoor.Txt
namespace Go.Proofs.YtigcbajcifhinaaGreatDoor.V
open Go.RowKit Go.Proofs.YtigcbajcifhinaaGreatDoorW.PrintWords Go.Proofs.YtigcbajcifhinaaGreatDoorW.PrintLast Go.Proofs.YtigcbajcifhinaaGreatDoorW.PrintMore
attribute [local go_sem] max2_int min2_int max_two min_two max_three min_three max_four min_four
theorem word_Decode.ok (k : Nat) : Go.Proofs.YtigcbajcifhinaaGreatDoor.Txt.OneOK (fun a => word_One.f k a) := fun a l rest why w hT h => word_One.calls k a l rest why w hT h
def word_Decode.f (k : Nat) (a0 : ByteArray) : Option (List Int) := Go.Proofs.YtigcbajcifhinaaGreatDoor.Txt.decodeF (fun a => word_One.f k a) a0
theorem word_Decode.mono : ∀ a0 k, LeO (word_Decode.f k a0) (word_Decode.f (k + 1) a0) := fun a0 k => Go.Proofs.YtigcbajcifhinaaGreatDoor.Txt.decodeF_le (fun a => word_One.mono a k) a0
theorem word_Decode.calls (k : Nat) (a0 : ByteArray) (r : List Int) (w : World) (hT : Tabs w) (h : word_Decode.f k a0 = some r) :
  Calls Tryz.prog 18 #[.string a0] w fun e w' => ∃ v0_ : Value, e = .returned v0_ ∧ Kd.R (Kd.int .i32) 21 w' w.heap.size (fun _ => True) v0_ r ∧ Below w.heap.size w w' :=
 Go.Proofs.YtigcbajcifhinaaGreatDoor.Txt.decode_any (fun a => word_One.f k a) (word_Decode.ok k) a0 r w hT h
def head_Find.l0 : Nat → ByteArray → List (S43) → Int → Int → Option (ByteArray × Int)
 | 0, _, _, _, _ => none
 | k + 1, x1, x8, x9, x10 => if x10 < x9 then (if 0 ≤ x10 then (if x10 < (x8.length : Int) then ((head_Like.f k ((rd_T43 x8 x10).f0) x1).bind fun t171 => (if t171 = true then (some ((rd_T43 x8 x10).f1, 0)) else (head_Find.l0 k x1 x8 x9 (wrap64 (x10 + 1))))) else (none)) else (none)) else (some ((⟨#[]⟩ : ByteArray), 3))
def head_Find.f (k : Nat) (l0 : List (S43)) (a1 : ByteArray) : Option (ByteArray × Int) := head_Find.l0 k a1 l0 (l0.length : Int) 0
theorem head_Find.mono_l : ∀ k, (∀ y0 y1 y2 y3, LeO (head_Find.l0 k y0 y1 y2 y3) (head_Find.l0 (k + 1) y0 y1 y2 y3))
 | 0 => fun _ _ _ _ r h => by simp [head_Find.l0] at h
 | k + 1 => by
  have ih0 := head_Find.mono_l k
  ·
   intro y0 y1 y2 y3
   unfold head_Find.l0
   repeat' (with_reducible first | apply ih0 | apply head_Like.mono | apply LeO.refl | exact LeO.none _ | apply LeO.ite | refine LeO.bind ?_ fun _ => ?_)
theorem head_Find.mono : ∀ a0 a1 k, LeO (head_Find.f k a0 a1) (head_Find.f (k + 1) a0 a1) := by
 intro a0 a1 k
 have ih0 := head_Find.mono_l k
 unfold head_Find.f
 repeat' (with_reducible first | apply ih0 | apply head_Like.mono | apply LeO.refl | exact LeO.none _ | apply LeO.ite | refine LeO.bind ?_ fun _ => ?_)
theorem head_Find.calls (k : Nat) (A0 : Option Addr) (c0 : Nat) (l0 : List (S43)) (a1 : ByteArray) (r1 : ByteArray) (r2 : Int) (w : World) (hr0 : Kd.C k43 w A0 l0.length l0) (hc0 : l0.length ≤ c0) (h : head_Find.f k l0 a1 = some (r1, r2)) :
  Calls Tryz.prog 19 #[.slice A0 l0.length c0, .string a1] w fun e w' => e = .returned (.tuple #[.string r1, .int .i64 r2]) ∧ Below w.heap.size w w' := by
 have hu43 := Tryz.underlying43
 have HR0 := Aside0.mk hr0
 have HC0 := Aside0.mk hc0
 clear hr0 hc0
 have HB := Aside0.mk (Below.refl w.heap.size w)
 have H : (head_Find.l0 k a1 l0 (l0.length : Int) 0) = some (r1, r2) := h
 clear h
 have H' := Aside0.mk H
 clear H
 go_enter Tryz.func19, Tryz.ntmps19
 go_wp2
 go_loopg [10] k (fun kq v10 w' => ∃ (x10_1 : Int), v10 = .int .i64 x10_1 ∧ Aside0 (head_Find.l0 kq a1 l0 (l0.length : Int) x10_1 = some (r1, r2)) ∧ Aside0 (kq ≤ k) ∧ Aside0 (Below w.heap.size w w'))
 case atStart => exact ⟨(0), (by first | rfl | (simp [*]; done)), H', ⟨Nat.le_refl _⟩, ⟨LX HB⟩⟩
 case round =>
  clear H'
  obtain ⟨x10_1, rfl, HA, HK1, HB⟩ := hrel
  cases gk with
  | zero => exact absurd HA.out (by simp [head_Find.l0])
  | succ k1 =>
   have H := HA.out
   clear HA
   simp only [head_Find.l0] at H
   by_cases c3 : x10_1 < (l0.length : Int)
   ·
    rw [if_pos c3] at H
    have c3b0 : decide (x10_1 < (l0.length : Int)) = true := decide_eq_true c3
    clear c3
    by_cases c4 : 0 ≤ x10_1
    ·
     rw [if_pos c4] at H
     have c4b0 : decide (0 ≤ x10_1) = true := decide_eq_true c4
     clear c4
     by_cases c5 : x10_1 < (l0.length : Int)
     ·
      rw [if_pos c5] at H
      have c5b0 : decide (x10_1 < (l0.length : Int)) = true := decide_eq_true c5
      clear c5
      obtain ⟨t171, A6, H⟩ := bindQ H
      replace H : (if t171 = true then (some ((rd_T43 l0 x10_1).f1, 0)) else (head_Find.l0 k1 a1 l0 (l0.length : Int) (wrap64 (x10_1 + 1)))) = some (r1, r2) := H
      by_cases c7 : t171 = true
      ·
       subst c7
       have H1 : (some ((rd_T43 l0 x10_1).f1, 0)) = some (r1, r2) := by rw [if_pos rfl] at H; exact H
       clear H
       have H := H1
       clear H1
       simp only [Option.some.injEq, Prod.mk.injEq] at H
       obtain ⟨rfl, rfl⟩ := H
       have p169 : 0 ≤ (x10_1 : Int) := ofD
       have q169 : x10_1 < (l0.length : Int) := ofD
       obtain ⟨ad169, e169, hx169_0, hx169_1⟩ := at_T43 HR0.out x10_1 p169 q169
       cases e169
       replace hx169_0 := (HB.out.cell (World.block_lt_of_cell? w _ hx169_0)).trans hx169_0
       replace hx169_1 := (HB.out.cell (World.block_lt_of_cell? w _ hx169_1)).trans hx169_1
       replace p169 := eq_true p169
       replace q169 := eq_true q169
       go_wp2_with (first | ((with_reducible refine gate_dst (N := 7) rfl ?_); refine box_event ?hg (N := 7) ?hd (cs := #[.string (⟨#[]⟩ : ByteArray), .string (⟨#[]⟩ : ByteArray)]) (t := 43) ?hr ?_; (case hd => rfl); (case hg => rfl); (case hr => first | (go_simp; done) | (go_simp; rfl)); intro gb170 hg w8 hbox hb; have BK170 := Aside0.mk (hbox); have GW170 := gwQ HB hg; have GE170 := gwQ HB hg; replace HB := LB HB hb; clear hb hbox hg; obtain ⟨hcz9_0, hcz9_1, hfz9_0, hfz9_1⟩ := cf2 BK170) | ((with_reducible refine gate_callee (f := 43) rfl ?_); refine goesLQ (some 17) Tryz.func43 #[.string ((rd_T43 l0 x10_1).f0), .string a1] ?_; (with_reducible refine (head_Like.calls k1 ((rd_T43 l0 x10_1).f0) a1 true _ A6.out).mono ?_); rintro e w' ⟨rfl, ⟨nd, rfl⟩⟩; refine ⟨_, rfl, ?_⟩))
       go_ret2
       exact retQ HB
      ·
       replace c7 := Bool.eq_false_iff.mpr c7
       subst c7
       have H1 : (head_Find.l0 k1 a1 l0 (l0.length : Int) (wrap64 (x10_1 + 1))) = some (r1, r2) := by rw [if_neg (show ¬ (false = true) by decide)] at H; exact H
       clear H
       have H := H1
       clear H1
       have H' := Aside0.mk H
       clear H
       have p169 : 0 ≤ (x10_1 : Int) := ofD
       have q169 : x10_1 < (l0.length : Int) := ofD
       obtain ⟨ad169, e169, hx169_0, hx169_1⟩ := at_T43 HR0.out x10_1 p169 q169
       cases e169
       replace hx169_0 := (HB.out.cell (World.block_lt_of_cell? w _ hx169_0)).trans hx169_0
       replace hx169_1 := (HB.out.cell (World.block_lt_of_cell? w _ hx169_1)).trans hx169_1
       replace p169 := eq_true p169
       replace q169 := eq_true q169
       go_wp2_with (first | ((with_reducible refine gate_dst (N := 7) rfl ?_); refine box_event ?hg (N := 7) ?hd (cs := #[.string (⟨#[]⟩ : ByteArray), .string (⟨#[]⟩ : ByteArray)]) (t := 43) ?hr ?_; (case hd => rfl); (case hg => rfl); (case hr => first | (go_simp; done) | (go_simp; rfl)); intro gb170 hg w10 hbox hb; have BK170 := Aside0.mk (hbox); have GW170 := gwQ HB hg; have GE170 := gwQ HB hg; replace HB := LB HB hb; clear hb hbox hg; obtain ⟨hcz11_0, hcz11_1, hfz11_0, hfz11_1⟩ := cf2 BK170) | ((with_reducible refine gate_callee (f := 43) rfl ?_); refine goesLQ (some 17) Tryz.func43 #[.string ((rd_T43 l0 x10_1).f0), .string a1] ?_; (with_reducible refine (head_Like.calls k1 ((rd_T43 l0 x10_1).f0) a1 false _ A6.out).mono ?_); rintro e w' ⟨rfl, ⟨nd, rfl⟩⟩; refine ⟨_, rfl, ?_⟩))
       go_roundg k1
       case measure => have := HK1.out; omega
       case rel => exact ⟨(wrap64 (x10_1 + 1)), (by first | rfl | (simp [*]; done)), H', ⟨by have := HK1.out; omega⟩, ⟨LX HB⟩⟩
     ·
      rw [if_neg c5] at H
      exact absurd H (by simp)
    ·
     rw [if_neg c4] at H
     exact absurd H (by simp)
   ·
    rw [if_neg c3] at H
    have c3b0 : decide (x10_1 < (l0.length : Int)) = false := decide_eq_false c3
    clear c3
    simp only [Option.some.injEq, Prod.mk.injEq] at H
    obtain ⟨rfl, rfl⟩ := H
    go_wp2
    go_ret2
    exact retQ HB
def date_number.f (a0 : Int) (a1 : Int) (a2 : Int) : Option (Int) := if a1 ≤ 2 then (some (wrap64 ((wrap64 ((wrap64 ((wrap64 ((wrap64 ((wrap64 ((wrap64 (Int.tdiv (wrap64 (a0 - 1)) 400)) * 146097)) + (wrap64 ((wrap64 ((wrap64 (a0 - 1)) - (wrap64 ((wrap64 (Int.tdiv (wrap64 (a0 - 1)) 400)) * 400)))) * 365)))) + (wrap64 (Int.tdiv (wrap64 ((wrap64 (a0 - 1)) - (wrap64 ((wrap64 (Int.tdiv (wrap64 (a0 - 1)) 400)) * 400)))) 4)))) - (wrap64 (Int.tdiv (wrap64 ((wrap64 (a0 - 1)) - (wrap64 ((wrap64 (Int.tdiv (wrap64 (a0 - 1)) 400)) * 400)))) 100)))) + (wrap64 ((wrap64 ((wrap64 (Int.tdiv (wrap64 ((wrap64 (153 * (Int.tmod (wrap64 (a1 + 9)) 12))) + 2)) 5)) + a2)) - 1)))) - 719468))) else (some (wrap64 ((wrap64 ((wrap64 ((wrap64 ((wrap64 ((wrap64 ((wrap64 (Int.tdiv a0 400)) * 146097)) + (wrap64 ((wrap64 (a0 - (wrap64 ((wrap64 (Int.tdiv a0 400)) * 400)))) * 365)))) + (wrap64 (Int.tdiv (wrap64 (a0 - (wrap64 ((wrap64 (Int.tdiv a0 400)) * 400)))) 4)))) - (wrap64 (Int.tdiv (wrap64 (a0 - (wrap64 ((wrap64 (Int.tdiv a0 400)) * 400)))) 100)))) + (wrap64 ((wrap64 ((wrap64 (Int.tdiv (wrap64 ((wrap64 (153 * (Int.tmod (wrap64 (a1 + 9)) 12))) + 2)) 5)) + a2)) - 1)))) - 719468)))
theorem date_number.calls (a0 : Int) (a1 : Int) (a2 : Int) (r : Int) (w : World) (h : date_number.f a0 a1 a2 = some r) :
  Calls Tryz.prog 115 #[.int .i64 a0, .int .i64 a1, .int .i64 a2] w fun e w' => e = .returned (.int .i64 r) ∧ Drawn0 w w' := by
 have H : (if a1 ≤ 2 then (some (wrap64 ((wrap64 ((wrap64 ((wrap64 ((wrap64 ((wrap64 ((wrap64 (Int.tdiv (wrap64 (a0 - 1)) 400)) * 146097)) + (wrap64 ((wrap64 ((wrap64 (a0 - 1)) - (wrap64 ((wrap64 (Int.tdiv (wrap64 (a0 - 1)) 400)) * 400)))) * 365)))) + (wrap64 (Int.tdiv (wrap64 ((wrap64 (a0 - 1)) - (wrap64 ((wrap64 (Int.tdiv (wrap64 (a0 - 1)) 400)) * 400)))) 4)))) - (wrap64 (Int.tdiv (wrap64 ((wrap64 (a0 - 1)) - (wrap64 ((wrap64 (Int.tdiv (wrap64 (a0 - 1)) 400)) * 400)))) 100)))) + (wrap64 ((wrap64 ((wrap64 (Int.tdiv (wrap64 ((wrap64 (153 * (Int.tmod (wrap64 (a1 + 9)) 12))) + 2)) 5)) + a2)) - 1)))) - 719468))) else (some (wrap64 ((wrap64 ((wrap64 ((wrap64 ((wrap64 ((wrap64 ((wrap64 (Int.tdiv a0 400)) * 146097)) + (wrap64 ((wrap64 (a0 - (wrap64 ((wrap64 (Int.tdiv a0 400)) * 400)))) * 365)))) + (wrap64 (Int.tdiv (wrap64 (a0 - (wrap64 ((wrap64 (Int.tdiv a0 400)) * 400)))) 4)))) - (wrap64 (Int.tdiv (wrap64 (a0 - (wrap64 ((wrap64 (Int.tdiv a0 400)) * 400)))) 100)))) + (wrap64 ((wrap64 ((wrap64 (Int.tdiv (wrap64 ((wrap64 (153 * (Int.tmod (wrap64 (a1 + 9)) 12))) + 2)) 5)) + a2)) - 1)))) - 719468)))) = some r := h
 clear h
 by_cases c4 : a1 ≤ 2
 ·
  rw [if_pos c4] at H
  have c4b0 : decide (a1 ≤ 2) = true := decide_eq_true c4
  clear c4
  obtain rfl := Option.some.inj H
  go_enter Tryz.func115, Tryz.ntmps115
  go_wp2
  go_ret
  exact drwQ
 ·
  rw [if_neg c4] at H
  have c4b0 : decide (a1 ≤ 2) = false := decide_eq_false c4
  clear c4
  obtain rfl := Option.some.inj H
  go_enter Tryz.func115, Tryz.ntmps115
  go_wp2
  go_ret
  exact drwQ
def date_civil.e1 (a0 : Int) : Int := wrap64 (a0 + 719468)
def date_civil.e2 (a0 : Int) : Int := wrap64 (Int.tdiv (date_civil.e1 a0) 146097)
def date_civil.e3 (a0 : Int) : Int := wrap64 ((date_civil.e2 a0) * 400)
def date_civil.e4 (a0 : Int) : Int := wrap64 ((date_civil.e2 a0) * 146097)
def date_civil.e5 (a0 : Int) : Int := wrap64 ((date_civil.e1 a0) - (date_civil.e4 a0))
def date_civil.e6 (a0 : Int) : Int := wrap64 (Int.tdiv (date_civil.e5 a0) 1460)
def date_civil.e7 (a0 : Int) : Int := wrap64 (Int.tdiv (date_civil.e5 a0) 36524)
def date_civil.e8 (a0 : Int) : Int := wrap64 (Int.tdiv (date_civil.e5 a0) 146096)
def date_civil.e9 (a0 : Int) : Int := wrap64 ((date_civil.e5 a0) - (date_civil.e6 a0))
def date_civil.e10 (a0 : Int) : Int := wrap64 ((date_civil.e9 a0) + (date_civil.e7 a0))
def date_civil.e11 (a0 : Int) : Int := wrap64 ((date_civil.e10 a0) - (date_civil.e8 a0))
def date_civil.e12 (a0 : Int) : Int := wrap64 (Int.tdiv (date_civil.e11 a0) 365)
def date_civil.e13 (a0 : Int) : Int := wrap64 (365 * (date_civil.e12 a0))
def date_civil.e14 (a0 : Int) : Int := wrap64 (Int.tdiv (date_civil.e12 a0) 4)
def date_civil.e15 (a0 : Int) : Int := wrap64 (Int.tdiv (date_civil.e12 a0) 100)
def date_civil.e16 (a0 : Int) : Int := wrap64 ((date_civil.e13 a0) + (date_civil.e14 a0))
def date_civil.e17 (a0 : Int) : Int := wrap64 ((date_civil.e16 a0) - (date_civil.e15 a0))
def date_civil.e18 (a0 : Int) : Int := wrap64 ((date_civil.e5 a0) - (date_civil.e17 a0))
def date_civil.e19 (a0 : Int) : Int := wrap64 (5 * (date_civil.e18 a0))
def date_civil.e20 (a0 : Int) : Int := wrap64 ((date_civil.e19 a0) + 2)
def date_civil.e21 (a0 : Int) : Int := wrap64 (Int.tdiv (date_civil.e20 a0) 153)
def date_civil.e22 (a0 : Int) : Int := wrap64 ((date_civil.e21 a0) + 3)
def date_civil.e23 (a0 : Int) : Int := wrap64 (153 * (date_civil.e21 a0))
def date_civil.e24 (a0 : Int) : Int := wrap64 ((date_civil.e23 a0) + 2)
def date_civil.e25 (a0 : Int) : Int := wrap64 (Int.tdiv (date_civil.e24 a0) 5)
def date_civil.e26 (a0 : Int) : Int := wrap64 ((date_civil.e18 a0) - (date_civil.e25 a0))
def date_civil.f (a0 : Int) : Option (Int × Int × Int) := if (date_civil.e22 a0) > 12 then (some (wrap64 ((wrap64 ((date_civil.e12 a0) + (date_civil.e3 a0))) + 1), wrap64 ((date_civil.e22 a0) - 12), wrap64 ((date_civil.e26 a0) + 1))) else (some (wrap64 ((date_civil.e12 a0) + (date_civil.e3 a0)), wrap64 ((date_civil.e21 a0) + 3), wrap64 ((date_civil.e26 a0) + 1)))
theorem date_civil.calls (a0 : Int) (r1 : Int) (r2 : Int) (r3 : Int) (w : World) (h : date_civil.f a0 = some (r1, r2, r3)) :
  Calls Tryz.prog 116 #[.int .i64 a0] w fun e w' => e = .returned (.tuple #[.int .i64 r1, .int .i64 r2, .int .i64 r3]) ∧ Drawn0 w w' := by
 unfold date_civil.f at h
 by_cases c2 : (date_civil.e22 a0) > 12
 ·
  rw [if_pos c2] at h
  simp only [date_civil.e1, date_civil.e2, date_civil.e3, date_civil.e4, date_civil.e5, date_civil.e6, date_civil.e7, date_civil.e8, date_civil.e9, date_civil.e10, date_civil.e11, date_civil.e12, date_civil.e13, date_civil.e14, date_civil.e15, date_civil.e16, date_civil.e17, date_civil.e18, date_civil.e19, date_civil.e20, date_civil.e21, date_civil.e22, date_civil.e23, date_civil.e24, date_civil.e25, date_civil.e26] at h c2
  have c2b0 : decide ((12 : Int) < _) = true := decide_eq_true c2
  clear c2
  simp only [Option.some.injEq, Prod.mk.injEq] at h
  obtain ⟨rfl, rfl, rfl⟩ := h
  go_enter Tryz.func116, Tryz.ntmps116
  go_wp2
  go_ret3
  exact ⟨by first | rfl | (simp [*]; done), by repeat (first | exact Drawn0.refl _ | apply Drawn0.step)⟩
 ·
  rw [if_neg c2] at h
  simp only [date_civil.e1, date_civil.e2, date_civil.e3, date_civil.e4, date_civil.e5, date_civil.e6, date_civil.e7, date_civil.e8, date_civil.e9, date_civil.e10, date_civil.e11, date_civil.e12, date_civil.e13, date_civil.e14, date_civil.e15, date_civil.e16, date_civil.e17, date_civil.e18, date_civil.e19, date_civil.e20, date_civil.e21, date_civil.e22, date_civil.e23, date_civil.e24, date_civil.e25, date_civil.e26] at h c2
  have c2b0 : decide ((12 : Int) < _) = false := decide_eq_false c2
  clear c2
  simp only [Option.some.injEq, Prod.mk.injEq] at h
  obtain ⟨rfl, rfl, rfl⟩ := h
  go_enter Tryz.func116, Tryz.ntmps116
  go_wp2
  go_ret3
  exact ⟨by first | rfl | (simp [*]; done), by repeat (first | exact Drawn0.refl _ | apply Drawn0.step)⟩
def date_Day.j0 : Nat → Int → Int → Int → Bool → Option (Int × Int)
 | 0, _, _, _, _ => none
 | k + 1, x0, x1, x2, x33 => if x33 = true then (some (0, 1)) else ((date_number.f x0 x1 x2).bind fun t172 => ((date_civil.f t172).bind fun bt173 => (if bt173.2.1 = x1 then (some (t172, 0)) else (some (0, 1)))))
def date_Day.f (k : Nat) (a0 : Int) (a1 : Int) (a2 : Int) : Option (Int × Int) := if a0 < 1 then (date_Day.j0 k a0 a1 a2 true) else (if a0 > 9999 then (date_Day.j0 k a0 a1 a2 true) else (if a1 < 1 then (date_Day.j0 k a0 a1 a2 true) else (if a1 > 12 then (date_Day.j0 k a0 a1 a2 true) else (if a2 < 1 then (date_Day.j0 k a0 a1 a2 true) else (date_Day.j0 k a0 a1 a2 (decide (a2 > 31)))))))
theorem date_Day.mono_l : ∀ k, (∀ y0 y1 y2 y3, LeO (date_Day.j0 k y0 y1 y2 y3) (date_Day.j0 (k + 1) y0 y1 y2 y3))
 | 0 => fun _ _ _ _ r h => by simp [date_Day.j0] at h
 | k + 1 => by
  have ih0 := date_Day.mono_l k
  ·
   intro y0 y1 y2 y3
   unfold date_Day.j0
   repeat' (with_reducible first | apply ih0 | apply LeO.refl | exact LeO.none _ | apply LeO.ite | refine LeO.bind ?_ fun _ => ?_)
theorem date_Day.mono : ∀ a0 a1 a2 k, LeO (date_Day.f k a0 a1 a2) (date_Day.f (k + 1) a0 a1 a2) := by
 intro a0 a1 a2 k
 have ih0 := date_Day.mono_l k
 unfold date_Day.f
 repeat' (with_reducible first | apply ih0 | apply LeO.refl | exact LeO.none _ | apply LeO.ite | refine LeO.bind ?_ fun _ => ?_)
theorem date_Day.calls (k : Nat) (a0 : Int) (a1 : Int) (a2 : Int) (r1 : Int) (r2 : Int) (w : World) (h : date_Day.f k a0 a1 a2 = some (r1, r2)) :
  Calls Tryz.prog 84 #[.int .i64 a0, .int .i64 a1, .int .i64 a2] w fun e w' => e = .returned (.tuple #[.int .i64 r1, .int .i64 r2]) ∧ Drawn0 w w' := by
 have H : (if a0 < 1 then (date_Day.j0 k a0 a1 a2 true) else (if a0 > 9999 then (date_Day.j0 k a0 a1 a2 true) else (if a1 < 1 then (date_Day.j0 k a0 a1 a2 true) else (if a1 > 12 then (date_Day.j0 k a0 a1 a2 true) else (if a2 < 1 then (date_Day.j0 k a0 a1 a2 true) else (date_Day.j0 k a0 a1 a2 (decide (a2 > 31)))))))) = some (r1, r2) := h
 clear h
 have HC4 := Aside0.mk H
 clear H
 go_enter Tryz.func84, Tryz.ntmps84
 go_upto_region 1 with (fail)
 go_cut [33] (fun v33 wc => ∃ (kq : Nat) (x33_3 : Bool), v33 = .bool x33_3 ∧ Aside0 (date_Day.j0 kq a0 a1 a2 x33_3 = some (r1, r2)) ∧ Aside0 (kq ≤ k) ∧ Drawn0 w wc)
 case first =>
  have H := HC4.out
  clear HC4
  by_cases c5 : a0 < 1
  ·
   rw [if_pos c5] at H
   have c5b0 : decide (a0 < 1) = true := decide_eq_true c5
   clear c5
   (first | rw [c5b0] | (simp only [i64_w, i32_w]; rw [c5b0]) | skip)
   have H' := Aside0.mk H
   clear H
   go_wp2
   go_meet
   case rel => exact ⟨_, (true), (by first | rfl | (simp [*]; done)), H', ⟨by first | omega | exact Nat.le_refl _⟩, by repeat (first | exact Drawn0.refl _ | apply Drawn0.step)⟩
  ·
   rw [if_neg c5] at H
   have c5b0 : decide (a0 < 1) = false := decide_eq_false c5
   clear c5
   (first | rw [c5b0] | (simp only [i64_w, i32_w]; rw [c5b0]) | skip)
   by_cases c6 : a0 > 9999
   ·
    rw [if_pos c6] at H
    have c6b0 : decide (9999 < a0) = true := decide_eq_true c6
    clear c6
    have H' := Aside0.mk H
    clear H
    go_wp2
    go_meet
    case rel => exact ⟨_, (true), (by first | rfl | (simp [*]; done)), H', ⟨by first | omega | exact Nat.le_refl _⟩, by repeat (first | exact Drawn0.refl _ | apply Drawn0.step)⟩
   ·
    rw [if_neg c6] at H
    have c6b0 : decide (9999 < a0) = false := decide_eq_false c6
    clear c6
    by_cases c7 : a1 < 1
    ·
     rw [if_pos c7] at H
     have c7b0 : decide (a1 < 1) = true := decide_eq_true c7
     clear c7
     have H' := Aside0.mk H
     clear H
     go_wp2
     go_meet
     case rel => exact ⟨_, (true), (by first | rfl | (simp [*]; done)), H', ⟨by first | omega | exact Nat.le_refl _⟩, by repeat (first | exact Drawn0.refl _ | apply Drawn0.step)⟩
    ·
     rw [if_neg c7] at H
     have c7b0 : decide (a1 < 1) = false := decide_eq_false c7
     clear c7
     by_cases c8 : a1 > 12
     ·
      rw [if_pos c8] at H
      have c8b0 : decide (12 < a1) = true := decide_eq_true c8
      clear c8
      have H' := Aside0.mk H
      clear H
      go_wp2
      go_meet
      case rel => exact ⟨_, (true), (by first | rfl | (simp [*]; done)), H', ⟨by first | omega | exact Nat.le_refl _⟩, by repeat (first | exact Drawn0.refl _ | apply Drawn0.step)⟩
     ·
      rw [if_neg c8] at H
      have c8b0 : decide (12 < a1) = false := decide_eq_false c8
      clear c8
      by_cases c9 : a2 < 1
      ·
       rw [if_pos c9] at H
       have c9b0 : decide (a2 < 1) = true := decide_eq_true c9
       clear c9
       have H' := Aside0.mk H
       clear H
       go_wp2
       go_meet
       case rel => exact ⟨_, (true), (by first | rfl | (simp [*]; done)), H', ⟨by first | omega | exact Nat.le_refl _⟩, by repeat (first | exact Drawn0.refl _ | apply Drawn0.step)⟩
      ·
       rw [if_neg c9] at H
       have c9b0 : decide (a2 < 1) = false := decide_eq_false c9
       clear c9
       have H' := Aside0.mk H
       clear H
       go_wp2
       go_meet
       case rel => exact ⟨_, (decide (a2 > 31)), (by first | rfl | (simp [*]; done)), H', ⟨by first | omega | exact Nat.le_refl _⟩, by repeat (first | exact Drawn0.refl _ | apply Drawn0.step)⟩
 case rest =>
  clear HC4
  obtain ⟨kq, x33_3, rfl, HA, HJ3, ⟨mc3, rfl⟩⟩ := hcut
  cases kq with
  | zero => exact absurd HA.out (by simp [date_Day.j0])
  | succ kj3 =>
   have H := HA.out
   clear HA
   simp only [date_Day.j0] at H
   by_cases c10 : x33_3 = true
   ·
    subst c10
    have H1 : (some (0, 1)) = some (r1, r2) := by rw [if_pos rfl] at H; exact H
    clear H
    have H := H1
    clear H1
    simp only [Option.some.injEq, Prod.mk.injEq] at H
    obtain ⟨rfl, rfl⟩ := H
    go_wp2
    go_ret2
    exact drwQ
   ·
    replace c10 := Bool.eq_false_iff.mpr c10
    subst c10
    have H1 : ((date_number.f a0 a1 a2).bind fun t172 => ((date_civil.f t172).bind fun bt173 => (if bt173.2.1 = a1 then (some (t172, 0)) else (some (0, 1))))) = some (r1, r2) := by rw [if_neg (show ¬ (false = true) by decide)] at H; exact H
    clear H
    have H := H1
    clear H1
    obtain ⟨t172, A11, H⟩ := bindQ H
    replace H : ((date_civil.f t172).bind fun bt173 => (if bt173.2.1 = a1 then (some (t172, 0)) else (some (0, 1)))) = some (r1, r2) := H
    obtain ⟨⟨t173, t174, t175⟩, A12, H⟩ := bindQ H
    replace H : (if t174 = a1 then (some (t172, 0)) else (some (0, 1))) = some (r1, r2) := H
    by_cases c13 : t174 = a1
    ·
     rw [if_pos c13] at H
     have c13b0 : (t174 == a1) = true := beq_iff_eq.mpr c13
     have c13b1 : (t174 != a1) = false := bne_eq_false_iff_eq.mpr c13
     clear c13
     simp only [Option.some.injEq, Prod.mk.injEq] at H
     obtain ⟨rfl, rfl⟩ := H
     go_wp2_with (first | ((with_reducible refine gate_callee (f := 115) rfl ?_); refine goesLQ (some 37) Tryz.func115 #[.int .i64 a0, .int .i64 a1, .int .i64 a2] ?_; (with_reducible refine (date_number.calls a0 a1 a2 t172 _ A11.out).mono ?_); rintro e w' ⟨rfl, ⟨nd, rfl⟩⟩; refine ⟨_, rfl, ?_⟩) | ((with_reducible refine gate_callee (f := 116) rfl ?_); refine goesLQ (some 40) Tryz.func116 #[.int .i64 t172] ?_; (with_reducible refine (date_civil.calls t172 t173 t174 t175 _ A12.out).mono ?_); rintro e w' ⟨rfl, ⟨nd, rfl⟩⟩; refine ⟨_, rfl, ?_⟩))
     go_ret2
     exact drwQ
    ·
     rw [if_neg c13] at H
     have c13b0 : (t174 == a1) = false := beq_eq_false_iff_ne.mpr c13
     have c13b1 : (t174 != a1) = true := bne_iff_ne.mpr c13
     simp only [Option.some.injEq, Prod.mk.injEq] at H
     obtain ⟨rfl, rfl⟩ := H
     go_wp2_with (first | ((with_reducible refine gate_callee (f := 115) rfl ?_); refine goesLQ (some 37) Tryz.func115 #[.int .i64 a0, .int .i64 a1, .int .i64 a2] ?_; (with_reducible refine (date_number.calls a0 a1 a2 t172 _ A11.out).mono ?_); rintro e w' ⟨rfl, ⟨nd, rfl⟩⟩; refine ⟨_, rfl, ?_⟩) | ((with_reducible refine gate_callee (f := 116) rfl ?_); refine goesLQ (some 40) Tryz.func116 #[.int .i64 t172] ?_; (with_reducible refine (date_civil.calls t172 t173 t174 t175 _ A12.out).mono ?_); rintro e w' ⟨rfl, ⟨nd, rfl⟩⟩; refine ⟨_, rfl, ?_⟩))
     go_ret2
     exact drwQ
def date_day.f (k : Nat) (a0 : Int) (a1 : Int) (a2 : Int) : Option (Int × Int) := (date_Day.f k a0 a1 a2).bind fun bt176 => (if bt176.2 = 0 then (some (bt176.1, 0)) else (some (0, 7)))
theorem date_day.mono : ∀ a0 a1 a2 k, LeO (date_day.f k a0 a1 a2) (date_day.f (k + 1) a0 a1 a2) := by
 intro a0 a1 a2 k
 unfold date_day.f
 repeat' (with_reducible first | apply date_Day.mono | apply LeO.refl | exact LeO.none _ | apply LeO.ite | refine LeO.bind ?_ fun _ => ?_)
theorem date_day.calls (k : Nat) (a0 : Int) (a1 : Int) (a2 : Int) (r1 : Int) (r2 : Int) (w : World) (h : date_day.f k a0 a1 a2 = some (r1, r2)) :
  Calls Tryz.prog 48 #[.int .i64 a0, .int .i64 a1, .int .i64 a2] w fun e w' => e = .returned (.tuple #[.int .i64 r1, .int .i64 r2]) ∧ Drawn0 w w' := by
 have H : ((date_Day.f k a0 a1 a2).bind fun bt176 => (if bt176.2 = 0 then (some (bt176.1, 0)) else (some (0, 7)))) = some (r1, r2) := h
 clear h
 obtain ⟨⟨t176, t177⟩, A4, H⟩ := bindQ H
 replace H : (if t177 = 0 then (some (t176, 0)) else (some (0, 7))) = some (r1, r2) := H
 by_cases c5 : t177 = 0
 ·
  rw [if_pos c5] at H
  have c5b0 : (t177 == 0) = true := beq_iff_eq.mpr c5
  have c5b1 : (t177 != 0) = false := bne_eq_false_iff_eq.mpr c5
  clear c5
  simp only [Option.some.injEq, Prod.mk.injEq] at H
  obtain ⟨rfl, rfl⟩ := H
  go_enter Tryz.func48, Tryz.ntmps48
  go_wp2_with (first | ((with_reducible refine gate_callee (f := 84) rfl ?_); refine goesLQ (some 14) Tryz.func84 #[.int .i64 a0, .int .i64 a1, .int .i64 a2] ?_; (with_reducible refine (date_Day.calls k a0 a1 a2 t176 t177 _ A4.out).mono ?_); rintro e w' ⟨rfl, ⟨nd, rfl⟩⟩; refine ⟨_, rfl, ?_⟩))
  go_ret2
  exact drwQ
 ·
  rw [if_neg c5] at H
  have c5b0 : (t177 == 0) = false := beq_eq_false_iff_ne.mpr c5
  have c5b1 : (t177 != 0) = true := bne_iff_ne.mpr c5
  simp only [Option.some.injEq, Prod.mk.injEq] at H
  obtain ⟨rfl, rfl⟩ := H
  go_enter Tryz.func48, Tryz.ntmps48
  go_wp2_with (first | ((with_reducible refine gate_callee (f := 84) rfl ?_); refine goesLQ (some 14) Tryz.func84 #[.int .i64 a0, .int .i64 a1, .int .i64 a2] ?_; (with_reducible refine (date_Day.calls k a0 a1 a2 t176 t177 _ A4.out).mono ?_); rintro e w' ⟨rfl, ⟨nd, rfl⟩⟩; refine ⟨_, rfl, ?_⟩))
  go_ret2
  exact drwQ
def date_month.l0 : Nat → ByteArray → Int → Option (Int)
 | 0, _, _ => none
 | k + 1, x0, x3 => if x3 < 36 then (if 0 ≤ x3 then (if x3 ≤ (wrap64 (x3 + 3)) then (if (wrap64 (x3 + 3)) ≤ 36 then ((head_Like.f k x0 ((⟨#[74, 97, 110, 70, 101, 98, 77, 97, 114, 65, 112, 114, 77, 97, 121, 74, 117, 110, 74, 117, 108, 65, 117, 103, 83, 101, 112, 79, 99, 116, 78, 111, 118, 68, 101, 99]⟩ : ByteArray).extract (x3 : Int).toNat ((wrap64 (x3 + 3)) : Int).toNat)).bind fun t178 => (if t178 = true then (some (wrap64 ((wrap64 (Int.tdiv x3 3)) + 1))) else (date_month.l0 k x0 (wrap64 (x3 + 3))))) else (none)) else (none)) else (none)) else (some 0)
def date_month.f (k : Nat) (a0 : ByteArray) : Option (Int) := date_month.l0 k a0 0
theorem date_month.mono_l : ∀ k, (∀ y0 y1, LeO (date_month.l0 k y0 y1) (date_month.l0 (k + 1) y0 y1))
 | 0 => fun _ _ r h => by simp [date_month.l0] at h
 | k + 1 => by
  have ih0 := date_month.mono_l k
  ·
   intro y0 y1
   unfold date_month.l0
   repeat' (with_reducible first | apply ih0 | apply head_Like.mono | apply LeO.refl | exact LeO.none _ | apply LeO.ite | refine LeO.bind ?_ fun _ => ?_)
theorem date_month.mono : ∀ a0 k, LeO (date_month.f k a0) (date_month.f (k + 1) a0) := by
 intro a0 k
 have ih0 := date_month.mono_l k
 unfold date_month.f
 repeat' (with_reducible first | apply ih0 | apply head_Like.mono | apply LeO.refl | exact LeO.none _ | apply LeO.ite | refine LeO.bind ?_ fun _ => ?_)
theorem date_month.calls (k : Nat) (a0 : ByteArray) (r : Int) (w : World) (h : date_month.f k a0 = some r) :
  Calls Tryz.prog 49 #[.string a0] w fun e w' => e = .returned (.int .i64 r) ∧ Drawn0 w w' := by
 have H : (date_month.l0 k a0 0) = some r := h
 clear h
 have H' := Aside0.mk H
 clear H
 go_enter Tryz.func49, Tryz.ntmps49
 go_wp2
 go_loopg [3] k (fun kq v3 w' => ∃ (x3_1 : Int), v3 = .int .i64 x3_1 ∧ Aside0 (date_month.l0 kq a0 x3_1 = some r) ∧ Aside0 (kq ≤ k) ∧ Drawn0 w w')
 case atStart => exact ⟨(0), (by first | rfl | (simp [*]; done)), H', ⟨Nat.le_refl _⟩, by repeat (first | exact Drawn0.refl _ | apply Drawn0.step)⟩
 case round =>
  clear H'
  obtain ⟨x3_1, rfl, HA, HK1, ⟨m1, rfl⟩⟩ := hrel
  cases gk with
  | zero => exact absurd HA.out (by simp [date_month.l0])
  | succ k1 =>
   have H := HA.out
   clear HA
   simp only [date_month.l0] at H
   by_cases c2 : x3_1 < 36
   ·
    rw [if_pos c2] at H
    have c2b0 : decide (x3_1 < 36) = true := decide_eq_true c2
    clear c2
    by_cases c3 : 0 ≤ x3_1
    ·
     rw [if_pos c3] at H
     have c3b0 := eq_true c3
     have c3b1 : decide (0 ≤ x3_1) = true := decide_eq_true c3
     clear c3
     by_cases c4 : x3_1 ≤ (wrap64 (x3_1 + 3))
     ·
      rw [if_pos c4] at H
      have c4b0 := eq_true c4
      have c4b1 : decide (x3_1 ≤ (wrap64 (x3_1 + 3))) = true := decide_eq_true c4
      by_cases c5 : (wrap64 (x3_1 + 3)) ≤ 36
      ·
       rw [if_pos c5] at H
       have c5b0 := eq_true c5
       have c5b1 : decide ((wrap64 (x3_1 + 3)) ≤ 36) = true := decide_eq_true c5
       obtain ⟨t178, A6, H⟩ := bindQ H
       replace H : (if t178 = true then (some (wrap64 ((wrap64 (Int.tdiv x3_1 3)) + 1))) else (date_month.l0 k1 a0 (wrap64 (x3_1 + 3)))) = some r := H
       by_cases c7 : t178 = true
       ·
        subst c7
        have H1 : (some (wrap64 ((wrap64 (Int.tdiv x3_1 3)) + 1))) = some r := by rw [if_pos rfl] at H; exact H
        clear H
        have H := H1
        clear H1
        obtain rfl := Option.some.inj H
        go_wp2_with (first | ((with_reducible refine gate_callee (f := 43) rfl ?_); refine goesLQ (some 13) Tryz.func43 #[.string a0, .string ((⟨#[74, 97, 110, 70, 101, 98, 77, 97, 114, 65, 112, 114, 77, 97, 121, 74, 117, 110, 74, 117, 108, 65, 117, 103, 83, 101, 112, 79, 99, 116, 78, 111, 118, 68, 101, 99]⟩ : ByteArray).extract (x3_1 : Int).toNat ((wrap64 (x3_1 + 3)) : Int).toNat)] ?_; (with_reducible refine (head_Like.calls k1 a0 ((⟨#[74, 97, 110, 70, 101, 98, 77, 97, 114, 65, 112, 114, 77, 97, 121, 74, 117, 110, 74, 117, 108, 65, 117, 103, 83, 101, 112, 79, 99, 116, 78, 111, 118, 68, 101, 99]⟩ : ByteArray).extract (x3_1 : Int).toNat ((wrap64 (x3_1 + 3)) : Int).toNat) true _ A6.out).mono ?_); rintro e w' ⟨rfl, ⟨nd, rfl⟩⟩; refine ⟨_, rfl, ?_⟩))
        go_ret
        exact drwQ
       ·
        replace c7 := Bool.eq_false_iff.mpr c7
        subst c7
        have H1 : (date_month.l0 k1 a0 (wrap64 (x3_1 + 3))) = some r := by rw [if_neg (show ¬ (false = true) by decide)] at H; exact H
        clear H
        have H := H1
        clear H1
        have H' := Aside0.mk H
        clear H
        go_wp2_with (first | ((with_reducible refine gate_callee (f := 43) rfl ?_); refine goesLQ (some 13) Tryz.func43 #[.string a0, .string ((⟨#[74, 97, 110, 70, 101, 98, 77, 97, 114, 65, 112, 114, 77, 97, 121, 74, 117, 110, 74, 117, 108, 65, 117, 103, 83, 101, 112, 79, 99, 116, 78, 111, 118, 68, 101, 99]⟩ : ByteArray).extract (x3_1 : Int).toNat ((wrap64 (x3_1 + 3)) : Int).toNat)] ?_; (with_reducible refine (head_Like.calls k1 a0 ((⟨#[74, 97, 110, 70, 101, 98, 77, 97, 114, 65, 112, 114, 77, 97, 121, 74, 117, 110, 74, 117, 108, 65, 117, 103, 83, 101, 112, 79, 99, 116, 78, 111, 118, 68, 101, 99]⟩ : ByteArray).extract (x3_1 : Int).toNat ((wrap64 (x3_1 + 3)) : Int).toNat) false _ A6.out).mono ?_); rintro e w' ⟨rfl, ⟨nd, rfl⟩⟩; refine ⟨_, rfl, ?_⟩))
        go_roundg k1
        case measure => have := HK1.out; omega
        case rel => exact ⟨(wrap64 (x3_1 + 3)), (by first | rfl | (simp [*]; done)), H', ⟨by have := HK1.out; omega⟩, by repeat (first | exact Drawn0.refl _ | apply Drawn0.step)⟩
      ·
       rw [if_neg c5] at H
       exact absurd H (by simp)
     ·
      rw [if_neg c4] at H
      exact absurd H (by simp)
    ·
     rw [if_neg c3] at H
     exact absurd H (by simp)
   ·
    rw [if_neg c2] at H
    have c2b0 : decide (x3_1 < 36) = false := decide_eq_false c2
    clear c2
    obtain rfl := Option.some.inj H
    go_wp2
    go_ret
    exact drwQ
theorem rd_size (l : List ByteArray) (s : ByteArray) (i : Int) (h : ∀ x ∈ l, x.size ≤ s.size) : (rdOf ByteArray.empty l i).size ≤ s.size := by
 unfold rdOf
 rw [List.getD_eq_getElem?_getD]
 cases e : l[i.toNat]? with
 | none => simp
 | some x => exact h x (List.mem_of_getElem? e)
def date_Mail.f (k : Nat) (a0 : ByteArray) : Option (Int × Int) := if a0.size ≤ 1073741824 then (if (Go.Proofs.YtigcbajcifhinaaGreatDoor.Txt.dateW a0).length < 3 then some (0, 7) else (date_month.f k (rdOf ByteArray.empty (Go.Proofs.YtigcbajcifhinaaGreatDoor.Txt.dateW a0) 1)).bind fun m => date_day.f k (Go.Proofs.YtigcbajcifhinaaGreatDoor.Txt.yearF (rdOf ByteArray.empty (Go.Proofs.YtigcbajcifhinaaGreatDoor.Txt.dateW a0) 2)) m (Go.Proofs.YtigcbajcifhinaaGreatDoor.Txt.digitsF (rdOf ByteArray.empty (Go.Proofs.YtigcbajcifhinaaGreatDoor.Txt.dateW a0) 0) 1 2)) else none
theorem date_Mail.mono : ∀ a0 k, LeO (date_Mail.f k a0) (date_Mail.f (k + 1) a0) := by
 intro a0 k
 unfold date_Mail.f
 repeat' first
  | (with_reducible exact date_month.mono _ _)
  | (with_reducible exact date_day.mono _ _ _ _)
  | (with_reducible exact LeO.refl _)
  | (with_reducible exact LeO.none _)
  | (with_reducible refine LeO.bind ?_ (fun _ => ?_))
  | split
theorem date_Mail.calls (k : Nat) (a0 : ByteArray) (r1 : Int) (r2 : Int) (w : World) (hT : Tabs w) (h : date_Mail.f k a0 = some (r1, r2)) :
  Calls Tryz.prog 20 #[.string a0] w fun e w' => e = .returned (.tuple #[.int .i64 r1, .int .i64 r2]) ∧ Below w.heap.size w w' := by
 unfold date_Mail.f at h
 split at h
 case isFalse => cases h
 rename_i hc
 obtain ⟨m, hm⟩ := hT.2.1
 have hbs : (Go.Proofs.YtigcbajcifhinaaGreatDoor.Txt.behind a0).size ≤ a0.size := Go.Proofs.YtigcbajcifhinaaGreatDoor.Txt.behind_size a0
 have hf : ∀ x ∈ Go.Proofs.YtigcbajcifhinaaGreatDoor.Txt.dateW a0, x.size ≤ (Go.Proofs.YtigcbajcifhinaaGreatDoor.Txt.behind a0).size := fun x hx => Go.Proofs.YtigcbajcifhinaaGreatDoor.Txt.fields_size _ _ x hx
 have HC := Go.Proofs.Tryz.strings_Cut a0 ⟨#[44]⟩ m w (by omega) hm
 have z0 := rd_size _ _ 0 hf
 have z2 := rd_size _ _ 2 hf
 by_cases hl : (Go.Proofs.YtigcbajcifhinaaGreatDoor.Txt.dateW a0).length < 3
 ·
  rw [if_pos hl] at h
  injection h with h
  injection h with h1 h2
  exact Go.Proofs.YtigcbajcifhinaaGreatDoor.Txt.dateMail_core a0 (Go.Proofs.YtigcbajcifhinaaGreatDoor.Txt.behind a0) (Go.Proofs.YtigcbajcifhinaaGreatDoor.Txt.dateW a0) w _ _ _ rfl (by omega) rfl HC (rdOf ByteArray.empty (Go.Proofs.YtigcbajcifhinaaGreatDoor.Txt.dateW a0) 0) (rdOf ByteArray.empty (Go.Proofs.YtigcbajcifhinaaGreatDoor.Txt.dateW a0) 1) (rdOf ByteArray.empty (Go.Proofs.YtigcbajcifhinaaGreatDoor.Txt.dateW a0) 2) 0 r1 r2 (fun _ => ⟨rfl, rfl, rfl⟩) ⟨by omega, by omega⟩ (fun _ => ⟨h1.symm, h2.symm⟩) (fun h => absurd hl (by omega)) (fun h => absurd hl (by omega))
 ·
  rw [if_neg hl] at h
  obtain ⟨mm, hm1, hd⟩ := Option.bind_eq_some_iff.1 h
  exact Go.Proofs.YtigcbajcifhinaaGreatDoor.Txt.dateMail_core a0 (Go.Proofs.YtigcbajcifhinaaGreatDoor.Txt.behind a0) (Go.Proofs.YtigcbajcifhinaaGreatDoor.Txt.dateW a0) w _ _ _ rfl (by omega) rfl HC (rdOf ByteArray.empty (Go.Proofs.YtigcbajcifhinaaGreatDoor.Txt.dateW a0) 0) (rdOf ByteArray.empty (Go.Proofs.YtigcbajcifhinaaGreatDoor.Txt.dateW a0) 1) (rdOf ByteArray.empty (Go.Proofs.YtigcbajcifhinaaGreatDoor.Txt.dateW a0) 2) mm r1 r2 (fun _ => ⟨rfl, rfl, rfl⟩) ⟨by omega, by omega⟩ (fun h => absurd h hl) (fun _ W => date_month.calls k _ mm W hm1) (fun _ W => date_day.calls k _ _ _ r1 r2 W hd)
def strings_Trim.f (s0 s1 : ByteArray) : Option ByteArray := if s0.size ≤ 9223372036854775807 ∧ s1.size < 4294967281 ∧ s1.data.toList.all (fun b => decide (b.toNat < 128)) = true then some ⟨(Lib.trimS s0.data.toList s1.data.toList).toArray⟩ else none
theorem strings_Trim.calls (s0 s1 : ByteArray) (r : ByteArray) (w : World) (h : strings_Trim.f s0 s1 = some r) :
  Calls Tryz.prog 35 #[.string s0, .string s1] w fun e w' => e = .returned (.string r) ∧ Below w.heap.size w w' := by
 unfold strings_Trim.f at h
 split at h
 ·
  rename_i hc
  cases h
  exact Go.Proofs.Tryz.strings_Trim_laid s0 s1 w hc.1 hc.2.1 hc.2.2
 · cases h
def mime_small.f (s0 : ByteArray) : Option ByteArray := if s0.size ≤ 17592186044416 then some (Go.Proofs.YtigcbajcifhinaaGreatDoor.Txt.smallF s0) else none
theorem mime_small.calls (s0 : ByteArray) (r : ByteArray) (w : World) (h : mime_small.f s0 = some r) :
  Calls Tryz.prog 117 #[.string s0] w fun e w' => e = .returned (.string r) ∧ Below w.heap.size w w' := by
 unfold mime_small.f at h
 split at h
 ·
  rename_i hc
  cases h
  exact Go.Proofs.YtigcbajcifhinaaGreatDoor.Txt.small_any s0 w hc
 · cases h
def strings_IndexByte.f (s0 : ByteArray) (a1 : Int) : Option Int := some (Lib.indexByte s0.data.toList a1.toNat.toUInt8)
theorem strings_IndexByte.calls (s0 : ByteArray) (a1 : Int) (r : Int) (w : World) (h : strings_IndexByte.f s0 a1 = some r) :
  Calls Tryz.prog 40 #[.string s0, .int .u8 a1] w fun e w' => e = .returned (.int .i64 r) ∧ Drawn0 w w' := by
 cases h
 exact (Go.Proofs.Tryz.strings_IndexByte s0 a1 w).mono fun e w' ⟨he, hw⟩ => ⟨he, by subst hw; exact Drawn0.refl _⟩
def mime_token.l0 : Nat → ByteArray → Int → Option (ByteArray × ByteArray)
 | 0, _, _ => none
 | k + 1, x0, x4 => if x4 < (x0.size : Int) then (if 0 ≤ x4 then (if (bt x0 x4) > 32 then (if (bt x0 x4) < 127 then ((strings_IndexByte.f (⟨#[40, 41, 60, 62, 64, 44, 59, 58, 92, 34, 47, 91, 93, 63, 61]⟩ : ByteArray) (bt x0 x4)).bind fun t179 => (if t179 < 0 then (mime_token.l0 k x0 (wrap64 (x4 + 1))) else (if x4 ≤ (x0.size : Int) then (some (x0.extract 0 (x4 : Int).toNat, x0.extract (x4 : Int).toNat x0.size)) else (none)))) else (if x4 ≤ (x0.size : Int) then (some (x0.extract 0 (x4 : Int).toNat, x0.extract (x4 : Int).toNat x0.size)) else (none))) else (if x4 ≤ (x0.size : Int) then (some (x0.extract 0 (x4 : Int).toNat, x0.extract (x4 : Int).toNat x0.size)) else (none))) else (none)) else (if 0 ≤ x4 then (if x4 ≤ (x0.size : Int) then (some (x0.extract 0 (x4 : Int).toNat, x0.extract (x4 : Int).toNat x0.size)) else (none)) else (none))
def mime_token.f (k : Nat) (a0 : ByteArray) : Option (ByteArray × ByteArray) := mime_token.l0 k a0 0
theorem mime_token.mono_l : ∀ k, (∀ y0 y1, LeO (mime_token.l0 k y0 y1) (mime_token.l0 (k + 1) y0 y1))
 | 0 => fun _ _ r h => by simp [mime_token.l0] at h
 | k + 1 => by
  have ih0 := mime_token.mono_l k
  ·
   intro y0 y1
   unfold mime_token.l0
   repeat' (with_reducible first | apply ih0 | apply LeO.refl | exact LeO.none _ | apply LeO.ite | refine LeO.bind ?_ fun _ => ?_)
theorem mime_token.mono : ∀ a0 k, LeO (mime_token.f k a0) (mime_token.f (k + 1) a0) := by
 intro a0 k
 have ih0 := mime_token.mono_l k
 unfold mime_token.f
 repeat' (with_reducible first | apply ih0 | apply LeO.refl | exact LeO.none _ | apply LeO.ite | refine LeO.bind ?_ fun _ => ?_)
theorem mime_token.calls (k : Nat) (a0 : ByteArray) (r1 : ByteArray) (r2 : ByteArray) (w : World) (h : mime_token.f k a0 = some (r1, r2)) :
  Calls Tryz.prog 156 #[.string a0] w fun e w' => e = .returned (.tuple #[.string r1, .string r2]) ∧ Drawn0 w w' := by
 have H : (mime_token.l0 k a0 0) = some (r1, r2) := h
 clear h
 have H' := Aside0.mk H
 clear H
 go_enter Tryz.func156, Tryz.ntmps156
 go_wp2
 repeat (go_quiet (fail); try go_wp2)
 go_loopg [4] k (fun kq v4 w' => ∃ (x4_1 : Int), v4 = .int .i64 x4_1 ∧ Aside0 (mime_token.l0 kq a0 x4_1 = some (r1, r2)) ∧ Aside0 (kq ≤ k) ∧ Drawn0 w w')
 case atStart => exact ⟨(0), (by first | rfl | (simp [*]; done)), H', ⟨Nat.le_refl _⟩, by repeat (first | exact Drawn0.refl _ | apply Drawn0.step)⟩
 case round =>
  clear H'
  obtain ⟨x4_1, rfl, HA, HK1, ⟨m1, rfl⟩⟩ := hrel
  cases gk with
  | zero => exact absurd HA.out (by simp [mime_token.l0])
  | succ k1 =>
   have H := HA.out
   clear HA
   simp only [mime_token.l0] at H
   by_cases c2 : x4_1 < (a0.size : Int)
   ·
    rw [if_pos c2] at H
    have c2b0 : decide (x4_1 < (a0.size : Int)) = true := decide_eq_true c2
    clear c2
    by_cases c3 : 0 ≤ x4_1
    ·
     rw [if_pos c3] at H
     have c3b0 : decide (0 ≤ x4_1) = true := decide_eq_true c3
     clear c3
     by_cases c5 : (bt a0 x4_1) > 32
     ·
      rw [if_pos c5] at H
      have c5b0 : decide (32 < (bt a0 x4_1)) = true := decide_eq_true c5
      clear c5
      by_cases c7 : (bt a0 x4_1) < 127
      ·
       rw [if_pos c7] at H
       have c7b0 : decide ((bt a0 x4_1) < 127) = true := decide_eq_true c7
       clear c7
       obtain ⟨t179, A9, H⟩ := bindQ H
       replace H : (if t179 < 0 then (mime_token.l0 k1 a0 (wrap64 (x4_1 + 1))) else (if x4_1 ≤ (a0.size : Int) then (some (a0.extract 0 (x4_1 : Int).toNat, a0.extract (x4_1 : Int).toNat a0.size)) else (none))) = some (r1, r2) := H
       by_cases c10 : t179 < 0
       ·
        rw [if_pos c10] at H
        have c10b0 : decide (t179 < 0) = true := decide_eq_true c10
        clear c10
        have H' := Aside0.mk H
        clear H
        have p4 : 0 ≤ (x4_1 : Int) := ofD
        have q4 : x4_1 < (a0.size : Int) := ofD
        have hx4 := bt_at a0 x4_1
        replace p4 := eq_true p4
        replace q4 := eq_true q4
        have p6 : 0 ≤ (x4_1 : Int) := ofD
        have q6 : x4_1 < (a0.size : Int) := ofD
        have hx6 := bt_at a0 x4_1
        replace p6 := eq_true p6
        replace q6 := eq_true q6
        have p8 : 0 ≤ (x4_1 : Int) := ofD
        have q8 : x4_1 < (a0.size : Int) := ofD
        have hx8 := bt_at a0 x4_1
        replace p8 := eq_true p8
        replace q8 := eq_true q8
        go_wp2_with (first | (go_at_call 40; (with_reducible refine (strings_IndexByte.calls (⟨#[40, 41, 60, 62, 64, 44, 59, 58, 92, 34, 47, 91, 93, 63, 61]⟩ : ByteArray) (bt a0 x4_1) t179 _ A9.out).mono ?_); rintro e w' ⟨rfl, ⟨nd, rfl⟩⟩; (try first | exact ⟨rfl, _, World.drewN_drewN _ _ _⟩ | exact ⟨rfl, _, Eq.trans (World.drewN_drewN _ _ _) (congrArg (World.drewN _) (Nat.add_assoc _ _ _))⟩)))
        repeat (go_quiet (first | (go_at_call 40; (with_reducible refine (strings_IndexByte.calls (⟨#[40, 41, 60, 62, 64, 44, 59, 58, 92, 34, 47, 91, 93, 63, 61]⟩ : ByteArray) (bt a0 x4_1) t179 _ A9.out).mono ?_); rintro e w' ⟨rfl, ⟨nd, rfl⟩⟩; (try first | exact ⟨rfl, _, World.drewN_drewN _ _ _⟩ | exact ⟨rfl, _, Eq.trans (World.drewN_drewN _ _ _) (congrArg (World.drewN _) (Nat.add_assoc _ _ _))⟩))); try go_wp2_with (first | (go_at_call 40; (with_reducible refine (strings_IndexByte.calls (⟨#[40, 41, 60, 62, 64, 44, 59, 58, 92, 34, 47, 91, 93, 63, 61]⟩ : ByteArray) (bt a0 x4_1) t179 _ A9.out).mono ?_); rintro e w' ⟨rfl, ⟨nd, rfl⟩⟩; (try first | exact ⟨rfl, _, World.drewN_drewN _ _ _⟩ | exact ⟨rfl, _, Eq.trans (World.drewN_drewN _ _ _) (congrArg (World.drewN _) (Nat.add_assoc _ _ _))⟩))))
        go_roundg k1
        case measure => have := HK1.out; omega
        case rel => exact ⟨(wrap64 (x4_1 + 1)), (by first | rfl | (simp [*]; done)), H', ⟨by have := HK1.out; omega⟩, by repeat (first | exact Drawn0.refl _ | apply Drawn0.step)⟩
       ·
        rw [if_neg c10] at H
        have c10b0 : decide (t179 < 0) = false := decide_eq_false c10
        clear c10
        have c11b0 := eq_true (ofD : 0 ≤ x4_1)
        by_cases c12 : x4_1 ≤ (a0.size : Int)
        ·
         rw [if_pos c12] at H
         have c12b0 := eq_true c12
         have c12b1 : decide (x4_1 ≤ (a0.size : Int)) = true := decide_eq_true c12
         clear c12
         have c13b0 := eq_true (ofD : 0 ≤ x4_1)
         have c14b0 := eq_true (ofD : x4_1 ≤ (a0.size : Int))
         simp only [Option.some.injEq, Prod.mk.injEq] at H
         obtain ⟨rfl, rfl⟩ := H
         have p4 : 0 ≤ (x4_1 : Int) := ofD
         have q4 : x4_1 < (a0.size : Int) := ofD
         have hx4 := bt_at a0 x4_1
         replace p4 := eq_true p4
         replace q4 := eq_true q4
         have p6 : 0 ≤ (x4_1 : Int) := ofD
         have q6 : x4_1 < (a0.size : Int) := ofD
         have hx6 := bt_at a0 x4_1
         replace p6 := eq_true p6
         replace q6 := eq_true q6
         have p8 : 0 ≤ (x4_1 : Int) := ofD
         have q8 : x4_1 < (a0.size : Int) := ofD
         have hx8 := bt_at a0 x4_1
         replace p8 := eq_true p8
         replace q8 := eq_true q8
         go_wp2_with (first | (go_at_call 40; (with_reducible refine (strings_IndexByte.calls (⟨#[40, 41, 60, 62, 64, 44, 59, 58, 92, 34, 47, 91, 93, 63, 61]⟩ : ByteArray) (bt a0 x4_1) t179 _ A9.out).mono ?_); rintro e w' ⟨rfl, ⟨nd, rfl⟩⟩; (try first | exact ⟨rfl, _, World.drewN_drewN _ _ _⟩ | exact ⟨rfl, _, Eq.trans (World.drewN_drewN _ _ _) (congrArg (World.drewN _) (Nat.add_assoc _ _ _))⟩)))
         repeat (go_quiet (first | (go_at_call 40; (with_reducible refine (strings_IndexByte.calls (⟨#[40, 41, 60, 62, 64, 44, 59, 58, 92, 34, 47, 91, 93, 63, 61]⟩ : ByteArray) (bt a0 x4_1) t179 _ A9.out).mono ?_); rintro e w' ⟨rfl, ⟨nd, rfl⟩⟩; (try first | exact ⟨rfl, _, World.drewN_drewN _ _ _⟩ | exact ⟨rfl, _, Eq.trans (World.drewN_drewN _ _ _) (congrArg (World.drewN _) (Nat.add_assoc _ _ _))⟩))); try go_wp2_with (first | (go_at_call 40; (with_reducible refine (strings_IndexByte.calls (⟨#[40, 41, 60, 62, 64, 44, 59, 58, 92, 34, 47, 91, 93, 63, 61]⟩ : ByteArray) (bt a0 x4_1) t179 _ A9.out).mono ?_); rintro e w' ⟨rfl, ⟨nd, rfl⟩⟩; (try first | exact ⟨rfl, _, World.drewN_drewN _ _ _⟩ | exact ⟨rfl, _, Eq.trans (World.drewN_drewN _ _ _) (congrArg (World.drewN _) (Nat.add_assoc _ _ _))⟩))))
         go_ret2
         exact drwQ
        ·
         rw [if_neg c12] at H
         exact absurd H (by simp)
      ·
       rw [if_neg c7] at H
       have c7b0 : decide ((bt a0 x4_1) < 127) = false := decide_eq_false c7
       clear c7
       have c15b0 := eq_true (ofD : 0 ≤ x4_1)
       by_cases c16 : x4_1 ≤ (a0.size : Int)
       ·
        rw [if_pos c16] at H
        have c16b0 := eq_true c16
        have c16b1 : decide (x4_1 ≤ (a0.size : Int)) = true := decide_eq_true c16
        clear c16
        have c17b0 := eq_true (ofD : 0 ≤ x4_1)
        have c18b0 := eq_true (ofD : x4_1 ≤ (a0.size : Int))
        simp only [Option.some.injEq, Prod.mk.injEq] at H
        obtain ⟨rfl, rfl⟩ := H
        have p4 : 0 ≤ (x4_1 : Int) := ofD
        have q4 : x4_1 < (a0.size : Int) := ofD
        have hx4 := bt_at a0 x4_1
        replace p4 := eq_true p4
        replace q4 := eq_true q4
        have p6 : 0 ≤ (x4_1 : Int) := ofD
        have q6 : x4_1 < (a0.size : Int) := ofD
        have hx6 := bt_at a0 x4_1
        replace p6 := eq_true p6
        replace q6 := eq_true q6
        go_wp2
        repeat (go_quiet (fail); try go_wp2)
        go_ret2
        exact drwQ
       ·
        rw [if_neg c16] at H
        exact absurd H (by simp)
     ·
      rw [if_neg c5] at H
      have c5b0 : decide (32 < (bt a0 x4_1)) = false := decide_eq_false c5
      clear c5
      have c19b0 := eq_true (ofD : 0 ≤ x4_1)
      by_cases c20 : x4_1 ≤ (a0.size : Int)
      ·
       rw [if_pos c20] at H
       have c20b0 := eq_true c20
       have c20b1 : decide (x4_1 ≤ (a0.size : Int)) = true := decide_eq_true c20
       clear c20
       have c21b0 := eq_true (ofD : 0 ≤ x4_1)
       have c22b0 := eq_true (ofD : x4_1 ≤ (a0.size : Int))
       simp only [Option.some.injEq, Prod.mk.injEq] at H
       obtain ⟨rfl, rfl⟩ := H
       have p4 : 0 ≤ (x4_1 : Int) := ofD
       have q4 : x4_1 < (a0.size : Int) := ofD
       have hx4 := bt_at a0 x4_1
       replace p4 := eq_true p4
       replace q4 := eq_true q4
       go_wp2
       repeat (go_quiet (fail); try go_wp2)
       go_ret2
       exact drwQ
      ·
       rw [if_neg c20] at H
       exact absurd H (by simp)
    ·
     rw [if_neg c3] at H
     exact absurd H (by simp)
   ·
    rw [if_neg c2] at H
    have c2b0 : decide (x4_1 < (a0.size : Int)) = false := decide_eq_false c2
    clear c2
    by_cases c23 : 0 ≤ x4_1
    ·
     rw [if_pos c23] at H
     have c23b0 := eq_true c23
     have c23b1 : decide (0 ≤ x4_1) = true := decide_eq_true c23
     clear c23
     by_cases c24 : x4_1 ≤ (a0.size : Int)
     ·
      rw [if_pos c24] at H
      have c24b0 := eq_true c24
      have c24b1 : decide (x4_1 ≤ (a0.size : Int)) = true := decide_eq_true c24
      clear c24
      have c25b0 := eq_true (ofD : 0 ≤ x4_1)
      have c26b0 := eq_true (ofD : x4_1 ≤ (a0.size : Int))
      simp only [Option.some.injEq, Prod.mk.injEq] at H
      obtain ⟨rfl, rfl⟩ := H
      go_wp2
      repeat (go_quiet (fail); try go_wp2)
      go_ret2
      exact drwQ
     ·
      rw [if_neg c24] at H
      exact absurd H (by simp)
    ·
     rw [if_neg c23] at H
     exact absurd H (by simp)
def mime_kind.f (k : Nat) (a0 : ByteArray) : Option (Bool) := (mime_token.f k a0).bind fun bt180 => ((strings_CutPrefix.f bt180.2 (⟨#[47]⟩ : ByteArray)).bind fun bt182 => ((mime_token.f k bt182.1).bind fun bt184 => (if bt182.2 = true then (if bt180.1.toList = ([] : List UInt8) then (some false) else (if bt184.1.toList = ([] : List UInt8) then (some false) else (some (bt184.2.toList == ([] : List UInt8))))) else (some false))))
theorem mime_kind.mono : ∀ a0 k, LeO (mime_kind.f k a0) (mime_kind.f (k + 1) a0) := by
 intro a0 k
 unfold mime_kind.f
 repeat' (with_reducible first | apply mime_token.mono | apply LeO.refl | exact LeO.none _ | apply LeO.ite | refine LeO.bind ?_ fun _ => ?_)
theorem mime_kind.calls (k : Nat) (a0 : ByteArray) (r : Bool) (w : World) (h : mime_kind.f k a0 = some r) :
  Calls Tryz.prog 118 #[.string a0] w fun e w' => e = .returned (.bool r) ∧ Drawn0 w w' := by
 have H : ((mime_token.f k a0).bind fun bt180 => ((strings_CutPrefix.f bt180.2 (⟨#[47]⟩ : ByteArray)).bind fun bt182 => ((mime_token.f k bt182.1).bind fun bt184 => (if bt182.2 = true then (if bt180.1.toList = ([] : List UInt8) then (some false) else (if bt184.1.toList = ([] : List UInt8) then (some false) else (some (bt184.2.toList == ([] : List UInt8))))) else (some false))))) = some r := h
 clear h
 obtain ⟨⟨t180, t181⟩, A2, H⟩ := bindQ H
 replace H : ((strings_CutPrefix.f t181 (⟨#[47]⟩ : ByteArray)).bind fun bt182 => ((mime_token.f k bt182.1).bind fun bt184 => (if bt182.2 = true then (if t180.toList = ([] : List UInt8) then (some false) else (if bt184.1.toList = ([] : List UInt8) then (some false) else (some (bt184.2.toList == ([] : List UInt8))))) else (some false)))) = some r := H
 obtain ⟨⟨t182, t183⟩, A3, H⟩ := bindQ H
 replace H : ((mime_token.f k t182).bind fun bt184 => (if t183 = true then (if t180.toList = ([] : List UInt8) then (some false) else (if bt184.1.toList = ([] : List UInt8) then (some false) else (some (bt184.2.toList == ([] : List UInt8))))) else (some false))) = some r := H
 obtain ⟨⟨t184, t185⟩, A4, H⟩ := bindQ H
 replace H : (if t183 = true then (if t180.toList = ([] : List UInt8) then (some false) else (if t184.toList = ([] : List UInt8) then (some false) else (some (t185.toList == ([] : List UInt8))))) else (some false)) = some r := H
 by_cases c5 : t183 = true
 ·
  subst c5
  have H1 : (if t180.toList = ([] : List UInt8) then (some false) else (if t184.toList = ([] : List UInt8) then (some false) else (some (t185.toList == ([] : List UInt8))))) = some r := by rw [if_pos rfl] at H; exact H
  clear H
  have H := H1
  clear H1
  by_cases c6 : t180.toList = ([] : List UInt8)
  ·
   rw [if_pos c6] at H
   have c6b0 : (t180.toList == ([] : List UInt8)) = true := beq_iff_eq.mpr c6
   have c6b1 : (t180.toList != ([] : List UInt8)) = false := bne_eq_false_iff_eq.mpr c6
   clear c6
   obtain rfl := Option.some.inj H
   go_enter Tryz.func118, Tryz.ntmps118
   go_wp2_with (first | ((with_reducible refine gate_callee (f := 156) rfl ?_); refine goesLQ (some 10) Tryz.func156 #[.string a0] ?_; (with_reducible refine (mime_token.calls k a0 t180 t181 _ A2.out).mono ?_); rintro e w' ⟨rfl, ⟨nd, rfl⟩⟩; refine ⟨_, rfl, ?_⟩) | ((with_reducible refine gate_callee (f := 109) rfl ?_); refine goesLQ (some 15) Tryz.func109 #[.string t181, .string (⟨#[47]⟩ : ByteArray)] ?_; (with_reducible refine (strings_CutPrefix.calls t181 (⟨#[47]⟩ : ByteArray) t182 true _ A3.out).mono ?_); rintro e w' ⟨rfl, ⟨nd, rfl⟩⟩; refine ⟨_, rfl, ?_⟩) | ((with_reducible refine gate_callee (f := 156) rfl ?_); refine goesLQ (some 20) Tryz.func156 #[.string t182] ?_; (with_reducible refine (mime_token.calls k t182 t184 t185 _ A4.out).mono ?_); rintro e w' ⟨rfl, ⟨nd, rfl⟩⟩; refine ⟨_, rfl, ?_⟩))
   go_ret
   exact drwQ
  ·
   rw [if_neg c6] at H
   have c6b0 : (t180.toList == ([] : List UInt8)) = false := beq_eq_false_iff_ne.mpr c6
   have c6b1 : (t180.toList != ([] : List UInt8)) = true := bne_iff_ne.mpr c6
   by_cases c7 : t184.toList = ([] : List UInt8)
   ·
    rw [if_pos c7] at H
    have c7b0 : (t184.toList == ([] : List UInt8)) = true := beq_iff_eq.mpr c7
    have c7b1 : (t184.toList != ([] : List UInt8)) = false := bne_eq_false_iff_eq.mpr c7
    clear c7
    obtain rfl := Option.some.inj H
    go_enter Tryz.func118, Tryz.ntmps118
    go_wp2_with (first | ((with_reducible refine gate_callee (f := 156) rfl ?_); refine goesLQ (some 10) Tryz.func156 #[.string a0] ?_; (with_reducible refine (mime_token.calls k a0 t180 t181 _ A2.out).mono ?_); rintro e w' ⟨rfl, ⟨nd, rfl⟩⟩; refine ⟨_, rfl, ?_⟩) | ((with_reducible refine gate_callee (f := 109) rfl ?_); refine goesLQ (some 15) Tryz.func109 #[.string t181, .string (⟨#[47]⟩ : ByteArray)] ?_; (with_reducible refine (strings_CutPrefix.calls t181 (⟨#[47]⟩ : ByteArray) t182 true _ A3.out).mono ?_); rintro e w' ⟨rfl, ⟨nd, rfl⟩⟩; refine ⟨_, rfl, ?_⟩) | ((with_reducible refine gate_callee (f := 156) rfl ?_); refine goesLQ (some 20) Tryz.func156 #[.string t182] ?_; (with_reducible refine (mime_token.calls k t182 t184 t185 _ A4.out).mono ?_); rintro e w' ⟨rfl, ⟨nd, rfl⟩⟩; refine ⟨_, rfl, ?_⟩))
    go_ret
    exact drwQ
   ·
    rw [if_neg c7] at H
    have c7b0 : (t184.toList == ([] : List UInt8)) = false := beq_eq_false_iff_ne.mpr c7
    have c7b1 : (t184.toList != ([] : List UInt8)) = true := bne_iff_ne.mpr c7
    obtain rfl := Option.some.inj H
    go_enter Tryz.func118, Tryz.ntmps118
    go_wp2_with (first | ((with_reducible refine gate_callee (f := 156) rfl ?_); refine goesLQ (some 10) Tryz.func156 #[.string a0] ?_; (with_reducible refine (mime_token.calls k a0 t180 t181 _ A2.out).mono ?_); rintro e w' ⟨rfl, ⟨nd, rfl⟩⟩; refine ⟨_, rfl, ?_⟩) | ((with_reducible refine gate_callee (f := 109) rfl ?_); refine goesLQ (some 15) Tryz.func109 #[.string t181, .string (⟨#[47]⟩ : ByteArray)] ?_; (with_reducible refine (strings_CutPrefix.calls t181 (⟨#[47]⟩ : ByteArray) t182 true _ A3.out).mono ?_); rintro e w' ⟨rfl, ⟨nd, rfl⟩⟩; refine ⟨_, rfl, ?_⟩) | ((with_reducible refine gate_callee (f := 156) rfl ?_); refine goesLQ (some 20) Tryz.func156 #[.string t182] ?_; (with_reducible refine (mime_token.calls k t182 t184 t185 _ A4.out).mono ?_); rintro e w' ⟨rfl, ⟨nd, rfl⟩⟩; refine ⟨_, rfl, ?_⟩))
    go_ret
    exact drwQ
 ·
  replace c5 := Bool.eq_false_iff.mpr c5
  subst c5
  have H1 : (some false) = some r := by rw [if_neg (show ¬ (false = true) by decide)] at H; exact H
  clear H
  have H := H1
  clear H1
  obtain rfl := Option.some.inj H
  go_enter Tryz.func118, Tryz.ntmps118
  go_wp2_with (first | ((with_reducible refine gate_callee (f := 156) rfl ?_); refine goesLQ (some 10) Tryz.func156 #[.string a0] ?_; (with_reducible refine (mime_token.calls k a0 t180 t181 _ A2.out).mono ?_); rintro e w' ⟨rfl, ⟨nd, rfl⟩⟩; refine ⟨_, rfl, ?_⟩) | ((with_reducible refine gate_callee (f := 109) rfl ?_); refine goesLQ (some 15) Tryz.func109 #[.string t181, .string (⟨#[47]⟩ : ByteArray)] ?_; (with_reducible refine (strings_CutPrefix.calls t181 (⟨#[47]⟩ : ByteArray) t182 false _ A3.out).mono ?_); rintro e w' ⟨rfl, ⟨nd, rfl⟩⟩; refine ⟨_, rfl, ?_⟩) | ((with_reducible refine gate_callee (f := 156) rfl ?_); refine goesLQ (some 20) Tryz.func156 #[.string t182] ?_; (with_reducible refine (mime_token.calls k t182 t184 t185 _ A4.out).mono ?_); rintro e w' ⟨rfl, ⟨nd, rfl⟩⟩; refine ⟨_, rfl, ?_⟩))
  go_ret
  exact drwQ
def strings_TrimLeft.f (s0 s1 : ByteArray) : Option ByteArray := if s0.size ≤ 9223372036854775807 ∧ s1.size < 4294967281 ∧ s1.data.toList.all (fun b => decide (b.toNat < 128)) = true then some ⟨(Lib.trimLeftS s0.data.toList s1.data.toList).toArray⟩ else none
theorem strings_TrimLeft.calls (s0 s1 : ByteArray) (r : ByteArray) (w : World) (h : strings_TrimLeft.f s0 s1 = some r) :
  Calls Tryz.prog 127 #[.string s0, .string s1] w fun e w' => e = .returned (.string r) ∧ Below w.heap.size w w' := by
 unfold strings_TrimLeft.f at h
 split at h
 ·
  rename_i hc
  cases h
  exact Go.Proofs.Tryz.strings_TrimLeft_laid s0 s1 w hc.2.1 hc.2.2
 · cases h
def mime_front.f (a0 : ByteArray) : Option (ByteArray) := (strings_TrimLeft.f a0 (⟨#[32, 9]⟩ : ByteArray)).bind fun t186 => (some t186)
theorem mime_front.calls (a0 : ByteArray) (r : ByteArray) (w : World) (h : mime_front.f a0 = some r) :
  Calls Tryz.prog 157 #[.string a0] w fun e w' => e = .returned (.string r) ∧ Below w.heap.size w w' := by
 have HB := Aside0.mk (Below.refl w.heap.size w)
 have H : ((strings_TrimLeft.f a0 (⟨#[32, 9]⟩ : ByteArray)).bind fun t186 => (some t186)) = some r := h
 clear h
 obtain ⟨t186, A2, H⟩ := bindQ H
 replace H : (some t186) = some r := H
 obtain rfl := Option.some.inj H
 go_enter Tryz.func157, Tryz.ntmps157
 go_wp2_with (first | ((with_reducible refine gate_callee (f := 127) rfl ?_); refine goesLQ (some 4) Tryz.func127 #[.string a0, .string (⟨#[32, 9]⟩ : ByteArray)] ?_; (with_reducible refine (strings_TrimLeft.calls a0 (⟨#[32, 9]⟩ : ByteArray) t186 _ A2.out).mono ?_); rintro e w3 ⟨rfl, hb⟩; refine ⟨_, rfl, ?_⟩; replace HB := LB HB hb))
 go_ret
 exact retQ HB
def mime_quoted.f (s0 : ByteArray) : Option (ByteArray × ByteArray × Bool) := if s0.size ≤ 17592186044416 then some (Go.Proofs.YtigcbajcifhinaaGreatDoor.Txt.quotedF s0) else none
theorem mime_quoted.calls (s0 : ByteArray) (r1 r2 : ByteArray) (r3 : Bool) (w : World) (h : mime_quoted.f s0 = some (r1, r2, r3)) :
  Calls Tryz.prog 158 #[.string s0] w fun e w' => e = .returned (.tuple #[.string r1, .string r2, .bool r3]) ∧ Below w.heap.size w w' := by
 unfold mime_quoted.f at h
 split at h
 ·
  rename_i hc
  injection h with h
  have hx := Go.Proofs.YtigcbajcifhinaaGreatDoor.Txt.quoted_any s0 w hc
  rw [h] at hx
  exact hx
 · cases h
def mime_param.j0 : Nat → ByteArray → ByteArray → Bool → Option (ByteArray × ByteArray × ByteArray × Bool)
 | 0, _, _, _ => none
 | k + 1, x5, x6, x32 => if x32 = true then (some ((⟨#[]⟩ : ByteArray), (⟨#[]⟩ : ByteArray), (⟨#[]⟩ : ByteArray), false)) else ((mime_front.f x6).bind fun t194 => ((strings_CutPrefix.f t194 (⟨#[34]⟩ : ByteArray)).bind fun bt195 => (if bt195.2 = true then ((mime_quoted.f bt195.1).bind fun bt197 => ((mime_front.f bt197.2.1).bind fun t200 => (some (x5, bt197.1, t200, bt197.2.2)))) else ((mime_token.f k t194).bind fun bt201 => ((mime_front.f bt201.2).bind fun t203 => (some (x5, bt201.1, t203, (bt201.1.toList != ([] : List UInt8)))))))))
def mime_param.f (k : Nat) (a0 : ByteArray) : Option (ByteArray × ByteArray × ByteArray × Bool) := (mime_front.f a0).bind fun t188 => ((mime_token.f k t188).bind fun bt189 => ((mime_front.f bt189.2).bind fun t191 => ((strings_CutPrefix.f t191 (⟨#[61]⟩ : ByteArray)).bind fun bt192 => (if bt189.1.toList = ([] : List UInt8) then (mime_param.j0 k bt189.1 bt192.1 true) else (mime_param.j0 k bt189.1 bt192.1 (!bt192.2))))))
theorem mime_param.mono_l : ∀ k, (∀ y0 y1 y2, LeO (mime_param.j0 k y0 y1 y2) (mime_param.j0 (k + 1) y0 y1 y2))
 | 0 => fun _ _ _ r h => by simp [mime_param.j0] at h
 | k + 1 => by
  have ih0 := mime_param.mono_l k
  ·
   intro y0 y1 y2
   unfold mime_param.j0
   repeat' (with_reducible first | apply ih0 | apply mime_token.mono | apply LeO.refl | exact LeO.none _ | apply LeO.ite | refine LeO.bind ?_ fun _ => ?_)
theorem mime_param.mono : ∀ a0 k, LeO (mime_param.f k a0) (mime_param.f (k + 1) a0) := by
 intro a0 k
 have ih0 := mime_param.mono_l k
 unfold mime_param.f
 repeat' (with_reducible first | apply ih0 | apply mime_token.mono | apply LeO.refl | exact LeO.none _ | apply LeO.ite | refine LeO.bind ?_ fun _ => ?_)
theorem mime_param.calls (k : Nat) (a0 : ByteArray) (r1 : ByteArray) (r2 : ByteArray) (r3 : ByteArray) (r4 : Bool) (w : World) (h : mime_param.f k a0 = some (r1, r2, r3, r4)) :
  Calls Tryz.prog 119 #[.string a0] w fun e w' => e = .returned (.tuple #[.agg #[.string r1, .string r2], .string r3, .bool r4]) ∧ Below w.heap.size w w' := by
 have hu43 := Tryz.underlying43
 have HB := Aside0.mk (Below.refl w.heap.size w)
 have H : ((mime_front.f a0).bind fun t188 => ((mime_token.f k t188).bind fun bt189 => ((mime_front.f bt189.2).bind fun t191 => ((strings_CutPrefix.f t191 (⟨#[61]⟩ : ByteArray)).bind fun bt192 => (if bt189.1.toList = ([] : List UInt8) then (mime_param.j0 k bt189.1 bt192.1 true) else (mime_param.j0 k bt189.1 bt192.1 (!bt192.2))))))) = some (r1, r2, r3, r4) := h
 clear h
 obtain ⟨t188, A2, H⟩ := bindQ H
 replace H : ((mime_token.f k t188).bind fun bt189 => ((mime_front.f bt189.2).bind fun t191 => ((strings_CutPrefix.f t191 (⟨#[61]⟩ : ByteArray)).bind fun bt192 => (if bt189.1.toList = ([] : List UInt8) then (mime_param.j0 k bt189.1 bt192.1 true) else (mime_param.j0 k bt189.1 bt192.1 (!bt192.2)))))) = some (r1, r2, r3, r4) := H
 obtain ⟨⟨t189, t190⟩, A3, H⟩ := bindQ H
 replace H : ((mime_front.f t190).bind fun t191 => ((strings_CutPrefix.f t191 (⟨#[61]⟩ : ByteArray)).bind fun bt192 => (if t189.toList = ([] : List UInt8) then (mime_param.j0 k t189 bt192.1 true) else (mime_param.j0 k t189 bt192.1 (!bt192.2))))) = some (r1, r2, r3, r4) := H
 obtain ⟨t191, A4, H⟩ := bindQ H
 replace H : ((strings_CutPrefix.f t191 (⟨#[61]⟩ : ByteArray)).bind fun bt192 => (if t189.toList = ([] : List UInt8) then (mime_param.j0 k t189 bt192.1 true) else (mime_param.j0 k t189 bt192.1 (!bt192.2)))) = some (r1, r2, r3, r4) := H
 obtain ⟨⟨t192, t193⟩, A5, H⟩ := bindQ H
 replace H : (if t189.toList = ([] : List UInt8) then (mime_param.j0 k t189 t192 true) else (mime_param.j0 k t189 t192 (!t193))) = some (r1, r2, r3, r4) := H
 have HC6 := Aside0.mk H
 clear H
 go_enter Tryz.func119, Tryz.ntmps119
 go_upto_region 3 with (first | ((with_reducible refine gate_dst (N := 2) rfl ?_); refine box_event ?hg (N := 2) ?hd (cs := #[.string (⟨#[]⟩ : ByteArray), .string (⟨#[]⟩ : ByteArray)]) (t := 43) ?hr ?_; (case hd => rfl); (case hg => rfl); (case hr => first | (go_simp; done) | (go_simp; rfl)); intro gb187 hg w7 hbox hb; have BK187 := Aside0.mk (hbox); have GW187 := gwQ HB hg; have GE187 := gwQ HB hg; replace HB := LB HB hb; clear hb hbox hg) | ((with_reducible refine gate_callee (f := 157) rfl ?_); refine goesLQ (some 17) Tryz.func157 #[.string a0] ?_; (with_reducible refine (mime_front.calls a0 t188 _ A2.out).mono ?_); rintro e w8 ⟨rfl, hb⟩; refine ⟨_, rfl, ?_⟩; replace BK187 := BB BK187 hb; replace HB := LB HB hb) | ((with_reducible refine gate_callee (f := 156) rfl ?_); refine goesLQ (some 18) Tryz.func156 #[.string t188] ?_; (with_reducible refine (mime_token.calls k t188 t189 t190 _ A3.out).mono ?_); rintro e w' ⟨rfl, ⟨nd, rfl⟩⟩; refine ⟨_, rfl, ?_⟩) | ((with_reducible refine gate_callee (f := 157) rfl ?_); refine goesLQ (some 23) Tryz.func157 #[.string t190] ?_; (with_reducible refine (mime_front.calls t190 t191 _ A4.out).mono ?_); rintro e w9 ⟨rfl, hb⟩; refine ⟨_, rfl, ?_⟩; replace BK187 := BB BK187 hb; replace HB := LB HB hb) | ((with_reducible refine gate_callee (f := 109) rfl ?_); refine goesLQ (some 24) Tryz.func109 #[.string t191, .string (⟨#[61]⟩ : ByteArray)] ?_; (with_reducible refine (strings_CutPrefix.calls t191 (⟨#[61]⟩ : ByteArray) t192 t193 _ A5.out).mono ?_); rintro e w' ⟨rfl, ⟨nd, rfl⟩⟩; refine ⟨_, rfl, ?_⟩))
 (try simp only [Act.put, List.setIfInBounds_toArray, List.set_cons_zero, List.set_cons_succ])
 go_cut [32] (fun v32 wc => ∃ (kq : Nat) (x32_5 : Bool), v32 = .bool x32_5 ∧ Aside0 (mime_param.j0 kq t189 t192 x32_5 = some (r1, r2, r3, r4)) ∧ Aside0 (kq ≤ k) ∧ Aside0 (wc.heap[gb187]? = some (.cells #[.string (⟨#[]⟩ : ByteArray), .string (⟨#[]⟩ : ByteArray)] 43 (0, 0))) ∧ Aside0 (Below w.heap.size w wc))
 case first =>
  have H := HC6.out
  clear HC6
  by_cases c10 : t189.toList = ([] : List UInt8)
  ·
   rw [if_pos c10] at H
   have c10b0 : (t189.toList == ([] : List UInt8)) = true := beq_iff_eq.mpr c10
   have c10b1 : (t189.toList != ([] : List UInt8)) = false := bne_eq_false_iff_eq.mpr c10
   clear c10
   (first | rw [c10b0] | (simp only [i64_w, i32_w]; rw [c10b0]) | skip)
   have H' := Aside0.mk H
   clear H
   go_wp2
   go_meet
   case rel => exact ⟨_, (true), (by first | rfl | (simp [*]; done)), H', ⟨by first | omega | exact Nat.le_refl _⟩, ⟨BX BK187⟩, ⟨LX HB⟩⟩
  ·
   rw [if_neg c10] at H
   have c10b0 : (t189.toList == ([] : List UInt8)) = false := beq_eq_false_iff_ne.mpr c10
   have c10b1 : (t189.toList != ([] : List UInt8)) = true := bne_iff_ne.mpr c10
   (first | rw [c10b0] | (simp only [i64_w, i32_w]; rw [c10b0]) | skip)
   have H' := Aside0.mk H
   clear H
   go_wp2
   go_meet
   case rel => exact ⟨_, (!t193), (by first | rfl | (simp [*]; done)), H', ⟨by first | omega | exact Nat.le_refl _⟩, ⟨BX BK187⟩, ⟨LX HB⟩⟩
 case rest =>
  clear HC6
  obtain ⟨kq, x32_5, rfl, HA, HJ5, BK187, HB⟩ := hcut
  cases kq with
  | zero => exact absurd HA.out (by simp [mime_param.j0])
  | succ kj5 =>
   have H := HA.out
   clear HA
   simp only [mime_param.j0] at H
   by_cases c11 : x32_5 = true
   ·
    subst c11
    have H1 : (some ((⟨#[]⟩ : ByteArray), (⟨#[]⟩ : ByteArray), (⟨#[]⟩ : ByteArray), false)) = some (r1, r2, r3, r4) := by rw [if_pos rfl] at H; exact H
    clear H
    have H := H1
    clear H1
    simp only [Option.some.injEq, Prod.mk.injEq] at H
    obtain ⟨rfl, rfl, rfl, rfl⟩ := H
    obtain ⟨hcz12_0, hcz12_1, hfz12_0, hfz12_1⟩ := cf2 BK187
    go_wp2
    refine bodyPost_ret (results_ctt rfl _ _ gb187 43 #[.string (⟨#[]⟩ : ByteArray), .string (⟨#[]⟩ : ByteArray)] (0, 0) _ rfl (PX2 BK187) Tryz.underlying43 rfl (by kernel_rfl)) rfl ?_
    exact retQ HB
   ·
    replace c11 := Bool.eq_false_iff.mpr c11
    subst c11
    have H1 : ((mime_front.f t192).bind fun t194 => ((strings_CutPrefix.f t194 (⟨#[34]⟩ : ByteArray)).bind fun bt195 => (if bt195.2 = true then ((mime_quoted.f bt195.1).bind fun bt197 => ((mime_front.f bt197.2.1).bind fun t200 => (some (t189, bt197.1, t200, bt197.2.2)))) else ((mime_token.f kj5 t194).bind fun bt201 => ((mime_front.f bt201.2).bind fun t203 => (some (t189, bt201.1, t203, (bt201.1.toList != ([] : List UInt8))))))))) = some (r1, r2, r3, r4) := by rw [if_neg (show ¬ (false = true) by decide)] at H; exact H
    clear H
    have H := H1
    clear H1
    obtain ⟨t194, A13, H⟩ := bindQ H
    replace H : ((strings_CutPrefix.f t194 (⟨#[34]⟩ : ByteArray)).bind fun bt195 => (if bt195.2 = true then ((mime_quoted.f bt195.1).bind fun bt197 => ((mime_front.f bt197.2.1).bind fun t200 => (some (t189, bt197.1, t200, bt197.2.2)))) else ((mime_token.f kj5 t194).bind fun bt201 => ((mime_front.f bt201.2).bind fun t203 => (some (t189, bt201.1, t203, (bt201.1.toList != ([] : List UInt8)))))))) = some (r1, r2, r3, r4) := H
    obtain ⟨⟨t195, t196⟩, A14, H⟩ := bindQ H
    replace H : (if t196 = true then ((mime_quoted.f t195).bind fun bt197 => ((mime_front.f bt197.2.1).bind fun t200 => (some (t189, bt197.1, t200, bt197.2.2)))) else ((mime_token.f kj5 t194).bind fun bt201 => ((mime_front.f bt201.2).bind fun t203 => (some (t189, bt201.1, t203, (bt201.1.toList != ([] : List UInt8))))))) = some (r1, r2, r3, r4) := H
    by_cases c15 : t196 = true
    ·
     subst c15
     have H1 : ((mime_quoted.f t195).bind fun bt197 => ((mime_front.f bt197.2.1).bind fun t200 => (some (t189, bt197.1, t200, bt197.2.2)))) = some (r1, r2, r3, r4) := by rw [if_pos rfl] at H; exact H
     clear H
     have H := H1
     clear H1
     obtain ⟨⟨t197, t198, t199⟩, A16, H⟩ := bindQ H
     replace H : ((mime_front.f t198).bind fun t200 => (some (t189, t197, t200, t199))) = some (r1, r2, r3, r4) := H
     obtain ⟨t200, A17, H⟩ := bindQ H
     replace H : (some (t189, t197, t200, t199)) = some (r1, r2, r3, r4) := H
     simp only [Option.some.injEq, Prod.mk.injEq] at H
     obtain ⟨rfl, rfl, rfl, rfl⟩ := H
     go_wp2_with (first | ((with_reducible refine gate_callee (f := 157) rfl ?_); refine goesLQ (some 35) Tryz.func157 #[.string t192] ?_; (with_reducible refine (mime_front.calls t192 t194 _ A13.out).mono ?_); rintro e w18 ⟨rfl, hb⟩; refine ⟨_, rfl, ?_⟩; replace BK187 := BB BK187 hb; replace HB := LB HB hb) | ((with_reducible refine gate_callee (f := 109) rfl ?_); refine goesLQ (some 38) Tryz.func109 #[.string t194, .string (⟨#[34]⟩ : ByteArray)] ?_; (with_reducible refine (strings_CutPrefix.calls t194 (⟨#[34]⟩ : ByteArray) t195 true _ A14.out).mono ?_); rintro e w' ⟨rfl, ⟨nd, rfl⟩⟩; refine ⟨_, rfl, ?_⟩; (try (rw [drewN_self w18]; generalize hq_ : World.drewN w18 _ = w18; have n0_ : Aside0 (w18.heap[gb187]? = some (.cells #[.string (⟨#[]⟩ : ByteArray), .string (⟨#[]⟩ : ByteArray)] 43 (0, 0))) := ⟨by rw [← hq_]; exact (BX BK187)⟩; have n1_ : Aside0 (Below w.heap.size w w18) := ⟨by rw [← hq_]; exact (LX HB)⟩; clear BK187 HB hq_; have BK187 := n0_; have HB := n1_; clear n0_ n1_))) | ((with_reducible refine gate_callee (f := 158) rfl ?_); refine goesLQ (some 44) Tryz.func158 #[.string t195] ?_; (with_reducible refine (mime_quoted.calls t195 t197 t198 t199 _ A16.out).mono ?_); rintro e w19 ⟨rfl, hb⟩; refine ⟨_, rfl, ?_⟩; replace BK187 := BB BK187 hb; replace HB := LB HB hb) | ((with_reducible refine gate_callee (f := 157) rfl ?_); refine goesLQ (some 52) Tryz.func157 #[.string t198] ?_; (with_reducible refine (mime_front.calls t198 t200 _ A17.out).mono ?_); rintro e w20 ⟨rfl, hb⟩; refine ⟨_, rfl, ?_⟩; replace BK187 := BB BK187 hb; replace HB := LB HB hb; obtain ⟨hcz21_0, hcz21_1, hfz21_0, hfz21_1⟩ := cf2 BK187))
     refine bodyPost_ret (results_ctt rfl _ _ gb187 43 #[.string t189, .string t197] (0, 0) _ rfl (PX2 BK187) Tryz.underlying43 rfl (by kernel_rfl)) rfl ?_
     exact retQ HB
    ·
     replace c15 := Bool.eq_false_iff.mpr c15
     subst c15
     have H1 : ((mime_token.f kj5 t194).bind fun bt201 => ((mime_front.f bt201.2).bind fun t203 => (some (t189, bt201.1, t203, (bt201.1.toList != ([] : List UInt8)))))) = some (r1, r2, r3, r4) := by rw [if_neg (show ¬ (false = true) by decide)] at H; exact H
     clear H
     have H := H1
     clear H1
     obtain ⟨⟨t201, t202⟩, A22, H⟩ := bindQ H
     replace H : ((mime_front.f t202).bind fun t203 => (some (t189, t201, t203, (t201.toList != ([] : List UInt8))))) = some (r1, r2, r3, r4) := H
     obtain ⟨t203, A23, H⟩ := bindQ H
     replace H : (some (t189, t201, t203, (t201.toList != ([] : List UInt8)))) = some (r1, r2, r3, r4) := H
     simp only [Option.some.injEq, Prod.mk.injEq] at H
     obtain ⟨rfl, rfl, rfl, rfl⟩ := H
     go_wp2_with (first | ((with_reducible refine gate_callee (f := 157) rfl ?_); refine goesLQ (some 35) Tryz.func157 #[.string t192] ?_; (with_reducible refine (mime_front.calls t192 t194 _ A13.out).mono ?_); rintro e w24 ⟨rfl, hb⟩; refine ⟨_, rfl, ?_⟩; replace BK187 := BB BK187 hb; replace HB := LB HB hb) | ((with_reducible refine gate_callee (f := 109) rfl ?_); refine goesLQ (some 38) Tryz.func109 #[.string t194, .string (⟨#[34]⟩ : ByteArray)] ?_; (with_reducible refine (strings_CutPrefix.calls t194 (⟨#[34]⟩ : ByteArray) t195 false _ A14.out).mono ?_); rintro e w' ⟨rfl, ⟨nd, rfl⟩⟩; refine ⟨_, rfl, ?_⟩; (try (rw [drewN_self w24]; generalize hq_ : World.drewN w24 _ = w24; have n0_ : Aside0 (w24.heap[gb187]? = some (.cells #[.string (⟨#[]⟩ : ByteArray), .string (⟨#[]⟩ : ByteArray)] 43 (0, 0))) := ⟨by rw [← hq_]; exact (BX BK187)⟩; have n1_ : Aside0 (Below w.heap.size w w24) := ⟨by rw [← hq_]; exact (LX HB)⟩; clear BK187 HB hq_; have BK187 := n0_; have HB := n1_; clear n0_ n1_))) | ((with_reducible refine gate_callee (f := 156) rfl ?_); refine goesLQ (some 56) Tryz.func156 #[.string t194] ?_; (with_reducible refine (mime_token.calls kj5 t194 t201 t202 _ A22.out).mono ?_); rintro e w' ⟨rfl, ⟨nd, rfl⟩⟩; refine ⟨_, rfl, ?_⟩; (try (rw [drewN_self w24]; generalize hq_ : World.drewN w24 _ = w24; have n0_ : Aside0 (w24.heap[gb187]? = some (.cells #[.string (⟨#[]⟩ : ByteArray), .string (⟨#[]⟩ : ByteArray)] 43 (0, 0))) := ⟨by rw [← hq_]; exact (BX BK187)⟩; have n1_ : Aside0 (Below w.heap.size w w24) := ⟨by rw [← hq_]; exact (LX HB)⟩; clear BK187 HB hq_; have BK187 := n0_; have HB := n1_; clear n0_ n1_))) | ((with_reducible refine gate_callee (f := 157) rfl ?_); refine goesLQ (some 63) Tryz.func157 #[.string t202] ?_; (with_reducible refine (mime_front.calls t202 t203 _ A23.out).mono ?_); rintro e w25 ⟨rfl, hb⟩; refine ⟨_, rfl, ?_⟩; replace BK187 := BB BK187 hb; replace HB := LB HB hb; obtain ⟨hcz26_0, hcz26_1, hfz26_0, hfz26_1⟩ := cf2 BK187))
     refine bodyPost_ret (results_ctt rfl _ _ gb187 43 #[.string t189, .string t201] (0, 0) _ rfl (PX2 BK187) Tryz.underlying43 rfl (by kernel_rfl)) rfl ?_
     exact ⟨by first | rfl | (simp [errW_none, errW_some]; cases t201.toList <;> rfl) | (simp [errW_none, errW_some] <;> rfl) | (simp [*, errW_none, errW_some] <;> rfl), LX HB⟩
def mime_Type.l0 : Nat → ByteArray → ByteArray → Bool → List (S43) → Option (ByteArray × (List (S43)))
 | 0, _, _, _, _ => none
 | k + 1, x4, x5, x6, x7 => if x6 = true then ((mime_param.f k x5).bind fun bt210 => (if bt210.2.2.2 = true then (if x7.length < 4398046511104 then ((strings_CutPrefix.f bt210.2.2.1 (⟨#[59]⟩ : ByteArray)).bind fun bt218 => (mime_Type.l0 k x4 bt218.1 bt218.2 (x7 ++ [(⟨bt210.1, bt210.2.1⟩ : S43)]))) else (none)) else (some (x4, x7)))) else (some (x4, x7))
def mime_Type.f (k : Nat) (a0 : ByteArray) : Option (ByteArray × (List (S43))) := (strings_Cut.f a0 (⟨#[59]⟩ : ByteArray)).bind fun bt204 => ((strings_Trim.f bt204.1 (⟨#[32, 9]⟩ : ByteArray)).bind fun t207 => ((mime_small.f t207).bind fun t208 => ((mime_kind.f k t208).bind fun t209 => (if t209 = true then (mime_Type.l0 k t208 bt204.2.1 bt204.2.2 ([] : List (S43))) else (some ((⟨#[116, 101, 120, 116, 47, 112, 108, 97, 105, 110]⟩ : ByteArray), ([] : List (S43))))))))
theorem mime_Type.mono_l : ∀ k, (∀ y0 y1 y2 y3, LeO (mime_Type.l0 k y0 y1 y2 y3) (mime_Type.l0 (k + 1) y0 y1 y2 y3))
 | 0 => fun _ _ _ _ r h => by simp [mime_Type.l0] at h
 | k + 1 => by
  have ih0 := mime_Type.mono_l k
  ·
   intro y0 y1 y2 y3
   unfold mime_Type.l0
   repeat' (with_reducible first | apply ih0 | apply mime_kind.mono | apply mime_param.mono | apply LeO.refl | exact LeO.none _ | apply LeO.ite | refine LeO.bind ?_ fun _ => ?_)
theorem mime_Type.mono : ∀ a0 k, LeO (mime_Type.f k a0) (mime_Type.f (k + 1) a0) := by
 intro a0 k
 have ih0 := mime_Type.mono_l k
 unfold mime_Type.f
 repeat' (with_reducible first | apply ih0 | apply mime_kind.mono | apply mime_param.mono | apply LeO.refl | exact LeO.none _ | apply LeO.ite | refine LeO.bind ?_ fun _ => ?_)
theorem mime_Type.calls (k : Nat) (a0 : ByteArray) (r1 : ByteArray) (r2 : List (S43)) (w : World) (hT : Tabs w) (h : mime_Type.f k a0 = some (r1, r2)) :
  Calls Tryz.prog 85 #[.string a0] w fun e w' => ∃ v1_ : Value, e = .returned (.tuple #[.string r1, v1_]) ∧ Kd.R k43 43 w' w.heap.size (fun _ => True) v1_ r2 ∧ Below w.heap.size w w' := by
 have hu43 := Tryz.underlying43
 have HTAB := Aside0.mk hT
 clear hT
 have HB := Aside0.mk (Below.refl w.heap.size w)
 have H : ((strings_Cut.f a0 (⟨#[59]⟩ : ByteArray)).bind fun bt204 => ((strings_Trim.f bt204.1 (⟨#[32, 9]⟩ : ByteArray)).bind fun t207 => ((mime_small.f t207).bind fun t208 => ((mime_kind.f k t208).bind fun t209 => (if t209 = true then (mime_Type.l0 k t208 bt204.2.1 bt204.2.2 ([] : List (S43))) else (some ((⟨#[116, 101, 120, 116, 47, 112, 108, 97, 105, 110]⟩ : ByteArray), ([] : List (S43))))))))) = some (r1, r2) := h
 clear h
 obtain ⟨⟨t204, t205, t206⟩, A2, H⟩ := bindQ H
 replace H : ((strings_Trim.f t204 (⟨#[32, 9]⟩ : ByteArray)).bind fun t207 => ((mime_small.f t207).bind fun t208 => ((mime_kind.f k t208).bind fun t209 => (if t209 = true then (mime_Type.l0 k t208 t205 t206 ([] : List (S43))) else (some ((⟨#[116, 101, 120, 116, 47, 112, 108, 97, 105, 110]⟩ : ByteArray), ([] : List (S43)))))))) = some (r1, r2) := H
 obtain ⟨t207, A3, H⟩ := bindQ H
 replace H : ((mime_small.f t207).bind fun t208 => ((mime_kind.f k t208).bind fun t209 => (if t209 = true then (mime_Type.l0 k t208 t205 t206 ([] : List (S43))) else (some ((⟨#[116, 101, 120, 116, 47, 112, 108, 97, 105, 110]⟩ : ByteArray), ([] : List (S43))))))) = some (r1, r2) := H
 obtain ⟨t208, A4, H⟩ := bindQ H
 replace H : ((mime_kind.f k t208).bind fun t209 => (if t209 = true then (mime_Type.l0 k t208 t205 t206 ([] : List (S43))) else (some ((⟨#[116, 101, 120, 116, 47, 112, 108, 97, 105, 110]⟩ : ByteArray), ([] : List (S43)))))) = some (r1, r2) := H
 obtain ⟨t209, A5, H⟩ := bindQ H
 replace H : (if t209 = true then (mime_Type.l0 k t208 t205 t206 ([] : List (S43))) else (some ((⟨#[116, 101, 120, 116, 47, 112, 108, 97, 105, 110]⟩ : ByteArray), ([] : List (S43))))) = some (r1, r2) := H
 by_cases c6 : t209 = true
 ·
  subst c6
  have H1 : (mime_Type.l0 k t208 t205 t206 ([] : List (S43))) = some (r1, r2) := by rw [if_pos rfl] at H; exact H
  clear H
  have H := H1
  clear H1
  have H' := Aside0.mk H
  clear H
  go_enter Tryz.func85, Tryz.ntmps85
  go_wp2_with (first | ((with_reducible refine gate_callee (f := 44) rfl ?_); refine goesLQ (some 13) Tryz.func44 #[.string a0, .string (⟨#[59]⟩ : ByteArray)] ?_; (with_reducible refine (strings_Cut.calls a0 (⟨#[59]⟩ : ByteArray) t204 t205 t206 _ ?side1 A2.out).mono ?_); (case side1 => first | exact TX HTAB HB | exact TD HTAB); rintro e w' ⟨rfl, ⟨nd, rfl⟩⟩; refine ⟨_, rfl, ?_⟩) | ((with_reducible refine gate_callee (f := 35) rfl ?_); refine goesLQ (some 18) Tryz.func35 #[.string t204, .string (⟨#[32, 9]⟩ : ByteArray)] ?_; (with_reducible refine (strings_Trim.calls t204 (⟨#[32, 9]⟩ : ByteArray) t207 _ A3.out).mono ?_); rintro e w7 ⟨rfl, hb⟩; refine ⟨_, rfl, ?_⟩; replace HB := LB HB hb) | ((with_reducible refine gate_callee (f := 117) rfl ?_); refine goesLQ (some 19) Tryz.func117 #[.string t207] ?_; (with_reducible refine (mime_small.calls t207 t208 _ A4.out).mono ?_); rintro e w8 ⟨rfl, hb⟩; refine ⟨_, rfl, ?_⟩; replace HB := LB HB hb) | ((with_reducible refine gate_callee (f := 118) rfl ?_); refine goesLQ (some 21) Tryz.func118 #[.string t208] ?_; (with_reducible refine (mime_kind.calls k t208 true _ A5.out).mono ?_); rintro e w' ⟨rfl, ⟨nd, rfl⟩⟩; refine ⟨_, rfl, ?_⟩))
  go_loopg [5, 6, 7] k (fun kq v5 v6 v7 w' => ∃ (x5_1 : ByteArray) (x6_1 : Bool) (x7_1 : List (S43)), v5 = .string x5_1 ∧ v6 = .bool x6_1 ∧ Aside0 (mime_Type.l0 kq t208 x5_1 x6_1 x7_1 = some (r1, r2)) ∧ Aside0 (kq ≤ k) ∧ Aside0 (Kd.R k43 43 w' w.heap.size (fun _ => True) v7 x7_1) ∧ Aside0 (Below w.heap.size w w'))
  case atStart => exact ⟨(t205), (t206), (([] : List (S43))), (by first | rfl | (simp [*]; done)), (by first | rfl | (simp [*]; done)), H', ⟨Nat.le_refl _⟩, ⟨by first | exact Kd.R_nil _ _ _ _ _ | exact Kd.N_nil _ _ _ _ _ | exact Kd.V_nil _ _ _ _ _ | exact Kd.Q_nil _ _ _ _ _ | exact Kd.S_nil _ _ _ _ _⟩, ⟨LX HB⟩⟩
  case round =>
   clear H'
   obtain ⟨x5_1, x6_1, x7_1, rfl, rfl, HA, HK1, HO_7, HB⟩ := hrel
   cases gk with
   | zero => exact absurd HA.out (by simp [mime_Type.l0])
   | succ k1 =>
    have H := HA.out
    clear HA
    simp only [mime_Type.l0] at H
    by_cases c9 : x6_1 = true
    ·
     subst c9
     have H1 : ((mime_param.f k1 x5_1).bind fun bt210 => (if bt210.2.2.2 = true then (if x7_1.length < 4398046511104 then ((strings_CutPrefix.f bt210.2.2.1 (⟨#[59]⟩ : ByteArray)).bind fun bt218 => (mime_Type.l0 k1 t208 bt218.1 bt218.2 (x7_1 ++ [(⟨bt210.1, bt210.2.1⟩ : S43)]))) else (none)) else (some (t208, x7_1)))) = some (r1, r2) := by rw [if_pos rfl] at H; exact H
     clear H
     have H := H1
     clear H1
     obtain ⟨⟨t210, t211, t212, t213⟩, A10, H⟩ := bindQ H
     replace H : (if t213 = true then (if x7_1.length < 4398046511104 then ((strings_CutPrefix.f t212 (⟨#[59]⟩ : ByteArray)).bind fun bt218 => (mime_Type.l0 k1 t208 bt218.1 bt218.2 (x7_1 ++ [(⟨t210, t211⟩ : S43)]))) else (none)) else (some (t208, x7_1))) = some (r1, r2) := H
     by_cases c11 : t213 = true
     ·
      subst c11
      have H1 : (if x7_1.length < 4398046511104 then ((strings_CutPrefix.f t212 (⟨#[59]⟩ : ByteArray)).bind fun bt218 => (mime_Type.l0 k1 t208 bt218.1 bt218.2 (x7_1 ++ [(⟨t210, t211⟩ : S43)]))) else (none)) = some (r1, r2) := by rw [if_pos rfl] at H; exact H
      clear H
      have H := H1
      clear H1
      by_cases c12 : x7_1.length < 4398046511104
      ·
       rw [if_pos c12] at H
       have LMc12 := Aside0.mk c12
       clear c12
       obtain ⟨y215, hy215⟩ : ∃ y_ : List (S43), y_ = (x7_1 ++ [(⟨t210, t211⟩ : S43)]) := ⟨_, rfl⟩
       replace H : ((strings_CutPrefix.f t212 (⟨#[59]⟩ : ByteArray)).bind fun bt218 => (mime_Type.l0 k1 t208 bt218.1 bt218.2 y215)) = some (r1, r2) := by first | (rw [hy215]; with_reducible exact H) | (have H2_ := (Option.bind_some _ _).symm.trans H; rw [hy215]; with_reducible exact H2_) | (have H2_ := (Option.bind_some _ _).symm.trans H; with_reducible exact H2_) | with_reducible exact H | (rw [hy215]; exact H) | exact H
       have Ny215 := Aside0.mk hy215
       clear hy215
       obtain ⟨⟨t218, t219⟩, A13, H⟩ := bindQ H
       replace H : (mime_Type.l0 k1 t208 t218 t219 y215) = some (r1, r2) := H
       have H' := Aside0.mk H
       clear H
       go_wp2_with (first | ((with_reducible refine gate_callee (f := 119) rfl ?_); refine goesLQ (some 26) Tryz.func119 #[.string x5_1] ?_; (with_reducible refine (mime_param.calls k1 x5_1 t210 t211 t212 true _ A10.out).mono ?_); rintro e w14 ⟨rfl, hb⟩; refine ⟨_, rfl, ?_⟩; replace HO_7 := RB HO_7 hb; replace HB := LB HB hb) | ((with_reducible refine gate_dst (N := 8) rfl ?_); refine box_event ?hg (N := 8) ?hd (cs := #[.string (⟨#[]⟩ : ByteArray), .string (⟨#[]⟩ : ByteArray)]) (t := 43) ?hr ?_; (case hd => rfl); (case hg => rfl); (case hr => first | (go_simp; done) | (go_simp; rfl)); intro gb214 hg w15 hbox hb; replace HO_7 := Aside0.mk (Kd.R_below (Kd.R_elderB (RX HO_7) gb214 (Nat.le_of_eq hg.symm)) hb); have BK214 := Aside0.mk (hbox); have GW214 := gwQ HB hg; have GE214 := gwQ HB hg; replace HB := LB HB hb; clear hb hbox hg; obtain ⟨hcz16_0, hcz16_1, hfz16_0, hfz16_1⟩ := cf2 BK214) | ((with_reducible refine gate_builtin (b := .append) (xs := #[.tmp 32, .tmp 34]) rfl ?_); at_builtin; refine Kd.R_append k43 (w0 := w) w.heap.size rfl (.tmp 32) (.tmp 34) 39 43 (.agg #[(.string ⟨#[]⟩), (.string ⟨#[]⟩)]) 32 rfl Tryz.underlying39 info43 rfl (by decide) (by omega) u7 x7_1 (⟨t210, t211⟩ : S43) [.string t210, .string t211] (fun k_ => k_ ≠ gb214) (fun _ => False) rfl (by first | (go_simp; done) | (go_simp; rfl)) ?aP (fun _ hk => hk.elim) ?aF ?aO ?aB ?aS ?aL ?_; (case aP => exact k43_mkM _ _ _ (⟨t210, t211⟩ : S43)); (case aB => exact (LX HB)); (case aF => exact (fun k_ hk => Kd.freshB (g := gb214) (o := .cells #[.string t210, .string t211] 43 (0, 0)) (PX2 BK214) k_ hk)); (case aO => exact (by (with_reducible repeat (first | apply Kd.R_alloc | apply Kd.R_drewN | apply Kd.R_drew)); exact Kd.R_mono (far2 gb214 (Kd.R_mono HO_7.out (fun k_ hk => (⟨hk, hk.2⟩ : _ ∧ k_ ≠ gb214)))) (fun _ hk => hk.1.2))); (case aS => exact (below_size (LX HB))); (case aL => have := LMc12.out; omega); intro v216 w17 ho hb hg hat; rw [← Ny215.out] at ho; replace BK214 := Aside0.mk (blk_grown (g := gb214) (o := .cells #[.string t210, .string t211] 43 (0, 0)) (PX2 BK214) hg (Kd.R_away HO_7.out (fun _ hk => hk.2))); replace HB := Aside0.mk (hb); have HO217 := Aside0.mk (ho); clear HO_7; clear ho hb hg hat) | ((with_reducible refine gate_callee (f := 109) rfl ?_); refine goesLQ (some 38) Tryz.func109 #[.string t212, .string (⟨#[59]⟩ : ByteArray)] ?_; (with_reducible refine (strings_CutPrefix.calls t212 (⟨#[59]⟩ : ByteArray) t218 t219 _ A13.out).mono ?_); rintro e w' ⟨rfl, ⟨nd, rfl⟩⟩; refine ⟨_, rfl, ?_⟩))
       go_roundg k1
       case measure => have := HK1.out; omega
       case rel => exact ⟨(t218), (t219), (y215), (by first | rfl | (simp [*]; done)), (by first | rfl | (simp [*]; done)), H', ⟨by have := HK1.out; omega⟩, ⟨by (with_reducible repeat (first | apply Kd.R_alloc | apply Kd.R_drewN | apply Kd.R_drew)); exact Kd.R_mono HO217.out (fun _ hk => trivial)⟩, ⟨LX HB⟩⟩
      ·
       rw [if_neg c12] at H
       exact absurd H (by simp)
     ·
      replace c11 := Bool.eq_false_iff.mpr c11
      subst c11
      have H1 : (some (t208, x7_1)) = some (r1, r2) := by rw [if_neg (show ¬ (false = true) by decide)] at H; exact H
      clear H
      have H := H1
      clear H1
      simp only [Option.some.injEq, Prod.mk.injEq] at H
      obtain ⟨rfl, rfl⟩ := H
      go_wp2_with (first | ((with_reducible refine gate_callee (f := 119) rfl ?_); refine goesLQ (some 26) Tryz.func119 #[.string x5_1] ?_; (with_reducible refine (mime_param.calls k1 x5_1 t210 t211 t212 false _ A10.out).mono ?_); rintro e w18 ⟨rfl, hb⟩; refine ⟨_, rfl, ?_⟩; replace HO_7 := RB HO_7 hb; replace HB := LB HB hb) | ((with_reducible refine gate_dst (N := 8) rfl ?_); refine box_event ?hg (N := 8) ?hd (cs := #[.string (⟨#[]⟩ : ByteArray), .string (⟨#[]⟩ : ByteArray)]) (t := 43) ?hr ?_; (case hd => rfl); (case hg => rfl); (case hr => first | (go_simp; done) | (go_simp; rfl)); intro gb214 hg w19 hbox hb; replace HO_7 := Aside0.mk (Kd.R_below (Kd.R_elderB (RX HO_7) gb214 (Nat.le_of_eq hg.symm)) hb); have BK214 := Aside0.mk (hbox); have GW214 := gwQ HB hg; have GE214 := gwQ HB hg; replace HB := LB HB hb; clear hb hbox hg; obtain ⟨hcz20_0, hcz20_1, hfz20_0, hfz20_1⟩ := cf2 BK214))
      go_ret2
      exact ⟨_, by first | rfl | (simp [errW_none, errW_some] <;> rfl) | (simp [*, errW_none, errW_some] <;> rfl), by (with_reducible repeat (first | apply Kd.R_alloc | apply Kd.R_drewN | apply Kd.R_drew)); exact Kd.R_mono (far2 gb214 (Kd.R_mono HO_7.out (fun k_ hk => (⟨hk, hk.2⟩ : _ ∧ k_ ≠ gb214)))) (fun _ hk => trivial), LX HB⟩
    ·
     replace c9 := Bool.eq_false_iff.mpr c9
     subst c9
     have H1 : (some (t208, x7_1)) = some (r1, r2) := by rw [if_neg (show ¬ (false = true) by decide)] at H; exact H
     clear H
     have H := H1
     clear H1
     simp only [Option.some.injEq, Prod.mk.injEq] at H
     obtain ⟨rfl, rfl⟩ := H
     go_wp2
     go_ret2
     exact ⟨_, by first | rfl | (simp [errW_none, errW_some] <;> rfl) | (simp [*, errW_none, errW_some] <;> rfl), by (with_reducible repeat (first | apply Kd.R_alloc | apply Kd.R_drewN | apply Kd.R_drew)); exact HO_7.out, LX HB⟩
 ·
  replace c6 := Bool.eq_false_iff.mpr c6
  subst c6
  have H1 : (some ((⟨#[116, 101, 120, 116, 47, 112, 108, 97, 105, 110]⟩ : ByteArray), ([] : List (S43)))) = some (r1, r2) := by rw [if_neg (show ¬ (false = true) by decide)] at H; exact H
  clear H
  have H := H1
  clear H1
  simp only [Option.some.injEq, Prod.mk.injEq] at H
  obtain ⟨rfl, rfl⟩ := H
  go_enter Tryz.func85, Tryz.ntmps85
  go_wp2_with (first | ((with_reducible refine gate_callee (f := 44) rfl ?_); refine goesLQ (some 13) Tryz.func44 #[.string a0, .string (⟨#[59]⟩ : ByteArray)] ?_; (with_reducible refine (strings_Cut.calls a0 (⟨#[59]⟩ : ByteArray) t204 t205 t206 _ ?side1 A2.out).mono ?_); (case side1 => first | exact TX HTAB HB | exact TD HTAB); rintro e w' ⟨rfl, ⟨nd, rfl⟩⟩; refine ⟨_, rfl, ?_⟩) | ((with_reducible refine gate_callee (f := 35) rfl ?_); refine goesLQ (some 18) Tryz.func35 #[.string t204, .string (⟨#[32, 9]⟩ : ByteArray)] ?_; (with_reducible refine (strings_Trim.calls t204 (⟨#[32, 9]⟩ : ByteArray) t207 _ A3.out).mono ?_); rintro e w21 ⟨rfl, hb⟩; refine ⟨_, rfl, ?_⟩; replace HB := LB HB hb) | ((with_reducible refine gate_callee (f := 117) rfl ?_); refine goesLQ (some 19) Tryz.func117 #[.string t207] ?_; (with_reducible refine (mime_small.calls t207 t208 _ A4.out).mono ?_); rintro e w22 ⟨rfl, hb⟩; refine ⟨_, rfl, ?_⟩; replace HB := LB HB hb) | ((with_reducible refine gate_callee (f := 118) rfl ?_); refine goesLQ (some 21) Tryz.func118 #[.string t208] ?_; (with_reducible refine (mime_kind.calls k t208 false _ A5.out).mono ?_); rintro e w' ⟨rfl, ⟨nd, rfl⟩⟩; refine ⟨_, rfl, ?_⟩))
  go_ret2
  exact ⟨_, by first | rfl | (simp [errW_none, errW_some] <;> rfl) | (simp [*, errW_none, errW_some] <;> rfl), by first | exact Kd.R_nil _ _ _ _ _ | exact Kd.N_nil _ _ _ _ _ | exact Kd.V_nil _ _ _ _ _ | exact Kd.Q_nil _ _ _ _ _ | exact Kd.S_nil _ _ _ _ _, LX HB⟩
def mime_Param.f (k : Nat) (l0 : List (S43)) (a1 : ByteArray) : Option (ByteArray × Int) := (head_Find.f k l0 a1).bind fun bt220 => (some (bt220.1, bt220.2))
theorem mime_Param.mono : ∀ a0 a1 k, LeO (mime_Param.f k a0 a1) (mime_Param.f (k + 1) a0 a1) := by
 intro a0 a1 k
 unfold mime_Param.f
 repeat' (with_reducible first | apply head_Find.mono | apply LeO.refl | exact LeO.none _ | apply LeO.ite | refine LeO.bind ?_ fun _ => ?_)
theorem mime_Param.calls (k : Nat) (A0 : Option Addr) (c0 : Nat) (l0 : List (S43)) (a1 : ByteArray) (r1 : ByteArray) (r2 : Int) (w : World) (hr0 : Kd.C k43 w A0 l0.length l0) (hc0 : l0.length ≤ c0) (h : mime_Param.f k l0 a1 = some (r1, r2)) :
  Calls Tryz.prog 86 #[.slice A0 l0.length c0, .string a1] w fun e w' => e = .returned (.tuple #[.string r1, .int .i64 r2]) ∧ Below w.heap.size w w' := by
 have HR0 := Aside0.mk hr0
 have HC0 := Aside0.mk hc0
 clear hr0 hc0
 have HB := Aside0.mk (Below.refl w.heap.size w)
 have H : ((head_Find.f k l0 a1).bind fun bt220 => (some (bt220.1, bt220.2))) = some (r1, r2) := h
 clear h
 obtain ⟨⟨t220, t221⟩, A3, H⟩ := bindQ H
 replace H : (some (t220, t221)) = some (r1, r2) := H
 simp only [Option.some.injEq, Prod.mk.injEq] at H
 obtain ⟨rfl, rfl⟩ := H
 go_enter Tryz.func86, Tryz.ntmps86
 go_wp2_with (first | ((with_reducible refine gate_callee (f := 19) rfl ?_); refine goesLQ (some 8) Tryz.func19 #[.slice A0 l0.length c0, .string a1] ?_; (with_reducible refine (head_Find.calls k _ _ l0 a1 t220 t221 _ ?side1 ?side2 A3.out).mono ?_); (case side1 => repeat (first | exact HR0.out | (with_reducible refine Kd.C_alloc ?_ _) | (with_reducible refine Kd.C_drewN ?_ _) | (with_reducible refine Kd.C_drew ?_))); (case side2 => exact HC0.out); rintro e w4 ⟨rfl, hb⟩; refine ⟨_, rfl, ?_⟩; replace HB := LB HB hb))
 go_ret2
 exact retQ HB
def mime_or.f (a0 : ByteArray) (a1 : Int) (a2 : ByteArray) : Option (ByteArray) := if a1 = 0 then ((mime_small.f a0).bind fun t222 => (some t222)) else (some a2)
theorem mime_or.calls (a0 : ByteArray) (a1 : Int) (a2 : ByteArray) (r : ByteArray) (w : World) (h : mime_or.f a0 a1 a2 = some r) :
  Calls Tryz.prog 87 #[.string a0, .int .i64 a1, .string a2] w fun e w' => e = .returned (.string r) ∧ Below w.heap.size w w' := by
 have HB := Aside0.mk (Below.refl w.heap.size w)
 have H : (if a1 = 0 then ((mime_small.f a0).bind fun t222 => (some t222)) else (some a2)) = some r := h
 clear h
 by_cases c4 : a1 = 0
 ·
  rw [if_pos c4] at H
  have c4b0 : (a1 == 0) = true := beq_iff_eq.mpr c4
  have c4b1 : (a1 != 0) = false := bne_eq_false_iff_eq.mpr c4
  clear c4
  obtain ⟨t222, A5, H⟩ := bindQ H
  replace H : (some t222) = some r := H
  obtain rfl := Option.some.inj H
  go_enter Tryz.func87, Tryz.ntmps87
  go_wp2_with (first | ((with_reducible refine gate_callee (f := 117) rfl ?_); refine goesLQ (some 11) Tryz.func117 #[.string a0] ?_; (with_reducible refine (mime_small.calls a0 t222 _ A5.out).mono ?_); rintro e w6 ⟨rfl, hb⟩; refine ⟨_, rfl, ?_⟩; replace HB := LB HB hb))
  go_ret
  exact retQ HB
 ·
  rw [if_neg c4] at H
  have c4b0 : (a1 == 0) = false := beq_eq_false_iff_ne.mpr c4
  have c4b1 : (a1 != 0) = true := bne_iff_ne.mpr c4
  obtain rfl := Option.some.inj H
  go_enter Tryz.func87, Tryz.ntmps87
  go_wp2
  go_ret
  exact retQ HB
def strings_TrimSuffix.f (s0 s1 : ByteArray) : Option ByteArray := if s0.size ≤ 9223372036854775807 then some ⟨(Lib.trimSuffix s0.data.toList s1.data.toList).toArray⟩ else none
theorem strings_TrimSuffix.calls (s0 s1 : ByteArray) (r : ByteArray) (w : World) (h : strings_TrimSuffix.f s0 s1 = some r) :
  Calls Tryz.prog 75 #[.string s0, .string s1] w fun e w' => e = .returned (.string r) ∧ Drawn0 w w' := by
 unfold strings_TrimSuffix.f at h
 split at h
 ·
  rename_i hc
  cases h
  exact (Go.Proofs.Tryz.strings_TrimSuffix s0 s1 w hc).mono fun e w' ⟨he, hw⟩ => ⟨he, by subst hw; exact Drawn0.refl _⟩
 · cases h
def head_Line.f (a0 : ByteArray) : Option (ByteArray × ByteArray) := (strings_Cut.f a0 (⟨#[10]⟩ : ByteArray)).bind fun bt223 => (if bt223.2.2 = true then ((strings_TrimSuffix.f bt223.1 (⟨#[13]⟩ : ByteArray)).bind fun t226 => (some (t226, bt223.2.1))) else (some (bt223.1, bt223.2.1)))
theorem head_Line.calls (a0 : ByteArray) (r1 : ByteArray) (r2 : ByteArray) (w : World) (hT : Tabs w) (h : head_Line.f a0 = some (r1, r2)) :
  Calls Tryz.prog 38 #[.string a0] w fun e w' => e = .returned (.tuple #[.string r1, .string r2]) ∧ Drawn0 w w' := by
 have HTAB := Aside0.mk hT
 clear hT
 have H : ((strings_Cut.f a0 (⟨#[10]⟩ : ByteArray)).bind fun bt223 => (if bt223.2.2 = true then ((strings_TrimSuffix.f bt223.1 (⟨#[13]⟩ : ByteArray)).bind fun t226 => (some (t226, bt223.2.1))) else (some (bt223.1, bt223.2.1)))) = some (r1, r2) := h
 clear h
 obtain ⟨⟨t223, t224, t225⟩, A2, H⟩ := bindQ H
 replace H : (if t225 = true then ((strings_TrimSuffix.f t223 (⟨#[13]⟩ : ByteArray)).bind fun t226 => (some (t226, t224))) else (some (t223, t224))) = some (r1, r2) := H
 by_cases c3 : t225 = true
 ·
  subst c3
  have H1 : ((strings_TrimSuffix.f t223 (⟨#[13]⟩ : ByteArray)).bind fun t226 => (some (t226, t224))) = some (r1, r2) := by rw [if_pos rfl] at H; exact H
  clear H
  have H := H1
  clear H1
  obtain ⟨t226, A4, H⟩ := bindQ H
  replace H : (some (t226, t224)) = some (r1, r2) := H
  simp only [Option.some.injEq, Prod.mk.injEq] at H
  obtain ⟨rfl, rfl⟩ := H
  go_enter Tryz.func38, Tryz.ntmps38
  go_wp2_with (first | ((with_reducible refine gate_callee (f := 44) rfl ?_); refine goesLQ (some 9) Tryz.func44 #[.string a0, .string (⟨#[10]⟩ : ByteArray)] ?_; (with_reducible refine (strings_Cut.calls a0 (⟨#[10]⟩ : ByteArray) t223 t224 true _ ?side1 A2.out).mono ?_); (case side1 => first | exact TX HTAB HB | exact TD HTAB); rintro e w' ⟨rfl, ⟨nd, rfl⟩⟩; refine ⟨_, rfl, ?_⟩) | ((with_reducible refine gate_callee (f := 75) rfl ?_); refine goesLQ (some 15) Tryz.func75 #[.string t223, .string (⟨#[13]⟩ : ByteArray)] ?_; (with_reducible refine (strings_TrimSuffix.calls t223 (⟨#[13]⟩ : ByteArray) t226 _ A4.out).mono ?_); rintro e w' ⟨rfl, ⟨nd, rfl⟩⟩; refine ⟨_, rfl, ?_⟩))
  go_ret2
  exact drwQ
 ·
  replace c3 := Bool.eq_false_iff.mpr c3
  subst c3
  have H1 : (some (t223, t224)) = some (r1, r2) := by rw [if_neg (show ¬ (false = true) by decide)] at H; exact H
  clear H
  have H := H1
  clear H1
  simp only [Option.some.injEq, Prod.mk.injEq] at H
  obtain ⟨rfl, rfl⟩ := H
  go_enter Tryz.func38, Tryz.ntmps38
  go_wp2_with (first | ((with_reducible refine gate_callee (f := 44) rfl ?_); refine goesLQ (some 9) Tryz.func44 #[.string a0, .string (⟨#[10]⟩ : ByteArray)] ?_; (with_reducible refine (strings_Cut.calls a0 (⟨#[10]⟩ : ByteArray) t223 t224 false _ ?side1 A2.out).mono ?_); (case side1 => first | exact TX HTAB HB | exact TD HTAB); rintro e w' ⟨rfl, ⟨nd, rfl⟩⟩; refine ⟨_, rfl, ?_⟩))
  go_ret2
  exact drwQ
def strings_TrimRight.f (s0 s1 : ByteArray) : Option ByteArray := if s0.size ≤ 9223372036854775807 ∧ s1.size < 4294967281 ∧ s1.data.toList.all (fun b => decide (b.toNat < 128)) = true then some ⟨(Lib.trimRightS s0.data.toList s1.data.toList).toArray⟩ else none
theorem strings_TrimRight.calls (s0 s1 : ByteArray) (r : ByteArray) (w : World) (h : strings_TrimRight.f s0 s1 = some r) :
  Calls Tryz.prog 120 #[.string s0, .string s1] w fun e w' => e = .returned (.string r) ∧ Below w.heap.size w w' := by
 unfold strings_TrimRight.f at h
 split at h
 ·
  rename_i hc
  cases h
  exact Go.Proofs.Tryz.strings_TrimRight_laid s0 s1 w hc.1 hc.2.1 hc.2.2
 · cases h
def strings_CutSuffix.f (s0 s1 : ByteArray) : Option (ByteArray × Bool) := if s0.size ≤ 9223372036854775807 then some (⟨(Lib.trimSuffix s0.data.toList s1.data.toList).toArray⟩, Lib.hasSuffix s0.data.toList s1.data.toList) else none
theorem strings_CutSuffix.calls (s0 s1 : ByteArray) (r1 : ByteArray) (r2 : Bool) (w : World) (h : strings_CutSuffix.f s0 s1 = some (r1, r2)) :
  Calls Tryz.prog 159 #[.string s0, .string s1] w fun e w' => e = .returned (.tuple #[.string r1, .bool r2]) ∧ Drawn0 w w' := by
 unfold strings_CutSuffix.f at h
 split at h
 ·
  rename_i hc
  cases h
  exact (Go.Proofs.Tryz.strings_CutSuffix s0 s1 w hc).mono fun e w' ⟨he, hw⟩ => ⟨he, by subst hw; exact Drawn0.refl _⟩
 · cases h
def mime_cut.f (a0 : ByteArray) : Option (ByteArray) := (strings_CutSuffix.f a0 (⟨#[10]⟩ : ByteArray)).bind fun bt227 => (if bt227.2 = true then ((strings_TrimSuffix.f bt227.1 (⟨#[13]⟩ : ByteArray)).bind fun t229 => (some t229)) else (some bt227.1))
theorem mime_cut.calls (a0 : ByteArray) (r : ByteArray) (w : World) (h : mime_cut.f a0 = some r) :
  Calls Tryz.prog 121 #[.string a0] w fun e w' => e = .returned (.string r) ∧ Drawn0 w w' := by
 have H : ((strings_CutSuffix.f a0 (⟨#[10]⟩ : ByteArray)).bind fun bt227 => (if bt227.2 = true then ((strings_TrimSuffix.f bt227.1 (⟨#[13]⟩ : ByteArray)).bind fun t229 => (some t229)) else (some bt227.1))) = some r := h
 clear h
 obtain ⟨⟨t227, t228⟩, A2, H⟩ := bindQ H
 replace H : (if t228 = true then ((strings_TrimSuffix.f t227 (⟨#[13]⟩ : ByteArray)).bind fun t229 => (some t229)) else (some t227)) = some r := H
 by_cases c3 : t228 = true
 ·
  subst c3
  have H1 : ((strings_TrimSuffix.f t227 (⟨#[13]⟩ : ByteArray)).bind fun t229 => (some t229)) = some r := by rw [if_pos rfl] at H; exact H
  clear H
  have H := H1
  clear H1
  obtain ⟨t229, A4, H⟩ := bindQ H
  replace H : (some t229) = some r := H
  obtain rfl := Option.some.inj H
  go_enter Tryz.func121, Tryz.ntmps121
  go_wp2_with (first | ((with_reducible refine gate_callee (f := 159) rfl ?_); refine goesLQ (some 7) Tryz.func159 #[.string a0, .string (⟨#[10]⟩ : ByteArray)] ?_; (with_reducible refine (strings_CutSuffix.calls a0 (⟨#[10]⟩ : ByteArray) t227 true _ A2.out).mono ?_); rintro e w' ⟨rfl, ⟨nd, rfl⟩⟩; refine ⟨_, rfl, ?_⟩) | ((with_reducible refine gate_callee (f := 75) rfl ?_); refine goesLQ (some 12) Tryz.func75 #[.string t227, .string (⟨#[13]⟩ : ByteArray)] ?_; (with_reducible refine (strings_TrimSuffix.calls t227 (⟨#[13]⟩ : ByteArray) t229 _ A4.out).mono ?_); rintro e w' ⟨rfl, ⟨nd, rfl⟩⟩; refine ⟨_, rfl, ?_⟩))
  go_ret
  exact drwQ
 ·
  replace c3 := Bool.eq_false_iff.mpr c3
  subst c3
  have H1 : (some t227) = some r := by rw [if_neg (show ¬ (false = true) by decide)] at H; exact H
  clear H
  have H := H1
  clear H1
  obtain rfl := Option.some.inj H
  go_enter Tryz.func121, Tryz.ntmps121
  go_wp2_with (first | ((with_reducible refine gate_callee (f := 159) rfl ?_); refine goesLQ (some 7) Tryz.func159 #[.string a0, .string (⟨#[10]⟩ : ByteArray)] ?_; (with_reducible refine (strings_CutSuffix.calls a0 (⟨#[10]⟩ : ByteArray) t227 false _ A2.out).mono ?_); rintro e w' ⟨rfl, ⟨nd, rfl⟩⟩; refine ⟨_, rfl, ?_⟩))
  go_ret
  exact drwQ
end Go.Proofs.YtigcbajcifhinaaGreatDoor.V
namespace Go.Proofs.YtigcbajcifhinaaGreatDoor.Txt
open Go.RowKit Go.Proofs.YtigcbajcifhinaaGreatDoorW.PrintWords Go.Proofs.YtigcbajcifhinaaGreatDoor.V
structure MfLe (m m' : Mf) : Prop where
 find : ∀ a b, LeO (m.find a b) (m'.find a b)
 typ : ∀ a, LeO (m.typ a) (m'.typ a)
 par : ∀ a b, LeO (m.par a b) (m'.par a b)
 orr : ∀ a b c, LeO (m.orr a b c) (m'.orr a b c)
 pcs : ∀ a b, LeO (m.pcs a b) (m'.pcs a b)
theorem openF_le {m m' : Mf} (h : MfLe m m') (s : ByteArray) (lv : Int) : LeO (openF m s lv) (openF m' s lv) := by
 unfold openF
 exact LeO.bind (h.find _ _) fun _ => LeO.bind (h.typ _) fun _ => LeO.bind (h.par _ _) fun _ => LeO.bind (h.orr _ _ _) fun _ => LeO.bind (h.find _ _) fun _ => LeO.bind (h.orr _ _ _) fun _ => LeO.refl _
theorem kidsF_le {m m' : Mf} (h : MfLe m m') (x : Node) : LeO (kidsF m x) (kidsF m' x) := by
 unfold kidsF
 refine LeO.ite (LeO.refl _) (LeO.ite (LeO.refl _) (LeO.ite (LeO.bind (h.par _ _) fun b => LeO.ite (h.pcs _ _) (LeO.refl _)) (LeO.refl _)))
theorem partsL_le {m m' : Mf} (h : MfLe m m') : ∀ k st out, LeO (partsL m k st out) (partsL m' k st out)
 | 0, st, out => by unfold partsL; exact LeO.refl _
 | k + 1, st, out => by
  unfold partsL
  exact LeO.ite (LeO.refl _) (LeO.ite (LeO.bind (openF_le h _ _) fun n => LeO.bind (kidsF_le h n) fun ks => LeO.ite (partsL_le h k _ _) (LeO.refl _)) (LeO.refl _))
theorem partsF_le (m m' : Mf) (h : MfLe m m') (s : ByteArray) : LeO (partsF m s) (partsF m' s) := partsL_le h _ _ _
end Go.Proofs.YtigcbajcifhinaaGreatDoor.Txt
