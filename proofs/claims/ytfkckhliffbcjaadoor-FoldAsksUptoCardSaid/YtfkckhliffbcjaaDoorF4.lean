/- The letters of any text, over the laid tables: the code's walk. -/
import Derived.Test.YtfkckhliffbcjaaDoorF3
import Derived.Shelf.Unicode.DecodeLastEight
namespace Go.Proofs.YtfkckhliffbcjaaDoor.Fold
open Go.RowKit Go.Proofs.YtfkckhliffbcjaaDoorW.PrintWords

theorem tabs_below {w w1 : World} (hT : Lib.Utf8Tabs 0 1 w) (hB : Below w.heap.size w w1) : Lib.Utf8Tabs 0 1 w1 :=
  ⟨fun c hc => (hB.cell (World.block_lt_of_cell? w _ (hT.1 c hc))).trans (hT.1 c hc),
   fun i hi => ⟨(hB.cell (World.block_lt_of_cell? w _ (hT.2 i hi).1)).trans (hT.2 i hi).1, (hB.cell (World.block_lt_of_cell? w _ (hT.2 i hi).2)).trans (hT.2 i hi).2⟩⟩

theorem decode_pos (s : ByteArray) (h : 0 < s.size) : 1 ≤ (Lib.decodeGo s).2 := by
  unfold Lib.decodeGo
  rw [if_neg (by omega), Lib.decode_at]
  unfold Lib.decodeN
  repeat' split
  all_goals simp

theorem empty_iff (s : ByteArray) : s.toList.isEmpty = true ↔ s.size = 0 := by
  rw [Lib.toList_data, List.isEmpty_iff_length_eq_zero, Lib.size_eq]

set_option maxRecDepth 100000 in
set_option maxHeartbeats 1000000 in
/-- The letters of any text, over the tables. -/
theorem Letters_any (s : ByteArray) (w : World) (hT : Lib.Utf8Tabs 0 1 w) (hs : s.size ≤ 17592186044416) : Calls Tryd.prog 28 #[.string s] w fun e w' => ∃ v, e = .returned v ∧ Kd.R (Kd.int .i32) 21 w' w.heap.size (fun _ => True) v (lettersF s.size s) ∧ Below w.heap.size w w' := by
  have HT := Lib.hid hT
  have HN := Lib.hid hs
  clear hT hs
  go_enter Tryd.func28, Tryd.ntmps28
  go_wp2
  go_loopw [3] (fun v wr => ∃ (r : ByteArray) (m : Nat) (o : List Int), Hid (lettersF s.size s = o ++ lettersF m r) ∧ Hid (r.size ≤ m) ∧ Hid (m + o.length = s.size) ∧ Hid ((Kd.int .i32).R 21 wr w.heap.size (fun b => b ≠ w.heap.size) v o) ∧ Hid (wr.heap[w.heap.size]? = some (.cells #[.pointer none, .slice none 0 0, .string r] 50 (0, 0))) ∧ Hid (Below w.heap.size w wr)) (fun v _ => s.size - lenV v)
  case atStart =>
    exact ⟨s, s.size, [], Lib.hid rfl, Lib.hid (Nat.le_refl _), Lib.hid rfl, Lib.hid (Kd.R_nil _ _ _ _ _), Lib.hid Array.getElem?_push_size, Lib.hid ((Below.refl _ _).alloc (Nat.le_refl _) _)⟩
  case round =>
    obtain ⟨r, m, o, hl, hr, hm, HR, hh, HB⟩ := hrel
    have hc : wr.cell? ⟨w.heap.size, 2, none⟩ = some (.string r) := blk_cell hh.out 2
    have hf := blk_frozen hh.out 2
    cases e : r.toList.isEmpty with
    | true =>
      go_wp2
      go_ret
      refine ⟨_, rfl, Kd.R_mono (ok := fun b => b ≠ w.heap.size) ?_ (fun _ _ => trivial), HB.out⟩
      have e2 : lettersF m r = [] := by
        cases m with
        | zero => rfl
        | succ m => unfold lettersF; rw [if_pos e]
      rw [hl.out, e2, List.append_nil]
      exact HR.out
    | false =>
      have h0 : 0 < r.size := by
        have : ¬ r.size = 0 := fun h => by rw [(empty_iff r).2 h] at e; cases e
        omega
      have P1 := Lib.hid (decode_pos r h0)
      have P2 := Lib.hid (Lib.decodeGo_le_size r)
      have ES := Lib.hid e
      have H0 := Lib.hid h0
      obtain ⟨n, k, hd⟩ : ∃ n k, Lib.decodeGo r = (n, k) := ⟨_, _, rfl⟩
      have HD := Lib.hid hd
      have kle : k ≤ r.size := by have := P2.out; rw [hd] at this; exact this
      have NX := Lib.hid (next_any r w.heap.size n k wr (tabs_below HT.out HB.out) hd kle hh.out)
      have HG := Lib.hid (show w.heap.size < wr.heap.size from blk_lt hh.out)
      have KL := Lib.hid kle
      clear h0 hd kle
      go_wp2_with (first | (go_at_call 35; refine NX.out.mono ?_; rintro e w' ⟨rfl, w1, hb1, rfl⟩; have HB1 := Lib.hid hb1; clear hb1) | ((with_reducible refine gate_builtin (b := .append) (xs := #[.tmp 13, .tmp 16]) rfl ?_); (go_loud (at_builtin; refine Kd.R_append (Kd.int .i32) (w0 := w) w.heap.size rfl (.tmp 13) (.tmp 16) 22 21 (.int .i32 0) 4 rfl Tryd.underlying22 X.info21 rfl (by decide) (by omega) u3 o (n : Int) [.int .i32 (n : Int)] (fun b => b ≠ w.heap.size) (fun _ => False) rfl (by rw [set_size]; rfl) ?aP (fun _ hk => hk.elim) ?aF ?aO ?aB ?aS ?aL ?_; (case aP => exact rfl); (case aB => exact (Below.setCell (below_then HB.out (Nat.le_of_lt HG.out) HB1.out) (Nat.le_refl _) _)); (case aF => exact (fun q hq => far_size (Nat.lt_of_lt_of_le HG.out HB1.out.size) hq)); (case aO => exact Kd.R_far (Kd.R_below HR.out HB1.out) (fun q hq => hq) _); (case aS => exact size_le (Nat.lt_of_lt_of_le HG.out HB1.out.size)); (case aL => exact (by have h1 := HN.out; have h2 := hm.out; omega)); intro v1 w2 ho hb hg hat))))
      go_roundw
      case measure =>
        have h1 := hm.out
        have h2 := hr.out
        have h3 := H0.out
        obtain ⟨A1, c1, e1⟩ := Kd.R_slice ho
        obtain ⟨A0, c0, e0⟩ := Kd.R_slice HR.out
        rw [e1, e0]
        simp only [lenV, List.length_append, List.length_singleton]
        omega
      case rel =>
        have h1 := hm.out
        have h2 := hr.out
        have h3 := H0.out
        have h4 := P1.out
        rw [HD.out] at h4
        cases m with
        | zero => omega
        | succ m =>
          refine ⟨r.extract k r.size, m, o ++ [(n : Int)], Lib.hid ?_, Lib.hid ?_, Lib.hid ?_, Lib.hid ho, Lib.hid ?_, Lib.hid hb⟩
          · rw [hl.out]
            conv => lhs; unfold lettersF
            rw [if_neg (by rw [ES.out]; decide), HD.out]
            simp
          · rw [ByteArray.size_extract]
            simp only at h4
            omega
          · rw [List.length_append, List.length_singleton]; omega
          · have h5 := blk_set ((HB1.out.block w.heap.size HG.out).trans hh.out) 2 (.string (r.extract k r.size))
            have h6 := blk_grown h5 hg (fun e => (HR.out.1 _ e.symm) rfl)
            rw [h6]
            rfl
end Go.Proofs.YtfkckhliffbcjaaDoor.Fold
