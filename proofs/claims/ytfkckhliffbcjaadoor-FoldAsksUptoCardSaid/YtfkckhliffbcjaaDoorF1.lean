/- The letters of one short text: the code's walk. -/
import Derived.Test.YtfkckhliffbcjaaDoorX0
import Derived.LoopTactic
import Derived.WalkLawsBesides
import Derived.Lib.Hide
import Derived.Deep.QuietTactic
import Derived.BigQuiet
namespace Go.Proofs.YtfkckhliffbcjaaDoor.Fold
open Go.RowKit Go.Proofs.YtfkckhliffbcjaaDoorW.PrintWords

def abc : ByteArray := ⟨#[65, 98, 99, 65, 66]⟩

set_option maxRecDepth 100000 in
set_option maxHeartbeats 1000000 in
/-- A text that begins with a byte below 128: its letter is that byte. -/
theorem decode_calls (s : ByteArray) (w : World) (h0 : 0 < s.size) (hs : s.toList.isEmpty = false) (hlt : (s[0]'h0).toNat < 128) : Calls Tryd.prog 41 #[.string s] w fun e w' => e = .returned (.tuple #[.int .i32 (s[0]'h0).toNat, .int .i64 1]) ∧ w = w' := by
  have e2 : decide (((s[0]'h0).toNat : Int) < 128) = true := decide_eq_true (Int.ofNat_lt.2 hlt)
  go_enter Tryd.func41, Tryd.ntmps41
  go_wp2_with fail
  go_ret2
  exact ⟨rfl, rfl⟩

set_option maxRecDepth 100000 in
set_option maxHeartbeats 1000000 in
/-- The reader's next letter, of a text that begins with a byte below 128. -/
theorem next_calls (s : ByteArray) (g : Nat) (w : World) (h0 : 0 < s.size) (hs : s.toList.isEmpty = false) (hlt : (s[0]'h0).toNat < 128)
    (hc : w.cell? ⟨g, 2, none⟩ = some (.string s)) (hf : w.frozen? ⟨g, 2, none⟩ = false) :
    Calls Tryd.prog 35 #[.pointer (some ⟨g, 0, none⟩)] w fun e w' => e = .returned (.int .i32 (s[0]'h0).toNat) ∧ w' = w.setCell ⟨g, 2, none⟩ (.string (s.extract 1 s.size)) := by
  have hlt' := Lib.hid hlt
  go_enter Tryd.func35, Tryd.ntmps35
  go_wp2_with (first | (go_at_call 41; refine (decode_calls s _ h0 hs hlt').mono ?_; rintro e w' ⟨rfl, rfl⟩))
  go_ret
  exact ⟨rfl, rfl⟩

/-- What is left of the text behind k letters; its letters. -/
def rest (k : Nat) : ByteArray := abc.extract k 5
def letters : List Int := [65, 98, 99, 65, 66]

theorem rest_facts : ∀ k, k < 5 → (rest k).toList.isEmpty = false ∧ (∃ h : 0 < (rest k).size, ((rest k)[0]'h).toNat < 128 ∧ letters.take (k + 1) = letters.take k ++ [(((rest k)[0]'h).toNat : Int)]) ∧ (rest k).extract 1 (rest k).size = rest (k + 1) := by decide +kernel
theorem rest_done : (rest 5).toList.isEmpty = true := by decide +kernel
theorem rest_zero : rest 0 = abc := by decide +kernel

theorem set_size (w : World) (p : Addr) (u : Value) : (w.setCell p u).heap.size = w.heap.size := by simp [World.setCell]
theorem far_size {w wr : World} {p : Addr} {u : Value} {q : Nat} (h : w.heap.size < wr.heap.size) (hq : (wr.setCell p u).heap.size ≤ q) : q ≠ w.heap.size := by
  rw [set_size] at hq
  omega
theorem size_le {w wr : World} {p : Addr} {u : Value} (h : w.heap.size < wr.heap.size) : w.heap.size ≤ (wr.setCell p u).heap.size := by
  rw [set_size]
  omega

def lenV : Value → Nat
  | .slice _ n _ => n
  | _ => 0

set_option maxRecDepth 100000 in
set_option maxHeartbeats 1000000 in
/-- The letters of the text. -/
theorem Letters_calls (w : World) : Calls Tryd.prog 28 #[.string abc] w fun e w' => ∃ v, e = .returned v ∧ Kd.R (Kd.int .i32) 21 w' w.heap.size (fun _ => True) v [65, 98, 99, 65, 66] ∧ Below w.heap.size w w' := by
  go_enter Tryd.func28, Tryd.ntmps28
  go_wp2
  go_loopw [3] (fun v wr => ∃ k : Nat, k ≤ 5 ∧ Hid ((Kd.int .i32).R 21 wr w.heap.size (fun b => b ≠ w.heap.size) v (letters.take k)) ∧ Hid (wr.heap[w.heap.size]? = some (.cells #[.pointer none, .slice none 0 0, .string (rest k)] 50 (0, 0))) ∧ Hid (Below w.heap.size w wr)) (fun v _ => 5 - lenV v)
  case atStart =>
    refine ⟨0, by omega, Lib.hid (Kd.R_nil _ _ _ _ _), Lib.hid ?_, Lib.hid ((Below.refl _ _).alloc (Nat.le_refl _) _)⟩
    rw [rest_zero]
    exact Array.getElem?_push_size
  case round =>
    obtain ⟨k, hk, HR, hh, HB⟩ := hrel
    have hc : wr.cell? ⟨w.heap.size, 2, none⟩ = some (.string (rest k)) := blk_cell hh.out 2
    have hf := blk_frozen hh.out 2
    by_cases k5 : k = 5
    · subst k5
      have e := rest_done
      go_wp2
      go_ret
      exact ⟨_, rfl, Kd.R_mono HR.out (fun _ _ => trivial), HB.out⟩
    · obtain ⟨r1, ⟨r2, r3, r4⟩, r5⟩ := rest_facts k (by omega)
      have R3 := Lib.hid r3
      have R4 := Lib.hid r4
      have R5 := Lib.hid r5
      have K5 := Lib.hid k5
      have HK := Lib.hid hk
      obtain ⟨A, c, e0⟩ := Kd.R_slice HR.out
      have E0 := Lib.hid e0
      clear r3 r4 r5 k5 hk e0
      have HG := Lib.hid (show w.heap.size < wr.heap.size from blk_lt hh.out)
      obtain ⟨x, hx⟩ : ∃ x, ((((rest k)[0]'r2).toNat : Nat) : Int) = x := ⟨_, rfl⟩
      have HX := Lib.hid hx
      have NX := fun (W : World) (hc : W.cell? ⟨w.heap.size, 2, none⟩ = some (.string (rest k))) (hf : W.frozen? ⟨w.heap.size, 2, none⟩ = false) => next_calls (rest k) w.heap.size W r2 r1 R3.out hc hf
      rw [hx] at NX
      clear hx
      have NY := Lib.hid NX
      clear NX
      go_wp2_with (first | (go_at_call 35; refine (NY.out _ hc hf).mono ?_; rintro e w' ⟨rfl, rfl⟩) | ((with_reducible refine gate_builtin (b := .append) (xs := #[.tmp 13, .tmp 16]) rfl ?_); (go_loud (at_builtin; refine Kd.R_append (Kd.int .i32) (w0 := w) w.heap.size rfl (.tmp 13) (.tmp 16) 22 21 (.int .i32 0) 4 rfl Tryd.underlying22 X.info21 rfl (by decide) (by omega) u3 (letters.take k) x [.int .i32 x] (fun b => b ≠ w.heap.size) (fun _ => False) rfl (by rw [set_size]; rfl) ?aP (fun _ hk => hk.elim) ?aF ?aO ?aB ?aS ?aL ?_; (case aP => exact rfl); (case aB => exact (Below.setCell HB.out (Nat.le_refl _) _)); (case aF => exact (fun q hq => far_size HG.out hq)); (case aO => exact Kd.R_far HR.out (fun q hq => hq) _); (case aS => exact size_le HG.out); (case aL => exact (by have h1 := HK.out; rw [List.length_take]; omega)); intro v1 w1 ho hb hg hat))))
      go_roundw
      case measure =>
        have h1 := HK.out
        have h2 := K5.out
        obtain ⟨A1, c1, e1⟩ := Kd.R_slice ho
        rw [e1, E0.out]
        simp only [lenV, List.length_append, List.length_take, List.length_singleton]
        have h3 : letters.length = 5 := rfl
        omega
      case rel =>
        have h1 := HK.out
        have h2 := K5.out
        refine ⟨k + 1, by omega, Lib.hid ?_, Lib.hid ?_, Lib.hid hb⟩
        · rw [R4.out, HX.out]
          exact ho
        · have h3 := blk_set hh.out 2 (.string ((rest k).extract 1 (rest k).size))
          have h4 := blk_grown h3 hg (fun e => (HR.out.1 _ e.symm) rfl)
          rw [h4, R5.out]
          rfl
end Go.Proofs.YtfkckhliffbcjaaDoor.Fold
